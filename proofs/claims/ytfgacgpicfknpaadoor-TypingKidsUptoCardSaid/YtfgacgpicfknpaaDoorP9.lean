import Derived.Laws.BitsAllLaws
import Derived.Test.YtfgacgpicfknpaaDoorP8
set_option linter.all false
section
namespace Go.Proofs.YtfgacgpicfknpaaDoor
open Go.RowKit
set_option maxRecDepth 100000
set_option maxHeartbeats 8000000
/-! The types that are still to come: a stack. -/
def obT (st : List Int) : List (Nat × AObj) := [(10000, .var [.ref 3 1 15000 0 st.length]), (15000, .row 3 1 (v8 st))]
theorem next_G (st : List Int) (t : Int) (hst : st.length ≤ 1000000000) : GCall Tryd.prog 33 [.ptr 1 10000 0 0] (obT (st ++ [t])) (vI t) (obT st) := by
  refine go_fnG (tyOf_ok _) Tryd.func33 rfl rfl (by rw [Tryd.results33]) Tryd.ntmps33 rfl fun E => ?_
  have hl : (st ++ [t]).length = st.length + 1 := by simp
  have hw : IntKind.i64.wrap (((st.length + 1 : Nat) : Int) - 1) = st.length := by rw [wrap_i64 (by omega)]; omega
  have hz : ((st.length : Int)).toNat = st.length := by omega
  have hg : (v8 (st ++ [t]))[st.length]? = some [vI t] := by rw [v8_get (by simp)]; simp
  (repeat' (first
    | exact trivial
    | (with_reducible first | refine awA ?_ | refine awB ?_ | refine awC ?_ | refine awD ?_ | refine awE ?_ | refine awF ?_ | refine awG ?_ | refine awH ?_ | refine awI ?_ | refine awJ ?_ | refine awK ?_ | refine awL ?_ | refine awM (by decide) ?_)
    | (refine aw_draw (id := 1) (t := (.node [0, 1, 2, 3, 4, 5, 6, 7, 8, 9, 10, 11, 12] [])) (drR [10000] [15] []) mixed (by kernel_rfl) (by kernel_rfl) (fun _ _ h => h) ?_)
    | (refine aw_draw (id := 2) (t := (.node [0, 1, 2, 3, 4, 5, 6, 7, 8, 9, 10, 11, 12, 13, 14] [])) (drR [] [20, 24] []) mixed (by kernel_rfl) (by kernel_rfl) (fun _ _ h => h) ?_)
    | (refine at_done (by simp only [List.filterMap_cons, List.filterMap_nil, List.getElem?_toArray, List.getElem?_cons_zero, List.getElem?_cons_succ]; exact rfl) ?_) | (refine at_alt (by simp only [List.filterMap_cons, List.filterMap_nil, List.getElem?_toArray, List.getElem?_cons_zero, List.getElem?_cons_succ]; exact rfl) ?_) | refine qalt_normal ?_ | refine ats_cons ?_ ?_ | exact ats_nil
    | ((with_reducible first | refine awN (tyOf_ok _) [] ?_ | refine awO (tyOf_ok _) [] ?_ | refine awP (tyOf_ok _) [] ?_ | refine awQ ?_ | refine awR ?_ | refine awS ?_ | refine awT ?_ | refine awU ?_); intro r hr; simp only [go_sem, Nat.reduceBEq, Nat.reduceBneDiff, Nat.reduceLT, Nat.reduceLeDiff, Nat.reduceAdd, Nat.reduceMul, Nat.reduceSub, Nat.reduceEqDiff, reduceCtorEq, obT, hl, hw, hz, hg, Int.toNat_zero, Nat.zero_add, Nat.sub_zero] at hr; subst hr; (first | refine awV ?_ ?_ | refine awW ?_ ?_ | refine endK ?_ ?_ | refine endGK ?_ ?_ ?_ | (refine condK (fun h => ?_) (fun h => ?_) <;> (try simp only [go_sem, reduceCtorEq] at h) <;> (try (exfalso; omega))))) | fail)) <;> (try omega)
  all_goals first | exact AV.up_rfl _ | skip
  all_goals (rw [show obT st = [(10000, .var [.ref 3 1 15000 0 st.length]), (15000, .row 3 1 ((v8 (st ++ [t])).take st.length))] by simp [obT, v8]]; exact obUp_cons rfl (obUp_take rfl obUp_nil))
theorem kidsT_parts {T : TypeM} (h8 : T.kind = 8) (n : Int) : kidsT T n 0 T.parts.length = T.parts.map (·.ty) := by
  apply List.ext_getElem
  · simp [kidsT]
  · intro i h1 h2
    have hi : i < T.parts.length := by simpa [kidsT] using h1
    simp [kidsT, elem8 h8 hi]
theorem kidsT_rep {T : TypeM} {e n : Int} (he : ∀ k : Nat, elemF T n k = e) (m : Nat) : kidsT T n 0 m = List.replicate m e := by
  apply List.ext_getElem
  · simp [kidsT]
  · intro i h1 h2
    simp [kidsT, he]
theorem kids_G (T : TypeM) (k : Nat) (hr : rightOK T k = true) (x : NodeM) (hx : nodeOK x) (hxr : rightN x = true) (hf : fitsF T x = 0) (st : List Int) (hst : st.length ≤ 1000000000) :
    GCall Tryd.prog 35 [.ptr 1 10000 0 0, .agg [vI T.kind, vI T.n, vI T.elem, .lst 3 (encPs T.parts)], .agg [vI x.kind, .v (.int .u64 x.n), vI x.kids]] (obT st) (.tup []) (obT (st ++ (kidsT T x.n 0 x.kids.toNat).reverse)) := by
  refine go_fnG (tyOf_ok _) Tryd.func35 rfl rfl (by rw [Tryd.results35]) Tryd.ntmps35 rfl fun E => ?_
  have hxk := rightN_kids hxr
  have hfp := fits_parts hf
  have htk : ∀ l : List Int, (v8 l).take l.length = v8 l := fun l => take_len (by rw [v8_len]; exact Nat.le_refl _)
  by_cases h7 : T.kind = 7
  · have k7 : (T.kind = 7) = True := eq_true h7
    have hpl := right_parts hr (.inl h7)
    have ha := arm_any T (by omega) x.n
    have hxk1 : x.kids = 1 := by
      have hkn : x.kind = 6 := by rw [hfp.1, h7]; rfl
      exact right_uni hxr hkn
    have hsome : ∃ p, armOf T.parts x.n = some p := by
      cases h : armOf T.parts x.n with
      | none => exact absurd h (hfp.2.2.2.2.2 h7)
      | some p => exact ⟨p, rfl⟩
    obtain ⟨p, hp⟩ := hsome
    have hel : kidsT T x.n 0 x.kids.toNat = [p.ty] := by rw [hxk1]; simp [kidsT, elemF, h7, hp]
    rw [hel]
    have hap : armP T.parts x.n = p := by rw [armP, hp]
    rw [hap, hp] at ha
    unfold vP at ha
    have hl : (st ++ [p.ty]).length = st.length + 1 := by simp
    rw [show [p.ty].reverse = [p.ty] from rfl]
    (repeat' (first
    | exact trivial
    | (with_reducible first | refine awA ?_ | refine awB ?_ | refine awC ?_ | refine awD ?_ | refine awE ?_ | refine awF ?_ | refine awG ?_ | refine awH ?_ | refine awI ?_ | refine awJ ?_ | refine awK ?_ | refine awL ?_ | refine awM (by decide) ?_)
    | (refine aw_draw (id := 8) (t := (.node [0, 1, 2, 3, 4, 5, 6, 7, 8, 9, 10, 11] [])) (drR [6] [40] []) mixed (by kernel_rfl) (by kernel_rfl) (fun _ _ h => h) ?_)
    | (refine aw_draw (id := 13) (t := (.node [0, 1, 2, 3, 4, 5, 6, 7, 8, 9, 10, 11, 12, 13, 14, 15] [])) (drR [4] [61, 67] []) mixed (by kernel_rfl) (by kernel_rfl) (fun _ _ h => h) ?_)
    | (refine aw_draw (id := 4) (t := (.node [0, 1, 2, 3, 4, 5, 6, 7, 8, 9, 10, 11] [])) (drR [4] [19] []) mixed (by kernel_rfl) (by kernel_rfl) (fun _ _ h => h) ?_)
    | (refine at_done (by simp only [List.filterMap_cons, List.filterMap_nil, List.getElem?_toArray, List.getElem?_cons_zero, List.getElem?_cons_succ]; exact rfl) ?_) | (refine at_alt (by simp only [List.filterMap_cons, List.filterMap_nil, List.getElem?_toArray, List.getElem?_cons_zero, List.getElem?_cons_succ]; exact rfl) ?_) | refine qalt_normal ?_ | refine ats_cons ?_ ?_ | exact ats_nil
    | ((with_reducible first | refine awN (tyOf_ok _) [] ?_ | refine awO (tyOf_ok _) [] ?_ | refine awP (tyOf_ok _) [] ?_ | refine awQ ?_ | refine awR ?_ | refine awS ?_ | refine awT ?_ | refine awU ?_); intro r hr; simp only [go_sem, Nat.reduceBEq, Nat.reduceBneDiff, Nat.reduceLT, Nat.reduceLeDiff, Nat.reduceAdd, Nat.reduceMul, Nat.reduceSub, Nat.reduceEqDiff, reduceCtorEq, obT, k7, htk, hl, List.reverse_cons, List.reverse_nil, List.nil_append, v8_app] at hr; subst hr; (first | refine caA (fun _ => ha) rfl ?_ ?_ ?_ | refine awV ?_ ?_ | refine awW ?_ ?_ | refine endK ?_ ?_ | refine endGK ?_ ?_ ?_ | (refine condK (fun h => ?_) (fun h => ?_) <;> (try simp only [go_sem, reduceCtorEq] at h) <;> (try (exfalso; omega))))) | fail)) <;> (try omega)
    · exact AV.up_rfl _
    · rw [show obT (st ++ [p.ty]) = [(10000, .var [.ref 3 1 15000 0 (st.length + 1)]), (15000, .row 3 1 (v8 (st ++ [p.ty])))] by simp [obT]]
      exact obUp_cons rfl (obUp_cons rfl obUp_nil)
  have k7 : (T.kind = 7) = False := eq_false h7
  by_cases h8 : T.kind = 8
  · have k8 : (T.kind = 8) = True := eq_true h8
    have hpl := right_parts hr (.inr h8)
    have hxk8 : x.kids = T.parts.length := hfp.2.2.2.2.1 h8
    have hel : kidsT T x.n 0 x.kids.toNat = T.parts.map (·.ty) := by rw [hxk8, Int.toNat_natCast, kidsT_parts h8]
    rw [hel]
    generalize hR : (T.parts.map (·.ty)).reverse = R
    have hRl : R.length = T.parts.length := by rw [← hR]; simp
    have hw0 : IntKind.i64.wrap ((T.parts.length : Int) - 1) = (T.parts.length : Int) - 1 := wrap_i64 (by omega)
    (repeat' (first
    | exact trivial
    | (with_reducible first | refine awA ?_ | refine awB ?_ | refine awC ?_ | refine awD ?_ | refine awE ?_ | refine awF ?_ | refine awG ?_ | refine awH ?_ | refine awI ?_ | refine awJ ?_ | refine awK ?_ | refine awL ?_ | refine awM (by decide) ?_)
    | (refine aw_draw (id := 8) (t := (.node [0, 1, 2, 3, 4, 5, 6, 7, 8, 9, 10, 11] [])) (drR [6] [40] []) mixed (by kernel_rfl) (by kernel_rfl) (fun _ _ h => h) ?_)
    | (refine aw_draw (id := 13) (t := (.node [0, 1, 2, 3, 4, 5, 6, 7, 8, 9, 10, 11, 12, 13, 14, 15] [])) (drR [4] [61, 67] []) mixed (by kernel_rfl) (by kernel_rfl) (fun _ _ h => h) ?_)
    | (refine aw_draw (id := 4) (t := (.node [0, 1, 2, 3, 4, 5, 6, 7, 8, 9, 10, 11] [])) (drR [4] [19] []) mixed (by kernel_rfl) (by kernel_rfl) (fun _ _ h => h) ?_)
    | (refine at_done (by simp only [List.filterMap_cons, List.filterMap_nil, List.getElem?_toArray, List.getElem?_cons_zero, List.getElem?_cons_succ]; exact rfl) ?_) | (refine at_alt (by simp only [List.filterMap_cons, List.filterMap_nil, List.getElem?_toArray, List.getElem?_cons_zero, List.getElem?_cons_succ]; exact rfl) ?_) | refine qalt_normal ?_ | refine ats_cons ?_ ?_ | exact ats_nil
    | ((with_reducible first | refine awN (tyOf_ok _) [] ?_ | refine awO (tyOf_ok _) [] ?_ | refine awP (tyOf_ok _) [] ?_ | refine awQ ?_ | refine awR ?_ | refine awS ?_ | refine awT ?_ | refine awU ?_); intro r hr; simp only [go_sem, Nat.reduceBEq, Nat.reduceBneDiff, Nat.reduceLT, Nat.reduceLeDiff, Nat.reduceAdd, Nat.reduceMul, Nat.reduceSub, Nat.reduceEqDiff, reduceCtorEq, obT, k7, k8, hw0] at hr; subst hr; (first | refine awV ?_ ?_ | refine awW ?_ ?_ | refine endK ?_ ?_ | refine endGK ?_ ?_ ?_ | (refine condK (fun h => ?_) (fun h => ?_) <;> (try simp only [go_sem, reduceCtorEq] at h) <;> (try (exfalso; omega))))) | fail)) <;> (try omega)
    refine go_loop [0, 4, 5, 8] [4, 5, 10000, 15000] (fun j : Nat => ⟨[(0, true, .ptr 1 10000 0 0), (4, true, .ptr 1 4 0 0), (5, true, .ptr 1 5 0 0), (8, true, vI ((T.parts.length : Int) - 1 - j))],
      [(4, .var [vI T.kind, vI T.n, vI T.elem, .lst 3 (encPs T.parts)]), (5, .var [vI x.kind, .v (.int .u64 x.n), vI x.kids]), (10000, .var [.ref 3 1 15000 0 (st ++ R.take j).length]), (15000, .row 3 1 (v8 (st ++ R.take j)))]⟩)
      (fun j => j ≤ T.parts.length) (fun j => T.parts.length - j) 0 (by simp only [go_sem, Nat.reduceBEq, Nat.reduceBneDiff, Nat.reduceLT, Nat.reduceLeDiff, Nat.reduceAdd, Nat.reduceMul, Nat.reduceSub, Nat.reduceEqDiff, reduceCtorEq, List.take_zero, List.append_nil, Int.natCast_zero, Int.sub_zero] <;> exact rfl) (Nat.zero_le _) ?_
    intro j hj
    by_cases hlt : j < T.parts.length
    · obtain ⟨i, hi⟩ : ∃ i : Nat, (T.parts.length : Int) - 1 - j = i := ⟨T.parts.length - 1 - j, by omega⟩
      have hlti : i < T.parts.length := by omega
      have f1 : (0 ≤ (i : Int)) = True := eq_true (by omega)
      have g1 := encPs_get hlti
      have zi : ((i : Int)).toNat = i := by omega
      have hnx : R.take (j + 1) = R.take j ++ [T.parts[i].ty] := by
        rw [List.take_succ_eq_append_getElem (by omega)]
        congr 2
        simp only [← hR]
        rw [List.getElem_reverse, List.getElem_map]
        congr 2
        simp; omega
      have hwi : IntKind.i64.wrap ((i : Int) - 1) = (T.parts.length : Int) - 1 - ((j + 1 : Nat) : Int) := by rw [wrap_i64 (by omega)]; omega
      have hl : (st ++ R.take (j + 1)).length = (st ++ R.take j).length + 1 := by rw [hnx]; simp; omega
      have hap : v8 (st ++ R.take j) ++ [[vI T.parts[i].ty]] = v8 (st ++ R.take (j + 1)) := by rw [v8_app, hnx, List.append_assoc]
      have hlb : (st ++ R.take j).length ≤ 1000000100 := by simp; omega
      have htj := htk (st ++ R.take j)
      rw [hi]
      (repeat' (first
    | exact trivial
    | (with_reducible first | refine awA ?_ | refine awB ?_ | refine awC ?_ | refine awD ?_ | refine awE ?_ | refine awF ?_ | refine awG ?_ | refine awH ?_ | refine awI ?_ | refine awJ ?_ | refine awK ?_ | refine awL ?_ | refine awM (by decide) ?_)
    | (refine aw_draw (id := 8) (t := (.node [0, 1, 2, 3, 4, 5, 6, 7, 8, 9, 10, 11] [])) (drR [6] [40] []) mixed (by kernel_rfl) (by kernel_rfl) (fun _ _ h => h) ?_)
    | (refine aw_draw (id := 13) (t := (.node [0, 1, 2, 3, 4, 5, 6, 7, 8, 9, 10, 11, 12, 13, 14, 15] [])) (drR [4] [61, 67] []) mixed (by kernel_rfl) (by kernel_rfl) (fun _ _ h => h) ?_)
    | (refine aw_draw (id := 4) (t := (.node [0, 1, 2, 3, 4, 5, 6, 7, 8, 9, 10, 11] [])) (drR [4] [19] []) mixed (by kernel_rfl) (by kernel_rfl) (fun _ _ h => h) ?_)
    | (refine at_done (by simp only [List.filterMap_cons, List.filterMap_nil, List.getElem?_toArray, List.getElem?_cons_zero, List.getElem?_cons_succ]; exact rfl) ?_) | (refine at_alt (by simp only [List.filterMap_cons, List.filterMap_nil, List.getElem?_toArray, List.getElem?_cons_zero, List.getElem?_cons_succ]; exact rfl) ?_) | refine qalt_normal ?_ | refine ats_cons ?_ ?_ | exact ats_nil
    | ((with_reducible first | refine awN (tyOf_ok _) [] ?_ | refine awO (tyOf_ok _) [] ?_ | refine awP (tyOf_ok _) [] ?_ | refine awQ ?_ | refine awR ?_ | refine awS ?_ | refine awT ?_ | refine awU ?_); intro r hr; simp only [go_sem, Nat.reduceBEq, Nat.reduceBneDiff, Nat.reduceLT, Nat.reduceLeDiff, Nat.reduceAdd, Nat.reduceMul, Nat.reduceSub, Nat.reduceEqDiff, reduceCtorEq, f1, g1, zi, htj, hap, hl, hwi] at hr; subst hr; (first | refine awV ?_ ?_ | refine awW ?_ ?_ | refine endK ?_ ?_ | refine endGK ?_ ?_ ?_ | (refine condK (fun h => ?_) (fun h => ?_) <;> (try simp only [go_sem, reduceCtorEq] at h) <;> (try (exfalso; omega))))) | fail)) <;> (try omega)
      all_goals exact ⟨j + 1, by simp only [go_sem, Nat.reduceBEq, Nat.reduceBneDiff, Nat.reduceLT, Nat.reduceLeDiff, Nat.reduceAdd, Nat.reduceMul, Nat.reduceSub, Nat.reduceEqDiff, reduceCtorEq, hl] <;> exact rfl, hlt, by omega⟩
    · have f1 : (0 ≤ (T.parts.length : Int) - 1 - j) = False := eq_false (by omega)
      have hje : R.take j = R := take_len (by omega)
      rw [hje]
      (repeat' (first
    | exact trivial
    | (with_reducible first | refine awA ?_ | refine awB ?_ | refine awC ?_ | refine awD ?_ | refine awE ?_ | refine awF ?_ | refine awG ?_ | refine awH ?_ | refine awI ?_ | refine awJ ?_ | refine awK ?_ | refine awL ?_ | refine awM (by decide) ?_)
    | (refine aw_draw (id := 8) (t := (.node [0, 1, 2, 3, 4, 5, 6, 7, 8, 9, 10, 11] [])) (drR [6] [40] []) mixed (by kernel_rfl) (by kernel_rfl) (fun _ _ h => h) ?_)
    | (refine aw_draw (id := 13) (t := (.node [0, 1, 2, 3, 4, 5, 6, 7, 8, 9, 10, 11, 12, 13, 14, 15] [])) (drR [4] [61, 67] []) mixed (by kernel_rfl) (by kernel_rfl) (fun _ _ h => h) ?_)
    | (refine aw_draw (id := 4) (t := (.node [0, 1, 2, 3, 4, 5, 6, 7, 8, 9, 10, 11] [])) (drR [4] [19] []) mixed (by kernel_rfl) (by kernel_rfl) (fun _ _ h => h) ?_)
    | (refine at_done (by simp only [List.filterMap_cons, List.filterMap_nil, List.getElem?_toArray, List.getElem?_cons_zero, List.getElem?_cons_succ]; exact rfl) ?_) | (refine at_alt (by simp only [List.filterMap_cons, List.filterMap_nil, List.getElem?_toArray, List.getElem?_cons_zero, List.getElem?_cons_succ]; exact rfl) ?_) | refine qalt_normal ?_ | refine ats_cons ?_ ?_ | exact ats_nil
    | ((with_reducible first | refine awN (tyOf_ok _) [] ?_ | refine awO (tyOf_ok _) [] ?_ | refine awP (tyOf_ok _) [] ?_ | refine awQ ?_ | refine awR ?_ | refine awS ?_ | refine awT ?_ | refine awU ?_); intro r hr; simp only [go_sem, Nat.reduceBEq, Nat.reduceBneDiff, Nat.reduceLT, Nat.reduceLeDiff, Nat.reduceAdd, Nat.reduceMul, Nat.reduceSub, Nat.reduceEqDiff, reduceCtorEq, f1] at hr; subst hr; (first | refine awV ?_ ?_ | refine awW ?_ ?_ | refine endK ?_ ?_ | refine endGK ?_ ?_ ?_ | (refine condK (fun h => ?_) (fun h => ?_) <;> (try simp only [go_sem, reduceCtorEq] at h) <;> (try (exfalso; omega))))) | fail)) <;> (try omega)
      · exact AV.up_rfl _
      · exact obUp_cons rfl (obUp_cons rfl obUp_nil)
  have k8 : (T.kind = 8) = False := eq_false h8
  obtain ⟨m, hm⟩ : ∃ m : Nat, x.kids = m := ⟨x.kids.toNat, by omega⟩
  have hel : kidsT T x.n 0 x.kids.toNat = List.replicate m T.elem := by
    rcases rightOK_kind hr with h | h | h
    · have : x.kids = 0 := by
        have hkn : x.kind = 1 ∨ x.kind = 2 := by rw [hfp.1]; rcases h with h | h | h <;> simp [h, nkOf]
        exact (right_zero hxr hkn).1
      have : m = 0 := by omega
      subst this
      rw [hm]; rfl
    · rw [hm, Int.toNat_natCast]
      exact kidsT_rep (fun k => by simp [elemF, h]) m
    · omega
  rw [hel, List.reverse_replicate]
  obtain ⟨f, hff⟩ : ∃ f : Nat → List Int, ∀ j, f j = List.replicate j T.elem := ⟨fun j => List.replicate j T.elem, fun _ => rfl⟩
  have hf0 : f 0 = [] := by rw [hff]; rfl
  have hfs : ∀ j, f (j + 1) = f j ++ [T.elem] := fun j => by rw [hff, hff, List.replicate_succ']
  have hfl : ∀ j, (f j).length = j := fun j => by rw [hff]; simp
  rw [← hff]
  (repeat' (first
    | exact trivial
    | (with_reducible first | refine awA ?_ | refine awB ?_ | refine awC ?_ | refine awD ?_ | refine awE ?_ | refine awF ?_ | refine awG ?_ | refine awH ?_ | refine awI ?_ | refine awJ ?_ | refine awK ?_ | refine awL ?_ | refine awM (by decide) ?_)
    | (refine aw_draw (id := 8) (t := (.node [0, 1, 2, 3, 4, 5, 6, 7, 8, 9, 10, 11] [])) (drR [6] [40] []) mixed (by kernel_rfl) (by kernel_rfl) (fun _ _ h => h) ?_)
    | (refine aw_draw (id := 13) (t := (.node [0, 1, 2, 3, 4, 5, 6, 7, 8, 9, 10, 11, 12, 13, 14, 15] [])) (drR [4] [61, 67] []) mixed (by kernel_rfl) (by kernel_rfl) (fun _ _ h => h) ?_)
    | (refine aw_draw (id := 4) (t := (.node [0, 1, 2, 3, 4, 5, 6, 7, 8, 9, 10, 11] [])) (drR [4] [19] []) mixed (by kernel_rfl) (by kernel_rfl) (fun _ _ h => h) ?_)
    | (refine at_done (by simp only [List.filterMap_cons, List.filterMap_nil, List.getElem?_toArray, List.getElem?_cons_zero, List.getElem?_cons_succ]; exact rfl) ?_) | (refine at_alt (by simp only [List.filterMap_cons, List.filterMap_nil, List.getElem?_toArray, List.getElem?_cons_zero, List.getElem?_cons_succ]; exact rfl) ?_) | refine qalt_normal ?_ | refine ats_cons ?_ ?_ | exact ats_nil
    | ((with_reducible first | refine awN (tyOf_ok _) [] ?_ | refine awO (tyOf_ok _) [] ?_ | refine awP (tyOf_ok _) [] ?_ | refine awQ ?_ | refine awR ?_ | refine awS ?_ | refine awT ?_ | refine awU ?_); intro r hr; simp only [go_sem, Nat.reduceBEq, Nat.reduceBneDiff, Nat.reduceLT, Nat.reduceLeDiff, Nat.reduceAdd, Nat.reduceMul, Nat.reduceSub, Nat.reduceEqDiff, reduceCtorEq, obT, k7, k8] at hr; subst hr; (first | refine awV ?_ ?_ | refine awW ?_ ?_ | refine endK ?_ ?_ | refine endGK ?_ ?_ ?_ | (refine condK (fun h => ?_) (fun h => ?_) <;> (try simp only [go_sem, reduceCtorEq] at h) <;> (try (exfalso; omega))))) | fail)) <;> (try omega)
  refine go_loop [0, 4, 5, 12, 13] [4, 5, 10000, 15000] (fun j : Nat => ⟨[(0, true, .ptr 1 10000 0 0), (4, true, .ptr 1 4 0 0), (5, true, .ptr 1 5 0 0), (12, true, vI x.kids), (13, true, vI j)],
    [(4, .var [vI T.kind, vI T.n, vI T.elem, .lst 3 (encPs T.parts)]), (5, .var [vI x.kind, .v (.int .u64 x.n), vI x.kids]), (10000, .var [.ref 3 1 15000 0 (st ++ f j).length]), (15000, .row 3 1 (v8 (st ++ f j)))]⟩)
    (fun j => j ≤ m) (fun j => m - j) 0 (by simp only [go_sem, Nat.reduceBEq, Nat.reduceBneDiff, Nat.reduceLT, Nat.reduceLeDiff, Nat.reduceAdd, Nat.reduceMul, Nat.reduceSub, Nat.reduceEqDiff, reduceCtorEq, hf0, List.append_nil]; exact rfl) (Nat.zero_le _) ?_
  intro j hj
  have hwj := wrap_i64 (n := (j : Int) + 1) (by omega)
  by_cases hlt : j < m
  · have f1 : ((j : Int) < m) = True := eq_true (by omega)
    have hl : (st ++ f (j + 1)).length = (st ++ f j).length + 1 := by simp [hfl]; omega
    have hap : v8 (st ++ f j) ++ [[vI T.elem]] = v8 (st ++ f (j + 1)) := by rw [v8_app, hfs, List.append_assoc]
    have hlb : (st ++ f j).length ≤ 1002000000 := by simp [hfl]; omega
    have htj := htk (st ++ f j)
    (repeat' (first
    | exact trivial
    | (with_reducible first | refine awA ?_ | refine awB ?_ | refine awC ?_ | refine awD ?_ | refine awE ?_ | refine awF ?_ | refine awG ?_ | refine awH ?_ | refine awI ?_ | refine awJ ?_ | refine awK ?_ | refine awL ?_ | refine awM (by decide) ?_)
    | (refine aw_draw (id := 8) (t := (.node [0, 1, 2, 3, 4, 5, 6, 7, 8, 9, 10, 11] [])) (drR [6] [40] []) mixed (by kernel_rfl) (by kernel_rfl) (fun _ _ h => h) ?_)
    | (refine aw_draw (id := 13) (t := (.node [0, 1, 2, 3, 4, 5, 6, 7, 8, 9, 10, 11, 12, 13, 14, 15] [])) (drR [4] [61, 67] []) mixed (by kernel_rfl) (by kernel_rfl) (fun _ _ h => h) ?_)
    | (refine aw_draw (id := 4) (t := (.node [0, 1, 2, 3, 4, 5, 6, 7, 8, 9, 10, 11] [])) (drR [4] [19] []) mixed (by kernel_rfl) (by kernel_rfl) (fun _ _ h => h) ?_)
    | (refine at_done (by simp only [List.filterMap_cons, List.filterMap_nil, List.getElem?_toArray, List.getElem?_cons_zero, List.getElem?_cons_succ]; exact rfl) ?_) | (refine at_alt (by simp only [List.filterMap_cons, List.filterMap_nil, List.getElem?_toArray, List.getElem?_cons_zero, List.getElem?_cons_succ]; exact rfl) ?_) | refine qalt_normal ?_ | refine ats_cons ?_ ?_ | exact ats_nil
    | ((with_reducible first | refine awN (tyOf_ok _) [] ?_ | refine awO (tyOf_ok _) [] ?_ | refine awP (tyOf_ok _) [] ?_ | refine awQ ?_ | refine awR ?_ | refine awS ?_ | refine awT ?_ | refine awU ?_); intro r hr; simp only [go_sem, Nat.reduceBEq, Nat.reduceBneDiff, Nat.reduceLT, Nat.reduceLeDiff, Nat.reduceAdd, Nat.reduceMul, Nat.reduceSub, Nat.reduceEqDiff, reduceCtorEq, f1, hm, htj, hap, hl, hwj] at hr; subst hr; (first | refine awV ?_ ?_ | refine awW ?_ ?_ | refine endK ?_ ?_ | refine endGK ?_ ?_ ?_ | (refine condK (fun h => ?_) (fun h => ?_) <;> (try simp only [go_sem, reduceCtorEq] at h) <;> (try (exfalso; omega))))) | fail)) <;> (try omega)
    all_goals exact ⟨j + 1, by simp only [go_sem, Nat.reduceBEq, Nat.reduceBneDiff, Nat.reduceLT, Nat.reduceLeDiff, Nat.reduceAdd, Nat.reduceMul, Nat.reduceSub, Nat.reduceEqDiff, reduceCtorEq, hl, hm] <;> exact rfl, hlt, by omega⟩
  · have f1 : ((j : Int) < m) = False := eq_false (by omega)
    obtain rfl : j = m := by omega
    (repeat' (first
    | exact trivial
    | (with_reducible first | refine awA ?_ | refine awB ?_ | refine awC ?_ | refine awD ?_ | refine awE ?_ | refine awF ?_ | refine awG ?_ | refine awH ?_ | refine awI ?_ | refine awJ ?_ | refine awK ?_ | refine awL ?_ | refine awM (by decide) ?_)
    | (refine aw_draw (id := 8) (t := (.node [0, 1, 2, 3, 4, 5, 6, 7, 8, 9, 10, 11] [])) (drR [6] [40] []) mixed (by kernel_rfl) (by kernel_rfl) (fun _ _ h => h) ?_)
    | (refine aw_draw (id := 13) (t := (.node [0, 1, 2, 3, 4, 5, 6, 7, 8, 9, 10, 11, 12, 13, 14, 15] [])) (drR [4] [61, 67] []) mixed (by kernel_rfl) (by kernel_rfl) (fun _ _ h => h) ?_)
    | (refine aw_draw (id := 4) (t := (.node [0, 1, 2, 3, 4, 5, 6, 7, 8, 9, 10, 11] [])) (drR [4] [19] []) mixed (by kernel_rfl) (by kernel_rfl) (fun _ _ h => h) ?_)
    | (refine at_done (by simp only [List.filterMap_cons, List.filterMap_nil, List.getElem?_toArray, List.getElem?_cons_zero, List.getElem?_cons_succ]; exact rfl) ?_) | (refine at_alt (by simp only [List.filterMap_cons, List.filterMap_nil, List.getElem?_toArray, List.getElem?_cons_zero, List.getElem?_cons_succ]; exact rfl) ?_) | refine qalt_normal ?_ | refine ats_cons ?_ ?_ | exact ats_nil
    | ((with_reducible first | refine awN (tyOf_ok _) [] ?_ | refine awO (tyOf_ok _) [] ?_ | refine awP (tyOf_ok _) [] ?_ | refine awQ ?_ | refine awR ?_ | refine awS ?_ | refine awT ?_ | refine awU ?_); intro r hr; simp only [go_sem, Nat.reduceBEq, Nat.reduceBneDiff, Nat.reduceLT, Nat.reduceLeDiff, Nat.reduceAdd, Nat.reduceMul, Nat.reduceSub, Nat.reduceEqDiff, reduceCtorEq, f1, hm] at hr; subst hr; (first | refine awV ?_ ?_ | refine awW ?_ ?_ | refine endK ?_ ?_ | refine endGK ?_ ?_ ?_ | (refine condK (fun h => ?_) (fun h => ?_) <;> (try simp only [go_sem, reduceCtorEq] at h) <;> (try (exfalso; omega))))) | fail)) <;> (try omega)
    · exact AV.up_rfl _
    · exact obUp_cons rfl (obUp_cons rfl obUp_nil)
end Go.Proofs.YtfgacgpicfknpaaDoor
end
section
namespace Go.Proofs.YtfgacgpicfknpaaDoor
open Go.RowKit
set_option maxRecDepth 100000
set_option maxHeartbeats 8000000
/-! What package value says of nodes. -/
def leastN (k : Int) : Int := if k = 4 ∨ k = 6 then 1 else 0
def mostN (k : Int) : Int := if k = 3 then 1048576 else if k = 4 then 64 else if k = 5 ∨ k = 6 then 1 else 0
theorem kidsV_any (k : Int) : PCall Tryd.prog 57 [vI k] (fun r => r = .tup [vI (leastN k), vI (mostN k)]) := by
  refine go_fn (tyOf_ok _) Tryd.func57 rfl rfl (by rw [Tryd.results57]) Tryd.ntmps57 rfl fun E => ?_
  (repeat' (first
    | exact trivial
    | (with_reducible first | refine awA ?_ | refine awB ?_ | refine awC ?_ | refine awD ?_ | refine awE ?_ | refine awF ?_ | refine awG ?_ | refine awH ?_ | refine awI ?_ | refine awJ ?_ | refine awK ?_ | refine awL ?_ | refine awM (by decide) ?_)
    | ((with_reducible first | refine awN (tyOf_ok _) [] ?_ | refine awO (tyOf_ok _) [] ?_ | refine awP (tyOf_ok _) [] ?_ | refine awQ ?_ | refine awR ?_ | refine awS ?_); intro r hr; simp only [go_sem, Nat.reduceBEq, Nat.reduceBneDiff, Nat.reduceLT, Nat.reduceLeDiff, Nat.reduceAdd, Nat.reduceMul, Nat.reduceSub, Nat.reduceEqDiff, reduceCtorEq] at hr; subst hr; (first | refine awV ?_ ?_ | refine awW ?_ ?_ | refine endK ?_ ?_ | (refine condK (fun h => ?_) (fun h => ?_) <;> (try simp only [go_sem, reduceCtorEq] at h) <;> (try (exfalso; omega))))) | fail)) <;> (try omega)
  all_goals (show AV.tup _ = _; simp [leastN, mostN, *])
theorem numberV_any (k n : Int) : PCall Tryd.prog 58 [vI k, .v (.int .u64 n)] (fun r => r = vB (numberN k n)) := by
  refine go_fn (tyOf_ok _) Tryd.func58 rfl rfl (by rw [Tryd.results58]) Tryd.ntmps58 rfl fun E => ?_
  (repeat' (first
    | exact trivial
    | (with_reducible first | refine awA ?_ | refine awB ?_ | refine awC ?_ | refine awD ?_ | refine awE ?_ | refine awF ?_ | refine awG ?_ | refine awH ?_ | refine awI ?_ | refine awJ ?_ | refine awK ?_ | refine awL ?_ | refine awM (by decide) ?_)
    | ((with_reducible first | refine awN (tyOf_ok _) [] ?_ | refine awO (tyOf_ok _) [] ?_ | refine awP (tyOf_ok _) [] ?_ | refine awQ ?_ | refine awR ?_ | refine awS ?_); intro r hr; simp only [go_sem, Nat.reduceBEq, Nat.reduceBneDiff, Nat.reduceLT, Nat.reduceLeDiff, Nat.reduceAdd, Nat.reduceMul, Nat.reduceSub, Nat.reduceEqDiff, reduceCtorEq] at hr; subst hr; (first | refine awV ?_ ?_ | refine awW ?_ ?_ | refine endK ?_ ?_ | (refine condK (fun h => ?_) (fun h => ?_) <;> (try simp only [go_sem, reduceCtorEq] at h) <;> (try (exfalso; omega))))) | fail)) <;> (try omega)
  all_goals exact congrArg (fun b => AV.v (.bool b)) (by simp [numberN, *])
theorem rightV_eq (x : NodeM) : rightN x = (numberN x.kind x.n && decide (leastN x.kind ≤ x.kids) && decide (x.kids ≤ mostN x.kind)) := by
  by_cases hn : numberN x.kind x.n = true
  · rw [rightN, hn, Bool.true_and, Bool.true_and]
    have hk : x.kind = 1 ∨ x.kind = 2 ∨ x.kind = 3 ∨ x.kind = 4 ∨ x.kind = 5 ∨ x.kind = 6 := by
      unfold numberN at hn
      split at hn
      · omega
      · split at hn
        · omega
        · split at hn
          · omega
          · simp at hn; omega
    rcases hk with h | h | h | h | h | h <;> simp [h, leastN, mostN] <;> (try omega)
    all_goals (rw [Bool.eq_iff_iff]; simp; omega)
  · have : numberN x.kind x.n = false := by simpa using hn
    rw [rightN, this]; rfl
theorem rightV_any (x : NodeM) : PCall Tryd.prog 44 [.agg [vI x.kind, .v (.int .u64 x.n), vI x.kids]] (fun r => r = vB (rightN x)) := by
  refine go_fn (tyOf_ok _) Tryd.func44 rfl rfl (by rw [Tryd.results44]) Tryd.ntmps44 rfl fun E => ?_
  have h1 := kidsV_any x.kind
  have h2 := numberV_any x.kind x.n
  rw [rightV_eq]
  generalize numberN x.kind x.n = b at *
  cases b
  · (repeat' (first
    | exact trivial
    | (with_reducible first | refine awA ?_ | refine awB ?_ | refine awC ?_ | refine awD ?_ | refine awE ?_ | refine awF ?_ | refine awG ?_ | refine awH ?_ | refine awI ?_ | refine awJ ?_ | refine awK ?_ | refine awL ?_ | refine awM (by decide) ?_)
    | ((with_reducible first | refine awN (tyOf_ok _) [] ?_ | refine awO (tyOf_ok _) [] ?_ | refine awP (tyOf_ok _) [] ?_ | refine awQ ?_ | refine awR ?_ | refine awS ?_); intro r hr; simp only [go_sem, Nat.reduceBEq, Nat.reduceBneDiff, Nat.reduceLT, Nat.reduceLeDiff, Nat.reduceAdd, Nat.reduceMul, Nat.reduceSub, Nat.reduceEqDiff, reduceCtorEq] at hr; subst hr; (first | refine caA (fun _ => h1) rfl ?_ ?_ ?_ | refine caA (fun _ => h2) rfl ?_ ?_ ?_ | refine awV ?_ ?_ | refine awW ?_ ?_ | refine endK ?_ ?_ | (refine condK (fun h => ?_) (fun h => ?_) <;> (try simp only [go_sem, reduceCtorEq] at h) <;> (try (exfalso; omega))))) | fail)) <;> (try omega)
    all_goals exact rfl
  · (repeat' (first
    | exact trivial
    | (with_reducible first | refine awA ?_ | refine awB ?_ | refine awC ?_ | refine awD ?_ | refine awE ?_ | refine awF ?_ | refine awG ?_ | refine awH ?_ | refine awI ?_ | refine awJ ?_ | refine awK ?_ | refine awL ?_ | refine awM (by decide) ?_)
    | ((with_reducible first | refine awN (tyOf_ok _) [] ?_ | refine awO (tyOf_ok _) [] ?_ | refine awP (tyOf_ok _) [] ?_ | refine awQ ?_ | refine awR ?_ | refine awS ?_); intro r hr; simp only [go_sem, Nat.reduceBEq, Nat.reduceBneDiff, Nat.reduceLT, Nat.reduceLeDiff, Nat.reduceAdd, Nat.reduceMul, Nat.reduceSub, Nat.reduceEqDiff, reduceCtorEq] at hr; subst hr; (first | refine caA (fun _ => h1) rfl ?_ ?_ ?_ | refine caA (fun _ => h2) rfl ?_ ?_ ?_ | refine awV ?_ ?_ | refine awW ?_ ?_ | refine endK ?_ ?_ | (refine condK (fun h => ?_) (fun h => ?_) <;> (try simp only [go_sem, reduceCtorEq] at h) <;> (try (exfalso; omega))))) | fail)) <;> (try omega)
    all_goals exact rfl
theorem checkV_any (l : List NodeM) (hl : l.length ≤ 1000000000) : PCall Tryd.prog 32 [.lst 3 (encNs l)] (fun r => r = .agg [vI (chkN l).1, vI (chkN l).2]) := by
  refine go_fn (tyOf_ok _) Tryd.func32 rfl rfl (by rw [Tryd.results32]) Tryd.ntmps32 rfl fun E => ?_
  generalize hC : chkN l = C
  unfold chkN at hC
  (repeat' (first
    | exact trivial
    | (with_reducible first | refine awA ?_ | refine awB ?_ | refine awC ?_ | refine awD ?_ | refine awE ?_ | refine awF ?_ | refine awG ?_ | refine awH ?_ | refine awI ?_ | refine awJ ?_ | refine awK ?_ | refine awL ?_ | refine awM (by decide) ?_)
    | ((with_reducible first | refine awN (tyOf_ok _) [] ?_ | refine awO (tyOf_ok _) [] ?_ | refine awP (tyOf_ok _) [] ?_ | refine awQ ?_ | refine awR ?_ | refine awS ?_); intro r hr; simp only [go_sem, Nat.reduceBEq, Nat.reduceBneDiff, Nat.reduceLT, Nat.reduceLeDiff, Nat.reduceAdd, Nat.reduceMul, Nat.reduceSub, Nat.reduceEqDiff, reduceCtorEq, encNs_len] at hr; subst hr; (first | refine awV ?_ ?_ | refine awW ?_ ?_ | refine endK ?_ ?_ | (refine condK (fun h => ?_) (fun h => ?_) <;> (try simp only [go_sem, reduceCtorEq] at h) <;> (try (exfalso; omega))))) | fail)) <;> (try omega)
  refine go_loop [0, 2, 3, 6, 7, 8] [2] (fun p : Nat × Int => ⟨[(0, true, .lst 3 (encNs l)), (2, true, .ptr 1 2 0 0), (3, true, vI p.2), (6, true, .lst 3 (encNs l)), (7, true, vI l.length), (8, true, vI p.1)], [(2, .var [vI 0, vI 0])]⟩) (fun p => p.1 ≤ l.length ∧ C = chkL (l.drop p.1) p.2 p.1 ∧ 0 ≤ p.2 ∧ p.2 ≤ 1 + (p.1 : Int) * 1048576) (fun p => l.length - p.1) (0, 1) (by simp only [go_sem, Nat.reduceBEq, Nat.reduceBneDiff, Nat.reduceLT, Nat.reduceLeDiff, Nat.reduceAdd, Nat.reduceMul, Nat.reduceSub, Nat.reduceEqDiff, reduceCtorEq]; exact rfl)
    ⟨Nat.zero_le _, by rw [← hC]; rfl, by decide, by decide⟩ ?_
  intro ⟨i, w⟩ ⟨hi, heq, hw0, hw1⟩
  simp only at hi heq hw0 hw1
  clear hC
  have hwi := wrap_i64 (n := (i : Int) + 1) (by omega)
  by_cases hlt : i < l.length
  · have e1 : ((i : Int) < l.length) = True := eq_true (by omega)
    have g1 := encNs_get hlt
    have hR := rightV_any l[i]
    have hk := rightN_kids (x := l[i])
    rw [List.drop_eq_getElem_cons hlt, chkL] at heq
    by_cases hz : w = 0
    · have e2 : (w = 0) = True := eq_true hz
      rw [if_pos (.inl hz)] at heq
      subst heq
      (repeat' (first
    | exact trivial
    | (with_reducible first | refine awA ?_ | refine awB ?_ | refine awC ?_ | refine awD ?_ | refine awE ?_ | refine awF ?_ | refine awG ?_ | refine awH ?_ | refine awI ?_ | refine awJ ?_ | refine awK ?_ | refine awL ?_ | refine awM (by decide) ?_)
    | ((with_reducible first | refine awN (tyOf_ok _) [] ?_ | refine awO (tyOf_ok _) [] ?_ | refine awP (tyOf_ok _) [] ?_ | refine awQ ?_ | refine awR ?_ | refine awS ?_); intro r hr; simp only [go_sem, Nat.reduceBEq, Nat.reduceBneDiff, Nat.reduceLT, Nat.reduceLeDiff, Nat.reduceAdd, Nat.reduceMul, Nat.reduceSub, Nat.reduceEqDiff, reduceCtorEq, encNs_len, hwi, e1, g1, e2, vU] at hr; subst hr; (first | refine caB 44 (vB true) ?_ ?_ ?_ | refine awV ?_ ?_ | refine awW ?_ ?_ | refine endK ?_ ?_ | (refine condK (fun h => ?_) (fun h => ?_) <;> (try simp only [go_sem, reduceCtorEq] at h) <;> (try (exfalso; omega))))) | fail)) <;> (try omega)
      exact rfl
    have e2 : (w = 0) = False := eq_false hz
    by_cases hr : rightN l[i] = true
    · rw [if_neg (by rintro (h | h); (· exact hz h); rw [hr] at h; cases h)] at heq
      have := hk hr
      have hwa := wrap_i64 (n := l[i].kids - 1) (by omega)
      have hwb := wrap_i64 (n := w + (l[i].kids - 1)) (by omega)
      rw [hr] at hR
      (repeat' (first
    | exact trivial
    | (with_reducible first | refine awA ?_ | refine awB ?_ | refine awC ?_ | refine awD ?_ | refine awE ?_ | refine awF ?_ | refine awG ?_ | refine awH ?_ | refine awI ?_ | refine awJ ?_ | refine awK ?_ | refine awL ?_ | refine awM (by decide) ?_)
    | ((with_reducible first | refine awN (tyOf_ok _) [] ?_ | refine awO (tyOf_ok _) [] ?_ | refine awP (tyOf_ok _) [] ?_ | refine awQ ?_ | refine awR ?_ | refine awS ?_); intro r hr; simp only [go_sem, Nat.reduceBEq, Nat.reduceBneDiff, Nat.reduceLT, Nat.reduceLeDiff, Nat.reduceAdd, Nat.reduceMul, Nat.reduceSub, Nat.reduceEqDiff, reduceCtorEq, encNs_len, hwi, e1, g1, e2, hwa, hwb, vU] at hr; subst hr; (first | refine caA (fun _ => hR) rfl ?_ ?_ ?_ | refine awV ?_ ?_ | refine awW ?_ ?_ | refine endK ?_ ?_ | (refine condK (fun h => ?_) (fun h => ?_) <;> (try simp only [go_sem, reduceCtorEq] at h) <;> (try (exfalso; omega))))) | fail)) <;> (try omega)
      exact ⟨(i + 1, w + (l[i].kids - 1)), by simp only [go_sem, Nat.reduceBEq, Nat.reduceBneDiff, Nat.reduceLT, Nat.reduceLeDiff, Nat.reduceAdd, Nat.reduceMul, Nat.reduceSub, Nat.reduceEqDiff, reduceCtorEq]; exact rfl, ⟨hlt, by rw [heq]; simp only; congr 1; omega, by simp only; omega, by simp only; omega⟩, by simp only; omega⟩
    · have hr' : rightN l[i] = false := by simpa using hr
      rw [if_pos (.inr hr')] at heq
      rw [hr'] at hR
      subst heq
      (repeat' (first
    | exact trivial
    | (with_reducible first | refine awA ?_ | refine awB ?_ | refine awC ?_ | refine awD ?_ | refine awE ?_ | refine awF ?_ | refine awG ?_ | refine awH ?_ | refine awI ?_ | refine awJ ?_ | refine awK ?_ | refine awL ?_ | refine awM (by decide) ?_)
    | ((with_reducible first | refine awN (tyOf_ok _) [] ?_ | refine awO (tyOf_ok _) [] ?_ | refine awP (tyOf_ok _) [] ?_ | refine awQ ?_ | refine awR ?_ | refine awS ?_); intro r hr; simp only [go_sem, Nat.reduceBEq, Nat.reduceBneDiff, Nat.reduceLT, Nat.reduceLeDiff, Nat.reduceAdd, Nat.reduceMul, Nat.reduceSub, Nat.reduceEqDiff, reduceCtorEq, encNs_len, hwi, e1, g1, e2, vU] at hr; subst hr; (first | refine caA (fun _ => hR) rfl ?_ ?_ ?_ | refine awV ?_ ?_ | refine awW ?_ ?_ | refine endK ?_ ?_ | (refine condK (fun h => ?_) (fun h => ?_) <;> (try simp only [go_sem, reduceCtorEq] at h) <;> (try (exfalso; omega))))) | fail)) <;> (try omega)
      exact rfl
  · have e1 : ((i : Int) < l.length) = False := eq_false (by omega)
    have hil : i = l.length := by omega
    rw [List.drop_eq_nil_of_le (by omega), chkL] at heq
    by_cases hz : 0 < w
    · have e2 : (0 < w) = True := eq_true hz
      rw [if_pos hz, hil] at heq
      subst heq
      (repeat' (first
    | exact trivial
    | (with_reducible first | refine awA ?_ | refine awB ?_ | refine awC ?_ | refine awD ?_ | refine awE ?_ | refine awF ?_ | refine awG ?_ | refine awH ?_ | refine awI ?_ | refine awJ ?_ | refine awK ?_ | refine awL ?_ | refine awM (by decide) ?_)
    | ((with_reducible first | refine awN (tyOf_ok _) [] ?_ | refine awO (tyOf_ok _) [] ?_ | refine awP (tyOf_ok _) [] ?_ | refine awQ ?_ | refine awR ?_ | refine awS ?_); intro r hr; simp only [go_sem, Nat.reduceBEq, Nat.reduceBneDiff, Nat.reduceLT, Nat.reduceLeDiff, Nat.reduceAdd, Nat.reduceMul, Nat.reduceSub, Nat.reduceEqDiff, reduceCtorEq, encNs_len, hwi, e1, e2] at hr; subst hr; (first | refine awV ?_ ?_ | refine awW ?_ ?_ | refine endK ?_ ?_ | (refine condK (fun h => ?_) (fun h => ?_) <;> (try simp only [go_sem, reduceCtorEq] at h) <;> (try (exfalso; omega))))) | fail)) <;> (try omega)
      exact rfl
    · have e2 : (0 < w) = False := eq_false hz
      rw [if_neg hz] at heq
      subst heq
      (repeat' (first
    | exact trivial
    | (with_reducible first | refine awA ?_ | refine awB ?_ | refine awC ?_ | refine awD ?_ | refine awE ?_ | refine awF ?_ | refine awG ?_ | refine awH ?_ | refine awI ?_ | refine awJ ?_ | refine awK ?_ | refine awL ?_ | refine awM (by decide) ?_)
    | ((with_reducible first | refine awN (tyOf_ok _) [] ?_ | refine awO (tyOf_ok _) [] ?_ | refine awP (tyOf_ok _) [] ?_ | refine awQ ?_ | refine awR ?_ | refine awS ?_); intro r hr; simp only [go_sem, Nat.reduceBEq, Nat.reduceBneDiff, Nat.reduceLT, Nat.reduceLeDiff, Nat.reduceAdd, Nat.reduceMul, Nat.reduceSub, Nat.reduceEqDiff, reduceCtorEq, encNs_len, hwi, e1, e2] at hr; subst hr; (first | refine awV ?_ ?_ | refine awW ?_ ?_ | refine endK ?_ ?_ | (refine condK (fun h => ?_) (fun h => ?_) <;> (try simp only [go_sem, reduceCtorEq] at h) <;> (try (exfalso; omega))))) | fail)) <;> (try omega)
      exact rfl
end Go.Proofs.YtfgacgpicfknpaaDoor
end
section
namespace Go.Proofs.YtfgacgpicfknpaaDoor
open Go.RowKit
set_option maxRecDepth 100000
set_option maxHeartbeats 8000000
/-! typing.Types. -/
theorem okL_appT : ∀ {a b : List Tr}, Tr.ok.okL a → Tr.ok.okL b → Tr.ok.okL (a ++ b)
  | [], _, _, h => h
  | _ :: _, _, h, h' => ⟨h.1, okL_appT h.2 h'⟩
abbrev nilS0 : AV := .v (.slice none 0 0)
def askedF (ts : List TypeM) (rs : List RootM) (t : Int) : Int × Int := if (checkF ts rs).1 ≠ 0 then checkF ts rs else if t < 0 ∨ (ts.length : Int) ≤ t then (3, 0) else (0, 0)
theorem asked_any (ts : List TypeM) (rs : List RootM) (hts : ts.length ≤ 1000000000) (hrs : rs.length ≤ 1000000000) (hp : ∀ t ∈ ts, t.parts.length ≤ 1000000000) (t : Int) :
    PCall Tryd.prog 31 [vSch ts rs, vI t] (fun r => r = .agg [vI (askedF ts rs t).1, vI (askedF ts rs t).2]) := by
  refine go_fn (tyOf_ok _) Tryd.func31 rfl rfl (by rw [Tryd.results31]) Tryd.ntmps31 rfl fun E => ?_
  have hck := check_any ts rs hts hrs hp
  unfold vF at hck
  by_cases h0 : (checkF ts rs).1 = 0
  case neg =>
    have e1 : ((checkF ts rs).1 = 0) = False := eq_false h0
    rw [askedF, if_pos h0]
    generalize checkF ts rs = C at *
    (repeat' (first
    | exact trivial
    | (with_reducible first | refine awA ?_ | refine awB ?_ | refine awC ?_ | refine awD ?_ | refine awE ?_ | refine awF ?_ | refine awG ?_ | refine awH ?_ | refine awI ?_ | refine awJ ?_ | refine awK ?_ | refine awL ?_ | refine awM (by decide) ?_)
    | ((with_reducible first | refine awN (tyOf_ok _) [] ?_ | refine awO (tyOf_ok _) [] ?_ | refine awP (tyOf_ok _) [] ?_ | refine awQ ?_ | refine awR ?_ | refine awS ?_); intro r hr; simp only [go_sem, Nat.reduceBEq, Nat.reduceBneDiff, Nat.reduceLT, Nat.reduceLeDiff, Nat.reduceAdd, Nat.reduceMul, Nat.reduceSub, Nat.reduceEqDiff, reduceCtorEq, vSch, e1] at hr; subst hr; (first | refine caA (fun _ => hck) rfl ?_ ?_ ?_ | refine awV ?_ ?_ | refine awW ?_ ?_ | refine endK ?_ ?_ | (refine condK (fun h => ?_) (fun h => ?_) <;> (try simp only [go_sem, reduceCtorEq] at h) <;> (try (exfalso; omega))))) | fail)) <;> (try omega)
    exact rfl
  rw [askedF, if_neg (by omega)]
  rw [h0] at hck
  generalize (checkF ts rs).2 = C2 at *
  by_cases h1 : t < 0
  · have e1 : (t < 0) = True := eq_true h1
    rw [if_pos (.inl h1)]
    (repeat' (first
    | exact trivial
    | (with_reducible first | refine awA ?_ | refine awB ?_ | refine awC ?_ | refine awD ?_ | refine awE ?_ | refine awF ?_ | refine awG ?_ | refine awH ?_ | refine awI ?_ | refine awJ ?_ | refine awK ?_ | refine awL ?_ | refine awM (by decide) ?_)
    | ((with_reducible first | refine awN (tyOf_ok _) [] ?_ | refine awO (tyOf_ok _) [] ?_ | refine awP (tyOf_ok _) [] ?_ | refine awQ ?_ | refine awR ?_ | refine awS ?_); intro r hr; simp only [go_sem, Nat.reduceBEq, Nat.reduceBneDiff, Nat.reduceLT, Nat.reduceLeDiff, Nat.reduceAdd, Nat.reduceMul, Nat.reduceSub, Nat.reduceEqDiff, reduceCtorEq, vSch, encTs_len, e1] at hr; subst hr; (first | refine caA (fun _ => hck) rfl ?_ ?_ ?_ | refine awV ?_ ?_ | refine awW ?_ ?_ | refine endK ?_ ?_ | (refine condK (fun h => ?_) (fun h => ?_) <;> (try simp only [go_sem, reduceCtorEq] at h) <;> (try (exfalso; omega))))) | fail)) <;> (try omega)
    exact rfl
  have e1 : (t < 0) = False := eq_false h1
  by_cases h2 : (ts.length : Int) ≤ t
  · have e2 : ((ts.length : Int) ≤ t) = True := eq_true h2
    rw [if_pos (.inr h2)]
    (repeat' (first
    | exact trivial
    | (with_reducible first | refine awA ?_ | refine awB ?_ | refine awC ?_ | refine awD ?_ | refine awE ?_ | refine awF ?_ | refine awG ?_ | refine awH ?_ | refine awI ?_ | refine awJ ?_ | refine awK ?_ | refine awL ?_ | refine awM (by decide) ?_)
    | ((with_reducible first | refine awN (tyOf_ok _) [] ?_ | refine awO (tyOf_ok _) [] ?_ | refine awP (tyOf_ok _) [] ?_ | refine awQ ?_ | refine awR ?_ | refine awS ?_); intro r hr; simp only [go_sem, Nat.reduceBEq, Nat.reduceBneDiff, Nat.reduceLT, Nat.reduceLeDiff, Nat.reduceAdd, Nat.reduceMul, Nat.reduceSub, Nat.reduceEqDiff, reduceCtorEq, vSch, encTs_len, e1, e2] at hr; subst hr; (first | refine caA (fun _ => hck) rfl ?_ ?_ ?_ | refine awV ?_ ?_ | refine awW ?_ ?_ | refine endK ?_ ?_ | (refine condK (fun h => ?_) (fun h => ?_) <;> (try simp only [go_sem, reduceCtorEq] at h) <;> (try (exfalso; omega))))) | fail)) <;> (try omega)
    exact rfl
  have e2 : ((ts.length : Int) ≤ t) = False := eq_false h2
  rw [if_neg (by omega)]
  (repeat' (first
    | exact trivial
    | (with_reducible first | refine awA ?_ | refine awB ?_ | refine awC ?_ | refine awD ?_ | refine awE ?_ | refine awF ?_ | refine awG ?_ | refine awH ?_ | refine awI ?_ | refine awJ ?_ | refine awK ?_ | refine awL ?_ | refine awM (by decide) ?_)
    | ((with_reducible first | refine awN (tyOf_ok _) [] ?_ | refine awO (tyOf_ok _) [] ?_ | refine awP (tyOf_ok _) [] ?_ | refine awQ ?_ | refine awR ?_ | refine awS ?_); intro r hr; simp only [go_sem, Nat.reduceBEq, Nat.reduceBneDiff, Nat.reduceLT, Nat.reduceLeDiff, Nat.reduceAdd, Nat.reduceMul, Nat.reduceSub, Nat.reduceEqDiff, reduceCtorEq, vSch, encTs_len, e1, e2] at hr; subst hr; (first | refine caA (fun _ => hck) rfl ?_ ?_ ?_ | refine awV ?_ ?_ | refine awW ?_ ?_ | refine endK ?_ ?_ | (refine condK (fun h => ?_) (fun h => ?_) <;> (try simp only [go_sem, reduceCtorEq] at h) <;> (try (exfalso; omega))))) | fail)) <;> (try omega)
  exact rfl
theorem tflatL_len : ∀ cs : List Tr, cs.length ≤ (Tr.flat.flatL cs).length
  | [] => Nat.le_refl _
  | c :: cs => by
    have := tflatL_len cs
    have := flat_pos c
    simp only [Tr.flat.flatL, List.length_append, List.length_cons]; omega
theorem up_nT (e a : Int) : (AV.tup [.v (.slice none 0 0), .agg [vI e, vI a]]).up (.tup [.ref 3 1 29 0 0, .agg [vI e, vI a]]) := AV.up_tup (AV.up_cons (AV.up_nilref _ _ _ _) (AV.up_cons (AV.up_rfl _) AV.up_nilL))
theorem tTypes_G (ts : List TypeM) (rs : List RootM) (hts : ts.length ≤ 1000000000) (hrs : rs.length ≤ 1000000000) (hp : ∀ t ∈ ts, t.parts.length ≤ 1000000000) (t : Int) (V : List NodeM) (hV : V.length ≤ 100000000) (hv : ∀ x ∈ V, nodeOK x)
    (c : Tr) (hc : (chkN V).1 = 0 → c.flat = V ∧ c.ok) :
    GCall Tryd.prog 12 [vSch ts rs, vI t, .lst 3 (encNs V)] [] (.tup [.ref 3 1 29 0 (typesF ts rs t V c).1.length, .agg [vI (typesF ts rs t V c).2.1, vI (typesF ts rs t V c).2.2]]) [(29, .row 3 1 (v8 (typesF ts rs t V c).1))] := by
  refine go_fnG (tyOf_ok _) Tryd.func12 rfl rfl (by rw [Tryd.results12]) Tryd.ntmps12 rfl fun E => ?_
  have hA := asked_any ts rs hts hrs hp t
  have hC := checkV_any V (by omega)
  unfold vSch at hA
  by_cases ha : (askedF ts rs t).1 = 0
  case neg =>
    have e1 : ((askedF ts rs t).1 = 0) = False := eq_false ha
    have hT : typesF ts rs t V c = ([], askedF ts rs t) := by
      by_cases g : (checkF ts rs).1 = 0
      · by_cases g2 : t < 0 ∨ (ts.length : Int) ≤ t
        · simp [typesF, askedF, g, g2]
        · exact absurd (by simp [askedF, g, g2]) ha
      · simp [typesF, askedF, g]
    rw [hT]
    generalize askedF ts rs t = A at *
    (repeat' (first
    | exact trivial
    | (with_reducible first | refine awA ?_ | refine awB ?_ | refine awC ?_ | refine awD ?_ | refine awE ?_ | refine awF ?_ | refine awG ?_ | refine awH ?_ | refine awI ?_ | refine awJ ?_ | refine awK ?_ | refine awL ?_ | refine awM (by decide) ?_)
    | (refine aw_draw (id := 5) (t := (.node [0, 1, 2] [])) (drR [8] [] []) mixed (by kernel_rfl) (by kernel_rfl) (fun _ _ h => h) ?_)
    | (refine aw_draw (id := 12) (t := (.node [0, 1, 2, 3, 4, 5, 6, 7] [])) (drR [3, 12] [45] []) mixed (by kernel_rfl) (by kernel_rfl) (fun _ _ h => h) ?_)
    | (refine aw_draw (id := 16) (t := (.node [0, 1, 2, 3, 4, 5, 6] [])) (drR [3, 12] [61] [63]) mixed (by kernel_rfl) (by kernel_rfl) (fun _ _ h => h) ?_)
    | (refine at_done (by simp only [List.filterMap_cons, List.filterMap_nil, List.getElem?_toArray, List.getElem?_cons_zero, List.getElem?_cons_succ]; exact rfl) ?_) | (refine at_alt (by simp only [List.filterMap_cons, List.filterMap_nil, List.getElem?_toArray, List.getElem?_cons_zero, List.getElem?_cons_succ]; exact rfl) ?_) | refine qalt_normal ?_ | refine ats_cons ?_ ?_ | exact ats_nil
    | ((with_reducible first | refine awN (tyOf_ok _) [] ?_ | refine awO (tyOf_ok _) [] ?_ | refine awP (tyOf_ok _) [] ?_ | refine awQ ?_ | refine awR ?_ | refine awS ?_ | refine awT ?_ | refine awU ?_); intro r hr; simp only [go_sem, Nat.reduceBEq, Nat.reduceBneDiff, Nat.reduceLT, Nat.reduceLeDiff, Nat.reduceAdd, Nat.reduceMul, Nat.reduceSub, Nat.reduceEqDiff, reduceCtorEq, vSch, e1] at hr; subst hr; (first | refine caA (fun _ => hA) rfl ?_ ?_ ?_ | refine caA (fun _ => hC) rfl ?_ ?_ ?_ | refine awV ?_ ?_ | refine awW ?_ ?_ | refine endK ?_ ?_ | refine endGK ?_ ?_ ?_ | (refine condK (fun h => ?_) (fun h => ?_) <;> (try simp only [go_sem, reduceCtorEq] at h) <;> (try (exfalso; omega))))) | fail)) <;> (try omega)
    all_goals first | exact up_nT _ _ | exact obUp_row0 obUp_nil
  have h0 : (checkF ts rs).1 = 0 := by
    unfold askedF at ha
    split at ha
    · rename_i h; exact absurd ha h
    · omega
  have h1 : ¬(t < 0 ∨ (ts.length : Int) ≤ t) := fun h => by
    unfold askedF at ha; rw [if_neg (by omega), if_pos h] at ha; cases ha
  have hAe : askedF ts rs t = (0, 0) := by unfold askedF; rw [if_neg (by omega), if_neg h1]
  rw [hAe] at hA
  simp only at hA
  unfold typesF
  rw [if_neg (by omega), if_neg h1]
  by_cases h3 : (chkN V).1 = 0
  case neg =>
    have e3 : ((chkN V).1 = 0) = False := eq_false h3
    rw [if_pos h3]
    generalize chkN V = D at *
    (repeat' (first
    | exact trivial
    | (with_reducible first | refine awA ?_ | refine awB ?_ | refine awC ?_ | refine awD ?_ | refine awE ?_ | refine awF ?_ | refine awG ?_ | refine awH ?_ | refine awI ?_ | refine awJ ?_ | refine awK ?_ | refine awL ?_ | refine awM (by decide) ?_)
    | (refine aw_draw (id := 5) (t := (.node [0, 1, 2] [])) (drR [8] [] []) mixed (by kernel_rfl) (by kernel_rfl) (fun _ _ h => h) ?_)
    | (refine aw_draw (id := 12) (t := (.node [0, 1, 2, 3, 4, 5, 6, 7] [])) (drR [3, 12] [45] []) mixed (by kernel_rfl) (by kernel_rfl) (fun _ _ h => h) ?_)
    | (refine aw_draw (id := 16) (t := (.node [0, 1, 2, 3, 4, 5, 6] [])) (drR [3, 12] [61] [63]) mixed (by kernel_rfl) (by kernel_rfl) (fun _ _ h => h) ?_)
    | (refine at_done (by simp only [List.filterMap_cons, List.filterMap_nil, List.getElem?_toArray, List.getElem?_cons_zero, List.getElem?_cons_succ]; exact rfl) ?_) | (refine at_alt (by simp only [List.filterMap_cons, List.filterMap_nil, List.getElem?_toArray, List.getElem?_cons_zero, List.getElem?_cons_succ]; exact rfl) ?_) | refine qalt_normal ?_ | refine ats_cons ?_ ?_ | exact ats_nil
    | ((with_reducible first | refine awN (tyOf_ok _) [] ?_ | refine awO (tyOf_ok _) [] ?_ | refine awP (tyOf_ok _) [] ?_ | refine awQ ?_ | refine awR ?_ | refine awS ?_ | refine awT ?_ | refine awU ?_); intro r hr; simp only [go_sem, Nat.reduceBEq, Nat.reduceBneDiff, Nat.reduceLT, Nat.reduceLeDiff, Nat.reduceAdd, Nat.reduceMul, Nat.reduceSub, Nat.reduceEqDiff, reduceCtorEq, vSch, e3] at hr; subst hr; (first | refine caA (fun _ => hA) rfl ?_ ?_ ?_ | refine caA (fun _ => hC) rfl ?_ ?_ ?_ | refine awV ?_ ?_ | refine awW ?_ ?_ | refine endK ?_ ?_ | refine endGK ?_ ?_ ?_ | (refine condK (fun h => ?_) (fun h => ?_) <;> (try simp only [go_sem, reduceCtorEq] at h) <;> (try (exfalso; omega))))) | fail)) <;> (try omega)
    all_goals first | exact up_nT _ _ | exact obUp_row0 obUp_nil
  obtain ⟨hc1, hc2⟩ := hc h3
  have h3b := chkL_at V 1 0 h3
  rw [h3] at hC
  change (chkN V).2 = 0 at h3b
  rw [h3b] at hC
  rw [if_neg (by omega)]
  have hr := check_right h0
  obtain ⟨tn, rfl⟩ : ∃ tn : Nat, t = tn := ⟨t.toNat, by omega⟩
  rw [Int.toNat_natCast]
  obtain ⟨hS1, hS2⟩ := walkS_one (ts := ts) c tn 0 []
  have hwe : (c.walk ts tn 0 []).2.2.1 ≠ 0 → (c.walk ts tn 0 []).1 = [] := walk_nil _ c (Nat.le_refl _) tn 0 []
  generalize hR : walkS ts [c] [(tn : Int)] 0 [] = R at *
  generalize c.walk ts tn 0 [] = Wk at *
  (repeat' (first
    | exact trivial
    | (with_reducible first | refine awA ?_ | refine awB ?_ | refine awC ?_ | refine awD ?_ | refine awE ?_ | refine awF ?_ | refine awG ?_ | refine awH ?_ | refine awI ?_ | refine awJ ?_ | refine awK ?_ | refine awL ?_ | refine awM (by decide) ?_)
    | (refine aw_draw (id := 5) (t := (.node [0, 1, 2] [])) (drR [8] [] []) mixed (by kernel_rfl) (by kernel_rfl) (fun _ _ h => h) ?_)
    | (refine aw_draw (id := 12) (t := (.node [0, 1, 2, 3, 4, 5, 6, 7] [])) (drR [3, 12] [45] []) mixed (by kernel_rfl) (by kernel_rfl) (fun _ _ h => h) ?_)
    | (refine aw_draw (id := 16) (t := (.node [0, 1, 2, 3, 4, 5, 6] [])) (drR [3, 12] [61] [63]) mixed (by kernel_rfl) (by kernel_rfl) (fun _ _ h => h) ?_)
    | (refine at_done (by simp only [List.filterMap_cons, List.filterMap_nil, List.getElem?_toArray, List.getElem?_cons_zero, List.getElem?_cons_succ]; exact rfl) ?_) | (refine at_alt (by simp only [List.filterMap_cons, List.filterMap_nil, List.getElem?_toArray, List.getElem?_cons_zero, List.getElem?_cons_succ]; exact rfl) ?_) | refine qalt_normal ?_ | refine ats_cons ?_ ?_ | exact ats_nil
    | ((with_reducible first | refine awN (tyOf_ok _) [31] ?_ | refine awO (tyOf_ok _) [31] ?_ | refine awP (tyOf_ok _) [31] ?_ | refine awQ ?_ | refine awR ?_ | refine awS ?_ | refine awT ?_ | refine awU ?_); intro r hr; simp only [go_sem, Nat.reduceBEq, Nat.reduceBneDiff, Nat.reduceLT, Nat.reduceLeDiff, Nat.reduceAdd, Nat.reduceMul, Nat.reduceSub, Nat.reduceEqDiff, reduceCtorEq, vSch, encNs_len, Int.toNat_zero, List.replicate_zero] at hr; subst hr; (first | refine caA (fun _ => hA) rfl ?_ ?_ ?_ | refine caA (fun _ => hC) rfl ?_ ?_ ?_ | refine awV ?_ ?_ | refine awW ?_ ?_ | refine endK ?_ ?_ | refine endGK ?_ ?_ ?_ | (refine condK (fun h => ?_) (fun h => ?_) <;> (try simp only [go_sem, reduceCtorEq] at h) <;> (try (exfalso; omega))))) | fail)) <;> (try omega)
  have hv1 : [[vI (tn : Int)]] = v8 [(tn : Int)] := rfl
  refine go_loop [3, 6, 7, 9, 10, 33, 34, 35] [3, 7, 10, 29, 31] (fun q : Nat × List Int × List Int => ⟨[(3, true, .ptr 1 3 0 0), (6, true, nilS0), (7, true, .ptr 1 7 0 0), (9, true, .ref 3 1 29 0 q.2.1.length), (10, true, .ptr 1 10 0 0), (33, true, .lst 3 (encNs V)), (34, true, vI V.length), (35, true, vI q.1)],
      [(3, .var [.lst 4 (encTs ts), .lst 2 (encRs rs)]), (7, .var [vI 0, vI 0]), (10, .var [.ref 3 1 31 0 q.2.2.length]), (29, .row 3 1 (v8 q.2.1)), (31, .row 3 1 (v8 q.2.2))]⟩)
    (fun q => q.1 ≤ V.length ∧ q.2.1.length = q.1 ∧ ∃ (cs : List Tr) (L : List Int), q.2.2 = L.reverse ∧ cs.length = L.length ∧ V.drop q.1 = Tr.flat.flatL cs ∧ Tr.ok.okL cs ∧ (∀ z ∈ L, 0 ≤ z ∧ z < ts.length) ∧ walkS ts cs L q.1 q.2.1 = R) (fun q => V.length - q.1) (0, [], [(tn : Int)])
    (by simp only [go_sem, Nat.reduceBEq, Nat.reduceBneDiff, Nat.reduceLT, Nat.reduceLeDiff, Nat.reduceAdd, Nat.reduceMul, Nat.reduceSub, Nat.reduceEqDiff, reduceCtorEq, hv1, nilS0]; exact rfl) ⟨Nat.zero_le _, rfl, [c], [(tn : Int)], rfl, rfl, by simp [Tr.flat.flatL, hc1], ⟨hc2, trivial⟩, fun z hz => by rw [List.mem_singleton] at hz; subst hz; omega, hR⟩ ?_
  clear hR hA hC hc
  intro ⟨k, out, st⟩ ⟨hk, hol, cs, L, hst, hcl, hdr, hok, hL, hw⟩
  simp only at hk hol hst hcl hdr hok hL hw
  have hwk := wrap_i64 (n := (k : Int) + 1) (by omega)
  by_cases hlt : k < V.length
  · have e1 : ((k : Int) < V.length) = True := eq_true (by omega)
    have g1 := encNs_get hlt
    rw [List.drop_eq_getElem_cons hlt] at hdr
    have hxo := hv _ (List.getElem_mem hlt)
    cases cs with
    | nil => cases hdr
    | cons cc cs =>
    cases cc with
    | node x ks =>
    cases L with
    | nil => cases hcl
    | cons z L =>
    have hz := hL z (.head _)
    obtain ⟨zn, rfl⟩ : ∃ zn : Nat, z = zn := ⟨z.toNat, by omega⟩
    simp only [Tr.flat.flatL, Tr.flat, List.cons_append] at hdr
    injection hdr with hx hdr
    rw [hx] at g1 hxo
    obtain ⟨⟨o1, o2, o3⟩, o4⟩ := hok
    rw [walkS_node] at hw
    have hzt : zn < ts.length := by omega
    have hT := tyA_lt (ts := ts) hzt
    rw [hT] at hw
    have hrz := hr zn hzt
    have hgt := encTs_get hzt
    have hfit := tfits_any ts[zn] zn hrz x hxo
    have hst' : st = L.reverse ++ [(zn : Int)] := by rw [hst]; simp
    subst hst'
    have hlL : L.length ≤ 100000000 := by
      have h2 := tflatL_len cs
      have h3 : (V.drop (k + 1)).length = ks.length * 0 + (V.length - (k + 1)) := by simp
      rw [hdr, List.length_append] at h3
      simp only [List.length_cons] at hcl
      omega
    have hN := next_G L.reverse zn (by simp; omega)
    have zz : ((zn : Int)).toNat = zn := by omega
    unfold obT at hN
    have hso : out.length ≤ 100000000 := by omega
    by_cases hf : fitsF ts[zn] x = 0
    · have f1 : (fitsF ts[zn] x = 0) = True := eq_true hf
      rw [if_neg (by omega)] at hw
      have hK := kids_G ts[zn] zn hrz x hxo o1 hf L.reverse (by simp; omega)
      rw [o2, Int.toNat_natCast] at hK
      have hel : ∀ y ∈ kidsT ts[zn] x.n 0 ks.length, 0 ≤ y ∧ y < ts.length := fun y hy => by
        obtain ⟨i, hi, rfl⟩ := List.mem_map.1 hy
        have hi2 : i < ks.length := by simpa using hi
        have := (elem_ok hrz o1 hf (i := i) (by omega)).1
        omega
      have hst2 : L.reverse ++ (kidsT ts[zn] x.n 0 ks.length).reverse = (kidsT ts[zn] x.n 0 ks.length ++ L).reverse := by simp
      rw [hst2] at hK
      have hkl := kidsT_len ts[zn] x.n 0 ks.length
      generalize hKT : kidsT ts[zn] x.n 0 ks.length = KT at *
      unfold obT at hK
      rw [o2] at g1
      rw [o2] at hfit
      generalize hTz : ts[zn] = Tz at *
      have hto : (v8 out).take out.length = v8 out := take_len (by rw [v8_len]; exact Nat.le_refl _)
      have hlo : (out ++ [(zn : Int)]).length = out.length + 1 := by simp
      (repeat' (first
    | exact trivial
    | (with_reducible first | refine awA ?_ | refine awB ?_ | refine awC ?_ | refine awD ?_ | refine awE ?_ | refine awF ?_ | refine awG ?_ | refine awH ?_ | refine awI ?_ | refine awJ ?_ | refine awK ?_ | refine awL ?_ | refine awM (by decide) ?_)
    | (refine aw_draw (id := 5) (t := (.node [0, 1, 2] [])) (drR [8] [] []) mixed (by kernel_rfl) (by kernel_rfl) (fun _ _ h => h) ?_)
    | (refine aw_draw (id := 12) (t := (.node [0, 1, 2, 3, 4, 5, 6, 7] [])) (drR [3, 12] [45] []) mixed (by kernel_rfl) (by kernel_rfl) (fun _ _ h => h) ?_)
    | (refine aw_draw (id := 16) (t := (.node [0, 1, 2, 3, 4, 5, 6] [])) (drR [3, 12] [61] [63]) mixed (by kernel_rfl) (by kernel_rfl) (fun _ _ h => h) ?_)
    | (refine at_done (by simp only [List.filterMap_cons, List.filterMap_nil, List.getElem?_toArray, List.getElem?_cons_zero, List.getElem?_cons_succ]; exact rfl) ?_) | (refine at_alt (by simp only [List.filterMap_cons, List.filterMap_nil, List.getElem?_toArray, List.getElem?_cons_zero, List.getElem?_cons_succ]; exact rfl) ?_) | refine qalt_normal ?_ | refine ats_cons ?_ ?_ | exact ats_nil
    | ((with_reducible first | refine awN (tyOf_ok _) [] ?_ | refine awO (tyOf_ok _) [] ?_ | refine awP (tyOf_ok _) [] ?_ | refine awQ ?_ | refine awR ?_ | refine awS ?_ | refine awT ?_ | refine awU ?_); intro r hr; simp only [go_sem, Nat.reduceBEq, Nat.reduceBneDiff, Nat.reduceLT, Nat.reduceLeDiff, Nat.reduceAdd, Nat.reduceMul, Nat.reduceSub, Nat.reduceEqDiff, reduceCtorEq, e1, g1, hgt, zz, hwk, f1, hto, hlo, v8_app, vU] at hr; subst hr; (first | refine caA (fun _ => hfit) rfl ?_ ?_ ?_ | refine awV ?_ ?_ | refine awW ?_ ?_ | refine endK ?_ ?_ | refine endGK ?_ ?_ ?_ | (refine condK (fun h => ?_) (fun h => ?_) <;> (try simp only [go_sem, reduceCtorEq] at h) <;> (try (exfalso; omega)))))
    | (refine go_callGd 40 rfl [(10, 10000), (31, 15000)] [(10000, 10), (15000, 31)] [31] [10] (by simp only [go_sem, Nat.reduceBEq, Nat.reduceBneDiff, Nat.reduceLT, Nat.reduceLeDiff, Nat.reduceAdd, Nat.reduceMul, Nat.reduceSub, Nat.reduceEqDiff, reduceCtorEq, e1, g1, hgt, zz, hwk, f1, hto, hlo, v8_app, vU]; exact rfl) ?_ rfl rfl (by first | exact .inl rfl | exact .inr rfl) (by simp only [go_sem, Nat.reduceBEq, Nat.reduceBneDiff, Nat.reduceLT, Nat.reduceLeDiff, Nat.reduceAdd, Nat.reduceMul, Nat.reduceSub, Nat.reduceEqDiff, reduceCtorEq, e1, g1, hgt, zz, hwk, f1, hto, hlo, v8_app, vU] <;> exact rfl) (hN) (.inl rfl) ?_)
    | (refine go_callGd 63 rfl [(10, 10000), (31, 15000)] [(10000, 10), (15000, 31)] [31] [10] (by simp only [go_sem, Nat.reduceBEq, Nat.reduceBneDiff, Nat.reduceLT, Nat.reduceLeDiff, Nat.reduceAdd, Nat.reduceMul, Nat.reduceSub, Nat.reduceEqDiff, reduceCtorEq, e1, g1, hgt, zz, hwk, f1, hto, hlo, v8_app, vU]; exact rfl) ?_ rfl rfl (by first | exact .inl rfl | exact .inr rfl) (by simp only [go_sem, Nat.reduceBEq, Nat.reduceBneDiff, Nat.reduceLT, Nat.reduceLeDiff, Nat.reduceAdd, Nat.reduceMul, Nat.reduceSub, Nat.reduceEqDiff, reduceCtorEq, e1, g1, hgt, zz, hwk, f1, hto, hlo, v8_app, vU] <;> exact rfl) (hK) (.inl rfl) ?_) | fail)) <;> (try omega)
      all_goals exact ⟨(k + 1, out ++ [(zn : Int)], (KT ++ L).reverse), by simp only [go_sem, Nat.reduceBEq, Nat.reduceBneDiff, Nat.reduceLT, Nat.reduceLeDiff, Nat.reduceAdd, Nat.reduceMul, Nat.reduceSub, Nat.reduceEqDiff, reduceCtorEq, hlo] <;> exact rfl, ⟨hlt, by simp only; omega, ks ++ cs, KT ++ L, rfl, by simp only [List.length_append, List.length_cons] at hcl ⊢; omega, by rw [flatL_app]; exact hdr, okL_appT o3 o4, fun y hy => by rcases List.mem_append.1 hy with h | h; (· exact hel y h); exact hL y (.tail _ h), hw⟩, by simp only; omega⟩
    · have f1 : (fitsF ts[zn] x = 0) = False := eq_false hf
      rw [if_pos hf] at hw
      subst hw
      obtain ⟨w1, w2, w3, w4⟩ := Wk
      simp only [Prod.mk.injEq] at hS1 hwe
      obtain ⟨rfl, rfl⟩ := hS1
      have hw1 := hwe hf
      subst hw1
      generalize hTz : ts[zn] = Tz at *
      (repeat' (first
    | exact trivial
    | (with_reducible first | refine awA ?_ | refine awB ?_ | refine awC ?_ | refine awD ?_ | refine awE ?_ | refine awF ?_ | refine awG ?_ | refine awH ?_ | refine awI ?_ | refine awJ ?_ | refine awK ?_ | refine awL ?_ | refine awM (by decide) ?_)
    | (refine aw_draw (id := 5) (t := (.node [0, 1, 2] [])) (drR [8] [] []) mixed (by kernel_rfl) (by kernel_rfl) (fun _ _ h => h) ?_)
    | (refine aw_draw (id := 12) (t := (.node [0, 1, 2, 3, 4, 5, 6, 7] [])) (drR [3, 12] [45] []) mixed (by kernel_rfl) (by kernel_rfl) (fun _ _ h => h) ?_)
    | (refine aw_draw (id := 16) (t := (.node [0, 1, 2, 3, 4, 5, 6] [])) (drR [3, 12] [61] [63]) mixed (by kernel_rfl) (by kernel_rfl) (fun _ _ h => h) ?_)
    | (refine at_done (by simp only [List.filterMap_cons, List.filterMap_nil, List.getElem?_toArray, List.getElem?_cons_zero, List.getElem?_cons_succ]; exact rfl) ?_) | (refine at_alt (by simp only [List.filterMap_cons, List.filterMap_nil, List.getElem?_toArray, List.getElem?_cons_zero, List.getElem?_cons_succ]; exact rfl) ?_) | refine qalt_normal ?_ | refine ats_cons ?_ ?_ | exact ats_nil
    | ((with_reducible first | refine awN (tyOf_ok _) [] ?_ | refine awO (tyOf_ok _) [] ?_ | refine awP (tyOf_ok _) [] ?_ | refine awQ ?_ | refine awR ?_ | refine awS ?_ | refine awT ?_ | refine awU ?_); intro r hr; simp only [go_sem, Nat.reduceBEq, Nat.reduceBneDiff, Nat.reduceLT, Nat.reduceLeDiff, Nat.reduceAdd, Nat.reduceMul, Nat.reduceSub, Nat.reduceEqDiff, reduceCtorEq, e1, g1, hgt, zz, hwk, f1, vU, nilS0] at hr; subst hr; (first | refine caA (fun _ => hfit) rfl ?_ ?_ ?_ | refine awV ?_ ?_ | refine awW ?_ ?_ | refine endK ?_ ?_ | refine endGK ?_ ?_ ?_ | (refine condK (fun h => ?_) (fun h => ?_) <;> (try simp only [go_sem, reduceCtorEq] at h) <;> (try (exfalso; omega)))))
    | (refine go_callGd 40 rfl [(10, 10000), (31, 15000)] [(10000, 10), (15000, 31)] [31] [10] (by simp only [go_sem, Nat.reduceBEq, Nat.reduceBneDiff, Nat.reduceLT, Nat.reduceLeDiff, Nat.reduceAdd, Nat.reduceMul, Nat.reduceSub, Nat.reduceEqDiff, reduceCtorEq, e1, g1, hgt, zz, hwk, f1, vU, nilS0]; exact rfl) ?_ rfl rfl (by first | exact .inl rfl | exact .inr rfl) (by simp only [go_sem, Nat.reduceBEq, Nat.reduceBneDiff, Nat.reduceLT, Nat.reduceLeDiff, Nat.reduceAdd, Nat.reduceMul, Nat.reduceSub, Nat.reduceEqDiff, reduceCtorEq, e1, g1, hgt, zz, hwk, f1, vU, nilS0] <;> exact rfl) (hN) (.inl rfl) ?_) | fail)) <;> (try omega)
      all_goals first | exact up_nT _ _ | exact obUp_row0 obUp_nil
  · have e1 : ((k : Int) < V.length) = False := eq_false (by omega)
    have hcs : cs = [] := by
      cases cs with
      | nil => rfl
      | cons d ds =>
        have h1 := flat_pos d
        rw [List.drop_eq_nil_of_le (by omega)] at hdr
        have h2 := congrArg List.length hdr
        simp only [Tr.flat.flatL, List.length_append, List.length_nil] at h2
        omega
    subst hcs
    rw [walkS] at hw
    subst hw
    obtain ⟨w1, w2, w3, w4⟩ := Wk
    simp only [Prod.mk.injEq] at hS1 hS2
    obtain ⟨rfl, rfl⟩ := hS1
    have hw1 := hS2 rfl
    subst hw1
    (repeat' (first
    | exact trivial
    | (with_reducible first | refine awA ?_ | refine awB ?_ | refine awC ?_ | refine awD ?_ | refine awE ?_ | refine awF ?_ | refine awG ?_ | refine awH ?_ | refine awI ?_ | refine awJ ?_ | refine awK ?_ | refine awL ?_ | refine awM (by decide) ?_)
    | (refine aw_draw (id := 5) (t := (.node [0, 1, 2] [])) (drR [8] [] []) mixed (by kernel_rfl) (by kernel_rfl) (fun _ _ h => h) ?_)
    | (refine aw_draw (id := 12) (t := (.node [0, 1, 2, 3, 4, 5, 6, 7] [])) (drR [3, 12] [45] []) mixed (by kernel_rfl) (by kernel_rfl) (fun _ _ h => h) ?_)
    | (refine aw_draw (id := 16) (t := (.node [0, 1, 2, 3, 4, 5, 6] [])) (drR [3, 12] [61] [63]) mixed (by kernel_rfl) (by kernel_rfl) (fun _ _ h => h) ?_)
    | (refine at_done (by simp only [List.filterMap_cons, List.filterMap_nil, List.getElem?_toArray, List.getElem?_cons_zero, List.getElem?_cons_succ]; exact rfl) ?_) | (refine at_alt (by simp only [List.filterMap_cons, List.filterMap_nil, List.getElem?_toArray, List.getElem?_cons_zero, List.getElem?_cons_succ]; exact rfl) ?_) | refine qalt_normal ?_ | refine ats_cons ?_ ?_ | exact ats_nil
    | ((with_reducible first | refine awN (tyOf_ok _) [] ?_ | refine awO (tyOf_ok _) [] ?_ | refine awP (tyOf_ok _) [] ?_ | refine awQ ?_ | refine awR ?_ | refine awS ?_ | refine awT ?_ | refine awU ?_); intro r hr; simp only [go_sem, Nat.reduceBEq, Nat.reduceBneDiff, Nat.reduceLT, Nat.reduceLeDiff, Nat.reduceAdd, Nat.reduceMul, Nat.reduceSub, Nat.reduceEqDiff, reduceCtorEq, e1, nilS0] at hr; subst hr; (first | refine awV ?_ ?_ | refine awW ?_ ?_ | refine endK ?_ ?_ | refine endGK ?_ ?_ ?_ | (refine condK (fun h => ?_) (fun h => ?_) <;> (try simp only [go_sem, reduceCtorEq] at h) <;> (try (exfalso; omega))))) | fail)) <;> (try omega)
    all_goals (first | exact AV.up_rfl _ | (repeat first | exact obUp_nil | refine obUp_cons rfl ?_))
/-- the first fault -/
theorem tCheck_any (ts : List TypeM) (rs : List RootM) (hts : ts.length ≤ 1000000000) (hrs : rs.length ≤ 1000000000) (hp : ∀ t ∈ ts, t.parts.length ≤ 1000000000) (t : Int) (V : List NodeM) (hV : V.length ≤ 100000000) (hv : ∀ x ∈ V, nodeOK x)
    (c : Tr) (hc : (chkN V).1 = 0 → c.flat = V ∧ c.ok) :
    PCall Tryd.prog 11 [vSch ts rs, vI t, .lst 3 (encNs V)] (fun r => r = .agg [vI (typesF ts rs t V c).2.1, vI (typesF ts rs t V c).2.2]) := by
  refine go_fn (tyOf_ok _) Tryd.func11 rfl rfl (by rw [Tryd.results11]) Tryd.ntmps11 rfl fun E => ?_
  have h := (tTypes_G ts rs hts hrs hp t V hV hv c hc).toP (by simp [AV.snapOK, AV.snapOK.snapOKL, lk, v8_len])
  generalize typesF ts rs t V c = q at *
  unfold vSch at h
  (repeat' (first
    | exact trivial
    | (with_reducible first | refine awA ?_ | refine awB ?_ | refine awC ?_ | refine awD ?_ | refine awE ?_ | refine awF ?_ | refine awG ?_ | refine awH ?_ | refine awI ?_ | refine awJ ?_ | refine awK ?_ | refine awL ?_ | refine awM (by decide) ?_)
    | ((with_reducible first | refine awN (tyOf_ok _) [] ?_ | refine awO (tyOf_ok _) [] ?_ | refine awP (tyOf_ok _) [] ?_ | refine awQ ?_ | refine awR ?_ | refine awS ?_); intro r hr; simp only [go_sem, Nat.reduceBEq, Nat.reduceBneDiff, Nat.reduceLT, Nat.reduceLeDiff, Nat.reduceAdd, Nat.reduceMul, Nat.reduceSub, Nat.reduceEqDiff, reduceCtorEq, vSch] at hr; subst hr; (first | refine caC (h) rfl ?_ ?_ ?_ | refine awV ?_ ?_ | refine awW ?_ ?_ | refine endK ?_ ?_ | (refine condK (fun h => ?_) (fun h => ?_) <;> (try simp only [go_sem, reduceCtorEq] at h) <;> (try (exfalso; omega))))) | fail)) <;> (try omega)
  exact rfl
end Go.Proofs.YtfgacgpicfknpaaDoor
end
section
namespace Go.Proofs.YtfgacgpicfknpaaDoor
open Go.RowKit
set_option maxRecDepth 100000
set_option maxHeartbeats 8000000
/-! mortiseref04.behind, Next; mortiseref11.Some; mortiselaw11.mustSome. -/
theorem behind_any (V : List NodeM) (hV : V.length ≤ 1000000000) (k0 : Nat) (d : Tr) (B : List NodeM) (hd : V.drop k0 = d.flat ++ B) (ho : d.ok) :
    PCall Tryd.prog 42 [.lst 3 (encNs V), vI k0] (fun r => r = vI ((k0 + d.flat.length : Nat) : Int)) := by
  refine go_fn (tyOf_ok _) Tryd.func42 rfl rfl (by rw [Tryd.results42]) Tryd.ntmps42 rfl fun E => ?_
  (repeat' (first
    | exact trivial
    | (with_reducible first | refine awA ?_ | refine awB ?_ | refine awC ?_ | refine awD ?_ | refine awE ?_ | refine awF ?_ | refine awG ?_ | refine awH ?_ | refine awI ?_ | refine awJ ?_ | refine awK ?_ | refine awL ?_ | refine awM (by decide) ?_)
    | ((with_reducible first | refine awN (tyOf_ok _) [] ?_ | refine awO (tyOf_ok _) [] ?_ | refine awP (tyOf_ok _) [] ?_ | refine awQ ?_ | refine awR ?_ | refine awS ?_); intro r hr; simp only [go_sem, Nat.reduceBEq, Nat.reduceBneDiff, Nat.reduceLT, Nat.reduceLeDiff, Nat.reduceAdd, Nat.reduceMul, Nat.reduceSub, Nat.reduceEqDiff, reduceCtorEq] at hr; subst hr; (first | refine awV ?_ ?_ | refine awW ?_ ?_ | refine endK ?_ ?_ | (refine condK (fun h => ?_) (fun h => ?_) <;> (try simp only [go_sem, reduceCtorEq] at h) <;> (try (exfalso; omega))))) | fail)) <;> (try omega)
  have hlen := congrArg List.length hd
  simp only [List.length_drop, List.length_append] at hlen
  have hpos := flat_pos d
  refine go_loop [0, 1, 5] [] (fun q : Nat × Nat => ⟨[(0, true, .lst 3 (encNs V)), (1, true, vI q.1), (5, true, vI q.2)], []⟩)
    (fun q => q.1 ≤ V.length ∧ ∃ cs : List Tr, V.drop q.1 = Tr.flat.flatL cs ++ B ∧ Tr.ok.okL cs ∧ q.2 = cs.length ∧ q.1 + (Tr.flat.flatL cs).length = k0 + d.flat.length) (fun q => V.length - q.1) (k0, 1) (by simp only [go_sem, Nat.reduceBEq, Nat.reduceBneDiff, Nat.reduceLT, Nat.reduceLeDiff, Nat.reduceAdd, Nat.reduceMul, Nat.reduceSub, Nat.reduceEqDiff, reduceCtorEq]; exact rfl)
    ⟨by simp only; omega, [d], by simpa [Tr.flat.flatL] using hd, ⟨ho, trivial⟩, rfl, by simp [Tr.flat.flatL]⟩ ?_
  intro ⟨k, w⟩ ⟨hk, cs, hdr, hok, hw, hs⟩
  simp only at hk hdr hw hs
  cases cs with
  | nil =>
    simp only [List.length_nil] at hw
    simp only [Tr.flat.flatL, List.length_nil, Nat.add_zero] at hs
    subst hw
    subst hs
    (repeat' (first
    | exact trivial
    | (with_reducible first | refine awA ?_ | refine awB ?_ | refine awC ?_ | refine awD ?_ | refine awE ?_ | refine awF ?_ | refine awG ?_ | refine awH ?_ | refine awI ?_ | refine awJ ?_ | refine awK ?_ | refine awL ?_ | refine awM (by decide) ?_)
    | ((with_reducible first | refine awN (tyOf_ok _) [] ?_ | refine awO (tyOf_ok _) [] ?_ | refine awP (tyOf_ok _) [] ?_ | refine awQ ?_ | refine awR ?_ | refine awS ?_); intro r hr; simp only [go_sem, Nat.reduceBEq, Nat.reduceBneDiff, Nat.reduceLT, Nat.reduceLeDiff, Nat.reduceAdd, Nat.reduceMul, Nat.reduceSub, Nat.reduceEqDiff, reduceCtorEq] at hr; subst hr; (first | refine awV ?_ ?_ | refine awW ?_ ?_ | refine endK ?_ ?_ | (refine condK (fun h => ?_) (fun h => ?_) <;> (try simp only [go_sem, reduceCtorEq] at h) <;> (try (exfalso; omega))))) | fail)) <;> (try omega)
    all_goals exact rfl
  | cons c cs =>
    obtain ⟨x, ks⟩ := c
    obtain ⟨⟨o1, o2, o3⟩, o4⟩ := hok
    have hf : Tr.flat.flatL (Tr.node x ks :: cs) = x :: Tr.flat.flatL (ks ++ cs) := by rw [flatL_app]; rfl
    rw [hf] at hdr hs
    have hl2 := congrArg List.length hdr
    simp only [List.length_drop, List.length_append, List.length_cons] at hl2
    have hlt : k < V.length := by omega
    rw [List.drop_eq_getElem_cons hlt, List.cons_append] at hdr
    injection hdr with hx hdr
    have g1 := encNs_get hlt
    rw [hx] at g1
    have hkk := rightN_kids o1
    have ht := tflatL_len (ks ++ cs)
    simp only [List.length_append] at ht
    simp only [List.length_cons] at hw
    subst hw
    have e1 : (0 < (((cs.length + 1 : Nat)) : Int)) = True := eq_true (by omega)
    have hw1 := wrap_i64 (n := ((cs.length + 1 : Nat) : Int) - 1) (by omega)
    have hw2 := wrap_i64 (n := ((cs.length + 1 : Nat) : Int) - 1 + x.kids) (by omega)
    have hw3 := wrap_i64 (n := (k : Int) + 1) (by omega)
    have zk : ((k : Int)).toNat = k := by omega
    have hnx : ((cs.length + 1 : Nat) : Int) - 1 + x.kids = ((ks ++ cs).length : Nat) := by rw [List.length_append]; omega
    rw [hnx] at hw2
    generalize hcl : ((cs.length + 1 : Nat) : Int) = W at *
    (repeat' (first
    | exact trivial
    | (with_reducible first | refine awA ?_ | refine awB ?_ | refine awC ?_ | refine awD ?_ | refine awE ?_ | refine awF ?_ | refine awG ?_ | refine awH ?_ | refine awI ?_ | refine awJ ?_ | refine awK ?_ | refine awL ?_ | refine awM (by decide) ?_)
    | ((with_reducible first | refine awN (tyOf_ok _) [] ?_ | refine awO (tyOf_ok _) [] ?_ | refine awP (tyOf_ok _) [] ?_ | refine awQ ?_ | refine awR ?_ | refine awS ?_); intro r hr; simp only [go_sem, Nat.reduceBEq, Nat.reduceBneDiff, Nat.reduceLT, Nat.reduceLeDiff, Nat.reduceAdd, Nat.reduceMul, Nat.reduceSub, Nat.reduceEqDiff, reduceCtorEq, g1, e1, hw1, hnx, hw2, hw3, zk] at hr; subst hr; (first | refine awV ?_ ?_ | refine awW ?_ ?_ | refine endK ?_ ?_ | (refine condK (fun h => ?_) (fun h => ?_) <;> (try simp only [go_sem, reduceCtorEq] at h) <;> (try (exfalso; omega))))) | fail)) <;> (try omega)
    all_goals exact ⟨(k + 1, (ks ++ cs).length), by simp only [go_sem, Nat.reduceBEq, Nat.reduceBneDiff, Nat.reduceLT, Nat.reduceLeDiff, Nat.reduceAdd, Nat.reduceMul, Nat.reduceSub, Nat.reduceEqDiff, reduceCtorEq] <;> exact rfl, ⟨hlt, ks ++ cs, hdr, okL_appT o3 o4, rfl, by simp only [List.length_cons] at hs ⊢; omega⟩, by simp only; omega⟩
theorem next04_any (V : List NodeM) (hV : V.length ≤ 1000000000) (h0 : (chkN V).1 = 0) (k : Nat) (d : Tr) (B : List NodeM) (hd : V.drop k = d.flat ++ B) (ho : d.ok) :
    PCall Tryd.prog 29 [.lst 3 (encNs V), vI k] (fun r => r = .tup [vI ((k + d.flat.length : Nat) : Int), vI 0]) := by
  refine go_fn (tyOf_ok _) Tryd.func29 rfl rfl (by rw [Tryd.results29]) Tryd.ntmps29 rfl fun E => ?_
  have hlen := congrArg List.length hd
  simp only [List.length_drop, List.length_append] at hlen
  have hpos := flat_pos d
  have hC := check04_any V hV
  have hB := behind_any V hV k d B hd ho
  rw [h0] at hC
  generalize (chkN V).2 = C2 at *
  generalize k + d.flat.length = nx at *
  have e1 : ((k : Int) < 0) = False := eq_false (by omega)
  have e2 : ((V.length : Int) ≤ k) = False := eq_false (by omega)
  (repeat' (first
    | exact trivial
    | (with_reducible first | refine awA ?_ | refine awB ?_ | refine awC ?_ | refine awD ?_ | refine awE ?_ | refine awF ?_ | refine awG ?_ | refine awH ?_ | refine awI ?_ | refine awJ ?_ | refine awK ?_ | refine awL ?_ | refine awM (by decide) ?_)
    | ((with_reducible first | refine awN (tyOf_ok _) [] ?_ | refine awO (tyOf_ok _) [] ?_ | refine awP (tyOf_ok _) [] ?_ | refine awQ ?_ | refine awR ?_ | refine awS ?_); intro r hr; simp only [go_sem, Nat.reduceBEq, Nat.reduceBneDiff, Nat.reduceLT, Nat.reduceLeDiff, Nat.reduceAdd, Nat.reduceMul, Nat.reduceSub, Nat.reduceEqDiff, reduceCtorEq, e1, e2] at hr; subst hr; (first | refine caA (fun _ => hC) rfl ?_ ?_ ?_ | refine caA (fun _ => hB) rfl ?_ ?_ ?_ | refine awV ?_ ?_ | refine awW ?_ ?_ | refine endK ?_ ?_ | (refine condK (fun h => ?_) (fun h => ?_) <;> (try simp only [go_sem, reduceCtorEq] at h) <;> (try (exfalso; omega))))) | fail)) <;> (try omega)
  all_goals exact rfl
theorem rSome11_any (ts : List TypeM) (rs : List RootM) (hts : ts.length ≤ 1000000000) (hrs : rs.length ≤ 1000000000) (hp : ∀ t ∈ ts, t.parts.length ≤ 1000000000) (hg : ∀ t ∈ ts, ∀ p ∈ t.parts, I64 p.tag) (t : Int) (ht : I64 t) (ps : List Int) (hps : ps.length ≤ 1000000000) :
    PCall Tryd.prog 20 [vSch ts rs, vI t, .lst 1 (v8 ps)] (fun r => r = .tup [.lst 3 (encNs (someF ts rs t ps).1), vI (someF ts rs t ps).2]) := by
  refine go_fn (tyOf_ok _) Tryd.func20 rfl rfl (by rw [Tryd.results20]) Tryd.ntmps20 rfl fun E => ?_
  have h := Some_any ts rs hts hrs hp hg t ht ps hps
  generalize someF ts rs t ps = q at *
  unfold vSch at h
  (repeat' (first
    | exact trivial
    | (with_reducible first | refine awA ?_ | refine awB ?_ | refine awC ?_ | refine awD ?_ | refine awE ?_ | refine awF ?_ | refine awG ?_ | refine awH ?_ | refine awI ?_ | refine awJ ?_ | refine awK ?_ | refine awL ?_ | refine awM (by decide) ?_)
    | ((with_reducible first | refine awN (tyOf_ok _) [] ?_ | refine awO (tyOf_ok _) [] ?_ | refine awP (tyOf_ok _) [] ?_ | refine awQ ?_ | refine awR ?_ | refine awS ?_); intro r hr; simp only [go_sem, Nat.reduceBEq, Nat.reduceBneDiff, Nat.reduceLT, Nat.reduceLeDiff, Nat.reduceAdd, Nat.reduceMul, Nat.reduceSub, Nat.reduceEqDiff, reduceCtorEq, vSch] at hr; subst hr; (first | refine caC (h) rfl ?_ ?_ ?_ | refine awV ?_ ?_ | refine awW ?_ ?_ | refine endK ?_ ?_ | (refine condK (fun h => ?_) (fun h => ?_) <;> (try simp only [go_sem, reduceCtorEq] at h) <;> (try (exfalso; omega))))) | fail)) <;> (try omega)
  exact rfl
theorem mustSome_any (ts : List TypeM) (rs : List RootM) (hts : ts.length ≤ 1000000000) (hrs : rs.length ≤ 1000000000) (hp : ∀ t ∈ ts, t.parts.length ≤ 1000000000) (hg : ∀ t ∈ ts, ∀ p ∈ t.parts, I64 p.tag) (t : Int) (ht : I64 t) (ps : List Int) (hps : ps.length ≤ 1000000000) :
    PCall Tryd.prog 28 [vSch ts rs, vI t, .lst 1 (v8 ps)] (fun r => r = .lst 3 (encNs (someF ts rs t ps).1)) := by
  refine go_fn (tyOf_ok _) Tryd.func28 rfl rfl (by rw [Tryd.results28]) Tryd.ntmps28 rfl fun E => ?_
  have h := rSome11_any ts rs hts hrs hp hg t ht ps hps
  generalize someF ts rs t ps = q at *
  unfold vSch at h
  (repeat' (first
    | exact trivial
    | (with_reducible first | refine awA ?_ | refine awB ?_ | refine awC ?_ | refine awD ?_ | refine awE ?_ | refine awF ?_ | refine awG ?_ | refine awH ?_ | refine awI ?_ | refine awJ ?_ | refine awK ?_ | refine awL ?_ | refine awM (by decide) ?_)
    | ((with_reducible first | refine awN (tyOf_ok _) [] ?_ | refine awO (tyOf_ok _) [] ?_ | refine awP (tyOf_ok _) [] ?_ | refine awQ ?_ | refine awR ?_ | refine awS ?_); intro r hr; simp only [go_sem, Nat.reduceBEq, Nat.reduceBneDiff, Nat.reduceLT, Nat.reduceLeDiff, Nat.reduceAdd, Nat.reduceMul, Nat.reduceSub, Nat.reduceEqDiff, reduceCtorEq, vSch] at hr; subst hr; (first | refine caC (h) rfl ?_ ?_ ?_ | refine awV ?_ ?_ | refine awW ?_ ?_ | refine endK ?_ ?_ | (refine condK (fun h => ?_) (fun h => ?_) <;> (try simp only [go_sem, reduceCtorEq] at h) <;> (try (exfalso; omega))))) | fail)) <;> (try omega)
  exact rfl
end Go.Proofs.YtfgacgpicfknpaaDoor
end
section
namespace Go.Proofs.YtfgacgpicfknpaaDoor
open Go.RowKit
set_option maxRecDepth 100000
set_option maxHeartbeats 8000000
/-! The node that a pick makes. -/
theorem mask_u64 (p : Int) (h0 : 0 ≤ p) (h1 : p < 18446744073709551616) {n : Int} (hn : n = 1 ∨ n = 2 ∨ n = 4) : bits .and .u64 p (256 ^ n.toNat - 1) = p % 256 ^ n.toNat := by
  have key : ∀ m : Nat, m < 64 → bits .and .u64 p (((2 : Nat) ^ m - 1 : Nat) : Int) = p % ((2 ^ m : Nat) : Int) := fun m hm => by
    have hlt : (2 : Nat) ^ m ≤ 2 ^ 63 := Nat.pow_le_pow_right (by decide) (by omega)
    have h63 : (2 : Nat) ^ 63 = 9223372036854775808 := by decide
    rw [u64_and p _ h0 (by omega) (by omega) (by omega), Int.toNat_natCast, Nat.and_two_pow_sub_one_eq_mod, Int.natCast_emod, Int.toNat_of_nonneg h0]
  rcases hn with rfl | rfl | rfl
  · have := key 8 (by decide); simpa using this
  · have := key 16 (by decide); simpa using this
  · have := key 32 (by decide); simpa using this
theorem picked_any (T : TypeM) (k : Nat) (hr : rightOK T k = true) (p : Int) (hp0 : 0 ≤ p) (hp1 : p < 18446744073709551616) :
    PCall Tryd.prog 39 [.agg [vI T.kind, vI T.n, vI T.elem, .lst 3 (encPs T.parts)], .v (.int .u64 p)] (fun r => r = .agg [vI (pickN T p).kind, .v (.int .u64 (pickN T p).n), vI (pickN T p).kids]) := by
  refine go_fn (tyOf_ok _) Tryd.func39 rfl rfl (by rw [Tryd.results39]) Tryd.ntmps39 rfl fun E => ?_
  obtain ⟨x, hx⟩ : ∃ x, x = pickN T p := ⟨_, rfl⟩
  rw [← hx]
  have hn := right_n hr
  have hkc : T.kind = 1 ∨ T.kind = 2 ∨ T.kind = 3 ∨ T.kind = 4 ∨ T.kind = 5 ∨ T.kind = 6 ∨ T.kind = 7 ∨ T.kind = 8 := by rcases rightOK_kind hr with h | h | h <;> omega
  rcases hkc with h | h | h | h | h | h | h | h
  · by_cases h8 : T.n < 8
    · have h124 : T.n = 1 ∨ T.n = 2 ∨ T.n = 4 := by have := right_1n hr h; omega
      have hm := mask_u64 p hp0 hp1 h124
      have hpw := pow_shl h124
      have hpb2 := pow_256 h124
      have hw8 := wrap_i64 (n := 8 * T.n) (by omega)
      have e3 : (T.n < 8) = True := eq_true h8
      have hxe : x = ⟨1, p % 256 ^ T.n.toNat, 0⟩ := by rw [hx]; unfold pickN; rw [if_pos h, if_pos h8]
      generalize (256 : Int) ^ T.n.toNat = q at *
      have hq1 : u64 (q - 1) = q - 1 := by unfold u64; omega
      have h80 : 0 ≤ 8 * T.n := by omega
      subst hxe
      (repeat' (first
    | exact trivial
    | (with_reducible first | refine awA ?_ | refine awB ?_ | refine awC ?_ | refine awD ?_ | refine awE ?_ | refine awF ?_ | refine awG ?_ | refine awH ?_ | refine awI ?_ | refine awJ ?_ | refine awK ?_ | refine awL ?_ | refine awM (by decide) ?_)
    | (refine aw_draw (id := 18) (t := (.node [0, 1, 2, 3, 4, 5, 6, 7, 8, 9, 10, 11, 12, 13] [])) (drR [2] [70] []) mixed (by kernel_rfl) (by kernel_rfl) (fun _ _ h => h) ?_)
    | (refine at_done (by simp only [List.filterMap_cons, List.filterMap_nil, List.getElem?_toArray, List.getElem?_cons_zero, List.getElem?_cons_succ]; exact rfl) ?_) | (refine at_alt (by simp only [List.filterMap_cons, List.filterMap_nil, List.getElem?_toArray, List.getElem?_cons_zero, List.getElem?_cons_succ]; exact rfl) ?_) | refine qalt_normal ?_ | refine ats_cons ?_ ?_ | exact ats_nil
    | ((with_reducible first | refine awN (tyOf_ok _) [] ?_ | refine awO (tyOf_ok _) [] ?_ | refine awP (tyOf_ok _) [] ?_ | refine awQ ?_ | refine awR ?_ | refine awS ?_); intro r hr; simp only [go_sem, Nat.reduceBEq, Nat.reduceBneDiff, Nat.reduceLT, Nat.reduceLeDiff, Nat.reduceAdd, Nat.reduceMul, Nat.reduceSub, Nat.reduceEqDiff, reduceCtorEq, h, Int.cast_ofNat_Int, Int.reduceToNat, Int.reduceEq, Int.reduceLT, Int.reduceLE, Int.reduceNe, wrapU, e3, hw8, hpw, hq1, hm] at hr; subst hr; (first | refine awV ?_ ?_ | refine awW ?_ ?_ | refine endK ?_ ?_ | (refine condK (fun h => ?_) (fun h => ?_) <;> (try simp only [go_sem, reduceCtorEq] at h) <;> (try (exfalso; omega))))) | fail)) <;> (try omega)
      all_goals first | exact rfl | exact h80
    · have e3 : (T.n < 8) = False := eq_false h8
      have hxe : x = ⟨1, p, 0⟩ := by rw [hx]; unfold pickN; rw [if_pos h, if_neg h8]
      subst hxe
      (repeat' (first
    | exact trivial
    | (with_reducible first | refine awA ?_ | refine awB ?_ | refine awC ?_ | refine awD ?_ | refine awE ?_ | refine awF ?_ | refine awG ?_ | refine awH ?_ | refine awI ?_ | refine awJ ?_ | refine awK ?_ | refine awL ?_ | refine awM (by decide) ?_)
    | (refine aw_draw (id := 18) (t := (.node [0, 1, 2, 3, 4, 5, 6, 7, 8, 9, 10, 11, 12, 13] [])) (drR [2] [70] []) mixed (by kernel_rfl) (by kernel_rfl) (fun _ _ h => h) ?_)
    | (refine at_done (by simp only [List.filterMap_cons, List.filterMap_nil, List.getElem?_toArray, List.getElem?_cons_zero, List.getElem?_cons_succ]; exact rfl) ?_) | (refine at_alt (by simp only [List.filterMap_cons, List.filterMap_nil, List.getElem?_toArray, List.getElem?_cons_zero, List.getElem?_cons_succ]; exact rfl) ?_) | refine qalt_normal ?_ | refine ats_cons ?_ ?_ | exact ats_nil
    | ((with_reducible first | refine awN (tyOf_ok _) [] ?_ | refine awO (tyOf_ok _) [] ?_ | refine awP (tyOf_ok _) [] ?_ | refine awQ ?_ | refine awR ?_ | refine awS ?_); intro r hr; simp only [go_sem, Nat.reduceBEq, Nat.reduceBneDiff, Nat.reduceLT, Nat.reduceLeDiff, Nat.reduceAdd, Nat.reduceMul, Nat.reduceSub, Nat.reduceEqDiff, reduceCtorEq, h, Int.cast_ofNat_Int, Int.reduceToNat, Int.reduceEq, Int.reduceLT, Int.reduceLE, Int.reduceNe, wrapU, e3] at hr; subst hr; (first | refine awV ?_ ?_ | refine awW ?_ ?_ | refine endK ?_ ?_ | (refine condK (fun h => ?_) (fun h => ?_) <;> (try simp only [go_sem, reduceCtorEq] at h) <;> (try (exfalso; omega))))) | fail)) <;> (try omega)
      exact rfl
  · have hxe : x = ⟨2, p % 2, 0⟩ := by rw [hx]; unfold pickN; rw [if_neg (by omega), if_neg (by omega), if_pos h]
    have htm : p.tmod 2 = p % 2 := Int.tmod_eq_emod_of_nonneg hp0
    subst hxe
    (repeat' (first
    | exact trivial
    | (with_reducible first | refine awA ?_ | refine awB ?_ | refine awC ?_ | refine awD ?_ | refine awE ?_ | refine awF ?_ | refine awG ?_ | refine awH ?_ | refine awI ?_ | refine awJ ?_ | refine awK ?_ | refine awL ?_ | refine awM (by decide) ?_)
    | (refine aw_draw (id := 18) (t := (.node [0, 1, 2, 3, 4, 5, 6, 7, 8, 9, 10, 11, 12, 13] [])) (drR [2] [70] []) mixed (by kernel_rfl) (by kernel_rfl) (fun _ _ h => h) ?_)
    | (refine at_done (by simp only [List.filterMap_cons, List.filterMap_nil, List.getElem?_toArray, List.getElem?_cons_zero, List.getElem?_cons_succ]; exact rfl) ?_) | (refine at_alt (by simp only [List.filterMap_cons, List.filterMap_nil, List.getElem?_toArray, List.getElem?_cons_zero, List.getElem?_cons_succ]; exact rfl) ?_) | refine qalt_normal ?_ | refine ats_cons ?_ ?_ | exact ats_nil
    | ((with_reducible first | refine awN (tyOf_ok _) [] ?_ | refine awO (tyOf_ok _) [] ?_ | refine awP (tyOf_ok _) [] ?_ | refine awQ ?_ | refine awR ?_ | refine awS ?_); intro r hr; simp only [go_sem, Nat.reduceBEq, Nat.reduceBneDiff, Nat.reduceLT, Nat.reduceLeDiff, Nat.reduceAdd, Nat.reduceMul, Nat.reduceSub, Nat.reduceEqDiff, reduceCtorEq, h, Int.cast_ofNat_Int, Int.reduceToNat, Int.reduceEq, Int.reduceLT, Int.reduceLE, Int.reduceNe, wrapU, htm] at hr; subst hr; (first | refine awV ?_ ?_ | refine awW ?_ ?_ | refine endK ?_ ?_ | (refine condK (fun h => ?_) (fun h => ?_) <;> (try simp only [go_sem, reduceCtorEq] at h) <;> (try (exfalso; omega))))) | fail)) <;> (try omega)
    exact rfl
  · have hxe : x = ⟨1, p, 0⟩ := by rw [hx]; unfold pickN; rw [if_neg (by omega), if_pos h]
    subst hxe
    (repeat' (first
    | exact trivial
    | (with_reducible first | refine awA ?_ | refine awB ?_ | refine awC ?_ | refine awD ?_ | refine awE ?_ | refine awF ?_ | refine awG ?_ | refine awH ?_ | refine awI ?_ | refine awJ ?_ | refine awK ?_ | refine awL ?_ | refine awM (by decide) ?_)
    | (refine aw_draw (id := 18) (t := (.node [0, 1, 2, 3, 4, 5, 6, 7, 8, 9, 10, 11, 12, 13] [])) (drR [2] [70] []) mixed (by kernel_rfl) (by kernel_rfl) (fun _ _ h => h) ?_)
    | (refine at_done (by simp only [List.filterMap_cons, List.filterMap_nil, List.getElem?_toArray, List.getElem?_cons_zero, List.getElem?_cons_succ]; exact rfl) ?_) | (refine at_alt (by simp only [List.filterMap_cons, List.filterMap_nil, List.getElem?_toArray, List.getElem?_cons_zero, List.getElem?_cons_succ]; exact rfl) ?_) | refine qalt_normal ?_ | refine ats_cons ?_ ?_ | exact ats_nil
    | ((with_reducible first | refine awN (tyOf_ok _) [] ?_ | refine awO (tyOf_ok _) [] ?_ | refine awP (tyOf_ok _) [] ?_ | refine awQ ?_ | refine awR ?_ | refine awS ?_); intro r hr; simp only [go_sem, Nat.reduceBEq, Nat.reduceBneDiff, Nat.reduceLT, Nat.reduceLeDiff, Nat.reduceAdd, Nat.reduceMul, Nat.reduceSub, Nat.reduceEqDiff, reduceCtorEq, h, Int.cast_ofNat_Int, Int.reduceToNat, Int.reduceEq, Int.reduceLT, Int.reduceLE, Int.reduceNe, wrapU] at hr; subst hr; (first | refine awV ?_ ?_ | refine awW ?_ ?_ | refine endK ?_ ?_ | (refine condK (fun h => ?_) (fun h => ?_) <;> (try simp only [go_sem, reduceCtorEq] at h) <;> (try (exfalso; omega))))) | fail)) <;> (try omega)
    exact rfl
  · have hxe : x = ⟨3, 0, T.n⟩ := by rw [hx]; unfold pickN; rw [if_neg (by omega), if_neg (by omega), if_neg (by omega), if_pos h]
    subst hxe
    (repeat' (first
    | exact trivial
    | (with_reducible first | refine awA ?_ | refine awB ?_ | refine awC ?_ | refine awD ?_ | refine awE ?_ | refine awF ?_ | refine awG ?_ | refine awH ?_ | refine awI ?_ | refine awJ ?_ | refine awK ?_ | refine awL ?_ | refine awM (by decide) ?_)
    | (refine aw_draw (id := 18) (t := (.node [0, 1, 2, 3, 4, 5, 6, 7, 8, 9, 10, 11, 12, 13] [])) (drR [2] [70] []) mixed (by kernel_rfl) (by kernel_rfl) (fun _ _ h => h) ?_)
    | (refine at_done (by simp only [List.filterMap_cons, List.filterMap_nil, List.getElem?_toArray, List.getElem?_cons_zero, List.getElem?_cons_succ]; exact rfl) ?_) | (refine at_alt (by simp only [List.filterMap_cons, List.filterMap_nil, List.getElem?_toArray, List.getElem?_cons_zero, List.getElem?_cons_succ]; exact rfl) ?_) | refine qalt_normal ?_ | refine ats_cons ?_ ?_ | exact ats_nil
    | ((with_reducible first | refine awN (tyOf_ok _) [] ?_ | refine awO (tyOf_ok _) [] ?_ | refine awP (tyOf_ok _) [] ?_ | refine awQ ?_ | refine awR ?_ | refine awS ?_); intro r hr; simp only [go_sem, Nat.reduceBEq, Nat.reduceBneDiff, Nat.reduceLT, Nat.reduceLeDiff, Nat.reduceAdd, Nat.reduceMul, Nat.reduceSub, Nat.reduceEqDiff, reduceCtorEq, h, Int.cast_ofNat_Int, Int.reduceToNat, Int.reduceEq, Int.reduceLT, Int.reduceLE, Int.reduceNe, wrapU] at hr; subst hr; (first | refine awV ?_ ?_ | refine awW ?_ ?_ | refine endK ?_ ?_ | (refine condK (fun h => ?_) (fun h => ?_) <;> (try simp only [go_sem, reduceCtorEq] at h) <;> (try (exfalso; omega))))) | fail)) <;> (try omega)
    exact rfl
  · have hxe : x = ⟨3, 0, p % (T.n + 1)⟩ := by rw [hx]; unfold pickN; rw [if_neg (by omega), if_neg (by omega), if_neg (by omega), if_neg (by omega), if_pos h]
    have hw1 := wrap_i64 (n := T.n + 1) (by omega)
    have hu1 : u64 (T.n + 1) = T.n + 1 := by unfold u64; omega
    have htm : p.tmod (T.n + 1) = p % (T.n + 1) := Int.tmod_eq_emod_of_nonneg hp0
    have hm0 := Int.emod_nonneg p (show T.n + 1 ≠ 0 by omega)
    have hm1 := Int.emod_lt_of_pos p (show 0 < T.n + 1 by omega)
    have hwr : IntKind.i64.wrap (p % (T.n + 1)) = p % (T.n + 1) := wrap_i64 (by omega)
    subst hxe
    (repeat' (first
    | exact trivial
    | (with_reducible first | refine awA ?_ | refine awB ?_ | refine awC ?_ | refine awD ?_ | refine awE ?_ | refine awF ?_ | refine awG ?_ | refine awH ?_ | refine awI ?_ | refine awJ ?_ | refine awK ?_ | refine awL ?_ | refine awM (by decide) ?_)
    | (refine aw_draw (id := 18) (t := (.node [0, 1, 2, 3, 4, 5, 6, 7, 8, 9, 10, 11, 12, 13] [])) (drR [2] [70] []) mixed (by kernel_rfl) (by kernel_rfl) (fun _ _ h => h) ?_)
    | (refine at_done (by simp only [List.filterMap_cons, List.filterMap_nil, List.getElem?_toArray, List.getElem?_cons_zero, List.getElem?_cons_succ]; exact rfl) ?_) | (refine at_alt (by simp only [List.filterMap_cons, List.filterMap_nil, List.getElem?_toArray, List.getElem?_cons_zero, List.getElem?_cons_succ]; exact rfl) ?_) | refine qalt_normal ?_ | refine ats_cons ?_ ?_ | exact ats_nil
    | ((with_reducible first | refine awN (tyOf_ok _) [] ?_ | refine awO (tyOf_ok _) [] ?_ | refine awP (tyOf_ok _) [] ?_ | refine awQ ?_ | refine awR ?_ | refine awS ?_); intro r hr; simp only [go_sem, Nat.reduceBEq, Nat.reduceBneDiff, Nat.reduceLT, Nat.reduceLeDiff, Nat.reduceAdd, Nat.reduceMul, Nat.reduceSub, Nat.reduceEqDiff, reduceCtorEq, h, Int.cast_ofNat_Int, Int.reduceToNat, Int.reduceEq, Int.reduceLT, Int.reduceLE, Int.reduceNe, wrapU, hw1, hu1, htm, hwr] at hr; subst hr; (first | refine awV ?_ ?_ | refine awW ?_ ?_ | refine endK ?_ ?_ | (refine condK (fun h => ?_) (fun h => ?_) <;> (try simp only [go_sem, reduceCtorEq] at h) <;> (try (exfalso; omega))))) | fail)) <;> (try omega)
    all_goals first | exact rfl | omega
  · have hxe : x = ⟨5, 0, p % 2⟩ := by rw [hx]; unfold pickN; rw [if_neg (by omega), if_neg (by omega), if_neg (by omega), if_neg (by omega), if_neg (by omega), if_pos h]
    have htm : p.tmod 2 = p % 2 := Int.tmod_eq_emod_of_nonneg hp0
    have hwr : IntKind.i64.wrap (p % 2) = p % 2 := wrap_i64 (by omega)
    subst hxe
    (repeat' (first
    | exact trivial
    | (with_reducible first | refine awA ?_ | refine awB ?_ | refine awC ?_ | refine awD ?_ | refine awE ?_ | refine awF ?_ | refine awG ?_ | refine awH ?_ | refine awI ?_ | refine awJ ?_ | refine awK ?_ | refine awL ?_ | refine awM (by decide) ?_)
    | (refine aw_draw (id := 18) (t := (.node [0, 1, 2, 3, 4, 5, 6, 7, 8, 9, 10, 11, 12, 13] [])) (drR [2] [70] []) mixed (by kernel_rfl) (by kernel_rfl) (fun _ _ h => h) ?_)
    | (refine at_done (by simp only [List.filterMap_cons, List.filterMap_nil, List.getElem?_toArray, List.getElem?_cons_zero, List.getElem?_cons_succ]; exact rfl) ?_) | (refine at_alt (by simp only [List.filterMap_cons, List.filterMap_nil, List.getElem?_toArray, List.getElem?_cons_zero, List.getElem?_cons_succ]; exact rfl) ?_) | refine qalt_normal ?_ | refine ats_cons ?_ ?_ | exact ats_nil
    | ((with_reducible first | refine awN (tyOf_ok _) [] ?_ | refine awO (tyOf_ok _) [] ?_ | refine awP (tyOf_ok _) [] ?_ | refine awQ ?_ | refine awR ?_ | refine awS ?_); intro r hr; simp only [go_sem, Nat.reduceBEq, Nat.reduceBneDiff, Nat.reduceLT, Nat.reduceLeDiff, Nat.reduceAdd, Nat.reduceMul, Nat.reduceSub, Nat.reduceEqDiff, reduceCtorEq, h, Int.cast_ofNat_Int, Int.reduceToNat, Int.reduceEq, Int.reduceLT, Int.reduceLE, Int.reduceNe, wrapU, htm, hwr] at hr; subst hr; (first | refine awV ?_ ?_ | refine awW ?_ ?_ | refine endK ?_ ?_ | (refine condK (fun h => ?_) (fun h => ?_) <;> (try simp only [go_sem, reduceCtorEq] at h) <;> (try (exfalso; omega))))) | fail)) <;> (try omega)
    exact rfl
  · have hpl := right_parts hr (.inl h)
    have hm0 := Int.emod_nonneg p (show (T.parts.length : Int) ≠ 0 by omega)
    have hm1 := Int.emod_lt_of_pos p (show (0 : Int) < T.parts.length by omega)
    have hlt : (p % T.parts.length).toNat < T.parts.length := by omega
    have hu1 : u64 (T.parts.length : Int) = T.parts.length := by unfold u64; omega
    have htm : p.tmod T.parts.length = p % T.parts.length := Int.tmod_eq_emod_of_nonneg hp0
    have hxe : x = ⟨6, u64 T.parts[(p % T.parts.length).toNat].tag, 1⟩ := by
      rw [hx]; unfold pickN
      rw [if_neg (by omega), if_neg (by omega), if_neg (by omega), if_neg (by omega), if_neg (by omega), if_neg (by omega), if_pos h, List.getElem?_eq_getElem hlt, Option.getD_some]
    have g1 := encPs_get hlt
    have hne : ((T.parts.length : Int) = 0) = False := eq_false (by omega)
    generalize p % (T.parts.length : Int) = j at *
    subst hxe
    (repeat' (first
    | exact trivial
    | (with_reducible first | refine awA ?_ | refine awB ?_ | refine awC ?_ | refine awD ?_ | refine awE ?_ | refine awF ?_ | refine awG ?_ | refine awH ?_ | refine awI ?_ | refine awJ ?_ | refine awK ?_ | refine awL ?_ | refine awM (by decide) ?_)
    | (refine aw_draw (id := 18) (t := (.node [0, 1, 2, 3, 4, 5, 6, 7, 8, 9, 10, 11, 12, 13] [])) (drR [2] [70] []) mixed (by kernel_rfl) (by kernel_rfl) (fun _ _ h => h) ?_)
    | (refine at_done (by simp only [List.filterMap_cons, List.filterMap_nil, List.getElem?_toArray, List.getElem?_cons_zero, List.getElem?_cons_succ]; exact rfl) ?_) | (refine at_alt (by simp only [List.filterMap_cons, List.filterMap_nil, List.getElem?_toArray, List.getElem?_cons_zero, List.getElem?_cons_succ]; exact rfl) ?_) | refine qalt_normal ?_ | refine ats_cons ?_ ?_ | exact ats_nil
    | ((with_reducible first | refine awN (tyOf_ok _) [] ?_ | refine awO (tyOf_ok _) [] ?_ | refine awP (tyOf_ok _) [] ?_ | refine awQ ?_ | refine awR ?_ | refine awS ?_); intro r hr; simp only [go_sem, Nat.reduceBEq, Nat.reduceBneDiff, Nat.reduceLT, Nat.reduceLeDiff, Nat.reduceAdd, Nat.reduceMul, Nat.reduceSub, Nat.reduceEqDiff, reduceCtorEq, h, Int.cast_ofNat_Int, Int.reduceToNat, Int.reduceEq, Int.reduceLT, Int.reduceLE, Int.reduceNe, wrapU, hu1, htm, g1, encPs_len, hne, ne_eq, not_false_eq_true] at hr; subst hr; (first | refine awV ?_ ?_ | refine awW ?_ ?_ | refine endK ?_ ?_ | (refine condK (fun h => ?_) (fun h => ?_) <;> (try simp only [go_sem, reduceCtorEq] at h) <;> (try (exfalso; omega))))) | fail)) <;> (try omega)
    all_goals first | exact rfl | omega | trace_state
  · have hxe : x = ⟨4, 0, T.parts.length⟩ := by
      rw [hx]; unfold pickN
      rw [if_neg (by omega), if_neg (by omega), if_neg (by omega), if_neg (by omega), if_neg (by omega), if_neg (by omega), if_neg (by omega)]
    subst hxe
    (repeat' (first
    | exact trivial
    | (with_reducible first | refine awA ?_ | refine awB ?_ | refine awC ?_ | refine awD ?_ | refine awE ?_ | refine awF ?_ | refine awG ?_ | refine awH ?_ | refine awI ?_ | refine awJ ?_ | refine awK ?_ | refine awL ?_ | refine awM (by decide) ?_)
    | (refine aw_draw (id := 18) (t := (.node [0, 1, 2, 3, 4, 5, 6, 7, 8, 9, 10, 11, 12, 13] [])) (drR [2] [70] []) mixed (by kernel_rfl) (by kernel_rfl) (fun _ _ h => h) ?_)
    | (refine at_done (by simp only [List.filterMap_cons, List.filterMap_nil, List.getElem?_toArray, List.getElem?_cons_zero, List.getElem?_cons_succ]; exact rfl) ?_) | (refine at_alt (by simp only [List.filterMap_cons, List.filterMap_nil, List.getElem?_toArray, List.getElem?_cons_zero, List.getElem?_cons_succ]; exact rfl) ?_) | refine qalt_normal ?_ | refine ats_cons ?_ ?_ | exact ats_nil
    | ((with_reducible first | refine awN (tyOf_ok _) [] ?_ | refine awO (tyOf_ok _) [] ?_ | refine awP (tyOf_ok _) [] ?_ | refine awQ ?_ | refine awR ?_ | refine awS ?_); intro r hr; simp only [go_sem, Nat.reduceBEq, Nat.reduceBneDiff, Nat.reduceLT, Nat.reduceLeDiff, Nat.reduceAdd, Nat.reduceMul, Nat.reduceSub, Nat.reduceEqDiff, reduceCtorEq, h, Int.cast_ofNat_Int, Int.reduceToNat, Int.reduceEq, Int.reduceLT, Int.reduceLE, Int.reduceNe, wrapU, encPs_len] at hr; subst hr; (first | refine awV ?_ ?_ | refine awW ?_ ?_ | refine endK ?_ ?_ | (refine condK (fun h => ?_) (fun h => ?_) <;> (try simp only [go_sem, reduceCtorEq] at h) <;> (try (exfalso; omega))))) | fail)) <;> (try omega)
    exact rfl
end Go.Proofs.YtfgacgpicfknpaaDoor
end
