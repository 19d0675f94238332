import Derived.Test.YtfgacgpicfknpaaP8
set_option linter.all false
section
namespace Go.Proofs.Ytfgacgpicfknpaa
open Go.RowKit
set_option maxRecDepth 100000
set_option maxHeartbeats 4000000
theorem sizeOf_G (ts : List TypeM) (rs : List RootM) (hts : ts.length ≤ 1000000000) (hrs : rs.length ≤ 1000000000) (hp : ∀ t ∈ ts, t.parts.length ≤ 1000000000) : GCall Try.prog 22 [vSch ts rs] [] (.tup [.ref 57 4 5 0 (sizesF ts rs).1.length, vI (sizesF ts rs).2]) [(5, .row 57 4 (encEs (sizesF ts rs).1))] := by
  refine go_fnG (tyOf_ok _) Try.func22 rfl rfl (by rw [Try.results22]) Try.ntmps22 rfl fun E => ?_
  (repeat' (first
    | exact trivial
    | (with_reducible first | refine awA ?_ | refine awB ?_ | refine awC ?_ | refine awD ?_ | refine awE ?_ | refine awF ?_ | refine awG ?_ | refine awH ?_ | refine awI ?_ | refine awJ ?_ | refine awK ?_ | refine awL ?_ | refine awM (by decide) ?_)
    | (refine aw_draw (id := 3) (t := (.node [0, 1, 2, 3] [])) (drR [4] [] []) mixed (by kernel_rfl) (by kernel_rfl) (fun _ _ h => h) ?_)
    | (refine at_done (by simp only [List.filterMap_cons, List.filterMap_nil, List.getElem?_toArray, List.getElem?_cons_zero, List.getElem?_cons_succ]; exact rfl) ?_) | (refine at_alt (by simp only [List.filterMap_cons, List.filterMap_nil, List.getElem?_toArray, List.getElem?_cons_zero, List.getElem?_cons_succ]; exact rfl) ?_) | refine qalt_normal ?_ | refine ats_cons ?_ ?_ | exact ats_nil
    | ((with_reducible first | refine awN (tyOf_ok _) [] ?_ | refine awO (tyOf_ok _) [] ?_ | refine awP (tyOf_ok _) [] ?_ | refine awQ ?_ | refine awR ?_ | refine awS ?_ | refine awT ?_ | refine awU ?_); intro r hr; simp only [go_sem, Nat.reduceBEq, Nat.reduceBneDiff, Nat.reduceLT, Nat.reduceLeDiff, Nat.reduceAdd, Nat.reduceMul, Nat.reduceSub, Nat.reduceEqDiff, reduceCtorEq, encTs_len, vSch, vF] at hr; subst hr; (first | refine caA (fun _ => check_any ts rs hts hrs hp) rfl ?_ ?_ ?_ | refine awV ?_ ?_ | refine awW ?_ ?_ | refine endK ?_ ?_ | refine endGK ?_ ?_ ?_ | (refine condK (fun h => ?_) (fun h => ?_) <;> (try simp only [go_sem, reduceCtorEq] at h) <;> (try (exfalso; omega))))) | fail)) <;> (try omega)
  · rw [sizesF, if_pos h]; exact AV.up_tup (AV.up_cons (AV.up_nilref _ _ _ _) (AV.up_cons (AV.up_rfl _) AV.up_nilL))
  · rw [sizesF, if_pos h]; exact obUp_row0 obUp_nil
  have h0 := h
  have hr := check_right h
  refine aw_nilrow 5 57 4 5 (.inl (by decide)) (by simp only [go_sem, Nat.reduceBEq, Nat.reduceBneDiff, Nat.reduceLT, Nat.reduceLeDiff, Nat.reduceAdd, Nat.reduceMul, Nat.reduceSub, Nat.reduceEqDiff, reduceCtorEq]) ?_
  refine go_loop [5, 16, 17, 18] [5] (fun k : Nat => ⟨[(5, true, .ref 57 4 5 0 (encEs (exts (ts.take k))).length), (16, true, .lst 4 (encTs ts)), (17, true, vI ts.length), (18, true, vI k)],
    [(5, .row 57 4 (encEs (exts (ts.take k))))]⟩)
    (fun k => k ≤ ts.length ∧ ∀ e ∈ exts (ts.take k), extOK e ∧ e.depth ≤ k) (fun k => ts.length - k) 0 (by simp only [AState.nilrow, go_sem, Nat.reduceBEq, Nat.reduceBneDiff, Nat.reduceLT, Nat.reduceLeDiff, Nat.reduceAdd, Nat.reduceMul, Nat.reduceSub, Nat.reduceEqDiff, reduceCtorEq]; exact rfl) ⟨Nat.zero_le _, fun e h => by cases h⟩ ?_
  intro k ⟨hk, hL⟩
  have hw1 := wrap_i64 (n := (k : Int) + 1) (by omega)
  by_cases hlt : k < ts.length
  · have e1 : ((k : Int) < ts.length) = True := eq_true (by omega)
    have g1 := encTs_get hlt
    have hEl := exts_len ts k hk
    have hrk := hr k hlt
    have hok := extM_ok (by omega) (by omega) hrk hL
    have hnext := exts_succ hlt
    have hc := extent_any ts[k] (exts (ts.take k)) (by rw [hEl]; exact hrk) (hp _ (List.getElem_mem hlt)) (fun e he => (hL e he).1)
    generalize exts (ts.take k) = L at *
    have happ : encEs L ++ [[vB (extM ts[k] L).fixed, vI (extM ts[k] L).least, vI (extM ts[k] L).most, vI (extM ts[k] L).depth]] = encEs (exts (ts.take (k + 1))) := by rw [hnext]; simp [encEs, encE]
    have hlL : (exts (ts.take (k + 1))).length = k + 1 := by rw [hnext]; simp [hEl]
    have htk : (encEs L).take L.length = encEs L := take_len (by rw [encEs_len]; exact Nat.le_refl _)
    (repeat' (first
    | exact trivial
    | (with_reducible first | refine awA ?_ | refine awB ?_ | refine awC ?_ | refine awD ?_ | refine awE ?_ | refine awF ?_ | refine awG ?_ | refine awH ?_ | refine awI ?_ | refine awJ ?_ | refine awK ?_ | refine awL ?_ | refine awM (by decide) ?_)
    | (refine aw_draw (id := 3) (t := (.node [0, 1, 2, 3] [])) (drR [4] [] []) mixed (by kernel_rfl) (by kernel_rfl) (fun _ _ h => h) ?_)
    | (refine at_done (by simp only [List.filterMap_cons, List.filterMap_nil, List.getElem?_toArray, List.getElem?_cons_zero, List.getElem?_cons_succ]; exact rfl) ?_) | (refine at_alt (by simp only [List.filterMap_cons, List.filterMap_nil, List.getElem?_toArray, List.getElem?_cons_zero, List.getElem?_cons_succ]; exact rfl) ?_) | refine qalt_normal ?_ | refine ats_cons ?_ ?_ | exact ats_nil
    | ((with_reducible first | refine awN (tyOf_ok _) [] ?_ | refine awO (tyOf_ok _) [] ?_ | refine awP (tyOf_ok _) [] ?_ | refine awQ ?_ | refine awR ?_ | refine awS ?_ | refine awT ?_ | refine awU ?_); intro r hr; simp only [go_sem, Nat.reduceBEq, Nat.reduceBneDiff, Nat.reduceLT, Nat.reduceLeDiff, Nat.reduceAdd, Nat.reduceMul, Nat.reduceSub, Nat.reduceEqDiff, reduceCtorEq, hw1, e1, g1, encTs_len, vE, happ, htk, hlL] at hr; subst hr; (first | refine caA (fun _ => hc) rfl ?_ ?_ ?_ | refine awV ?_ ?_ | refine awW ?_ ?_ | refine endK ?_ ?_ | refine endGK ?_ ?_ ?_ | (refine condK (fun h => ?_) (fun h => ?_) <;> (try simp only [go_sem, reduceCtorEq] at h) <;> (try (exfalso; omega))))) | fail)) <;> (try omega)
    refine ⟨k + 1, by simp only [go_sem, Nat.reduceBEq, Nat.reduceBneDiff, Nat.reduceLT, Nat.reduceLeDiff, Nat.reduceAdd, Nat.reduceMul, Nat.reduceSub, Nat.reduceEqDiff, reduceCtorEq, hlL]; exact rfl, ⟨hlt, fun e he => ?_⟩, by omega⟩
    rw [hnext] at he
    rcases List.mem_append.1 he with he | he
    · have := hL e he
      exact ⟨this.1, by have := this.2; omega⟩
    · rw [List.mem_singleton] at he
      subst he
      exact ⟨hok.1, by have := hok.2; omega⟩
  · have e1 : ((k : Int) < ts.length) = False := eq_false (by omega)
    have hke : ts.take k = ts := take_len (by omega)
    (repeat' (first
    | exact trivial
    | (with_reducible first | refine awA ?_ | refine awB ?_ | refine awC ?_ | refine awD ?_ | refine awE ?_ | refine awF ?_ | refine awG ?_ | refine awH ?_ | refine awI ?_ | refine awJ ?_ | refine awK ?_ | refine awL ?_ | refine awM (by decide) ?_)
    | (refine aw_draw (id := 3) (t := (.node [0, 1, 2, 3] [])) (drR [4] [] []) mixed (by kernel_rfl) (by kernel_rfl) (fun _ _ h => h) ?_)
    | (refine at_done (by simp only [List.filterMap_cons, List.filterMap_nil, List.getElem?_toArray, List.getElem?_cons_zero, List.getElem?_cons_succ]; exact rfl) ?_) | (refine at_alt (by simp only [List.filterMap_cons, List.filterMap_nil, List.getElem?_toArray, List.getElem?_cons_zero, List.getElem?_cons_succ]; exact rfl) ?_) | refine qalt_normal ?_ | refine ats_cons ?_ ?_ | exact ats_nil
    | ((with_reducible first | refine awN (tyOf_ok _) [] ?_ | refine awO (tyOf_ok _) [] ?_ | refine awP (tyOf_ok _) [] ?_ | refine awQ ?_ | refine awR ?_ | refine awS ?_ | refine awT ?_ | refine awU ?_); intro r hr; simp only [go_sem, Nat.reduceBEq, Nat.reduceBneDiff, Nat.reduceLT, Nat.reduceLeDiff, Nat.reduceAdd, Nat.reduceMul, Nat.reduceSub, Nat.reduceEqDiff, reduceCtorEq, hw1, e1] at hr; subst hr; (first | refine awV ?_ ?_ | refine awW ?_ ?_ | refine endK ?_ ?_ | refine endGK ?_ ?_ ?_ | (refine condK (fun h => ?_) (fun h => ?_) <;> (try simp only [go_sem, reduceCtorEq] at h) <;> (try (exfalso; omega))))) | fail)) <;> (try omega)
    all_goals rw [sizesF, if_neg (fun g => g h0)]
    · rw [hke]; exact AV.up_rfl _
    · rw [hke]; exact obUp_cons rfl obUp_nil
end Go.Proofs.Ytfgacgpicfknpaa
end
section
namespace Go.Proofs.Ytfgacgpicfknpaa
open Go.RowKit
set_option maxRecDepth 100000
set_option maxHeartbeats 8000000
/-! Which values are of a type: what the document says of one node. -/
def elemF (t : TypeM) (n : Int) (k : Nat) : Int :=
  if t.kind = 4 ∨ t.kind = 5 ∨ t.kind = 6 then t.elem
  else if t.kind = 8 then (match t.parts[k]? with | some p => p.ty | none => 0)
  else if t.kind = 7 then (match armOf t.parts n with | some p => p.ty | none => -1)
  else -1
theorem elem8 {t : TypeM} (hk : t.kind = 8) {k : Nat} (h : k < t.parts.length) (n : Int) : elemF t n k = t.parts[k].ty := by
  unfold elemF; rw [if_neg (by omega), if_pos hk, List.getElem?_eq_getElem h]
theorem Elem_any (t : TypeM) (hl : t.parts.length ≤ 1000000000) (hI : ∀ p ∈ t.parts, I64 p.tag) (x : NodeM) (hn : 0 ≤ x.n ∧ x.n < 18446744073709551616) (k : Nat) (hk : t.kind = 8 → k < t.parts.length) :
    PCall Try.prog 84 [.agg [vI t.kind, vI t.n, vI t.elem, .lst 3 (encPs t.parts)], .agg [vI x.kind, .v (.int .u64 x.n), vI x.kids], vI k] (fun r => r = vI (elemF t x.n k)) := by
  refine go_fn (tyOf_ok _) Try.func84 rfl rfl (by rw [Try.results84]) Try.ntmps84 rfl fun E => ?_
  by_cases h8 : t.kind = 8
  · have g1 := encPs_get (hk h8)
    have he := elem8 h8 (hk h8) x.n
    have k4 : (t.kind = 4) = False := eq_false (by omega)
    have k5 : (t.kind = 5) = False := eq_false (by omega)
    have k6 : (t.kind = 6) = False := eq_false (by omega)
    have k8 : (t.kind = 8) = True := eq_true h8
    have z0 : ((k : Int)).toNat = k := by omega
    have hk' := hk h8
    (repeat' (first
    | exact trivial
    | (with_reducible first | refine awA ?_ | refine awB ?_ | refine awC ?_ | refine awD ?_ | refine awE ?_ | refine awF ?_ | refine awG ?_ | refine awH ?_ | refine awI ?_ | refine awJ ?_ | refine awK ?_ | refine awL ?_ | refine awM (by decide) ?_)
    | (refine aw_draw (id := 12) (t := (.node [0, 1, 2, 3, 4, 5, 6, 7, 8, 9] [])) (drR [3, 4] [38] []) mixed (by kernel_rfl) (by kernel_rfl) (fun _ _ h => h) ?_)
    | (refine at_done (by simp only [List.filterMap_cons, List.filterMap_nil, List.getElem?_toArray, List.getElem?_cons_zero, List.getElem?_cons_succ]; exact rfl) ?_) | (refine at_alt (by simp only [List.filterMap_cons, List.filterMap_nil, List.getElem?_toArray, List.getElem?_cons_zero, List.getElem?_cons_succ]; exact rfl) ?_) | refine qalt_normal ?_ | refine ats_cons ?_ ?_ | exact ats_nil
    | ((with_reducible first | refine awN (tyOf_ok _) [] ?_ | refine awO (tyOf_ok _) [] ?_ | refine awP (tyOf_ok _) [] ?_ | refine awQ ?_ | refine awR ?_ | refine awS ?_); intro r hr; simp only [go_sem, Nat.reduceBEq, Nat.reduceBneDiff, Nat.reduceLT, Nat.reduceLeDiff, Nat.reduceAdd, Nat.reduceMul, Nat.reduceSub, Nat.reduceEqDiff, reduceCtorEq, encPs_len, g1, k4, k5, k6, k8, z0] at hr; subst hr; (first | refine awV ?_ ?_ | refine awW ?_ ?_ | refine endK ?_ ?_ | (refine condK (fun h => ?_) (fun h => ?_) <;> (try simp only [go_sem, reduceCtorEq] at h) <;> (try (exfalso; omega))))) | fail)) <;> (try omega)
    rw [he]; exact rfl
  by_cases h456 : t.kind = 4 ∨ t.kind = 5 ∨ t.kind = 6
  · have he : elemF t x.n k = t.elem := by unfold elemF; rw [if_pos h456]
    rw [he]
    rcases h456 with h | h | h
    · have k4 : (t.kind = 4) = True := eq_true h
      (repeat' (first
    | exact trivial
    | (with_reducible first | refine awA ?_ | refine awB ?_ | refine awC ?_ | refine awD ?_ | refine awE ?_ | refine awF ?_ | refine awG ?_ | refine awH ?_ | refine awI ?_ | refine awJ ?_ | refine awK ?_ | refine awL ?_ | refine awM (by decide) ?_)
    | (refine aw_draw (id := 12) (t := (.node [0, 1, 2, 3, 4, 5, 6, 7, 8, 9] [])) (drR [3, 4] [38] []) mixed (by kernel_rfl) (by kernel_rfl) (fun _ _ h => h) ?_)
    | (refine at_done (by simp only [List.filterMap_cons, List.filterMap_nil, List.getElem?_toArray, List.getElem?_cons_zero, List.getElem?_cons_succ]; exact rfl) ?_) | (refine at_alt (by simp only [List.filterMap_cons, List.filterMap_nil, List.getElem?_toArray, List.getElem?_cons_zero, List.getElem?_cons_succ]; exact rfl) ?_) | refine qalt_normal ?_ | refine ats_cons ?_ ?_ | exact ats_nil
    | ((with_reducible first | refine awN (tyOf_ok _) [] ?_ | refine awO (tyOf_ok _) [] ?_ | refine awP (tyOf_ok _) [] ?_ | refine awQ ?_ | refine awR ?_ | refine awS ?_); intro r hr; simp only [go_sem, Nat.reduceBEq, Nat.reduceBneDiff, Nat.reduceLT, Nat.reduceLeDiff, Nat.reduceAdd, Nat.reduceMul, Nat.reduceSub, Nat.reduceEqDiff, reduceCtorEq, encPs_len, k4] at hr; subst hr; (first | refine awV ?_ ?_ | refine awW ?_ ?_ | refine endK ?_ ?_ | (refine condK (fun h => ?_) (fun h => ?_) <;> (try simp only [go_sem, reduceCtorEq] at h) <;> (try (exfalso; omega))))) | fail)) <;> (try omega)
      exact rfl
    · have k4 : (t.kind = 4) = False := eq_false (by omega)
      have k5 : (t.kind = 5) = True := eq_true h
      (repeat' (first
    | exact trivial
    | (with_reducible first | refine awA ?_ | refine awB ?_ | refine awC ?_ | refine awD ?_ | refine awE ?_ | refine awF ?_ | refine awG ?_ | refine awH ?_ | refine awI ?_ | refine awJ ?_ | refine awK ?_ | refine awL ?_ | refine awM (by decide) ?_)
    | (refine aw_draw (id := 12) (t := (.node [0, 1, 2, 3, 4, 5, 6, 7, 8, 9] [])) (drR [3, 4] [38] []) mixed (by kernel_rfl) (by kernel_rfl) (fun _ _ h => h) ?_)
    | (refine at_done (by simp only [List.filterMap_cons, List.filterMap_nil, List.getElem?_toArray, List.getElem?_cons_zero, List.getElem?_cons_succ]; exact rfl) ?_) | (refine at_alt (by simp only [List.filterMap_cons, List.filterMap_nil, List.getElem?_toArray, List.getElem?_cons_zero, List.getElem?_cons_succ]; exact rfl) ?_) | refine qalt_normal ?_ | refine ats_cons ?_ ?_ | exact ats_nil
    | ((with_reducible first | refine awN (tyOf_ok _) [] ?_ | refine awO (tyOf_ok _) [] ?_ | refine awP (tyOf_ok _) [] ?_ | refine awQ ?_ | refine awR ?_ | refine awS ?_); intro r hr; simp only [go_sem, Nat.reduceBEq, Nat.reduceBneDiff, Nat.reduceLT, Nat.reduceLeDiff, Nat.reduceAdd, Nat.reduceMul, Nat.reduceSub, Nat.reduceEqDiff, reduceCtorEq, encPs_len, k4, k5] at hr; subst hr; (first | refine awV ?_ ?_ | refine awW ?_ ?_ | refine endK ?_ ?_ | (refine condK (fun h => ?_) (fun h => ?_) <;> (try simp only [go_sem, reduceCtorEq] at h) <;> (try (exfalso; omega))))) | fail)) <;> (try omega)
      exact rfl
    · have k4 : (t.kind = 4) = False := eq_false (by omega)
      have k5 : (t.kind = 5) = False := eq_false (by omega)
      have k6 : (t.kind = 6) = True := eq_true h
      (repeat' (first
    | exact trivial
    | (with_reducible first | refine awA ?_ | refine awB ?_ | refine awC ?_ | refine awD ?_ | refine awE ?_ | refine awF ?_ | refine awG ?_ | refine awH ?_ | refine awI ?_ | refine awJ ?_ | refine awK ?_ | refine awL ?_ | refine awM (by decide) ?_)
    | (refine aw_draw (id := 12) (t := (.node [0, 1, 2, 3, 4, 5, 6, 7, 8, 9] [])) (drR [3, 4] [38] []) mixed (by kernel_rfl) (by kernel_rfl) (fun _ _ h => h) ?_)
    | (refine at_done (by simp only [List.filterMap_cons, List.filterMap_nil, List.getElem?_toArray, List.getElem?_cons_zero, List.getElem?_cons_succ]; exact rfl) ?_) | (refine at_alt (by simp only [List.filterMap_cons, List.filterMap_nil, List.getElem?_toArray, List.getElem?_cons_zero, List.getElem?_cons_succ]; exact rfl) ?_) | refine qalt_normal ?_ | refine ats_cons ?_ ?_ | exact ats_nil
    | ((with_reducible first | refine awN (tyOf_ok _) [] ?_ | refine awO (tyOf_ok _) [] ?_ | refine awP (tyOf_ok _) [] ?_ | refine awQ ?_ | refine awR ?_ | refine awS ?_); intro r hr; simp only [go_sem, Nat.reduceBEq, Nat.reduceBneDiff, Nat.reduceLT, Nat.reduceLeDiff, Nat.reduceAdd, Nat.reduceMul, Nat.reduceSub, Nat.reduceEqDiff, reduceCtorEq, encPs_len, k4, k5, k6] at hr; subst hr; (first | refine awV ?_ ?_ | refine awW ?_ ?_ | refine endK ?_ ?_ | (refine condK (fun h => ?_) (fun h => ?_) <;> (try simp only [go_sem, reduceCtorEq] at h) <;> (try (exfalso; omega))))) | fail)) <;> (try omega)
      exact rfl
  have k4 : (t.kind = 4) = False := eq_false (by omega)
  have k5 : (t.kind = 5) = False := eq_false (by omega)
  have k6 : (t.kind = 6) = False := eq_false (by omega)
  have k8 : (t.kind = 8) = False := eq_false h8
  by_cases h7 : t.kind = 7
  · have k7 : (t.kind = 7) = True := eq_true h7
    generalize hR : elemF t x.n k = R
    unfold elemF at hR
    rw [if_neg h456, if_neg h8, if_pos h7] at hR
    (repeat' (first
    | exact trivial
    | (with_reducible first | refine awA ?_ | refine awB ?_ | refine awC ?_ | refine awD ?_ | refine awE ?_ | refine awF ?_ | refine awG ?_ | refine awH ?_ | refine awI ?_ | refine awJ ?_ | refine awK ?_ | refine awL ?_ | refine awM (by decide) ?_)
    | (refine aw_draw (id := 12) (t := (.node [0, 1, 2, 3, 4, 5, 6, 7, 8, 9] [])) (drR [3, 4] [38] []) mixed (by kernel_rfl) (by kernel_rfl) (fun _ _ h => h) ?_)
    | (refine at_done (by simp only [List.filterMap_cons, List.filterMap_nil, List.getElem?_toArray, List.getElem?_cons_zero, List.getElem?_cons_succ]; exact rfl) ?_) | (refine at_alt (by simp only [List.filterMap_cons, List.filterMap_nil, List.getElem?_toArray, List.getElem?_cons_zero, List.getElem?_cons_succ]; exact rfl) ?_) | refine qalt_normal ?_ | refine ats_cons ?_ ?_ | exact ats_nil
    | ((with_reducible first | refine awN (tyOf_ok _) [] ?_ | refine awO (tyOf_ok _) [] ?_ | refine awP (tyOf_ok _) [] ?_ | refine awQ ?_ | refine awR ?_ | refine awS ?_); intro r hr; simp only [go_sem, Nat.reduceBEq, Nat.reduceBneDiff, Nat.reduceLT, Nat.reduceLeDiff, Nat.reduceAdd, Nat.reduceMul, Nat.reduceSub, Nat.reduceEqDiff, reduceCtorEq, encPs_len, k4, k5, k6, k8, k7] at hr; subst hr; (first | refine awV ?_ ?_ | refine awW ?_ ?_ | refine endK ?_ ?_ | (refine condK (fun h => ?_) (fun h => ?_) <;> (try simp only [go_sem, reduceCtorEq] at h) <;> (try (exfalso; omega))))) | fail)) <;> (try omega)
    refine go_loop [3, 4, 7] [3, 4] (fun i : Nat => ⟨[(3, true, .ptr 1 3 0 0), (4, true, .ptr 1 4 0 0), (7, true, vI i)], [(3, .var [vI t.kind, vI t.n, vI t.elem, .lst 3 (encPs t.parts)]), (4, .var [vI x.kind, .v (.int .u64 x.n), vI x.kids])]⟩)
      (fun i => i ≤ t.parts.length ∧ ((t.parts.take i).find? fun p => decide (p.tag % 18446744073709551616 = x.n)) = none) (fun i => t.parts.length - i) 0 (by simp only [go_sem, Nat.reduceBEq, Nat.reduceBneDiff, Nat.reduceLT, Nat.reduceLeDiff, Nat.reduceAdd, Nat.reduceMul, Nat.reduceSub, Nat.reduceEqDiff, reduceCtorEq]; exact rfl) ⟨Nat.zero_le _, rfl⟩ ?_
    intro i ⟨hi, hf⟩
    have hw1 := wrap_i64 (n := (i : Int) + 1) (by omega)
    by_cases hlt : i < t.parts.length
    · have e1 : ((i : Int) < t.parts.length) = True := eq_true (by omega)
      have g1 := encPs_get hlt
      have ht : IntKind.u64.wrap t.parts[i].tag = t.parts[i].tag % 18446744073709551616 := IntKind.wrap_u64 _
      by_cases heq : t.parts[i].tag % 18446744073709551616 = x.n
      · have e2 : (t.parts[i].tag % 18446744073709551616 = x.n) = True := eq_true heq
        have harm : armOf t.parts x.n = some t.parts[i] := by
          have hs : armOf (t.parts.take i ++ t.parts[i] :: t.parts.drop (i + 1)) x.n = some t.parts[i] := by
            unfold armOf
            rw [List.find?_append, hf, Option.none_or, List.find?_cons_of_pos]
            simp only [decide_eq_true_eq]
            exact heq
          rw [← List.drop_eq_getElem_cons hlt, List.take_append_drop] at hs
          exact hs
        rw [harm] at hR
        subst hR
        (repeat' (first
    | exact trivial
    | (with_reducible first | refine awA ?_ | refine awB ?_ | refine awC ?_ | refine awD ?_ | refine awE ?_ | refine awF ?_ | refine awG ?_ | refine awH ?_ | refine awI ?_ | refine awJ ?_ | refine awK ?_ | refine awL ?_ | refine awM (by decide) ?_)
    | (refine aw_draw (id := 12) (t := (.node [0, 1, 2, 3, 4, 5, 6, 7, 8, 9] [])) (drR [3, 4] [38] []) mixed (by kernel_rfl) (by kernel_rfl) (fun _ _ h => h) ?_)
    | (refine at_done (by simp only [List.filterMap_cons, List.filterMap_nil, List.getElem?_toArray, List.getElem?_cons_zero, List.getElem?_cons_succ]; exact rfl) ?_) | (refine at_alt (by simp only [List.filterMap_cons, List.filterMap_nil, List.getElem?_toArray, List.getElem?_cons_zero, List.getElem?_cons_succ]; exact rfl) ?_) | refine qalt_normal ?_ | refine ats_cons ?_ ?_ | exact ats_nil
    | ((with_reducible first | refine awN (tyOf_ok _) [] ?_ | refine awO (tyOf_ok _) [] ?_ | refine awP (tyOf_ok _) [] ?_ | refine awQ ?_ | refine awR ?_ | refine awS ?_); intro r hr; simp only [go_sem, Nat.reduceBEq, Nat.reduceBneDiff, Nat.reduceLT, Nat.reduceLeDiff, Nat.reduceAdd, Nat.reduceMul, Nat.reduceSub, Nat.reduceEqDiff, reduceCtorEq, encPs_len, hw1, e1, g1, ht, e2] at hr; subst hr; (first | refine awV ?_ ?_ | refine awW ?_ ?_ | refine endK ?_ ?_ | (refine condK (fun h => ?_) (fun h => ?_) <;> (try simp only [go_sem, reduceCtorEq] at h) <;> (try (exfalso; omega))))) | fail)) <;> (try omega)
        exact rfl
      · have e2 : (t.parts[i].tag % 18446744073709551616 = x.n) = False := eq_false heq
        (repeat' (first
    | exact trivial
    | (with_reducible first | refine awA ?_ | refine awB ?_ | refine awC ?_ | refine awD ?_ | refine awE ?_ | refine awF ?_ | refine awG ?_ | refine awH ?_ | refine awI ?_ | refine awJ ?_ | refine awK ?_ | refine awL ?_ | refine awM (by decide) ?_)
    | (refine aw_draw (id := 12) (t := (.node [0, 1, 2, 3, 4, 5, 6, 7, 8, 9] [])) (drR [3, 4] [38] []) mixed (by kernel_rfl) (by kernel_rfl) (fun _ _ h => h) ?_)
    | (refine at_done (by simp only [List.filterMap_cons, List.filterMap_nil, List.getElem?_toArray, List.getElem?_cons_zero, List.getElem?_cons_succ]; exact rfl) ?_) | (refine at_alt (by simp only [List.filterMap_cons, List.filterMap_nil, List.getElem?_toArray, List.getElem?_cons_zero, List.getElem?_cons_succ]; exact rfl) ?_) | refine qalt_normal ?_ | refine ats_cons ?_ ?_ | exact ats_nil
    | ((with_reducible first | refine awN (tyOf_ok _) [] ?_ | refine awO (tyOf_ok _) [] ?_ | refine awP (tyOf_ok _) [] ?_ | refine awQ ?_ | refine awR ?_ | refine awS ?_); intro r hr; simp only [go_sem, Nat.reduceBEq, Nat.reduceBneDiff, Nat.reduceLT, Nat.reduceLeDiff, Nat.reduceAdd, Nat.reduceMul, Nat.reduceSub, Nat.reduceEqDiff, reduceCtorEq, encPs_len, hw1, e1, g1, ht, e2] at hr; subst hr; (first | refine awV ?_ ?_ | refine awW ?_ ?_ | refine endK ?_ ?_ | (refine condK (fun h => ?_) (fun h => ?_) <;> (try simp only [go_sem, reduceCtorEq] at h) <;> (try (exfalso; omega))))) | fail)) <;> (try omega)
        refine ⟨i + 1, by simp only [go_sem, Nat.reduceBEq, Nat.reduceBneDiff, Nat.reduceLT, Nat.reduceLeDiff, Nat.reduceAdd, Nat.reduceMul, Nat.reduceSub, Nat.reduceEqDiff, reduceCtorEq]; exact rfl, ⟨hlt, ?_⟩, by omega⟩
        rw [List.take_succ_eq_append_getElem hlt, List.find?_append, hf, Option.none_or, List.find?_cons_of_neg]
        · rfl
        · simp only [decide_eq_true_eq]; exact heq
    · have e1 : ((i : Int) < t.parts.length) = False := eq_false (by omega)
      have hR' : R = -1 := by
        rw [take_len (by omega)] at hf
        rw [armOf, hf] at hR; exact hR.symm
      clear hR
      subst hR'
      (repeat' (first
    | exact trivial
    | (with_reducible first | refine awA ?_ | refine awB ?_ | refine awC ?_ | refine awD ?_ | refine awE ?_ | refine awF ?_ | refine awG ?_ | refine awH ?_ | refine awI ?_ | refine awJ ?_ | refine awK ?_ | refine awL ?_ | refine awM (by decide) ?_)
    | (refine aw_draw (id := 12) (t := (.node [0, 1, 2, 3, 4, 5, 6, 7, 8, 9] [])) (drR [3, 4] [38] []) mixed (by kernel_rfl) (by kernel_rfl) (fun _ _ h => h) ?_)
    | (refine at_done (by simp only [List.filterMap_cons, List.filterMap_nil, List.getElem?_toArray, List.getElem?_cons_zero, List.getElem?_cons_succ]; exact rfl) ?_) | (refine at_alt (by simp only [List.filterMap_cons, List.filterMap_nil, List.getElem?_toArray, List.getElem?_cons_zero, List.getElem?_cons_succ]; exact rfl) ?_) | refine qalt_normal ?_ | refine ats_cons ?_ ?_ | exact ats_nil
    | ((with_reducible first | refine awN (tyOf_ok _) [] ?_ | refine awO (tyOf_ok _) [] ?_ | refine awP (tyOf_ok _) [] ?_ | refine awQ ?_ | refine awR ?_ | refine awS ?_); intro r hr; simp only [go_sem, Nat.reduceBEq, Nat.reduceBneDiff, Nat.reduceLT, Nat.reduceLeDiff, Nat.reduceAdd, Nat.reduceMul, Nat.reduceSub, Nat.reduceEqDiff, reduceCtorEq, encPs_len, hw1, e1] at hr; subst hr; (first | refine awV ?_ ?_ | refine awW ?_ ?_ | refine endK ?_ ?_ | (refine condK (fun h => ?_) (fun h => ?_) <;> (try simp only [go_sem, reduceCtorEq] at h) <;> (try (exfalso; omega))))) | fail)) <;> (try omega)
      exact rfl
  · have k7 : (t.kind = 7) = False := eq_false h7
    have he : elemF t x.n k = -1 := by unfold elemF; rw [if_neg h456, if_neg h8, if_neg h7]
    rw [he]
    (repeat' (first
    | exact trivial
    | (with_reducible first | refine awA ?_ | refine awB ?_ | refine awC ?_ | refine awD ?_ | refine awE ?_ | refine awF ?_ | refine awG ?_ | refine awH ?_ | refine awI ?_ | refine awJ ?_ | refine awK ?_ | refine awL ?_ | refine awM (by decide) ?_)
    | (refine aw_draw (id := 12) (t := (.node [0, 1, 2, 3, 4, 5, 6, 7, 8, 9] [])) (drR [3, 4] [38] []) mixed (by kernel_rfl) (by kernel_rfl) (fun _ _ h => h) ?_)
    | (refine at_done (by simp only [List.filterMap_cons, List.filterMap_nil, List.getElem?_toArray, List.getElem?_cons_zero, List.getElem?_cons_succ]; exact rfl) ?_) | (refine at_alt (by simp only [List.filterMap_cons, List.filterMap_nil, List.getElem?_toArray, List.getElem?_cons_zero, List.getElem?_cons_succ]; exact rfl) ?_) | refine qalt_normal ?_ | refine ats_cons ?_ ?_ | exact ats_nil
    | ((with_reducible first | refine awN (tyOf_ok _) [] ?_ | refine awO (tyOf_ok _) [] ?_ | refine awP (tyOf_ok _) [] ?_ | refine awQ ?_ | refine awR ?_ | refine awS ?_); intro r hr; simp only [go_sem, Nat.reduceBEq, Nat.reduceBneDiff, Nat.reduceLT, Nat.reduceLeDiff, Nat.reduceAdd, Nat.reduceMul, Nat.reduceSub, Nat.reduceEqDiff, reduceCtorEq, encPs_len, k4, k5, k6, k8, k7] at hr; subst hr; (first | refine awV ?_ ?_ | refine awW ?_ ?_ | refine endK ?_ ?_ | (refine condK (fun h => ?_) (fun h => ?_) <;> (try simp only [go_sem, reduceCtorEq] at h) <;> (try (exfalso; omega))))) | fail)) <;> (try omega)
    exact rfl
end Go.Proofs.Ytfgacgpicfknpaa
end
section
namespace Go.Proofs.Ytfgacgpicfknpaa
open Go.RowKit
set_option maxRecDepth 100000
set_option maxHeartbeats 8000000
def nkOf (k : Int) : Int := if k = 1 ∨ k = 3 then 1 else if k = 2 then 2 else if k = 4 ∨ k = 5 then 3 else if k = 6 then 5 else if k = 7 then 6 else if k = 8 then 4 else 0
def fitsF (t : TypeM) (x : NodeM) : Int :=
  if x.kind ≠ nkOf t.kind then 110
  else if t.kind = 1 ∧ fitsB x.n t.n = false then 111
  else if (t.kind = 4 ∧ x.kids ≠ t.n) ∨ (t.kind = 5 ∧ t.n < x.kids) ∨ (t.kind = 8 ∧ x.kids ≠ t.parts.length) then 112
  else if t.kind = 7 ∧ armOf t.parts x.n = none then 113 else 0
theorem shl_fits {n v : Int} (hn : n = 1 ∨ n = 2 ∨ n = 4 ∨ n = 8) (hv : v < 18446744073709551616) : (n < 8 ∧ IntKind.u64.wrap (1 * 2 ^ min (IntKind.i64.wrap (8 * n)).toNat 64) ≤ v) ↔ fitsB v n = false := by
  rcases hn with rfl | rfl | rfl | rfl
  · have h : IntKind.u64.wrap (1 * 2 ^ min (IntKind.i64.wrap (8 * 1)).toNat 64) = 256 := by decide
    have h2 : (256 : Int) ^ (1 : Int).toNat = 256 := by decide
    rw [h]; simp [fitsB, h2]
  · have h : IntKind.u64.wrap (1 * 2 ^ min (IntKind.i64.wrap (8 * 2)).toNat 64) = 65536 := by decide
    have h2 : (256 : Int) ^ (2 : Int).toNat = 65536 := by decide
    rw [h]; simp [fitsB, h2]
  · have h : IntKind.u64.wrap (1 * 2 ^ min (IntKind.i64.wrap (8 * 4)).toNat 64) = 4294967296 := by decide
    have h2 : (256 : Int) ^ (4 : Int).toNat = 4294967296 := by decide
    rw [h]; simp [fitsB, h2]
  · have h2 : (256 : Int) ^ (8 : Int).toNat = 18446744073709551616 := by decide
    simp [fitsB, h2]; omega
theorem right_1n {x : TypeM} {k : Int} (h : rightOK x k = true) (hk : x.kind = 1) : x.n = 1 ∨ x.n = 2 ∨ x.n = 4 ∨ x.n = 8 := by
  rw [rightOK, Bool.and_eq_true] at h
  have := h.1
  rw [numberOK, if_pos hk] at this
  simp only [Bool.or_eq_true, decide_eq_true_eq] at this
  omega
theorem fits1 (t : TypeM) (k : Nat) (hr : rightOK t k = true) (x : NodeM) (hx : nodeOK x) (h1 : t.kind = 1) :
    PCall Try.prog 83 [.agg [vI t.kind, vI t.n, vI t.elem, .lst 3 (encPs t.parts)], .agg [vI x.kind, .v (.int .u64 x.n), vI x.kids]] (fun r => r = vI (fitsF t x)) := by
  refine go_fn (tyOf_ok _) Try.func83 rfl rfl (by rw [Try.results83]) Try.ntmps83 rfl fun E => ?_
  have k1 : (t.kind = 1) = True := eq_true h1
  have k4 : (t.kind = 4) = False := eq_false (by omega)
  have k5 : (t.kind = 5) = False := eq_false (by omega)
  have k7 : (t.kind = 7) = False := eq_false (by omega)
  have k8 : (t.kind = 8) = False := eq_false (by omega)
  have hkn : nkOf t.kind = 1 := by unfold nkOf; rw [if_pos (.inl h1)]
  unfold fitsF
  rw [hkn]
  by_cases hk : x.kind = 1
  · have e1 : (x.kind = 1) = True := eq_true hk
    rw [if_neg (by omega)]
    (repeat' (first
    | exact trivial
    | (with_reducible first | refine awA ?_ | refine awB ?_ | refine awC ?_ | refine awD ?_ | refine awE ?_ | refine awF ?_ | refine awG ?_ | refine awH ?_ | refine awI ?_ | refine awJ ?_ | refine awK ?_ | refine awL ?_ | refine awM (by decide) ?_)
    | (refine aw_draw (id := 19) (t := (.node [0, 1, 2, 3, 4, 5, 6, 7, 8, 9, 10, 11, 12, 13, 14, 15, 16] [])) (drR [2, 3] [] []) mixed (by kernel_rfl) (by kernel_rfl) (fun _ _ h => h) ?_)
    | (refine at_done (by simp only [List.filterMap_cons, List.filterMap_nil, List.getElem?_toArray, List.getElem?_cons_zero, List.getElem?_cons_succ]; exact rfl) ?_) | (refine at_alt (by simp only [List.filterMap_cons, List.filterMap_nil, List.getElem?_toArray, List.getElem?_cons_zero, List.getElem?_cons_succ]; exact rfl) ?_) | refine qalt_normal ?_ | refine ats_cons ?_ ?_ | exact ats_nil
    | ((with_reducible first | refine awN (tyOf_ok _) [] ?_ | refine awO (tyOf_ok _) [] ?_ | refine awP (tyOf_ok _) [] ?_ | refine awQ ?_ | refine awR ?_ | refine awS ?_); intro r hr; simp only [go_sem, Nat.reduceBEq, Nat.reduceBneDiff, Nat.reduceLT, Nat.reduceLeDiff, Nat.reduceAdd, Nat.reduceMul, Nat.reduceSub, Nat.reduceEqDiff, reduceCtorEq, encPs_len, k1, k4, k5, k7, k8, e1] at hr; subst hr; (first | refine caB 84 (vI 0) ?_ ?_ ?_ | refine awV ?_ ?_ | refine awW ?_ ?_ | refine endK ?_ ?_ | (refine condK (fun h => ?_) (fun h => ?_) <;> (try simp only [go_sem, reduceCtorEq] at h) <;> (try (exfalso; omega))))) | fail)) <;> (try omega)
    · intro h; exact ⟨h, by have := right_1 hr h1; rw [wrap_i64 (by omega)]; omega⟩
    · rw [if_pos ⟨h1, (shl_fits (right_1n hr h1) hx.2.2.2).1 h⟩]; exact rfl
    · rename_i h' _ _
      rw [if_neg (by rintro ⟨_, h⟩; have := (shl_fits (right_1n hr h1) hx.2.2.2).2 h; omega), if_neg (by omega), if_neg (by omega)]; exact rfl
  · have e1 : (x.kind = 1) = False := eq_false hk
    rw [if_pos hk]
    (repeat' (first
    | exact trivial
    | (with_reducible first | refine awA ?_ | refine awB ?_ | refine awC ?_ | refine awD ?_ | refine awE ?_ | refine awF ?_ | refine awG ?_ | refine awH ?_ | refine awI ?_ | refine awJ ?_ | refine awK ?_ | refine awL ?_ | refine awM (by decide) ?_)
    | (refine aw_draw (id := 19) (t := (.node [0, 1, 2, 3, 4, 5, 6, 7, 8, 9, 10, 11, 12, 13, 14, 15, 16] [])) (drR [2, 3] [] []) mixed (by kernel_rfl) (by kernel_rfl) (fun _ _ h => h) ?_)
    | (refine at_done (by simp only [List.filterMap_cons, List.filterMap_nil, List.getElem?_toArray, List.getElem?_cons_zero, List.getElem?_cons_succ]; exact rfl) ?_) | (refine at_alt (by simp only [List.filterMap_cons, List.filterMap_nil, List.getElem?_toArray, List.getElem?_cons_zero, List.getElem?_cons_succ]; exact rfl) ?_) | refine qalt_normal ?_ | refine ats_cons ?_ ?_ | exact ats_nil
    | ((with_reducible first | refine awN (tyOf_ok _) [] ?_ | refine awO (tyOf_ok _) [] ?_ | refine awP (tyOf_ok _) [] ?_ | refine awQ ?_ | refine awR ?_ | refine awS ?_); intro r hr; simp only [go_sem, Nat.reduceBEq, Nat.reduceBneDiff, Nat.reduceLT, Nat.reduceLeDiff, Nat.reduceAdd, Nat.reduceMul, Nat.reduceSub, Nat.reduceEqDiff, reduceCtorEq, encPs_len, k1, k4, k5, k7, k8, e1] at hr; subst hr; (first | refine caB 84 (vI 0) ?_ ?_ ?_ | refine awV ?_ ?_ | refine awW ?_ ?_ | refine endK ?_ ?_ | (refine condK (fun h => ?_) (fun h => ?_) <;> (try simp only [go_sem, reduceCtorEq] at h) <;> (try (exfalso; omega))))) | fail)) <;> (try omega)
    exact rfl
theorem fits2 (t : TypeM) (k : Nat) (hr : rightOK t k = true) (x : NodeM) (hx : nodeOK x) (h1 : t.kind = 2) :
    PCall Try.prog 83 [.agg [vI t.kind, vI t.n, vI t.elem, .lst 3 (encPs t.parts)], .agg [vI x.kind, .v (.int .u64 x.n), vI x.kids]] (fun r => r = vI (fitsF t x)) := by
  refine go_fn (tyOf_ok _) Try.func83 rfl rfl (by rw [Try.results83]) Try.ntmps83 rfl fun E => ?_
  have k1 : (t.kind = 1) = False := eq_false (by omega)
  have k2 : (t.kind = 2) = True := eq_true h1
  have k3 : (t.kind = 3) = False := eq_false (by omega)
  have k4 : (t.kind = 4) = False := eq_false (by omega)
  have k5 : (t.kind = 5) = False := eq_false (by omega)
  have k6 : (t.kind = 6) = False := eq_false (by omega)
  have k7 : (t.kind = 7) = False := eq_false (by omega)
  have k8 : (t.kind = 8) = False := eq_false (by omega)
  have hkn : nkOf t.kind = 2 := by unfold nkOf; rw [h1]; decide
  unfold fitsF
  rw [hkn]
  by_cases hk : x.kind = 2
  · have e1 : (x.kind = 2) = True := eq_true hk
    rw [if_neg (by omega), if_neg (by omega)]
    rw [if_neg (by omega), if_neg (by omega)]
    (repeat' (first
    | exact trivial
    | (with_reducible first | refine awA ?_ | refine awB ?_ | refine awC ?_ | refine awD ?_ | refine awE ?_ | refine awF ?_ | refine awG ?_ | refine awH ?_ | refine awI ?_ | refine awJ ?_ | refine awK ?_ | refine awL ?_ | refine awM (by decide) ?_)
    | (refine aw_draw (id := 19) (t := (.node [0, 1, 2, 3, 4, 5, 6, 7, 8, 9, 10, 11, 12, 13, 14, 15, 16] [])) (drR [2, 3] [] []) mixed (by kernel_rfl) (by kernel_rfl) (fun _ _ h => h) ?_)
    | (refine at_done (by simp only [List.filterMap_cons, List.filterMap_nil, List.getElem?_toArray, List.getElem?_cons_zero, List.getElem?_cons_succ]; exact rfl) ?_) | (refine at_alt (by simp only [List.filterMap_cons, List.filterMap_nil, List.getElem?_toArray, List.getElem?_cons_zero, List.getElem?_cons_succ]; exact rfl) ?_) | refine qalt_normal ?_ | refine ats_cons ?_ ?_ | exact ats_nil
    | ((with_reducible first | refine awN (tyOf_ok _) [] ?_ | refine awO (tyOf_ok _) [] ?_ | refine awP (tyOf_ok _) [] ?_ | refine awQ ?_ | refine awR ?_ | refine awS ?_); intro r hr; simp only [go_sem, Nat.reduceBEq, Nat.reduceBneDiff, Nat.reduceLT, Nat.reduceLeDiff, Nat.reduceAdd, Nat.reduceMul, Nat.reduceSub, Nat.reduceEqDiff, reduceCtorEq, encPs_len, k1, k2, k3, k4, k5, k6, k7, k8, e1] at hr; subst hr; (first | refine caB 84 (vI 0) ?_ ?_ ?_ | refine awV ?_ ?_ | refine awW ?_ ?_ | refine endK ?_ ?_ | (refine condK (fun h => ?_) (fun h => ?_) <;> (try simp only [go_sem, reduceCtorEq] at h) <;> (try (exfalso; omega))))) | fail)) <;> (try omega)
    exact rfl
  · have e1 : (x.kind = 2) = False := eq_false hk
    rw [if_pos hk]
    (repeat' (first
    | exact trivial
    | (with_reducible first | refine awA ?_ | refine awB ?_ | refine awC ?_ | refine awD ?_ | refine awE ?_ | refine awF ?_ | refine awG ?_ | refine awH ?_ | refine awI ?_ | refine awJ ?_ | refine awK ?_ | refine awL ?_ | refine awM (by decide) ?_)
    | (refine aw_draw (id := 19) (t := (.node [0, 1, 2, 3, 4, 5, 6, 7, 8, 9, 10, 11, 12, 13, 14, 15, 16] [])) (drR [2, 3] [] []) mixed (by kernel_rfl) (by kernel_rfl) (fun _ _ h => h) ?_)
    | (refine at_done (by simp only [List.filterMap_cons, List.filterMap_nil, List.getElem?_toArray, List.getElem?_cons_zero, List.getElem?_cons_succ]; exact rfl) ?_) | (refine at_alt (by simp only [List.filterMap_cons, List.filterMap_nil, List.getElem?_toArray, List.getElem?_cons_zero, List.getElem?_cons_succ]; exact rfl) ?_) | refine qalt_normal ?_ | refine ats_cons ?_ ?_ | exact ats_nil
    | ((with_reducible first | refine awN (tyOf_ok _) [] ?_ | refine awO (tyOf_ok _) [] ?_ | refine awP (tyOf_ok _) [] ?_ | refine awQ ?_ | refine awR ?_ | refine awS ?_); intro r hr; simp only [go_sem, Nat.reduceBEq, Nat.reduceBneDiff, Nat.reduceLT, Nat.reduceLeDiff, Nat.reduceAdd, Nat.reduceMul, Nat.reduceSub, Nat.reduceEqDiff, reduceCtorEq, encPs_len, k1, k2, k3, k4, k5, k6, k7, k8, e1] at hr; subst hr; (first | refine caB 84 (vI 0) ?_ ?_ ?_ | refine awV ?_ ?_ | refine awW ?_ ?_ | refine endK ?_ ?_ | (refine condK (fun h => ?_) (fun h => ?_) <;> (try simp only [go_sem, reduceCtorEq] at h) <;> (try (exfalso; omega))))) | fail)) <;> (try omega)
    exact rfl
theorem fits3 (t : TypeM) (k : Nat) (hr : rightOK t k = true) (x : NodeM) (hx : nodeOK x) (h1 : t.kind = 3) :
    PCall Try.prog 83 [.agg [vI t.kind, vI t.n, vI t.elem, .lst 3 (encPs t.parts)], .agg [vI x.kind, .v (.int .u64 x.n), vI x.kids]] (fun r => r = vI (fitsF t x)) := by
  refine go_fn (tyOf_ok _) Try.func83 rfl rfl (by rw [Try.results83]) Try.ntmps83 rfl fun E => ?_
  have k1 : (t.kind = 1) = False := eq_false (by omega)
  have k2 : (t.kind = 2) = False := eq_false (by omega)
  have k3 : (t.kind = 3) = True := eq_true h1
  have k4 : (t.kind = 4) = False := eq_false (by omega)
  have k5 : (t.kind = 5) = False := eq_false (by omega)
  have k6 : (t.kind = 6) = False := eq_false (by omega)
  have k7 : (t.kind = 7) = False := eq_false (by omega)
  have k8 : (t.kind = 8) = False := eq_false (by omega)
  have hkn : nkOf t.kind = 1 := by unfold nkOf; rw [h1]; decide
  unfold fitsF
  rw [hkn]
  by_cases hk : x.kind = 1
  · have e1 : (x.kind = 1) = True := eq_true hk
    rw [if_neg (by omega), if_neg (by omega)]
    rw [if_neg (by omega), if_neg (by omega)]
    (repeat' (first
    | exact trivial
    | (with_reducible first | refine awA ?_ | refine awB ?_ | refine awC ?_ | refine awD ?_ | refine awE ?_ | refine awF ?_ | refine awG ?_ | refine awH ?_ | refine awI ?_ | refine awJ ?_ | refine awK ?_ | refine awL ?_ | refine awM (by decide) ?_)
    | (refine aw_draw (id := 19) (t := (.node [0, 1, 2, 3, 4, 5, 6, 7, 8, 9, 10, 11, 12, 13, 14, 15, 16] [])) (drR [2, 3] [] []) mixed (by kernel_rfl) (by kernel_rfl) (fun _ _ h => h) ?_)
    | (refine at_done (by simp only [List.filterMap_cons, List.filterMap_nil, List.getElem?_toArray, List.getElem?_cons_zero, List.getElem?_cons_succ]; exact rfl) ?_) | (refine at_alt (by simp only [List.filterMap_cons, List.filterMap_nil, List.getElem?_toArray, List.getElem?_cons_zero, List.getElem?_cons_succ]; exact rfl) ?_) | refine qalt_normal ?_ | refine ats_cons ?_ ?_ | exact ats_nil
    | ((with_reducible first | refine awN (tyOf_ok _) [] ?_ | refine awO (tyOf_ok _) [] ?_ | refine awP (tyOf_ok _) [] ?_ | refine awQ ?_ | refine awR ?_ | refine awS ?_); intro r hr; simp only [go_sem, Nat.reduceBEq, Nat.reduceBneDiff, Nat.reduceLT, Nat.reduceLeDiff, Nat.reduceAdd, Nat.reduceMul, Nat.reduceSub, Nat.reduceEqDiff, reduceCtorEq, encPs_len, k1, k2, k3, k4, k5, k6, k7, k8, e1] at hr; subst hr; (first | refine caB 84 (vI 0) ?_ ?_ ?_ | refine awV ?_ ?_ | refine awW ?_ ?_ | refine endK ?_ ?_ | (refine condK (fun h => ?_) (fun h => ?_) <;> (try simp only [go_sem, reduceCtorEq] at h) <;> (try (exfalso; omega))))) | fail)) <;> (try omega)
    exact rfl
  · have e1 : (x.kind = 1) = False := eq_false hk
    rw [if_pos hk]
    (repeat' (first
    | exact trivial
    | (with_reducible first | refine awA ?_ | refine awB ?_ | refine awC ?_ | refine awD ?_ | refine awE ?_ | refine awF ?_ | refine awG ?_ | refine awH ?_ | refine awI ?_ | refine awJ ?_ | refine awK ?_ | refine awL ?_ | refine awM (by decide) ?_)
    | (refine aw_draw (id := 19) (t := (.node [0, 1, 2, 3, 4, 5, 6, 7, 8, 9, 10, 11, 12, 13, 14, 15, 16] [])) (drR [2, 3] [] []) mixed (by kernel_rfl) (by kernel_rfl) (fun _ _ h => h) ?_)
    | (refine at_done (by simp only [List.filterMap_cons, List.filterMap_nil, List.getElem?_toArray, List.getElem?_cons_zero, List.getElem?_cons_succ]; exact rfl) ?_) | (refine at_alt (by simp only [List.filterMap_cons, List.filterMap_nil, List.getElem?_toArray, List.getElem?_cons_zero, List.getElem?_cons_succ]; exact rfl) ?_) | refine qalt_normal ?_ | refine ats_cons ?_ ?_ | exact ats_nil
    | ((with_reducible first | refine awN (tyOf_ok _) [] ?_ | refine awO (tyOf_ok _) [] ?_ | refine awP (tyOf_ok _) [] ?_ | refine awQ ?_ | refine awR ?_ | refine awS ?_); intro r hr; simp only [go_sem, Nat.reduceBEq, Nat.reduceBneDiff, Nat.reduceLT, Nat.reduceLeDiff, Nat.reduceAdd, Nat.reduceMul, Nat.reduceSub, Nat.reduceEqDiff, reduceCtorEq, encPs_len, k1, k2, k3, k4, k5, k6, k7, k8, e1] at hr; subst hr; (first | refine caB 84 (vI 0) ?_ ?_ ?_ | refine awV ?_ ?_ | refine awW ?_ ?_ | refine endK ?_ ?_ | (refine condK (fun h => ?_) (fun h => ?_) <;> (try simp only [go_sem, reduceCtorEq] at h) <;> (try (exfalso; omega))))) | fail)) <;> (try omega)
    exact rfl
theorem fits6 (t : TypeM) (k : Nat) (hr : rightOK t k = true) (x : NodeM) (hx : nodeOK x) (h1 : t.kind = 6) :
    PCall Try.prog 83 [.agg [vI t.kind, vI t.n, vI t.elem, .lst 3 (encPs t.parts)], .agg [vI x.kind, .v (.int .u64 x.n), vI x.kids]] (fun r => r = vI (fitsF t x)) := by
  refine go_fn (tyOf_ok _) Try.func83 rfl rfl (by rw [Try.results83]) Try.ntmps83 rfl fun E => ?_
  have k1 : (t.kind = 1) = False := eq_false (by omega)
  have k2 : (t.kind = 2) = False := eq_false (by omega)
  have k3 : (t.kind = 3) = False := eq_false (by omega)
  have k4 : (t.kind = 4) = False := eq_false (by omega)
  have k5 : (t.kind = 5) = False := eq_false (by omega)
  have k6 : (t.kind = 6) = True := eq_true h1
  have k7 : (t.kind = 7) = False := eq_false (by omega)
  have k8 : (t.kind = 8) = False := eq_false (by omega)
  have hkn : nkOf t.kind = 5 := by unfold nkOf; rw [h1]; decide
  unfold fitsF
  rw [hkn]
  by_cases hk : x.kind = 5
  · have e1 : (x.kind = 5) = True := eq_true hk
    rw [if_neg (by omega), if_neg (by omega)]
    rw [if_neg (by omega), if_neg (by omega)]
    (repeat' (first
    | exact trivial
    | (with_reducible first | refine awA ?_ | refine awB ?_ | refine awC ?_ | refine awD ?_ | refine awE ?_ | refine awF ?_ | refine awG ?_ | refine awH ?_ | refine awI ?_ | refine awJ ?_ | refine awK ?_ | refine awL ?_ | refine awM (by decide) ?_)
    | (refine aw_draw (id := 19) (t := (.node [0, 1, 2, 3, 4, 5, 6, 7, 8, 9, 10, 11, 12, 13, 14, 15, 16] [])) (drR [2, 3] [] []) mixed (by kernel_rfl) (by kernel_rfl) (fun _ _ h => h) ?_)
    | (refine at_done (by simp only [List.filterMap_cons, List.filterMap_nil, List.getElem?_toArray, List.getElem?_cons_zero, List.getElem?_cons_succ]; exact rfl) ?_) | (refine at_alt (by simp only [List.filterMap_cons, List.filterMap_nil, List.getElem?_toArray, List.getElem?_cons_zero, List.getElem?_cons_succ]; exact rfl) ?_) | refine qalt_normal ?_ | refine ats_cons ?_ ?_ | exact ats_nil
    | ((with_reducible first | refine awN (tyOf_ok _) [] ?_ | refine awO (tyOf_ok _) [] ?_ | refine awP (tyOf_ok _) [] ?_ | refine awQ ?_ | refine awR ?_ | refine awS ?_); intro r hr; simp only [go_sem, Nat.reduceBEq, Nat.reduceBneDiff, Nat.reduceLT, Nat.reduceLeDiff, Nat.reduceAdd, Nat.reduceMul, Nat.reduceSub, Nat.reduceEqDiff, reduceCtorEq, encPs_len, k1, k2, k3, k4, k5, k6, k7, k8, e1] at hr; subst hr; (first | refine caB 84 (vI 0) ?_ ?_ ?_ | refine awV ?_ ?_ | refine awW ?_ ?_ | refine endK ?_ ?_ | (refine condK (fun h => ?_) (fun h => ?_) <;> (try simp only [go_sem, reduceCtorEq] at h) <;> (try (exfalso; omega))))) | fail)) <;> (try omega)
    exact rfl
  · have e1 : (x.kind = 5) = False := eq_false hk
    rw [if_pos hk]
    (repeat' (first
    | exact trivial
    | (with_reducible first | refine awA ?_ | refine awB ?_ | refine awC ?_ | refine awD ?_ | refine awE ?_ | refine awF ?_ | refine awG ?_ | refine awH ?_ | refine awI ?_ | refine awJ ?_ | refine awK ?_ | refine awL ?_ | refine awM (by decide) ?_)
    | (refine aw_draw (id := 19) (t := (.node [0, 1, 2, 3, 4, 5, 6, 7, 8, 9, 10, 11, 12, 13, 14, 15, 16] [])) (drR [2, 3] [] []) mixed (by kernel_rfl) (by kernel_rfl) (fun _ _ h => h) ?_)
    | (refine at_done (by simp only [List.filterMap_cons, List.filterMap_nil, List.getElem?_toArray, List.getElem?_cons_zero, List.getElem?_cons_succ]; exact rfl) ?_) | (refine at_alt (by simp only [List.filterMap_cons, List.filterMap_nil, List.getElem?_toArray, List.getElem?_cons_zero, List.getElem?_cons_succ]; exact rfl) ?_) | refine qalt_normal ?_ | refine ats_cons ?_ ?_ | exact ats_nil
    | ((with_reducible first | refine awN (tyOf_ok _) [] ?_ | refine awO (tyOf_ok _) [] ?_ | refine awP (tyOf_ok _) [] ?_ | refine awQ ?_ | refine awR ?_ | refine awS ?_); intro r hr; simp only [go_sem, Nat.reduceBEq, Nat.reduceBneDiff, Nat.reduceLT, Nat.reduceLeDiff, Nat.reduceAdd, Nat.reduceMul, Nat.reduceSub, Nat.reduceEqDiff, reduceCtorEq, encPs_len, k1, k2, k3, k4, k5, k6, k7, k8, e1] at hr; subst hr; (first | refine caB 84 (vI 0) ?_ ?_ ?_ | refine awV ?_ ?_ | refine awW ?_ ?_ | refine endK ?_ ?_ | (refine condK (fun h => ?_) (fun h => ?_) <;> (try simp only [go_sem, reduceCtorEq] at h) <;> (try (exfalso; omega))))) | fail)) <;> (try omega)
    exact rfl
theorem fits4 (t : TypeM) (k : Nat) (hr : rightOK t k = true) (x : NodeM) (hx : nodeOK x) (h1 : t.kind = 4) :
    PCall Try.prog 83 [.agg [vI t.kind, vI t.n, vI t.elem, .lst 3 (encPs t.parts)], .agg [vI x.kind, .v (.int .u64 x.n), vI x.kids]] (fun r => r = vI (fitsF t x)) := by
  refine go_fn (tyOf_ok _) Try.func83 rfl rfl (by rw [Try.results83]) Try.ntmps83 rfl fun E => ?_
  have k1 : (t.kind = 1) = False := eq_false (by omega)
  have k2 : (t.kind = 2) = False := eq_false (by omega)
  have k3 : (t.kind = 3) = False := eq_false (by omega)
  have k4 : (t.kind = 4) = True := eq_true h1
  have k5 : (t.kind = 5) = False := eq_false (by omega)
  have k6 : (t.kind = 6) = False := eq_false (by omega)
  have k7 : (t.kind = 7) = False := eq_false (by omega)
  have k8 : (t.kind = 8) = False := eq_false (by omega)
  have hkn : nkOf t.kind = 3 := by unfold nkOf; rw [h1]; decide
  unfold fitsF
  rw [hkn]
  by_cases hk : x.kind = 3
  · have e1 : (x.kind = 3) = True := eq_true hk
    rw [if_neg (by omega), if_neg (by omega)]
    by_cases h2 : x.kids = t.n
    · have e2 : (x.kids = t.n) = True := eq_true h2
      rw [if_neg (by omega), if_neg (by omega)]
      (repeat' (first
    | exact trivial
    | (with_reducible first | refine awA ?_ | refine awB ?_ | refine awC ?_ | refine awD ?_ | refine awE ?_ | refine awF ?_ | refine awG ?_ | refine awH ?_ | refine awI ?_ | refine awJ ?_ | refine awK ?_ | refine awL ?_ | refine awM (by decide) ?_)
    | (refine aw_draw (id := 19) (t := (.node [0, 1, 2, 3, 4, 5, 6, 7, 8, 9, 10, 11, 12, 13, 14, 15, 16] [])) (drR [2, 3] [] []) mixed (by kernel_rfl) (by kernel_rfl) (fun _ _ h => h) ?_)
    | (refine at_done (by simp only [List.filterMap_cons, List.filterMap_nil, List.getElem?_toArray, List.getElem?_cons_zero, List.getElem?_cons_succ]; exact rfl) ?_) | (refine at_alt (by simp only [List.filterMap_cons, List.filterMap_nil, List.getElem?_toArray, List.getElem?_cons_zero, List.getElem?_cons_succ]; exact rfl) ?_) | refine qalt_normal ?_ | refine ats_cons ?_ ?_ | exact ats_nil
    | ((with_reducible first | refine awN (tyOf_ok _) [] ?_ | refine awO (tyOf_ok _) [] ?_ | refine awP (tyOf_ok _) [] ?_ | refine awQ ?_ | refine awR ?_ | refine awS ?_); intro r hr; simp only [go_sem, Nat.reduceBEq, Nat.reduceBneDiff, Nat.reduceLT, Nat.reduceLeDiff, Nat.reduceAdd, Nat.reduceMul, Nat.reduceSub, Nat.reduceEqDiff, reduceCtorEq, encPs_len, k1, k2, k3, k4, k5, k6, k7, k8, e1, e2] at hr; subst hr; (first | refine caB 84 (vI 0) ?_ ?_ ?_ | refine awV ?_ ?_ | refine awW ?_ ?_ | refine endK ?_ ?_ | (refine condK (fun h => ?_) (fun h => ?_) <;> (try simp only [go_sem, reduceCtorEq] at h) <;> (try (exfalso; omega))))) | fail)) <;> (try omega)
      exact rfl
    · have e2 : (x.kids = t.n) = False := eq_false h2
      rw [if_pos (by omega)]
      (repeat' (first
    | exact trivial
    | (with_reducible first | refine awA ?_ | refine awB ?_ | refine awC ?_ | refine awD ?_ | refine awE ?_ | refine awF ?_ | refine awG ?_ | refine awH ?_ | refine awI ?_ | refine awJ ?_ | refine awK ?_ | refine awL ?_ | refine awM (by decide) ?_)
    | (refine aw_draw (id := 19) (t := (.node [0, 1, 2, 3, 4, 5, 6, 7, 8, 9, 10, 11, 12, 13, 14, 15, 16] [])) (drR [2, 3] [] []) mixed (by kernel_rfl) (by kernel_rfl) (fun _ _ h => h) ?_)
    | (refine at_done (by simp only [List.filterMap_cons, List.filterMap_nil, List.getElem?_toArray, List.getElem?_cons_zero, List.getElem?_cons_succ]; exact rfl) ?_) | (refine at_alt (by simp only [List.filterMap_cons, List.filterMap_nil, List.getElem?_toArray, List.getElem?_cons_zero, List.getElem?_cons_succ]; exact rfl) ?_) | refine qalt_normal ?_ | refine ats_cons ?_ ?_ | exact ats_nil
    | ((with_reducible first | refine awN (tyOf_ok _) [] ?_ | refine awO (tyOf_ok _) [] ?_ | refine awP (tyOf_ok _) [] ?_ | refine awQ ?_ | refine awR ?_ | refine awS ?_); intro r hr; simp only [go_sem, Nat.reduceBEq, Nat.reduceBneDiff, Nat.reduceLT, Nat.reduceLeDiff, Nat.reduceAdd, Nat.reduceMul, Nat.reduceSub, Nat.reduceEqDiff, reduceCtorEq, encPs_len, k1, k2, k3, k4, k5, k6, k7, k8, e1, e2] at hr; subst hr; (first | refine caB 84 (vI 0) ?_ ?_ ?_ | refine awV ?_ ?_ | refine awW ?_ ?_ | refine endK ?_ ?_ | (refine condK (fun h => ?_) (fun h => ?_) <;> (try simp only [go_sem, reduceCtorEq] at h) <;> (try (exfalso; omega))))) | fail)) <;> (try omega)
      exact rfl
  · have e1 : (x.kind = 3) = False := eq_false hk
    rw [if_pos hk]
    (repeat' (first
    | exact trivial
    | (with_reducible first | refine awA ?_ | refine awB ?_ | refine awC ?_ | refine awD ?_ | refine awE ?_ | refine awF ?_ | refine awG ?_ | refine awH ?_ | refine awI ?_ | refine awJ ?_ | refine awK ?_ | refine awL ?_ | refine awM (by decide) ?_)
    | (refine aw_draw (id := 19) (t := (.node [0, 1, 2, 3, 4, 5, 6, 7, 8, 9, 10, 11, 12, 13, 14, 15, 16] [])) (drR [2, 3] [] []) mixed (by kernel_rfl) (by kernel_rfl) (fun _ _ h => h) ?_)
    | (refine at_done (by simp only [List.filterMap_cons, List.filterMap_nil, List.getElem?_toArray, List.getElem?_cons_zero, List.getElem?_cons_succ]; exact rfl) ?_) | (refine at_alt (by simp only [List.filterMap_cons, List.filterMap_nil, List.getElem?_toArray, List.getElem?_cons_zero, List.getElem?_cons_succ]; exact rfl) ?_) | refine qalt_normal ?_ | refine ats_cons ?_ ?_ | exact ats_nil
    | ((with_reducible first | refine awN (tyOf_ok _) [] ?_ | refine awO (tyOf_ok _) [] ?_ | refine awP (tyOf_ok _) [] ?_ | refine awQ ?_ | refine awR ?_ | refine awS ?_); intro r hr; simp only [go_sem, Nat.reduceBEq, Nat.reduceBneDiff, Nat.reduceLT, Nat.reduceLeDiff, Nat.reduceAdd, Nat.reduceMul, Nat.reduceSub, Nat.reduceEqDiff, reduceCtorEq, encPs_len, k1, k2, k3, k4, k5, k6, k7, k8, e1] at hr; subst hr; (first | refine caB 84 (vI 0) ?_ ?_ ?_ | refine awV ?_ ?_ | refine awW ?_ ?_ | refine endK ?_ ?_ | (refine condK (fun h => ?_) (fun h => ?_) <;> (try simp only [go_sem, reduceCtorEq] at h) <;> (try (exfalso; omega))))) | fail)) <;> (try omega)
    exact rfl
theorem fits8 (t : TypeM) (k : Nat) (hr : rightOK t k = true) (x : NodeM) (hx : nodeOK x) (h1 : t.kind = 8) :
    PCall Try.prog 83 [.agg [vI t.kind, vI t.n, vI t.elem, .lst 3 (encPs t.parts)], .agg [vI x.kind, .v (.int .u64 x.n), vI x.kids]] (fun r => r = vI (fitsF t x)) := by
  refine go_fn (tyOf_ok _) Try.func83 rfl rfl (by rw [Try.results83]) Try.ntmps83 rfl fun E => ?_
  have k1 : (t.kind = 1) = False := eq_false (by omega)
  have k2 : (t.kind = 2) = False := eq_false (by omega)
  have k3 : (t.kind = 3) = False := eq_false (by omega)
  have k4 : (t.kind = 4) = False := eq_false (by omega)
  have k5 : (t.kind = 5) = False := eq_false (by omega)
  have k6 : (t.kind = 6) = False := eq_false (by omega)
  have k7 : (t.kind = 7) = False := eq_false (by omega)
  have k8 : (t.kind = 8) = True := eq_true h1
  have hkn : nkOf t.kind = 4 := by unfold nkOf; rw [h1]; decide
  unfold fitsF
  rw [hkn]
  by_cases hk : x.kind = 4
  · have e1 : (x.kind = 4) = True := eq_true hk
    rw [if_neg (by omega), if_neg (by omega)]
    by_cases h2 : x.kids = (t.parts.length : Int)
    · have e2 : (x.kids = (t.parts.length : Int)) = True := eq_true h2
      rw [if_neg (by omega), if_neg (by omega)]
      (repeat' (first
    | exact trivial
    | (with_reducible first | refine awA ?_ | refine awB ?_ | refine awC ?_ | refine awD ?_ | refine awE ?_ | refine awF ?_ | refine awG ?_ | refine awH ?_ | refine awI ?_ | refine awJ ?_ | refine awK ?_ | refine awL ?_ | refine awM (by decide) ?_)
    | (refine aw_draw (id := 19) (t := (.node [0, 1, 2, 3, 4, 5, 6, 7, 8, 9, 10, 11, 12, 13, 14, 15, 16] [])) (drR [2, 3] [] []) mixed (by kernel_rfl) (by kernel_rfl) (fun _ _ h => h) ?_)
    | (refine at_done (by simp only [List.filterMap_cons, List.filterMap_nil, List.getElem?_toArray, List.getElem?_cons_zero, List.getElem?_cons_succ]; exact rfl) ?_) | (refine at_alt (by simp only [List.filterMap_cons, List.filterMap_nil, List.getElem?_toArray, List.getElem?_cons_zero, List.getElem?_cons_succ]; exact rfl) ?_) | refine qalt_normal ?_ | refine ats_cons ?_ ?_ | exact ats_nil
    | ((with_reducible first | refine awN (tyOf_ok _) [] ?_ | refine awO (tyOf_ok _) [] ?_ | refine awP (tyOf_ok _) [] ?_ | refine awQ ?_ | refine awR ?_ | refine awS ?_); intro r hr; simp only [go_sem, Nat.reduceBEq, Nat.reduceBneDiff, Nat.reduceLT, Nat.reduceLeDiff, Nat.reduceAdd, Nat.reduceMul, Nat.reduceSub, Nat.reduceEqDiff, reduceCtorEq, encPs_len, k1, k2, k3, k4, k5, k6, k7, k8, e1, e2] at hr; subst hr; (first | refine caB 84 (vI 0) ?_ ?_ ?_ | refine awV ?_ ?_ | refine awW ?_ ?_ | refine endK ?_ ?_ | (refine condK (fun h => ?_) (fun h => ?_) <;> (try simp only [go_sem, reduceCtorEq] at h) <;> (try (exfalso; omega))))) | fail)) <;> (try omega)
      exact rfl
    · have e2 : (x.kids = (t.parts.length : Int)) = False := eq_false h2
      rw [if_pos (by omega)]
      (repeat' (first
    | exact trivial
    | (with_reducible first | refine awA ?_ | refine awB ?_ | refine awC ?_ | refine awD ?_ | refine awE ?_ | refine awF ?_ | refine awG ?_ | refine awH ?_ | refine awI ?_ | refine awJ ?_ | refine awK ?_ | refine awL ?_ | refine awM (by decide) ?_)
    | (refine aw_draw (id := 19) (t := (.node [0, 1, 2, 3, 4, 5, 6, 7, 8, 9, 10, 11, 12, 13, 14, 15, 16] [])) (drR [2, 3] [] []) mixed (by kernel_rfl) (by kernel_rfl) (fun _ _ h => h) ?_)
    | (refine at_done (by simp only [List.filterMap_cons, List.filterMap_nil, List.getElem?_toArray, List.getElem?_cons_zero, List.getElem?_cons_succ]; exact rfl) ?_) | (refine at_alt (by simp only [List.filterMap_cons, List.filterMap_nil, List.getElem?_toArray, List.getElem?_cons_zero, List.getElem?_cons_succ]; exact rfl) ?_) | refine qalt_normal ?_ | refine ats_cons ?_ ?_ | exact ats_nil
    | ((with_reducible first | refine awN (tyOf_ok _) [] ?_ | refine awO (tyOf_ok _) [] ?_ | refine awP (tyOf_ok _) [] ?_ | refine awQ ?_ | refine awR ?_ | refine awS ?_); intro r hr; simp only [go_sem, Nat.reduceBEq, Nat.reduceBneDiff, Nat.reduceLT, Nat.reduceLeDiff, Nat.reduceAdd, Nat.reduceMul, Nat.reduceSub, Nat.reduceEqDiff, reduceCtorEq, encPs_len, k1, k2, k3, k4, k5, k6, k7, k8, e1, e2] at hr; subst hr; (first | refine caB 84 (vI 0) ?_ ?_ ?_ | refine awV ?_ ?_ | refine awW ?_ ?_ | refine endK ?_ ?_ | (refine condK (fun h => ?_) (fun h => ?_) <;> (try simp only [go_sem, reduceCtorEq] at h) <;> (try (exfalso; omega))))) | fail)) <;> (try omega)
      exact rfl
  · have e1 : (x.kind = 4) = False := eq_false hk
    rw [if_pos hk]
    (repeat' (first
    | exact trivial
    | (with_reducible first | refine awA ?_ | refine awB ?_ | refine awC ?_ | refine awD ?_ | refine awE ?_ | refine awF ?_ | refine awG ?_ | refine awH ?_ | refine awI ?_ | refine awJ ?_ | refine awK ?_ | refine awL ?_ | refine awM (by decide) ?_)
    | (refine aw_draw (id := 19) (t := (.node [0, 1, 2, 3, 4, 5, 6, 7, 8, 9, 10, 11, 12, 13, 14, 15, 16] [])) (drR [2, 3] [] []) mixed (by kernel_rfl) (by kernel_rfl) (fun _ _ h => h) ?_)
    | (refine at_done (by simp only [List.filterMap_cons, List.filterMap_nil, List.getElem?_toArray, List.getElem?_cons_zero, List.getElem?_cons_succ]; exact rfl) ?_) | (refine at_alt (by simp only [List.filterMap_cons, List.filterMap_nil, List.getElem?_toArray, List.getElem?_cons_zero, List.getElem?_cons_succ]; exact rfl) ?_) | refine qalt_normal ?_ | refine ats_cons ?_ ?_ | exact ats_nil
    | ((with_reducible first | refine awN (tyOf_ok _) [] ?_ | refine awO (tyOf_ok _) [] ?_ | refine awP (tyOf_ok _) [] ?_ | refine awQ ?_ | refine awR ?_ | refine awS ?_); intro r hr; simp only [go_sem, Nat.reduceBEq, Nat.reduceBneDiff, Nat.reduceLT, Nat.reduceLeDiff, Nat.reduceAdd, Nat.reduceMul, Nat.reduceSub, Nat.reduceEqDiff, reduceCtorEq, encPs_len, k1, k2, k3, k4, k5, k6, k7, k8, e1] at hr; subst hr; (first | refine caB 84 (vI 0) ?_ ?_ ?_ | refine awV ?_ ?_ | refine awW ?_ ?_ | refine endK ?_ ?_ | (refine condK (fun h => ?_) (fun h => ?_) <;> (try simp only [go_sem, reduceCtorEq] at h) <;> (try (exfalso; omega))))) | fail)) <;> (try omega)
    exact rfl
theorem fits5 (t : TypeM) (k : Nat) (hr : rightOK t k = true) (x : NodeM) (hx : nodeOK x) (h1 : t.kind = 5) :
    PCall Try.prog 83 [.agg [vI t.kind, vI t.n, vI t.elem, .lst 3 (encPs t.parts)], .agg [vI x.kind, .v (.int .u64 x.n), vI x.kids]] (fun r => r = vI (fitsF t x)) := by
  refine go_fn (tyOf_ok _) Try.func83 rfl rfl (by rw [Try.results83]) Try.ntmps83 rfl fun E => ?_
  have k1 : (t.kind = 1) = False := eq_false (by omega)
  have k2 : (t.kind = 2) = False := eq_false (by omega)
  have k3 : (t.kind = 3) = False := eq_false (by omega)
  have k4 : (t.kind = 4) = False := eq_false (by omega)
  have k5 : (t.kind = 5) = True := eq_true h1
  have k6 : (t.kind = 6) = False := eq_false (by omega)
  have k7 : (t.kind = 7) = False := eq_false (by omega)
  have k8 : (t.kind = 8) = False := eq_false (by omega)
  have hkn : nkOf t.kind = 3 := by unfold nkOf; rw [h1]; decide
  unfold fitsF
  rw [hkn]
  by_cases hk : x.kind = 3
  · have e1 : (x.kind = 3) = True := eq_true hk
    rw [if_neg (by omega), if_neg (by omega)]
    by_cases h2 : t.n < x.kids
    · have e2 : (t.n < x.kids) = True := eq_true h2
      rw [if_pos (by omega)]
      (repeat' (first
    | exact trivial
    | (with_reducible first | refine awA ?_ | refine awB ?_ | refine awC ?_ | refine awD ?_ | refine awE ?_ | refine awF ?_ | refine awG ?_ | refine awH ?_ | refine awI ?_ | refine awJ ?_ | refine awK ?_ | refine awL ?_ | refine awM (by decide) ?_)
    | (refine aw_draw (id := 19) (t := (.node [0, 1, 2, 3, 4, 5, 6, 7, 8, 9, 10, 11, 12, 13, 14, 15, 16] [])) (drR [2, 3] [] []) mixed (by kernel_rfl) (by kernel_rfl) (fun _ _ h => h) ?_)
    | (refine at_done (by simp only [List.filterMap_cons, List.filterMap_nil, List.getElem?_toArray, List.getElem?_cons_zero, List.getElem?_cons_succ]; exact rfl) ?_) | (refine at_alt (by simp only [List.filterMap_cons, List.filterMap_nil, List.getElem?_toArray, List.getElem?_cons_zero, List.getElem?_cons_succ]; exact rfl) ?_) | refine qalt_normal ?_ | refine ats_cons ?_ ?_ | exact ats_nil
    | ((with_reducible first | refine awN (tyOf_ok _) [] ?_ | refine awO (tyOf_ok _) [] ?_ | refine awP (tyOf_ok _) [] ?_ | refine awQ ?_ | refine awR ?_ | refine awS ?_); intro r hr; simp only [go_sem, Nat.reduceBEq, Nat.reduceBneDiff, Nat.reduceLT, Nat.reduceLeDiff, Nat.reduceAdd, Nat.reduceMul, Nat.reduceSub, Nat.reduceEqDiff, reduceCtorEq, encPs_len, k1, k2, k3, k4, k5, k6, k7, k8, e1, e2] at hr; subst hr; (first | refine caB 84 (vI 0) ?_ ?_ ?_ | refine awV ?_ ?_ | refine awW ?_ ?_ | refine endK ?_ ?_ | (refine condK (fun h => ?_) (fun h => ?_) <;> (try simp only [go_sem, reduceCtorEq] at h) <;> (try (exfalso; omega))))) | fail)) <;> (try omega)
      exact rfl
    · have e2 : (t.n < x.kids) = False := eq_false h2
      rw [if_neg (by omega), if_neg (by omega)]
      (repeat' (first
    | exact trivial
    | (with_reducible first | refine awA ?_ | refine awB ?_ | refine awC ?_ | refine awD ?_ | refine awE ?_ | refine awF ?_ | refine awG ?_ | refine awH ?_ | refine awI ?_ | refine awJ ?_ | refine awK ?_ | refine awL ?_ | refine awM (by decide) ?_)
    | (refine aw_draw (id := 19) (t := (.node [0, 1, 2, 3, 4, 5, 6, 7, 8, 9, 10, 11, 12, 13, 14, 15, 16] [])) (drR [2, 3] [] []) mixed (by kernel_rfl) (by kernel_rfl) (fun _ _ h => h) ?_)
    | (refine at_done (by simp only [List.filterMap_cons, List.filterMap_nil, List.getElem?_toArray, List.getElem?_cons_zero, List.getElem?_cons_succ]; exact rfl) ?_) | (refine at_alt (by simp only [List.filterMap_cons, List.filterMap_nil, List.getElem?_toArray, List.getElem?_cons_zero, List.getElem?_cons_succ]; exact rfl) ?_) | refine qalt_normal ?_ | refine ats_cons ?_ ?_ | exact ats_nil
    | ((with_reducible first | refine awN (tyOf_ok _) [] ?_ | refine awO (tyOf_ok _) [] ?_ | refine awP (tyOf_ok _) [] ?_ | refine awQ ?_ | refine awR ?_ | refine awS ?_); intro r hr; simp only [go_sem, Nat.reduceBEq, Nat.reduceBneDiff, Nat.reduceLT, Nat.reduceLeDiff, Nat.reduceAdd, Nat.reduceMul, Nat.reduceSub, Nat.reduceEqDiff, reduceCtorEq, encPs_len, k1, k2, k3, k4, k5, k6, k7, k8, e1, e2] at hr; subst hr; (first | refine caB 84 (vI 0) ?_ ?_ ?_ | refine awV ?_ ?_ | refine awW ?_ ?_ | refine endK ?_ ?_ | (refine condK (fun h => ?_) (fun h => ?_) <;> (try simp only [go_sem, reduceCtorEq] at h) <;> (try (exfalso; omega))))) | fail)) <;> (try omega)
      exact rfl
  · have e1 : (x.kind = 3) = False := eq_false hk
    rw [if_pos hk]
    (repeat' (first
    | exact trivial
    | (with_reducible first | refine awA ?_ | refine awB ?_ | refine awC ?_ | refine awD ?_ | refine awE ?_ | refine awF ?_ | refine awG ?_ | refine awH ?_ | refine awI ?_ | refine awJ ?_ | refine awK ?_ | refine awL ?_ | refine awM (by decide) ?_)
    | (refine aw_draw (id := 19) (t := (.node [0, 1, 2, 3, 4, 5, 6, 7, 8, 9, 10, 11, 12, 13, 14, 15, 16] [])) (drR [2, 3] [] []) mixed (by kernel_rfl) (by kernel_rfl) (fun _ _ h => h) ?_)
    | (refine at_done (by simp only [List.filterMap_cons, List.filterMap_nil, List.getElem?_toArray, List.getElem?_cons_zero, List.getElem?_cons_succ]; exact rfl) ?_) | (refine at_alt (by simp only [List.filterMap_cons, List.filterMap_nil, List.getElem?_toArray, List.getElem?_cons_zero, List.getElem?_cons_succ]; exact rfl) ?_) | refine qalt_normal ?_ | refine ats_cons ?_ ?_ | exact ats_nil
    | ((with_reducible first | refine awN (tyOf_ok _) [] ?_ | refine awO (tyOf_ok _) [] ?_ | refine awP (tyOf_ok _) [] ?_ | refine awQ ?_ | refine awR ?_ | refine awS ?_); intro r hr; simp only [go_sem, Nat.reduceBEq, Nat.reduceBneDiff, Nat.reduceLT, Nat.reduceLeDiff, Nat.reduceAdd, Nat.reduceMul, Nat.reduceSub, Nat.reduceEqDiff, reduceCtorEq, encPs_len, k1, k2, k3, k4, k5, k6, k7, k8, e1] at hr; subst hr; (first | refine caB 84 (vI 0) ?_ ?_ ?_ | refine awV ?_ ?_ | refine awW ?_ ?_ | refine endK ?_ ?_ | (refine condK (fun h => ?_) (fun h => ?_) <;> (try simp only [go_sem, reduceCtorEq] at h) <;> (try (exfalso; omega))))) | fail)) <;> (try omega)
    exact rfl
theorem fits7 (t : TypeM) (k : Nat) (hr : rightOK t k = true) (x : NodeM) (hx : nodeOK x) (h1 : t.kind = 7) :
    PCall Try.prog 83 [.agg [vI t.kind, vI t.n, vI t.elem, .lst 3 (encPs t.parts)], .agg [vI x.kind, .v (.int .u64 x.n), vI x.kids]] (fun r => r = vI (fitsF t x)) := by
  refine go_fn (tyOf_ok _) Try.func83 rfl rfl (by rw [Try.results83]) Try.ntmps83 rfl fun E => ?_
  have k1 : (t.kind = 1) = False := eq_false (by omega)
  have k2 : (t.kind = 2) = False := eq_false (by omega)
  have k3 : (t.kind = 3) = False := eq_false (by omega)
  have k4 : (t.kind = 4) = False := eq_false (by omega)
  have k5 : (t.kind = 5) = False := eq_false (by omega)
  have k6 : (t.kind = 6) = False := eq_false (by omega)
  have k7 : (t.kind = 7) = True := eq_true h1
  have k8 : (t.kind = 8) = False := eq_false (by omega)
  have hkn : nkOf t.kind = 6 := by unfold nkOf; rw [h1]; decide
  unfold fitsF
  rw [hkn]
  by_cases hk : x.kind = 6
  · have e1 : (x.kind = 6) = True := eq_true hk
    rw [if_neg (by omega), if_neg (by omega)]
    have hp := right_parts hr (.inl h1)
    have hE := Elem_any t (by omega) (fun p hp => by have := right_tag hr h1 p hp; unfold I64; omega) x hx.2.2 0 (fun h => by omega)
    rw [if_neg (by omega)]
    cases ha : armOf t.parts x.n with
    | none =>
      have hel : elemF t x.n 0 = -1 := by unfold elemF; rw [if_neg (by omega), if_neg (by omega), if_pos h1, ha]
      rw [hel] at hE
      rw [if_pos ⟨h1, rfl⟩]
      (repeat' (first
    | exact trivial
    | (with_reducible first | refine awA ?_ | refine awB ?_ | refine awC ?_ | refine awD ?_ | refine awE ?_ | refine awF ?_ | refine awG ?_ | refine awH ?_ | refine awI ?_ | refine awJ ?_ | refine awK ?_ | refine awL ?_ | refine awM (by decide) ?_)
    | (refine aw_draw (id := 19) (t := (.node [0, 1, 2, 3, 4, 5, 6, 7, 8, 9, 10, 11, 12, 13, 14, 15, 16] [])) (drR [2, 3] [] []) mixed (by kernel_rfl) (by kernel_rfl) (fun _ _ h => h) ?_)
    | (refine at_done (by simp only [List.filterMap_cons, List.filterMap_nil, List.getElem?_toArray, List.getElem?_cons_zero, List.getElem?_cons_succ]; exact rfl) ?_) | (refine at_alt (by simp only [List.filterMap_cons, List.filterMap_nil, List.getElem?_toArray, List.getElem?_cons_zero, List.getElem?_cons_succ]; exact rfl) ?_) | refine qalt_normal ?_ | refine ats_cons ?_ ?_ | exact ats_nil
    | ((with_reducible first | refine awN (tyOf_ok _) [] ?_ | refine awO (tyOf_ok _) [] ?_ | refine awP (tyOf_ok _) [] ?_ | refine awQ ?_ | refine awR ?_ | refine awS ?_); intro r hr; simp only [go_sem, Nat.reduceBEq, Nat.reduceBneDiff, Nat.reduceLT, Nat.reduceLeDiff, Nat.reduceAdd, Nat.reduceMul, Nat.reduceSub, Nat.reduceEqDiff, reduceCtorEq, encPs_len, k1, k2, k3, k4, k5, k6, k7, k8, e1] at hr; subst hr; (first | refine caA (fun _ => hE) rfl ?_ ?_ ?_ | refine awV ?_ ?_ | refine awW ?_ ?_ | refine endK ?_ ?_ | (refine condK (fun h => ?_) (fun h => ?_) <;> (try simp only [go_sem, reduceCtorEq] at h) <;> (try (exfalso; omega))))) | fail)) <;> (try omega)
      exact rfl
    | some p =>
      have hel : elemF t x.n 0 = p.ty := by unfold elemF; rw [if_neg (by omega), if_neg (by omega), if_pos h1, ha]
      rw [hel] at hE
      rw [if_neg (by rintro ⟨_, h⟩; cases h)]
      have hty := (rightOK_ty hr).2 p (List.mem_of_find?_eq_some ha)
      have e2 : (p.ty < 0) = False := eq_false (by omega)
      (repeat' (first
    | exact trivial
    | (with_reducible first | refine awA ?_ | refine awB ?_ | refine awC ?_ | refine awD ?_ | refine awE ?_ | refine awF ?_ | refine awG ?_ | refine awH ?_ | refine awI ?_ | refine awJ ?_ | refine awK ?_ | refine awL ?_ | refine awM (by decide) ?_)
    | (refine aw_draw (id := 19) (t := (.node [0, 1, 2, 3, 4, 5, 6, 7, 8, 9, 10, 11, 12, 13, 14, 15, 16] [])) (drR [2, 3] [] []) mixed (by kernel_rfl) (by kernel_rfl) (fun _ _ h => h) ?_)
    | (refine at_done (by simp only [List.filterMap_cons, List.filterMap_nil, List.getElem?_toArray, List.getElem?_cons_zero, List.getElem?_cons_succ]; exact rfl) ?_) | (refine at_alt (by simp only [List.filterMap_cons, List.filterMap_nil, List.getElem?_toArray, List.getElem?_cons_zero, List.getElem?_cons_succ]; exact rfl) ?_) | refine qalt_normal ?_ | refine ats_cons ?_ ?_ | exact ats_nil
    | ((with_reducible first | refine awN (tyOf_ok _) [] ?_ | refine awO (tyOf_ok _) [] ?_ | refine awP (tyOf_ok _) [] ?_ | refine awQ ?_ | refine awR ?_ | refine awS ?_); intro r hr; simp only [go_sem, Nat.reduceBEq, Nat.reduceBneDiff, Nat.reduceLT, Nat.reduceLeDiff, Nat.reduceAdd, Nat.reduceMul, Nat.reduceSub, Nat.reduceEqDiff, reduceCtorEq, encPs_len, k1, k2, k3, k4, k5, k6, k7, k8, e1, e2] at hr; subst hr; (first | refine caA (fun _ => hE) rfl ?_ ?_ ?_ | refine awV ?_ ?_ | refine awW ?_ ?_ | refine endK ?_ ?_ | (refine condK (fun h => ?_) (fun h => ?_) <;> (try simp only [go_sem, reduceCtorEq] at h) <;> (try (exfalso; omega))))) | fail)) <;> (try omega)
      exact rfl
  · have e1 : (x.kind = 6) = False := eq_false hk
    rw [if_pos hk]
    (repeat' (first
    | exact trivial
    | (with_reducible first | refine awA ?_ | refine awB ?_ | refine awC ?_ | refine awD ?_ | refine awE ?_ | refine awF ?_ | refine awG ?_ | refine awH ?_ | refine awI ?_ | refine awJ ?_ | refine awK ?_ | refine awL ?_ | refine awM (by decide) ?_)
    | (refine aw_draw (id := 19) (t := (.node [0, 1, 2, 3, 4, 5, 6, 7, 8, 9, 10, 11, 12, 13, 14, 15, 16] [])) (drR [2, 3] [] []) mixed (by kernel_rfl) (by kernel_rfl) (fun _ _ h => h) ?_)
    | (refine at_done (by simp only [List.filterMap_cons, List.filterMap_nil, List.getElem?_toArray, List.getElem?_cons_zero, List.getElem?_cons_succ]; exact rfl) ?_) | (refine at_alt (by simp only [List.filterMap_cons, List.filterMap_nil, List.getElem?_toArray, List.getElem?_cons_zero, List.getElem?_cons_succ]; exact rfl) ?_) | refine qalt_normal ?_ | refine ats_cons ?_ ?_ | exact ats_nil
    | ((with_reducible first | refine awN (tyOf_ok _) [] ?_ | refine awO (tyOf_ok _) [] ?_ | refine awP (tyOf_ok _) [] ?_ | refine awQ ?_ | refine awR ?_ | refine awS ?_); intro r hr; simp only [go_sem, Nat.reduceBEq, Nat.reduceBneDiff, Nat.reduceLT, Nat.reduceLeDiff, Nat.reduceAdd, Nat.reduceMul, Nat.reduceSub, Nat.reduceEqDiff, reduceCtorEq, encPs_len, k1, k2, k3, k4, k5, k6, k7, k8, e1] at hr; subst hr; (first | refine caB 84 (vI 0) ?_ ?_ ?_ | refine awV ?_ ?_ | refine awW ?_ ?_ | refine endK ?_ ?_ | (refine condK (fun h => ?_) (fun h => ?_) <;> (try simp only [go_sem, reduceCtorEq] at h) <;> (try (exfalso; omega))))) | fail)) <;> (try omega)
    exact rfl
theorem Fits_ok (t : TypeM) (k : Nat) (hr : rightOK t k = true) (x : NodeM) (hx : nodeOK x) :
    PCall Try.prog 83 [.agg [vI t.kind, vI t.n, vI t.elem, .lst 3 (encPs t.parts)], .agg [vI x.kind, .v (.int .u64 x.n), vI x.kids]] (fun r => r = vI (fitsF t x)) := by
  rcases rightOK_kind hr with h | h | h
  · rcases h with h | h | h
    · exact fits1 t k hr x hx h
    · exact fits2 t k hr x hx h
    · exact fits3 t k hr x hx h
  · rcases h with h | h | h
    · exact fits4 t k hr x hx h
    · exact fits5 t k hr x hx h
    · exact fits6 t k hr x hx h
  · rcases h with h | h
    · exact fits7 t k hr x hx h
    · exact fits8 t k hr x hx h
end Go.Proofs.Ytfgacgpicfknpaa
end
section
namespace Go.Proofs.Ytfgacgpicfknpaa
open Go.RowKit
set_option maxRecDepth 100000
set_option maxHeartbeats 8000000
/-! Values as trees; what chapter 4 says of nodes. -/
inductive Tr where
  | node (x : NodeM) (ks : List Tr)
def Tr.flat : Tr → List NodeM
  | .node x ks => x :: flatL ks
where flatL : List Tr → List NodeM
  | [] => []
  | c :: cs => c.flat ++ flatL cs
def numberN (kind n : Int) : Bool := if kind = 1 then true else if kind = 2 then decide (n ≤ 1) else if kind = 6 then decide (n ≤ 255) else decide (n = 0) && (decide (kind = 3) || decide (kind = 4) || decide (kind = 5))
def rightN (x : NodeM) : Bool := numberN x.kind x.n &&
  if x.kind = 3 then decide (0 ≤ x.kids) && decide (x.kids ≤ 1048576) else if x.kind = 4 then decide (1 ≤ x.kids) && decide (x.kids ≤ 64) else if x.kind = 5 then decide (x.kids = 0) || decide (x.kids = 1) else if x.kind = 6 then decide (x.kids = 1) else decide (x.kids = 0)
def chkL : List NodeM → Int → Int → Int × Int
  | [], want, i => if 0 < want then (40, i) else (0, 0)
  | x :: l, want, i => if want = 0 ∨ rightN x = false then (40, i) else chkL l (want - 1 + x.kids) (i + 1)
def chkN (l : List NodeM) : Int × Int := chkL l 1 0
theorem rightN_kids {x : NodeM} (h : rightN x = true) : 0 ≤ x.kids ∧ x.kids ≤ 1048576 := by
  rw [rightN, Bool.and_eq_true] at h
  obtain ⟨_, h⟩ := h
  split at h
  · simp only [Bool.and_eq_true, decide_eq_true_eq] at h; exact h
  · split at h
    · simp only [Bool.and_eq_true, decide_eq_true_eq] at h; omega
    · split at h
      · simp only [Bool.or_eq_true, decide_eq_true_eq] at h; omega
      · split at h <;> simp only [decide_eq_true_eq] at h <;> omega
theorem Number_any (kind n : Int) : PCall Try.prog 99 [vI kind, .v (.int .u64 n)] (fun r => r = vB (numberN kind n)) := by
  refine go_fn (tyOf_ok _) Try.func99 rfl rfl (by rw [Try.results99]) Try.ntmps99 rfl fun E => ?_
  (repeat' (first
    | exact trivial
    | (with_reducible first | refine awA ?_ | refine awB ?_ | refine awC ?_ | refine awD ?_ | refine awE ?_ | refine awF ?_ | refine awG ?_ | refine awH ?_ | refine awI ?_ | refine awJ ?_ | refine awK ?_ | refine awL ?_ | refine awM (by decide) ?_)
    | ((with_reducible first | refine awN (tyOf_ok _) [] ?_ | refine awO (tyOf_ok _) [] ?_ | refine awP (tyOf_ok _) [] ?_ | refine awQ ?_ | refine awR ?_ | refine awS ?_); intro r hr; simp only [go_sem, Nat.reduceBEq, Nat.reduceBneDiff, Nat.reduceLT, Nat.reduceLeDiff, Nat.reduceAdd, Nat.reduceMul, Nat.reduceSub, Nat.reduceEqDiff, reduceCtorEq] at hr; subst hr; (first | refine awV ?_ ?_ | refine awW ?_ ?_ | refine endK ?_ ?_ | (refine condK (fun h => ?_) (fun h => ?_) <;> (try simp only [go_sem, reduceCtorEq] at h) <;> (try (exfalso; omega))))) | fail)) <;> (try omega)
  all_goals first
    | exact congrArg (fun b => AV.v (.bool b)) (by simp [numberN, *])
    | exact congrArg (fun b => AV.v (.bool b)) (by rw [numberN, if_neg ‹_›, if_neg ‹_›, if_neg ‹_›, Bool.or_assoc])
    | exact ⟨fun h => ⟨h, fun h2 => by rw [h, h2]; rfl⟩, fun h => ⟨h, fun h2 => by rw [h, h2]; rfl⟩⟩
theorem Right_any (x : NodeM) : PCall Try.prog 82 [.agg [vI x.kind, .v (.int .u64 x.n), vI x.kids]] (fun r => r = vB (rightN x)) := by
  refine go_fn (tyOf_ok _) Try.func82 rfl rfl (by rw [Try.results82]) Try.ntmps82 rfl fun E => ?_
  have hn := Number_any x.kind x.n
  by_cases h : numberN x.kind x.n = true
  · (repeat' (first
    | exact trivial
    | (with_reducible first | refine awA ?_ | refine awB ?_ | refine awC ?_ | refine awD ?_ | refine awE ?_ | refine awF ?_ | refine awG ?_ | refine awH ?_ | refine awI ?_ | refine awJ ?_ | refine awK ?_ | refine awL ?_ | refine awM (by decide) ?_)
    | ((with_reducible first | refine awN (tyOf_ok _) [] ?_ | refine awO (tyOf_ok _) [] ?_ | refine awP (tyOf_ok _) [] ?_ | refine awQ ?_ | refine awR ?_ | refine awS ?_); intro r hr; simp only [go_sem, Nat.reduceBEq, Nat.reduceBneDiff, Nat.reduceLT, Nat.reduceLeDiff, Nat.reduceAdd, Nat.reduceMul, Nat.reduceSub, Nat.reduceEqDiff, reduceCtorEq, h] at hr; subst hr; (first | refine caA (fun _ => hn) rfl ?_ ?_ ?_ | refine awV ?_ ?_ | refine awW ?_ ?_ | refine endK ?_ ?_ | (refine condK (fun h => ?_) (fun h => ?_) <;> (try simp only [go_sem, reduceCtorEq] at h) <;> (try (exfalso; omega))))) | fail)) <;> (try omega)
    all_goals exact congrArg (fun b => AV.v (.bool b)) (by rw [rightN, ‹numberN x.kind x.n = true›, Bool.true_and]; simp [*])
  · have e0 : numberN x.kind x.n = false := by simpa using h
    (repeat' (first
    | exact trivial
    | (with_reducible first | refine awA ?_ | refine awB ?_ | refine awC ?_ | refine awD ?_ | refine awE ?_ | refine awF ?_ | refine awG ?_ | refine awH ?_ | refine awI ?_ | refine awJ ?_ | refine awK ?_ | refine awL ?_ | refine awM (by decide) ?_)
    | ((with_reducible first | refine awN (tyOf_ok _) [] ?_ | refine awO (tyOf_ok _) [] ?_ | refine awP (tyOf_ok _) [] ?_ | refine awQ ?_ | refine awR ?_ | refine awS ?_); intro r hr; simp only [go_sem, Nat.reduceBEq, Nat.reduceBneDiff, Nat.reduceLT, Nat.reduceLeDiff, Nat.reduceAdd, Nat.reduceMul, Nat.reduceSub, Nat.reduceEqDiff, reduceCtorEq, e0] at hr; subst hr; (first | refine caA (fun _ => hn) rfl ?_ ?_ ?_ | refine awV ?_ ?_ | refine awW ?_ ?_ | refine endK ?_ ?_ | (refine condK (fun h => ?_) (fun h => ?_) <;> (try simp only [go_sem, reduceCtorEq] at h) <;> (try (exfalso; omega))))) | fail)) <;> (try omega)
    rw [rightN, e0]; exact rfl
theorem chkL_at (l : List NodeM) : ∀ (want i : Int), (chkL l want i).1 = 0 → (chkL l want i).2 = 0 := by
  induction l with
  | nil => intro want i h; unfold chkL at h ⊢; split at h; (· cases h); rename_i h'; rw [if_neg h']
  | cons x l ih => intro want i h; unfold chkL at h ⊢; split at h; (· cases h); rename_i h'; rw [if_neg h']; exact ih _ _ h
theorem check04_any (l : List NodeM) (hl : l.length ≤ 1000000000) : PCall Try.prog 62 [.lst 3 (encNs l)] (fun r => r = .tup [vI (chkN l).1, vI (chkN l).2]) := by
  refine go_fn (tyOf_ok _) Try.func62 rfl rfl (by rw [Try.results62]) Try.ntmps62 rfl fun E => ?_
  generalize hC : chkN l = C
  unfold chkN at hC
  (repeat' (first
    | exact trivial
    | (with_reducible first | refine awA ?_ | refine awB ?_ | refine awC ?_ | refine awD ?_ | refine awE ?_ | refine awF ?_ | refine awG ?_ | refine awH ?_ | refine awI ?_ | refine awJ ?_ | refine awK ?_ | refine awL ?_ | refine awM (by decide) ?_)
    | ((with_reducible first | refine awN (tyOf_ok _) [] ?_ | refine awO (tyOf_ok _) [] ?_ | refine awP (tyOf_ok _) [] ?_ | refine awQ ?_ | refine awR ?_ | refine awS ?_); intro r hr; simp only [go_sem, Nat.reduceBEq, Nat.reduceBneDiff, Nat.reduceLT, Nat.reduceLeDiff, Nat.reduceAdd, Nat.reduceMul, Nat.reduceSub, Nat.reduceEqDiff, reduceCtorEq] at hr; subst hr; (first | refine awV ?_ ?_ | refine awW ?_ ?_ | refine endK ?_ ?_ | (refine condK (fun h => ?_) (fun h => ?_) <;> (try simp only [go_sem, reduceCtorEq] at h) <;> (try (exfalso; omega))))) | fail)) <;> (try omega)
  refine go_loop [0, 4, 5] [] (fun p : Nat × Int => ⟨[(0, true, .lst 3 (encNs l)), (4, true, vI p.2), (5, true, vI p.1)], []⟩) (fun p => p.1 ≤ l.length ∧ C = chkL (l.drop p.1) p.2 p.1 ∧ 0 ≤ p.2 ∧ p.2 ≤ 1 + (p.1 : Int) * 1048576) (fun p => l.length - p.1) (0, 1) (by simp only [go_sem, Nat.reduceBEq, Nat.reduceBneDiff, Nat.reduceLT, Nat.reduceLeDiff, Nat.reduceAdd, Nat.reduceMul, Nat.reduceSub, Nat.reduceEqDiff, reduceCtorEq]; exact rfl)
    ⟨Nat.zero_le _, by rw [← hC]; rfl, by decide, by decide⟩ ?_
  intro ⟨i, w⟩ ⟨hi, heq, hw0, hw1⟩
  simp only at hi heq hw0 hw1
  clear hC
  have hwi := wrap_i64 (n := (i : Int) + 1) (by omega)
  by_cases hlt : i < l.length
  · have e1 : ((i : Int) < l.length) = True := eq_true (by omega)
    have g1 := encNs_get hlt
    have hR := Right_any l[i]
    have hk := rightN_kids (x := l[i])
    rw [List.drop_eq_getElem_cons hlt, chkL] at heq
    by_cases hz : w = 0
    · have e2 : (w = 0) = True := eq_true hz
      rw [if_pos (.inl hz)] at heq
      subst heq
      (repeat' (first
    | exact trivial
    | (with_reducible first | refine awA ?_ | refine awB ?_ | refine awC ?_ | refine awD ?_ | refine awE ?_ | refine awF ?_ | refine awG ?_ | refine awH ?_ | refine awI ?_ | refine awJ ?_ | refine awK ?_ | refine awL ?_ | refine awM (by decide) ?_)
    | ((with_reducible first | refine awN (tyOf_ok _) [] ?_ | refine awO (tyOf_ok _) [] ?_ | refine awP (tyOf_ok _) [] ?_ | refine awQ ?_ | refine awR ?_ | refine awS ?_); intro r hr; simp only [go_sem, Nat.reduceBEq, Nat.reduceBneDiff, Nat.reduceLT, Nat.reduceLeDiff, Nat.reduceAdd, Nat.reduceMul, Nat.reduceSub, Nat.reduceEqDiff, reduceCtorEq, encNs_len, hwi, e1, g1, e2] at hr; subst hr; (first | refine caB 82 (vB true) ?_ ?_ ?_ | refine awV ?_ ?_ | refine awW ?_ ?_ | refine endK ?_ ?_ | (refine condK (fun h => ?_) (fun h => ?_) <;> (try simp only [go_sem, reduceCtorEq] at h) <;> (try (exfalso; omega))))) | fail)) <;> (try omega)
      exact rfl
    have e2 : (w = 0) = False := eq_false hz
    by_cases hr : rightN l[i] = true
    · rw [if_neg (by rintro (h | h); (· exact hz h); rw [hr] at h; cases h)] at heq
      have := hk hr
      have hwa := wrap_i64 (n := w - 1) (by omega)
      have hwb := wrap_i64 (n := w - 1 + l[i].kids) (by omega)
      rw [hr] at hR
      (repeat' (first
    | exact trivial
    | (with_reducible first | refine awA ?_ | refine awB ?_ | refine awC ?_ | refine awD ?_ | refine awE ?_ | refine awF ?_ | refine awG ?_ | refine awH ?_ | refine awI ?_ | refine awJ ?_ | refine awK ?_ | refine awL ?_ | refine awM (by decide) ?_)
    | ((with_reducible first | refine awN (tyOf_ok _) [] ?_ | refine awO (tyOf_ok _) [] ?_ | refine awP (tyOf_ok _) [] ?_ | refine awQ ?_ | refine awR ?_ | refine awS ?_); intro r hr; simp only [go_sem, Nat.reduceBEq, Nat.reduceBneDiff, Nat.reduceLT, Nat.reduceLeDiff, Nat.reduceAdd, Nat.reduceMul, Nat.reduceSub, Nat.reduceEqDiff, reduceCtorEq, encNs_len, hwi, e1, g1, e2, hwa, hwb] at hr; subst hr; (first | refine caA (fun _ => hR) rfl ?_ ?_ ?_ | refine awV ?_ ?_ | refine awW ?_ ?_ | refine endK ?_ ?_ | (refine condK (fun h => ?_) (fun h => ?_) <;> (try simp only [go_sem, reduceCtorEq] at h) <;> (try (exfalso; omega))))) | fail)) <;> (try omega)
      exact ⟨(i + 1, w - 1 + l[i].kids), by simp only [go_sem, Nat.reduceBEq, Nat.reduceBneDiff, Nat.reduceLT, Nat.reduceLeDiff, Nat.reduceAdd, Nat.reduceMul, Nat.reduceSub, Nat.reduceEqDiff, reduceCtorEq]; exact rfl, ⟨hlt, heq, by simp only; omega, by simp only; omega⟩, by simp only; omega⟩
    · have hr' : rightN l[i] = false := by simpa using hr
      rw [if_pos (.inr hr')] at heq
      rw [hr'] at hR
      subst heq
      (repeat' (first
    | exact trivial
    | (with_reducible first | refine awA ?_ | refine awB ?_ | refine awC ?_ | refine awD ?_ | refine awE ?_ | refine awF ?_ | refine awG ?_ | refine awH ?_ | refine awI ?_ | refine awJ ?_ | refine awK ?_ | refine awL ?_ | refine awM (by decide) ?_)
    | ((with_reducible first | refine awN (tyOf_ok _) [] ?_ | refine awO (tyOf_ok _) [] ?_ | refine awP (tyOf_ok _) [] ?_ | refine awQ ?_ | refine awR ?_ | refine awS ?_); intro r hr; simp only [go_sem, Nat.reduceBEq, Nat.reduceBneDiff, Nat.reduceLT, Nat.reduceLeDiff, Nat.reduceAdd, Nat.reduceMul, Nat.reduceSub, Nat.reduceEqDiff, reduceCtorEq, encNs_len, hwi, e1, g1, e2] at hr; subst hr; (first | refine caA (fun _ => hR) rfl ?_ ?_ ?_ | refine awV ?_ ?_ | refine awW ?_ ?_ | refine endK ?_ ?_ | (refine condK (fun h => ?_) (fun h => ?_) <;> (try simp only [go_sem, reduceCtorEq] at h) <;> (try (exfalso; omega))))) | fail)) <;> (try omega)
      exact rfl
  · have e1 : ((i : Int) < l.length) = False := eq_false (by omega)
    have hil : i = l.length := by omega
    rw [List.drop_eq_nil_of_le (by omega), chkL] at heq
    by_cases hz : 0 < w
    · have e2 : (0 < w) = True := eq_true hz
      rw [if_pos hz, hil] at heq
      subst heq
      (repeat' (first
    | exact trivial
    | (with_reducible first | refine awA ?_ | refine awB ?_ | refine awC ?_ | refine awD ?_ | refine awE ?_ | refine awF ?_ | refine awG ?_ | refine awH ?_ | refine awI ?_ | refine awJ ?_ | refine awK ?_ | refine awL ?_ | refine awM (by decide) ?_)
    | ((with_reducible first | refine awN (tyOf_ok _) [] ?_ | refine awO (tyOf_ok _) [] ?_ | refine awP (tyOf_ok _) [] ?_ | refine awQ ?_ | refine awR ?_ | refine awS ?_); intro r hr; simp only [go_sem, Nat.reduceBEq, Nat.reduceBneDiff, Nat.reduceLT, Nat.reduceLeDiff, Nat.reduceAdd, Nat.reduceMul, Nat.reduceSub, Nat.reduceEqDiff, reduceCtorEq, encNs_len, hwi, e1, e2] at hr; subst hr; (first | refine awV ?_ ?_ | refine awW ?_ ?_ | refine endK ?_ ?_ | (refine condK (fun h => ?_) (fun h => ?_) <;> (try simp only [go_sem, reduceCtorEq] at h) <;> (try (exfalso; omega))))) | fail)) <;> (try omega)
      exact rfl
    · have e2 : (0 < w) = False := eq_false hz
      rw [if_neg hz] at heq
      subst heq
      (repeat' (first
    | exact trivial
    | (with_reducible first | refine awA ?_ | refine awB ?_ | refine awC ?_ | refine awD ?_ | refine awE ?_ | refine awF ?_ | refine awG ?_ | refine awH ?_ | refine awI ?_ | refine awJ ?_ | refine awK ?_ | refine awL ?_ | refine awM (by decide) ?_)
    | ((with_reducible first | refine awN (tyOf_ok _) [] ?_ | refine awO (tyOf_ok _) [] ?_ | refine awP (tyOf_ok _) [] ?_ | refine awQ ?_ | refine awR ?_ | refine awS ?_); intro r hr; simp only [go_sem, Nat.reduceBEq, Nat.reduceBneDiff, Nat.reduceLT, Nat.reduceLeDiff, Nat.reduceAdd, Nat.reduceMul, Nat.reduceSub, Nat.reduceEqDiff, reduceCtorEq, encNs_len, hwi, e1, e2] at hr; subst hr; (first | refine awV ?_ ?_ | refine awW ?_ ?_ | refine endK ?_ ?_ | (refine condK (fun h => ?_) (fun h => ?_) <;> (try simp only [go_sem, reduceCtorEq] at h) <;> (try (exfalso; omega))))) | fail)) <;> (try omega)
      exact rfl
/-- every node has as many kids as it says, and may be -/
def Tr.ok : Tr → Prop
  | .node x ks => rightN x = true ∧ x.kids = ks.length ∧ okL ks
where okL : List Tr → Prop
  | [] => True
  | c :: cs => c.ok ∧ okL cs
theorem chk_trees : ∀ (l : List NodeM) (n : Nat) (i : Int), (chkL l n i).1 = 0 → ∃ ts : List Tr, ts.length = n ∧ Tr.flat.flatL ts = l ∧ Tr.ok.okL ts
  | [], n, i, h => by
    unfold chkL at h
    split at h
    · cases h
    · rename_i h'
      have : n = 0 := by omega
      subst this
      exact ⟨[], rfl, rfl, trivial⟩
  | x :: l, n, i, h => by
    unfold chkL at h
    split at h
    · cases h
    · rename_i h'
      have hr : rightN x = true := by
        cases hr : rightN x with
        | true => rfl
        | false => exact absurd (.inr hr) h'
      have hn : (n : Int) ≠ 0 := fun h => h' (.inl h)
      have hk := rightN_kids hr
      obtain ⟨ts, h1, h2, h3⟩ := chk_trees l (n - 1 + x.kids.toNat) (i + 1) (by rw [show ((n - 1 + x.kids.toNat : Nat) : Int) = (n : Int) - 1 + x.kids by omega]; exact h)
      have fa : ∀ a b : List Tr, Tr.flat.flatL (a ++ b) = Tr.flat.flatL a ++ Tr.flat.flatL b := fun a b => by
        induction a with
        | nil => rfl
        | cons c cs ih => simp [Tr.flat.flatL, ih]
      have oa : ∀ a b : List Tr, Tr.ok.okL (a ++ b) → Tr.ok.okL a ∧ Tr.ok.okL b := fun a b => by
        induction a with
        | nil => exact fun h => ⟨trivial, h⟩
        | cons c cs ih => exact fun h => ⟨⟨h.1, (ih h.2).1⟩, (ih h.2).2⟩
      have hsplit := List.take_append_drop x.kids.toNat ts
      have ho := oa (ts.take x.kids.toNat) (ts.drop x.kids.toNat) (by rw [hsplit]; exact h3)
      refine ⟨.node x (ts.take x.kids.toNat) :: ts.drop x.kids.toNat, by simp; omega, ?_, ⟨hr, by rw [List.length_take]; omega, ho.1⟩, ho.2⟩
      simp only [Tr.flat.flatL, Tr.flat, List.cons_append]
      rw [← fa, hsplit, h2]
theorem chk_tree {l : List NodeM} (h : (chkN l).1 = 0) : ∃ t : Tr, t.flat = l ∧ t.ok := by
  obtain ⟨ts, h1, h2, h3⟩ := chk_trees l 1 0 h
  obtain ⟨t, rfl⟩ := List.length_eq_one_iff.1 h1
  exact ⟨t, by simpa [Tr.flat.flatL] using h2, h3.1⟩
end Go.Proofs.Ytfgacgpicfknpaa
end
section
namespace Go.Proofs.Ytfgacgpicfknpaa
open Go.RowKit
set_option maxRecDepth 100000
set_option maxHeartbeats 8000000
def tyA (ts : List TypeM) (t : Nat) : TypeM := (ts[t]?).getD ⟨0, 0, 0, []⟩
theorem tyA_lt {ts : List TypeM} {t : Nat} (h : t < ts.length) : tyA ts t = ts[t] := by rw [tyA, List.getElem?_eq_getElem h]; rfl
abbrev WR := List Int × Int × Int × Int
/-- the types of a value's nodes behind what is there; the place behind it; the first fault -/
def Tr.walk (ts : List TypeM) : Tr → Nat → Int → List Int → WR
  | .node x ks, t, at_, out => if fitsF (tyA ts t) x ≠ 0 then ([], 0, fitsF (tyA ts t) x, at_) else walkL ts (tyA ts t) x.n ks 0 (at_ + 1) (out ++ [(t : Int)])
where walkL (ts : List TypeM) (T : TypeM) (n : Int) : List Tr → Nat → Int → List Int → WR
  | [], _, p, out => (out, p, 0, 0)
  | c :: cs, k, p, out => if (c.walk ts (elemF T n k).toNat p out).2.2.1 ≠ 0 then ([], 0, (c.walk ts (elemF T n k).toNat p out).2.2.1, (c.walk ts (elemF T n k).toNat p out).2.2.2)
    else walkL ts T n cs (k + 1) (c.walk ts (elemF T n k).toNat p out).2.1 (c.walk ts (elemF T n k).toNat p out).1
theorem flatL_app (a b : List Tr) : Tr.flat.flatL (a ++ b) = Tr.flat.flatL a ++ Tr.flat.flatL b := by
  induction a with
  | nil => rfl
  | cons c cs ih => simp [Tr.flat.flatL, ih]
theorem okL_mem : ∀ {ks : List Tr}, Tr.ok.okL ks → ∀ c ∈ ks, c.ok
  | _ :: _, h, _, .head _ => h.1
  | _ :: _, h, c, .tail _ hc => okL_mem h.2 c hc
theorem flatL_mem {ks : List Tr} {c : Tr} (h : c ∈ ks) : c.flat.length ≤ (Tr.flat.flatL ks).length := by
  induction ks with
  | nil => cases h
  | cons d ks ih =>
    simp only [Tr.flat.flatL, List.length_append]
    rcases List.mem_cons.1 h with rfl | h
    · omega
    · have := ih h; omega
theorem flat_pos (c : Tr) : 0 < c.flat.length := by cases c; simp [Tr.flat]
/-- where nothing is at fault: as many places as nodes -/
theorem walk_len (ts : List TypeM) : ∀ (n : Nat) (c : Tr), c.flat.length ≤ n → ∀ (t : Nat) (p : Int) (out : List Int), (c.walk ts t p out).2.2.1 = 0 →
    (c.walk ts t p out).2.1 = p + c.flat.length ∧ (c.walk ts t p out).1.length = out.length + c.flat.length ∧ (c.walk ts t p out).2.2.2 = 0
  | 0, c, h => fun t p out _ => absurd (flat_pos c) (by omega)
  | n + 1, .node x ks, h => fun t p out h0 => by
    have hL : ∀ (l : List Tr), (∀ c ∈ l, c.flat.length ≤ n) → ∀ (T : TypeM) (m : Int) (k : Nat) (p : Int) (out : List Int), (Tr.walk.walkL ts T m l k p out).2.2.1 = 0 →
        (Tr.walk.walkL ts T m l k p out).2.1 = p + (Tr.flat.flatL l).length ∧ (Tr.walk.walkL ts T m l k p out).1.length = out.length + (Tr.flat.flatL l).length ∧ (Tr.walk.walkL ts T m l k p out).2.2.2 = 0 := by
      intro l
      induction l with
      | nil => intro _ T m k p out _; simp [Tr.walk.walkL, Tr.flat.flatL]
      | cons c cs ih =>
        intro hc T m k p out h0
        unfold Tr.walk.walkL at h0 ⊢
        split at h0
        · rename_i h'; exact absurd h0 h'
        · rename_i h'
          rw [if_neg h']
          have h1 := walk_len ts n c (hc c (.head _)) (elemF T m k).toNat p out (by omega)
          have h2 := ih (fun d hd => hc d (.tail _ hd)) T m (k + 1) _ _ h0
          simp only [Tr.flat.flatL, List.length_append]
          refine ⟨by rw [h2.1, h1.1]; omega, by rw [h2.2.1, h1.2.1]; omega, h2.2.2⟩
    unfold Tr.walk at h0 ⊢
    split at h0
    · rename_i h'; exact absurd h0 h'
    · rename_i h'
      rw [if_neg h']
      simp only [Tr.flat, List.length_cons] at h
      have h2 := hL ks (fun c hc => by have := flatL_mem hc; omega) _ _ 0 _ _ h0
      simp only [Tr.flat, List.length_cons]
      simp only [List.length_append, List.length_singleton] at h2
      exact ⟨by rw [h2.1]; omega, by rw [h2.2.1]; omega, h2.2.2⟩
theorem elem_ok {T : TypeM} {k : Nat} (hr : rightOK T k = true) {x : NodeM} (hx : rightN x = true) (hf : fitsF T x = 0) {i : Nat} (hi : (i : Int) < x.kids) : (0 ≤ elemF T x.n i ∧ elemF T x.n i < k) ∧ (T.kind = 8 → i < T.parts.length) := by
  have hty := rightOK_ty hr
  have hkk : x.kind = nkOf T.kind := by
    unfold fitsF at hf
    split at hf
    · cases hf
    · rename_i h; omega
  have hno : x.kind = 1 ∨ x.kind = 2 → False := fun h => by
    rw [rightN, Bool.and_eq_true] at hx
    have := hx.2
    rw [if_neg (by omega), if_neg (by omega), if_neg (by omega), if_neg (by omega), decide_eq_true_eq] at this
    omega
  have h112 : T.kind = 8 → x.kids = T.parts.length := fun h8 => by
    unfold fitsF at hf
    rw [if_neg (by omega), if_neg (by omega)] at hf
    split at hf
    · cases hf
    · rename_i h; omega
  rcases rightOK_kind hr with hk | hk | hk
  · exfalso
    rcases hk with hk | hk | hk <;> (unfold nkOf at hkk; rw [hk] at hkk; exact hno (by first | exact .inl hkk | exact .inr hkk))
  · have := hty.1 hk
    unfold elemF
    rw [if_pos hk]
    exact ⟨this, fun h8 => by omega⟩
  · rcases hk with hk | hk
    · refine ⟨?_, fun h8 => by omega⟩
      unfold elemF
      rw [if_neg (by omega), if_neg (by omega), if_pos hk]
      unfold fitsF at hf
      rw [if_neg (by omega), if_neg (by omega), if_neg (by omega)] at hf
      cases ha : armOf T.parts x.n with
      | none => rw [ha, if_pos ⟨hk, rfl⟩] at hf; cases hf
      | some p => exact hty.2 p (List.mem_of_find?_eq_some ha)
    · have hlt : i < T.parts.length := by have := h112 hk; omega
      rw [elem8 hk hlt]
      exact ⟨hty.2 _ (List.getElem_mem hlt), fun _ => hlt⟩
end Go.Proofs.Ytfgacgpicfknpaa
end
section
namespace Go.Proofs.Ytfgacgpicfknpaa
open Go.RowKit
set_option maxRecDepth 100000
set_option maxHeartbeats 8000000
def obW (out : List Int) : List (Nat × AObj) := [(15000, .row 3 1 (v8 out))]
def vW (r : WR) : AV := .tup [.ref 3 1 15000 0 r.1.length, vI r.2.1, .agg [vI r.2.2.1, vI r.2.2.2]]
attribute [go_sem] obW vW
structure TOK' (ts : List TypeM) (V : List NodeM) : Prop where
  nts : ts.length ≤ 1000000000
  nV : V.length ≤ 1000000000
  right : ∀ (k : Nat) (h : k < ts.length), rightOK ts[k] k = true
  parts : ∀ t ∈ ts, t.parts.length ≤ 1000000000
  node : ∀ x ∈ V, nodeOK x
  tags : ∀ t ∈ ts, ∀ p ∈ t.parts, I64 p.tag
def WalkAt (ts : List TypeM) (rs : List RootM) (V : List NodeM) (c : Tr) (t : Nat) (p : Nat) : Prop := ∀ out : List Int, out.length ≤ p →
  GCall Try.prog 63 [vSch ts rs, vI t, .lst 3 (encNs V), vI p, .ref 3 1 15000 0 out.length] (obW out) (vW (c.walk ts t p out)) (obW (c.walk ts t p out).1)
theorem up_nW (e a : Int) : (AV.tup [.v (.slice none 0 0), vI 0, .agg [vI e, vI a]]).up (vW ([], 0, e, a)) := AV.up_tup (AV.up_cons (AV.up_nilref _ _ _ _) (AV.up_cons (AV.up_rfl _) (AV.up_cons (AV.up_rfl _) AV.up_nilL)))
theorem walk_step {ts : List TypeM} {rs : List RootM} {V : List NodeM} (W : TOK' ts V) (x : NodeM) (ks : List Tr) (hok : (Tr.node x ks).ok) (t : Nat) (ht : t < ts.length) (pre post : List NodeM) (hV : V = pre ++ (Tr.node x ks).flat ++ post)
    (H : ∀ c ∈ ks, ∀ (t' : Nat), t' < ts.length → ∀ (pre' post' : List NodeM), V = pre' ++ c.flat ++ post' → WalkAt ts rs V c t' pre'.length) : WalkAt ts rs V (.node x ks) t pre.length := by
  intro out hout
  have hVl : pre.length + 1 + (Tr.flat.flatL ks).length + post.length = V.length := by rw [hV]; simp [Tr.flat]; omega
  have hNV := W.nV
  have hNts := W.nts
  have hat : V[pre.length]? = some x := by rw [hV]; simp [Tr.flat]
  have hg : (encNs V)[pre.length]? = some [vI x.kind, vU x.n, vI x.kids] := by simp [encNs, hat, encN]
  have hxok : nodeOK x := W.node x (List.mem_of_getElem? hat)
  have hr := W.right t ht
  have hgt := encTs_get ht
  have hta := tyA_lt ht
  have hF := Fits_ok ts[t] t hr x hxok
  have hpl := W.parts _ (List.getElem_mem ht)
  have htag := W.tags _ (List.getElem_mem ht)
  unfold Tr.walk
  rw [hta]
  generalize ts[t] = T at *
  obtain ⟨hrx, hkids, hoks⟩ := hok
  refine go_fnG (tyOf_ok _) Try.func63 rfl rfl (by rw [Try.results63]) Try.ntmps63 rfl fun E => ?_
  by_cases hf : fitsF T x = 0
  case neg =>
    have e1 : (fitsF T x = 0) = False := eq_false hf
    rw [if_pos hf]
    (repeat' (first
    | exact trivial
    | (with_reducible first | refine awA ?_ | refine awB ?_ | refine awC ?_ | refine awD ?_ | refine awE ?_ | refine awF ?_ | refine awG ?_ | refine awH ?_ | refine awI ?_ | refine awJ ?_ | refine awK ?_ | refine awL ?_ | refine awM (by decide) ?_)
    | (refine aw_draw (id := 1) (t := (.node [0, 1, 2, 3, 4, 5, 6, 7, 8, 9, 10] [])) (drR [5] [21, 25] []) mixed (by kernel_rfl) (by kernel_rfl) (fun _ _ h => h) ?_)
    | (refine aw_draw (id := 10) (t := (.node [0, 1, 2, 3, 4, 5, 6, 7, 8, 9, 10, 12, 13, 14, 11, 15, 16, 17, 18, 19, 20, 21, 22] [])) (drR [5] [53, 57] [63]) mixed (by kernel_rfl) (by kernel_rfl) (fun _ _ h => h) ?_)
    | (refine aw_draw (id := 12) (t := (.node [0, 1, 2, 3] [])) (drR [15] [] []) mixed (by kernel_rfl) (by kernel_rfl) (fun _ _ h => h) ?_)
    | (refine aw_draw (id := 13) (t := (.node [0, 1, 2, 3, 4, 5] [])) (drR [15] [] []) mixed (by kernel_rfl) (by kernel_rfl) (fun _ _ h => h) ?_)
    | (refine at_done (by simp only [List.filterMap_cons, List.filterMap_nil, List.getElem?_toArray, List.getElem?_cons_zero, List.getElem?_cons_succ]; exact rfl) ?_) | (refine at_alt (by simp only [List.filterMap_cons, List.filterMap_nil, List.getElem?_toArray, List.getElem?_cons_zero, List.getElem?_cons_succ]; exact rfl) ?_) | refine qalt_normal ?_ | refine ats_cons ?_ ?_ | exact ats_nil
    | ((with_reducible first | refine awN (tyOf_ok _) [] ?_ | refine awO (tyOf_ok _) [] ?_ | refine awP (tyOf_ok _) [] ?_ | refine awQ ?_ | refine awR ?_ | refine awS ?_ | refine awT ?_ | refine awU ?_); intro r hr; simp only [go_sem, Nat.reduceBEq, Nat.reduceBneDiff, Nat.reduceLT, Nat.reduceLeDiff, Nat.reduceAdd, Nat.reduceMul, Nat.reduceSub, Nat.reduceEqDiff, reduceCtorEq, vSch, encTs_len, encNs_len, hgt, hg, e1, vU] at hr; subst hr; (first | refine caA (fun _ => hF) rfl ?_ ?_ ?_ | refine awV ?_ ?_ | refine awW ?_ ?_ | refine endK ?_ ?_ | refine endGK ?_ ?_ ?_ | (refine condK (fun h => ?_) (fun h => ?_) <;> (try simp only [go_sem, reduceCtorEq] at h) <;> (try (exfalso; omega))))) | fail)) <;> (try omega)
    · exact up_nW _ _
    · exact obUp_row0 obUp_nil
  rw [if_neg (by omega)]
  rw [hf] at hF
  have hw1 := wrap_i64 (n := (pre.length : Int) + 1) (by omega)
  have htk : (v8 out).take out.length = v8 out := take_len (by rw [v8_len]; exact Nat.le_refl _)
  have hl1 : (out ++ [(t : Int)]).length = out.length + 1 := by simp
  (repeat' (first
    | exact trivial
    | (with_reducible first | refine awA ?_ | refine awB ?_ | refine awC ?_ | refine awD ?_ | refine awE ?_ | refine awF ?_ | refine awG ?_ | refine awH ?_ | refine awI ?_ | refine awJ ?_ | refine awK ?_ | refine awL ?_ | refine awM (by decide) ?_)
    | (refine aw_draw (id := 1) (t := (.node [0, 1, 2, 3, 4, 5, 6, 7, 8, 9, 10] [])) (drR [5] [21, 25] []) mixed (by kernel_rfl) (by kernel_rfl) (fun _ _ h => h) ?_)
    | (refine aw_draw (id := 10) (t := (.node [0, 1, 2, 3, 4, 5, 6, 7, 8, 9, 10, 12, 13, 14, 11, 15, 16, 17, 18, 19, 20, 21, 22] [])) (drR [5] [53, 57] [63]) mixed (by kernel_rfl) (by kernel_rfl) (fun _ _ h => h) ?_)
    | (refine aw_draw (id := 12) (t := (.node [0, 1, 2, 3] [])) (drR [15] [] []) mixed (by kernel_rfl) (by kernel_rfl) (fun _ _ h => h) ?_)
    | (refine aw_draw (id := 13) (t := (.node [0, 1, 2, 3, 4, 5] [])) (drR [15] [] []) mixed (by kernel_rfl) (by kernel_rfl) (fun _ _ h => h) ?_)
    | (refine at_done (by simp only [List.filterMap_cons, List.filterMap_nil, List.getElem?_toArray, List.getElem?_cons_zero, List.getElem?_cons_succ]; exact rfl) ?_) | (refine at_alt (by simp only [List.filterMap_cons, List.filterMap_nil, List.getElem?_toArray, List.getElem?_cons_zero, List.getElem?_cons_succ]; exact rfl) ?_) | refine qalt_normal ?_ | refine ats_cons ?_ ?_ | exact ats_nil
    | ((with_reducible first | refine awN (tyOf_ok _) [] ?_ | refine awO (tyOf_ok _) [] ?_ | refine awP (tyOf_ok _) [] ?_ | refine awQ ?_ | refine awR ?_ | refine awS ?_ | refine awT ?_ | refine awU ?_); intro r hr; simp only [go_sem, Nat.reduceBEq, Nat.reduceBneDiff, Nat.reduceLT, Nat.reduceLeDiff, Nat.reduceAdd, Nat.reduceMul, Nat.reduceSub, Nat.reduceEqDiff, reduceCtorEq, vSch, encTs_len, encNs_len, hgt, hg, vU, hw1, htk, v8_app, hl1] at hr; subst hr; (first | refine caA (fun _ => hF) rfl ?_ ?_ ?_ | refine awV ?_ ?_ | refine awW ?_ ?_ | refine endK ?_ ?_ | refine endGK ?_ ?_ ?_ | (refine condK (fun h => ?_) (fun h => ?_) <;> (try simp only [go_sem, reduceCtorEq] at h) <;> (try (exfalso; omega))))) | fail)) <;> (try omega)
  generalize hR : Tr.walk.walkL ts T x.n ks 0 ((pre.length : Int) + 1) (out ++ [(t : Int)]) = R
  refine go_loop [1, 2, 3, 4, 5, 12, 14, 15, 16] [5, 12, 15, 15000] (fun q : Nat × List Int => ⟨[(1, true, vI t), (2, true, .lst 3 (encNs V)), (3, true, vI pre.length), (4, true, .ref 3 1 15000 0 q.2.length), (5, true, .ptr 1 5 0 0), (12, true, .ptr 1 12 0 0),
      (14, true, vI ((pre.length : Int) + 1 + (Tr.flat.flatL (ks.take q.1)).length)), (15, true, .ptr 1 15 0 0), (16, true, vI q.1)],
      [(5, .var [.lst 4 (encTs ts), .lst 2 (encRs rs)]), (12, .var [vI 0, vI 0]), (15, .var [vI 0, vI 0]), (15000, .row 3 1 (v8 q.2))]⟩)
    (fun q => q.1 ≤ ks.length ∧ Tr.walk.walkL ts T x.n (ks.drop q.1) q.1 ((pre.length : Int) + 1 + (Tr.flat.flatL (ks.take q.1)).length) q.2 = R ∧ q.2.length ≤ pre.length + 1 + (Tr.flat.flatL (ks.take q.1)).length) (fun q => ks.length - q.1) (0, out ++ [(t : Int)])
    (by simp only [go_sem, Nat.reduceBEq, Nat.reduceBneDiff, Nat.reduceLT, Nat.reduceLeDiff, Nat.reduceAdd, Nat.reduceMul, Nat.reduceSub, Nat.reduceEqDiff, reduceCtorEq, hl1, List.take_zero, Tr.flat.flatL, List.length_nil, Int.natCast_zero, Int.add_zero]) ⟨Nat.zero_le _, by simpa [Tr.flat.flatL] using hR, by simp only; rw [hl1]; omega⟩ ?_
  intro ⟨k, o⟩ ⟨hk, hwalk, hol⟩
  simp only at hk hwalk hol
  clear hR htk hl1 hw1
  have hwk := wrap_i64 (n := (k : Int) + 1) (by have := hxok.2.1; have := rightN_kids hrx; omega)
  by_cases hlt : k < ks.length
  · have e1 : ((k : Int) < x.kids) = True := eq_true (by omega)
    obtain ⟨hel, hk8⟩ := elem_ok hr hrx hf (i := k) (by omega)
    have hE := Elem_any T hpl htag x hxok.2.2 k hk8
    obtain ⟨te, hte⟩ : ∃ te : Nat, elemF T x.n k = te := ⟨(elemF T x.n k).toNat, by omega⟩
    rw [List.drop_eq_getElem_cons hlt, Tr.walk.walkL] at hwalk
    rw [hte] at hE hwalk hel
    rw [Int.toNat_natCast] at hwalk
    have hmem := List.getElem_mem hlt
    have hfl : Tr.flat.flatL ks = Tr.flat.flatL (ks.take k) ++ ((ks[k]).flat ++ Tr.flat.flatL (ks.drop (k + 1))) := by
      rw [show (ks[k]).flat ++ Tr.flat.flatL (ks.drop (k + 1)) = Tr.flat.flatL (ks[k] :: ks.drop (k + 1)) from rfl, ← List.drop_eq_getElem_cons hlt, ← flatL_app, List.take_append_drop]
    have hflk : Tr.flat.flatL (ks.take (k + 1)) = Tr.flat.flatL (ks.take k) ++ (ks[k]).flat := by
      rw [List.take_succ_eq_append_getElem hlt, flatL_app]; simp [Tr.flat.flatL]
    have hcall := H ks[k] hmem te (by omega) (pre ++ x :: Tr.flat.flatL (ks.take k)) (Tr.flat.flatL (ks.drop (k + 1)) ++ post) (by rw [hV]; simp [Tr.flat, hfl])
    have hpos : (pre ++ x :: Tr.flat.flatL (ks.take k)).length = pre.length + 1 + (Tr.flat.flatL (ks.take k)).length := by simp; omega
    unfold WalkAt at hcall
    rw [hpos] at hcall
    have hc := hcall o hol
    have hp2 : ((pre.length + 1 + (Tr.flat.flatL (ks.take k)).length : Nat) : Int) = (pre.length : Int) + 1 + (Tr.flat.flatL (ks.take k)).length := by omega
    rw [hp2] at hc
    have hlen := walk_len ts _ ks[k] (Nat.le_refl _) te ((pre.length : Int) + 1 + (Tr.flat.flatL (ks.take k)).length) o
    generalize hp3 : (pre.length : Int) + 1 + (Tr.flat.flatL (ks.take k)).length = P at *
    have hflk' : (Tr.flat.flatL (ks.take (k + 1))).length = (Tr.flat.flatL (ks.take k)).length + (ks[k]).flat.length := by rw [hflk, List.length_append]
    generalize Tr.walk ts ks[k] te P o = r at *
    obtain ⟨o', p', e, a⟩ := r
    dsimp only at hwalk hlen
    by_cases he : e = 0
    · have f1 : (e = 0) = True := eq_true he
      rw [if_neg (by omega)] at hwalk
      obtain ⟨l1, l2, l3⟩ := hlen he
      subst he
      subst l3
      (repeat' (first
    | exact trivial
    | (with_reducible first | refine awA ?_ | refine awB ?_ | refine awC ?_ | refine awD ?_ | refine awE ?_ | refine awF ?_ | refine awG ?_ | refine awH ?_ | refine awI ?_ | refine awJ ?_ | refine awK ?_ | refine awL ?_ | refine awM (by decide) ?_)
    | (refine aw_draw (id := 1) (t := (.node [0, 1, 2, 3, 4, 5, 6, 7, 8, 9, 10] [])) (drR [5] [21, 25] []) mixed (by kernel_rfl) (by kernel_rfl) (fun _ _ h => h) ?_)
    | (refine aw_draw (id := 10) (t := (.node [0, 1, 2, 3, 4, 5, 6, 7, 8, 9, 10, 12, 13, 14, 11, 15, 16, 17, 18, 19, 20, 21, 22] [])) (drR [5] [53, 57] [63]) mixed (by kernel_rfl) (by kernel_rfl) (fun _ _ h => h) ?_)
    | (refine aw_draw (id := 12) (t := (.node [0, 1, 2, 3] [])) (drR [15] [] []) mixed (by kernel_rfl) (by kernel_rfl) (fun _ _ h => h) ?_)
    | (refine aw_draw (id := 13) (t := (.node [0, 1, 2, 3, 4, 5] [])) (drR [15] [] []) mixed (by kernel_rfl) (by kernel_rfl) (fun _ _ h => h) ?_)
    | (refine at_done (by simp only [List.filterMap_cons, List.filterMap_nil, List.getElem?_toArray, List.getElem?_cons_zero, List.getElem?_cons_succ]; exact rfl) ?_) | (refine at_alt (by simp only [List.filterMap_cons, List.filterMap_nil, List.getElem?_toArray, List.getElem?_cons_zero, List.getElem?_cons_succ]; exact rfl) ?_) | refine qalt_normal ?_ | refine ats_cons ?_ ?_ | exact ats_nil
    | ((with_reducible first | refine awN (tyOf_ok _) [] ?_ | refine awO (tyOf_ok _) [] ?_ | refine awP (tyOf_ok _) [] ?_ | refine awQ ?_ | refine awR ?_ | refine awS ?_ | refine awT ?_ | refine awU ?_); intro r hr; simp only [go_sem, Nat.reduceBEq, Nat.reduceBneDiff, Nat.reduceLT, Nat.reduceLeDiff, Nat.reduceAdd, Nat.reduceMul, Nat.reduceSub, Nat.reduceEqDiff, reduceCtorEq, vSch, encTs_len, encNs_len, hgt, hg, vU, e1, hwk] at hr; subst hr; (first | refine caA (fun _ => hE) rfl ?_ ?_ ?_ | refine awV ?_ ?_ | refine awW ?_ ?_ | refine endK ?_ ?_ | refine endGK ?_ ?_ ?_ | (refine condK (fun h => ?_) (fun h => ?_) <;> (try simp only [go_sem, reduceCtorEq] at h) <;> (try (exfalso; omega)))))
    | (refine go_callGE [(15000, 15000)] [(15000, 15000)] [15000] [] ?_; intro r hr; simp only [go_sem, Nat.reduceBEq, Nat.reduceBneDiff, Nat.reduceLT, Nat.reduceLeDiff, Nat.reduceAdd, Nat.reduceMul, Nat.reduceSub, Nat.reduceEqDiff, reduceCtorEq, vSch, encTs_len, encNs_len, hgt, hg, vU, e1, hwk] at hr; subst hr; refine callGK (hc) rfl rfl (by first | exact .inl rfl | exact .inr rfl) ?_ (.inl rfl) ?_) | fail)) <;> (try omega)
      have hp' : p' = (pre.length : Int) + 1 + ((Tr.flat.flatL (ks.take (k + 1))).length : Int) := by rw [hflk']; omega
      exact ⟨(k + 1, o'), by simp only [go_sem, Nat.reduceBEq, Nat.reduceBneDiff, Nat.reduceLT, Nat.reduceLeDiff, Nat.reduceAdd, Nat.reduceMul, Nat.reduceSub, Nat.reduceEqDiff, reduceCtorEq, hp']; exact rfl, ⟨hlt, by rw [← hp']; exact hwalk, by simp only; rw [hflk']; omega⟩, by simp only; omega⟩
    · have f1 : (e = 0) = False := eq_false he
      rw [if_pos (by omega)] at hwalk
      subst hwalk
      (repeat' (first
    | exact trivial
    | (with_reducible first | refine awA ?_ | refine awB ?_ | refine awC ?_ | refine awD ?_ | refine awE ?_ | refine awF ?_ | refine awG ?_ | refine awH ?_ | refine awI ?_ | refine awJ ?_ | refine awK ?_ | refine awL ?_ | refine awM (by decide) ?_)
    | (refine aw_draw (id := 1) (t := (.node [0, 1, 2, 3, 4, 5, 6, 7, 8, 9, 10] [])) (drR [5] [21, 25] []) mixed (by kernel_rfl) (by kernel_rfl) (fun _ _ h => h) ?_)
    | (refine aw_draw (id := 10) (t := (.node [0, 1, 2, 3, 4, 5, 6, 7, 8, 9, 10, 12, 13, 14, 11, 15, 16, 17, 18, 19, 20, 21, 22] [])) (drR [5] [53, 57] [63]) mixed (by kernel_rfl) (by kernel_rfl) (fun _ _ h => h) ?_)
    | (refine aw_draw (id := 12) (t := (.node [0, 1, 2, 3] [])) (drR [15] [] []) mixed (by kernel_rfl) (by kernel_rfl) (fun _ _ h => h) ?_)
    | (refine aw_draw (id := 13) (t := (.node [0, 1, 2, 3, 4, 5] [])) (drR [15] [] []) mixed (by kernel_rfl) (by kernel_rfl) (fun _ _ h => h) ?_)
    | (refine at_done (by simp only [List.filterMap_cons, List.filterMap_nil, List.getElem?_toArray, List.getElem?_cons_zero, List.getElem?_cons_succ]; exact rfl) ?_) | (refine at_alt (by simp only [List.filterMap_cons, List.filterMap_nil, List.getElem?_toArray, List.getElem?_cons_zero, List.getElem?_cons_succ]; exact rfl) ?_) | refine qalt_normal ?_ | refine ats_cons ?_ ?_ | exact ats_nil
    | ((with_reducible first | refine awN (tyOf_ok _) [] ?_ | refine awO (tyOf_ok _) [] ?_ | refine awP (tyOf_ok _) [] ?_ | refine awQ ?_ | refine awR ?_ | refine awS ?_ | refine awT ?_ | refine awU ?_); intro r hr; simp only [go_sem, Nat.reduceBEq, Nat.reduceBneDiff, Nat.reduceLT, Nat.reduceLeDiff, Nat.reduceAdd, Nat.reduceMul, Nat.reduceSub, Nat.reduceEqDiff, reduceCtorEq, vSch, encTs_len, encNs_len, hgt, hg, vU, e1, f1, hwk] at hr; subst hr; (first | refine caA (fun _ => hE) rfl ?_ ?_ ?_ | refine awV ?_ ?_ | refine awW ?_ ?_ | refine endK ?_ ?_ | refine endGK ?_ ?_ ?_ | (refine condK (fun h => ?_) (fun h => ?_) <;> (try simp only [go_sem, reduceCtorEq] at h) <;> (try (exfalso; omega)))))
    | (refine go_callGE [(15000, 15000)] [(15000, 15000)] [15000] [] ?_; intro r hr; simp only [go_sem, Nat.reduceBEq, Nat.reduceBneDiff, Nat.reduceLT, Nat.reduceLeDiff, Nat.reduceAdd, Nat.reduceMul, Nat.reduceSub, Nat.reduceEqDiff, reduceCtorEq, vSch, encTs_len, encNs_len, hgt, hg, vU, e1, f1, hwk] at hr; subst hr; refine callGK (hc) rfl rfl (by first | exact .inl rfl | exact .inr rfl) ?_ (.inl rfl) ?_) | fail)) <;> (try omega)
      · exact up_nW _ _
      · exact obUp_row0 obUp_nil
  · have e1 : ((k : Int) < x.kids) = False := eq_false (by omega)
    rw [List.drop_eq_nil_of_le (by omega), Tr.walk.walkL] at hwalk
    subst hwalk
    (repeat' (first
    | exact trivial
    | (with_reducible first | refine awA ?_ | refine awB ?_ | refine awC ?_ | refine awD ?_ | refine awE ?_ | refine awF ?_ | refine awG ?_ | refine awH ?_ | refine awI ?_ | refine awJ ?_ | refine awK ?_ | refine awL ?_ | refine awM (by decide) ?_)
    | (refine aw_draw (id := 1) (t := (.node [0, 1, 2, 3, 4, 5, 6, 7, 8, 9, 10] [])) (drR [5] [21, 25] []) mixed (by kernel_rfl) (by kernel_rfl) (fun _ _ h => h) ?_)
    | (refine aw_draw (id := 10) (t := (.node [0, 1, 2, 3, 4, 5, 6, 7, 8, 9, 10, 12, 13, 14, 11, 15, 16, 17, 18, 19, 20, 21, 22] [])) (drR [5] [53, 57] [63]) mixed (by kernel_rfl) (by kernel_rfl) (fun _ _ h => h) ?_)
    | (refine aw_draw (id := 12) (t := (.node [0, 1, 2, 3] [])) (drR [15] [] []) mixed (by kernel_rfl) (by kernel_rfl) (fun _ _ h => h) ?_)
    | (refine aw_draw (id := 13) (t := (.node [0, 1, 2, 3, 4, 5] [])) (drR [15] [] []) mixed (by kernel_rfl) (by kernel_rfl) (fun _ _ h => h) ?_)
    | (refine at_done (by simp only [List.filterMap_cons, List.filterMap_nil, List.getElem?_toArray, List.getElem?_cons_zero, List.getElem?_cons_succ]; exact rfl) ?_) | (refine at_alt (by simp only [List.filterMap_cons, List.filterMap_nil, List.getElem?_toArray, List.getElem?_cons_zero, List.getElem?_cons_succ]; exact rfl) ?_) | refine qalt_normal ?_ | refine ats_cons ?_ ?_ | exact ats_nil
    | ((with_reducible first | refine awN (tyOf_ok _) [] ?_ | refine awO (tyOf_ok _) [] ?_ | refine awP (tyOf_ok _) [] ?_ | refine awQ ?_ | refine awR ?_ | refine awS ?_ | refine awT ?_ | refine awU ?_); intro r hr; simp only [go_sem, Nat.reduceBEq, Nat.reduceBneDiff, Nat.reduceLT, Nat.reduceLeDiff, Nat.reduceAdd, Nat.reduceMul, Nat.reduceSub, Nat.reduceEqDiff, reduceCtorEq, encTs_len, encNs_len, hg, vU, e1] at hr; subst hr; (first | refine awV ?_ ?_ | refine awW ?_ ?_ | refine endK ?_ ?_ | refine endGK ?_ ?_ ?_ | (refine condK (fun h => ?_) (fun h => ?_) <;> (try simp only [go_sem, reduceCtorEq] at h) <;> (try (exfalso; omega))))) | fail)) <;> (try omega)
    · exact AV.up_rfl _
    · exact obUp_cons rfl obUp_nil
theorem walk_any {ts : List TypeM} {rs : List RootM} {V : List NodeM} (W : TOK' ts V) : ∀ (n : Nat) (c : Tr), c.flat.length ≤ n → c.ok → ∀ (t : Nat), t < ts.length → ∀ (pre post : List NodeM), V = pre ++ c.flat ++ post → WalkAt ts rs V c t pre.length
  | 0, c, h => absurd (flat_pos c) (by omega)
  | n + 1, .node x ks, h => fun hok t ht pre post hV => by
    simp only [Tr.flat, List.length_cons] at h
    exact walk_step W x ks hok t ht pre post hV fun c hc t' ht' pre' post' hV' => walk_any W n c (by have := flatL_mem hc; omega) (okL_mem hok.2.2 c hc) t' ht' pre' post' hV'
/-- a call that is handed an empty list, read as one that is handed nil -/
theorem GCall.weak {P : Program} {f : Nat} {as' bs : List AV} {ob ob' ob1 : List (Nat × AObj)} {r : AV} (h : GCall P f bs ob r ob1) (hu : AV.upL as' bs) (ho : obUp ob' ob) : GCall P f as' ob' r ob1 := by
  obtain ⟨h1, h2⟩ := h
  obtain ⟨u1, u2⟩ := AV.upL_get hu
  exact ⟨h1, fun w F β vs hI hl ha => h2 w F β vs ⟨hI.fl, hI.inj, hI.rng, obUp_ok ho hI.ob⟩ (hl.trans u1) fun i x v hx hv => by
    obtain ⟨a, ha', hau⟩ := u2 i x hx
    exact hau _ _ _ _ (ha i a v ha' hv)⟩
/-- the answer of mortiseref10.Types -/
def typesF (ts : List TypeM) (rs : List RootM) (t : Int) (V : List NodeM) (c : Tr) : List Int × Int × Int :=
  if (checkF ts rs).1 ≠ 0 then ([], (checkF ts rs).1, (checkF ts rs).2)
  else if t < 0 ∨ (ts.length : Int) ≤ t then ([], 3, 0)
  else if (chkN V).1 ≠ 0 then ([], (chkN V).1, (chkN V).2)
  else ((c.walk ts t.toNat 0 []).1, (c.walk ts t.toNat 0 []).2.2.1, (c.walk ts t.toNat 0 []).2.2.2)
end Go.Proofs.Ytfgacgpicfknpaa
end
