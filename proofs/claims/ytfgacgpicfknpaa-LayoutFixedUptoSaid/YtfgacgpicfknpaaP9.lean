import Derived.Test.YtfgacgpicfknpaaRows
import Derived.ProofKit
import Derived.OpenShut
import Derived.ShutString
import Derived.ChangeOld
import Derived.Test.YtfgacgpicfknpaaP8
set_option linter.all false
section
section
namespace Go.Proofs.Ytfgacgpicfknpaa
open Go.RowKit
set_option maxRecDepth 100000
set_option maxHeartbeats 4000000
structure SlotM where
  at_ : Int
  var : Bool
  size : Int
structure LayM where
  size : Int
  slots : List SlotM
def encS (s : SlotM) : List AV := [vI s.at_, vB s.var, vI s.size]
def encSs (l : List SlotM) : List (List AV) := l.map encS
theorem encSs_len (l : List SlotM) : (encSs l).length = l.length := by simp [encSs]
theorem encSs_app (l : List SlotM) (s : SlotM) : encSs l ++ [[vI s.at_, vB s.var, vI s.size]] = encSs (l ++ [s]) := by simp [encSs, encS]
def encL (l : LayM) : List AV := [vI l.size, .lst 3 (encSs l.slots)]
def encLs (l : List LayM) : List (List AV) := l.map encL
def slotOf (e : ExtM) (a : Int) : SlotM := ⟨a, !e.fixed, if e.fixed = true then e.most else 4⟩
def layAdd (L : List ExtM) (l : LayM) (p : PartM) : LayM := ⟨plusL [l.size, (slotOf (atE L p.ty) l.size).size], l.slots ++ [slotOf (atE L p.ty) l.size]⟩
def layM (t : TypeM) (L : List ExtM) : LayM :=
  if t.kind = 8 then t.parts.foldl (layAdd L) ⟨0, []⟩
  else if t.kind = 4 then ⟨timesS t.n (slotOf (atE L t.elem) 0).size, [slotOf (atE L t.elem) 0]⟩
  else if t.kind = 5 then ⟨0, [slotOf (atE L t.elem) 0]⟩ else ⟨0, []⟩
theorem lay_succ (L : List ExtM) (l : List PartM) (x : LayM) {j : Nat} (h : j < l.length) : (l.take (j + 1)).foldl (layAdd L) x = layAdd L ((l.take j).foldl (layAdd L) x) l[j] := by
  rw [List.take_succ_eq_append_getElem h, List.foldl_append]; rfl
def vLay (l : LayM) : AV := .agg [vI l.size, .lst 3 (encSs l.slots)]
theorem slotS {e : ExtM} {a : Int} : slotM e.fixed e.most a = .agg [vI (slotOf e a).at_, vB (slotOf e a).var, vI (slotOf e a).size] := rfl
theorem lone_any (t : TypeM) (L : List ExtM) (hr : rightOK t L.length = true) (hl : t.parts.length ≤ 1000000000) (hL : ∀ e ∈ L, extOK e) : PCall Try.prog 41 [.agg [vI t.kind, vI t.n, vI t.elem, .lst 3 (encPs t.parts)], .lst 4 (encEs L)] (fun r => r = vLay (layM t L)) := by
  have ht := rightOK_ty hr
  refine go_fnU (tyOf_ok _) Try.func41 rfl rfl (by rw [Try.results41]) Try.ntmps41 rfl fun E => ?_
  by_cases k8 : t.kind = 8
  · have e8 : (t.kind = 8) = True := eq_true k8
    (repeat' (first
    | exact trivial
    | with_reducible refine aw_seq ?_ | with_reducible refine aw_block ?_ | with_reducible refine aw_skip ?_ | with_reducible refine aw_ret ?_ | with_reducible refine aw_exit ?_ | with_reducible refine aseq_normal ?_ | with_reducible refine aseq_ret ?_ | with_reducible refine aseq_exit ?_ | with_reducible refine ablk_normal ?_ | with_reducible refine ablk_ret ?_ | with_reducible refine ablk_hit ?_ | with_reducible refine aw_region ?_ | with_reducible refine go_nil ?_ | with_reducible refine al_of ?_
    | with_reducible refine ablk_miss (by decide) ?_
    | ((with_reducible refine al_id ?_); refine go_run (tyOf_ok _) [] (by simp only [go_sem, Nat.reduceBEq, Nat.reduceBneDiff, Nat.reduceLT, Nat.reduceLeDiff, Nat.reduceAdd, Nat.reduceMul, Nat.reduceSub, Nat.reduceEqDiff, reduceCtorEq, encPs_len, encEs_len, e8]; exact rfl) ?_ ?_)
    | (refine aw_draw (id := 7) (t := (.node [0, 1, 2, 3, 4, 5, 6] [(.node [7, 8, 9] []), (.node [8, 7, 9] [])])) (drR [7, 5] [25] []) mixed (by kernel_rfl) (by kernel_rfl) (fun _ _ h => h) ?_)
    | (refine aw_draw (id := 14) (t := (.node [0, 1, 2, 3, 5] [(.node [4, 6, 7, 8] []), (.node [6, 4, 7, 8] [])])) (drR [2, 9] [] []) mixed (by kernel_rfl) (by kernel_rfl) (fun _ _ h => h) ?_)
    | (refine at_done (by simp only [List.filterMap_cons, List.filterMap_nil, List.getElem?_toArray, List.getElem?_cons_zero, List.getElem?_cons_succ]; exact rfl) ?_) | (refine at_alt (by simp only [List.filterMap_cons, List.filterMap_nil, List.getElem?_toArray, List.getElem?_cons_zero, List.getElem?_cons_succ]; exact rfl) ?_) | refine qalt_normal ?_ | refine ats_cons ?_ ?_ | exact ats_nil
    | ((with_reducible refine ald_id ?_); refine go_runD (tyOf_ok _) [] (by simp only [go_sem, Nat.reduceBEq, Nat.reduceBneDiff, Nat.reduceLT, Nat.reduceLeDiff, Nat.reduceAdd, Nat.reduceMul, Nat.reduceSub, Nat.reduceEqDiff, reduceCtorEq, encPs_len, encEs_len, e8]; exact rfl) ?_ ?_)
    | (refine aw_cond (by simp only [go_sem, Nat.reduceBEq, Nat.reduceBneDiff, Nat.reduceLT, Nat.reduceLeDiff, Nat.reduceAdd, Nat.reduceMul, Nat.reduceSub, Nat.reduceEqDiff, reduceCtorEq, encPs_len, encEs_len, e8]; exact rfl) (by simp only [go_sem, Nat.reduceBEq, Nat.reduceBneDiff, Nat.reduceLT, Nat.reduceLeDiff, Nat.reduceAdd, Nat.reduceMul, Nat.reduceSub, Nat.reduceEqDiff, reduceCtorEq]) (fun h => ?_) (fun h => ?_) <;> (try simp only [decide_eq_true_eq, decide_eq_false_iff_not, Bool.not_eq_true', Bool.not_eq_false', Bool.or_eq_true, Bool.or_eq_false_iff, Bool.and_eq_true, Bool.and_eq_false_iff, Decidable.not_not, reduceCtorEq] at h) <;> (try (exfalso; omega)))
    | (refine aend_ret (by simp only [go_sem, Nat.reduceBEq, Nat.reduceBneDiff, Nat.reduceLT, Nat.reduceLeDiff, Nat.reduceAdd, Nat.reduceMul, Nat.reduceSub, Nat.reduceEqDiff, reduceCtorEq, encPs_len, encEs_len, e8]; exact rfl) ?_ ?_)
    | (refine aend_normal (by simp only [go_sem, Nat.reduceBEq, Nat.reduceBneDiff, Nat.reduceLT, Nat.reduceLeDiff, Nat.reduceAdd, Nat.reduceMul, Nat.reduceSub, Nat.reduceEqDiff, reduceCtorEq, encPs_len, encEs_len, e8]; exact rfl) ?_ ?_)
    | (refine aendG_ret (by simp only [go_sem, Nat.reduceBEq, Nat.reduceBneDiff, Nat.reduceLT, Nat.reduceLeDiff, Nat.reduceAdd, Nat.reduceMul, Nat.reduceSub, Nat.reduceEqDiff, reduceCtorEq, encPs_len, encEs_len, e8]; exact rfl) ?_ ?_ ?_)
    | (refine aendG_normal (by simp only [go_sem, Nat.reduceBEq, Nat.reduceBneDiff, Nat.reduceLT, Nat.reduceLeDiff, Nat.reduceAdd, Nat.reduceMul, Nat.reduceSub, Nat.reduceEqDiff, reduceCtorEq, encPs_len, encEs_len, e8]; exact rfl) ?_ ?_ ?_) | fail)) <;> (try omega)
    refine aw_nilvar 5 1 36 3 33 (cs := [vI 0, .v (.slice none 0 0)]) (.inl (by decide)) (by decide) (by simp only [go_sem, Nat.reduceBEq, Nat.reduceBneDiff, Nat.reduceLT, Nat.reduceLeDiff, Nat.reduceAdd, Nat.reduceMul, Nat.reduceSub, Nat.reduceEqDiff, reduceCtorEq]) rfl ?_
    refine go_loop [1, 4, 5, 15, 16, 17] [4, 5, 33] (fun x : Nat × LayM => ⟨[(1, true, .lst 4 (encEs L)), (4, true, .ptr 1 4 0 0), (5, true, .ptr 1 5 0 0), (15, true, .lst 3 (encPs t.parts)), (16, true, vI t.parts.length), (17, true, vI x.1)],
      [(4, .var [vI 0, .v (.slice none 0 0)]), (5, .var [vI x.2.size, .ref 36 3 33 0 (encSs x.2.slots).length]), (33, .row 36 3 (encSs x.2.slots))]⟩)
      (fun x => x.1 ≤ t.parts.length ∧ x.2 = (t.parts.take x.1).foldl (layAdd L) ⟨0, []⟩ ∧ x.2.slots.length = x.1 ∧ 0 ≤ x.2.size ∧ x.2.size ≤ 4611686018427387904) (fun x => t.parts.length - x.1) (0, ⟨0, []⟩) (by simp only [AState.nilvar, go_sem, Nat.reduceBEq, Nat.reduceBneDiff, Nat.reduceLT, Nat.reduceLeDiff, Nat.reduceAdd, Nat.reduceMul, Nat.reduceSub, Nat.reduceEqDiff, reduceCtorEq]; exact rfl) ⟨Nat.zero_le _, rfl, rfl, by decide, by decide⟩ ?_
    intro ⟨j, x⟩ ⟨hj, hx, hxl, hx1, hx2⟩
    simp only at hj hx hxl hx1 hx2 ⊢
    have hw1 := wrap_i64 (n := (j : Int) + 1) (by omega)
    by_cases hlt : j < t.parts.length
    · have e1 : ((j : Int) < t.parts.length) = True := eq_true (by omega)
      have g1 := encPs_get hlt
      have hty := ht.2 _ (List.getElem_mem hlt)
      have htl : (t.parts[j].ty).toNat < L.length := by omega
      have ge := encEs_get htl
      have hat : atE L t.parts[j].ty = L[(t.parts[j].ty).toNat] := by rw [atE, List.getElem?_eq_getElem htl]; rfl
      have hok := hL _ (List.getElem_mem htl)
      have hs := lay_succ L t.parts ⟨0, []⟩ hlt
      rw [← hx, layAdd, hat] at hs
      generalize L[(t.parts[j].ty).toNat] = e at ge hat hok hs
      obtain ⟨hlo, hmo, hde⟩ := hok
      have i1 : I64 x.size := by unfold I64; omega
      have i2 : I64 (slotOf e x.size).size := by unfold slotOf I64; dsimp only; split <;> omega
      have hb := plusL_bd [x.size, (slotOf e x.size).size]
      have htk : (encSs x.slots).take x.slots.length = encSs x.slots := take_len (by simp [encSs_len])
      have hlen : (x.slots ++ [slotOf e x.size]).length = j + 1 := by simp [hxl]
      (repeat' (first
    | exact trivial
    | with_reducible refine aw_seq ?_ | with_reducible refine aw_block ?_ | with_reducible refine aw_skip ?_ | with_reducible refine aw_ret ?_ | with_reducible refine aw_exit ?_ | with_reducible refine aseq_normal ?_ | with_reducible refine aseq_ret ?_ | with_reducible refine aseq_exit ?_ | with_reducible refine ablk_normal ?_ | with_reducible refine ablk_ret ?_ | with_reducible refine ablk_hit ?_ | with_reducible refine aw_region ?_ | with_reducible refine go_nil ?_ | with_reducible refine al_of ?_
    | with_reducible refine ablk_miss (by decide) ?_
    | ((with_reducible refine al_id ?_); refine go_run (tyOf_ok _) [] (by simp only [go_sem, Nat.reduceBEq, Nat.reduceBneDiff, Nat.reduceLT, Nat.reduceLeDiff, Nat.reduceAdd, Nat.reduceMul, Nat.reduceSub, Nat.reduceEqDiff, reduceCtorEq, hw1, e1, g1, ge, encPs_len, encEs_len, encSs_len, htk, slotS, encSs_app, hlen]; exact rfl) ?_ ?_)
    | (refine aw_draw (id := 7) (t := (.node [0, 1, 2, 3, 4, 5, 6] [(.node [7, 8, 9] []), (.node [8, 7, 9] [])])) (drR [7, 5] [25] []) mixed (by kernel_rfl) (by kernel_rfl) (fun _ _ h => h) ?_)
    | (refine aw_draw (id := 14) (t := (.node [0, 1, 2, 3, 5] [(.node [4, 6, 7, 8] []), (.node [6, 4, 7, 8] [])])) (drR [2, 9] [] []) mixed (by kernel_rfl) (by kernel_rfl) (fun _ _ h => h) ?_)
    | (refine at_done (by simp only [List.filterMap_cons, List.filterMap_nil, List.getElem?_toArray, List.getElem?_cons_zero, List.getElem?_cons_succ]; exact rfl) ?_) | (refine at_alt (by simp only [List.filterMap_cons, List.filterMap_nil, List.getElem?_toArray, List.getElem?_cons_zero, List.getElem?_cons_succ]; exact rfl) ?_) | refine qalt_normal ?_ | refine ats_cons ?_ ?_ | exact ats_nil
    | ((with_reducible refine ald_id ?_); refine go_runD (tyOf_ok _) [] (by simp only [go_sem, Nat.reduceBEq, Nat.reduceBneDiff, Nat.reduceLT, Nat.reduceLeDiff, Nat.reduceAdd, Nat.reduceMul, Nat.reduceSub, Nat.reduceEqDiff, reduceCtorEq, hw1, e1, g1, ge, encPs_len, encEs_len, encSs_len, htk, slotS, encSs_app, hlen]; exact rfl) ?_ ?_)
    | (refine aw_cond (by simp only [go_sem, Nat.reduceBEq, Nat.reduceBneDiff, Nat.reduceLT, Nat.reduceLeDiff, Nat.reduceAdd, Nat.reduceMul, Nat.reduceSub, Nat.reduceEqDiff, reduceCtorEq, hw1, e1, g1, ge, encPs_len, encEs_len, encSs_len, htk, slotS, encSs_app, hlen]; exact rfl) (by simp only [go_sem, Nat.reduceBEq, Nat.reduceBneDiff, Nat.reduceLT, Nat.reduceLeDiff, Nat.reduceAdd, Nat.reduceMul, Nat.reduceSub, Nat.reduceEqDiff, reduceCtorEq]) (fun h => ?_) (fun h => ?_) <;> (try simp only [decide_eq_true_eq, decide_eq_false_iff_not, Bool.not_eq_true', Bool.not_eq_false', Bool.or_eq_true, Bool.or_eq_false_iff, Bool.and_eq_true, Bool.and_eq_false_iff, Decidable.not_not, reduceCtorEq] at h) <;> (try (exfalso; omega)))
    | (refine aend_ret (by simp only [go_sem, Nat.reduceBEq, Nat.reduceBneDiff, Nat.reduceLT, Nat.reduceLeDiff, Nat.reduceAdd, Nat.reduceMul, Nat.reduceSub, Nat.reduceEqDiff, reduceCtorEq, hw1, e1, g1, ge, encPs_len, encEs_len, encSs_len, htk, slotS, encSs_app, hlen]; exact rfl) ?_ ?_)
    | (refine aend_normal (by simp only [go_sem, Nat.reduceBEq, Nat.reduceBneDiff, Nat.reduceLT, Nat.reduceLeDiff, Nat.reduceAdd, Nat.reduceMul, Nat.reduceSub, Nat.reduceEqDiff, reduceCtorEq, hw1, e1, g1, ge, encPs_len, encEs_len, encSs_len, htk, slotS, encSs_app, hlen]; exact rfl) ?_ ?_)
    | (refine aendG_ret (by simp only [go_sem, Nat.reduceBEq, Nat.reduceBneDiff, Nat.reduceLT, Nat.reduceLeDiff, Nat.reduceAdd, Nat.reduceMul, Nat.reduceSub, Nat.reduceEqDiff, reduceCtorEq, hw1, e1, g1, ge, encPs_len, encEs_len, encSs_len, htk, slotS, encSs_app, hlen]; exact rfl) ?_ ?_ ?_)
    | (refine aendG_normal (by simp only [go_sem, Nat.reduceBEq, Nat.reduceBneDiff, Nat.reduceLT, Nat.reduceLeDiff, Nat.reduceAdd, Nat.reduceMul, Nat.reduceSub, Nat.reduceEqDiff, reduceCtorEq, hw1, e1, g1, ge, encPs_len, encEs_len, encSs_len, htk, slotS, encSs_app, hlen]; exact rfl) ?_ ?_ ?_)
    | (refine go_call (by simp only [go_sem, Nat.reduceBEq, Nat.reduceBneDiff, Nat.reduceLT, Nat.reduceLeDiff, Nat.reduceAdd, Nat.reduceMul, Nat.reduceSub, Nat.reduceEqDiff, reduceCtorEq, hw1, e1, g1, ge, encPs_len, encEs_len, encSs_len, htk, slotS, encSs_app, hlen]; exact rfl) ?_ (fun _ => lslot_any e x.size) rfl ?_)
    | (refine go_call (by simp only [go_sem, Nat.reduceBEq, Nat.reduceBneDiff, Nat.reduceLT, Nat.reduceLeDiff, Nat.reduceAdd, Nat.reduceMul, Nat.reduceSub, Nat.reduceEqDiff, reduceCtorEq, hw1, e1, g1, ge, encPs_len, encEs_len, encSs_len, htk, slotS, encSs_app, hlen]; exact rfl) ?_ (fun _ => plus2_p _ _ i1 i2) rfl ?_) | fail)) <;> (try omega)
      all_goals exact ⟨(j + 1, ⟨_, _⟩), by simp only [go_sem, Nat.reduceBEq, Nat.reduceBneDiff, Nat.reduceLT, Nat.reduceLeDiff, Nat.reduceAdd, Nat.reduceMul, Nat.reduceSub, Nat.reduceEqDiff, reduceCtorEq, encSs_len, hlen]; exact rfl, ⟨hlt, hs.symm, by simp [hxl], by simp only; omega, by simp only; omega⟩, by simp only; omega⟩
    · have e1 : ((j : Int) < t.parts.length) = False := eq_false (by omega)
      have htk : (encSs x.slots).take x.slots.length = encSs x.slots := take_len (by simp [encSs_len])
      (repeat' (first
    | exact trivial
    | with_reducible refine aw_seq ?_ | with_reducible refine aw_block ?_ | with_reducible refine aw_skip ?_ | with_reducible refine aw_ret ?_ | with_reducible refine aw_exit ?_ | with_reducible refine aseq_normal ?_ | with_reducible refine aseq_ret ?_ | with_reducible refine aseq_exit ?_ | with_reducible refine ablk_normal ?_ | with_reducible refine ablk_ret ?_ | with_reducible refine ablk_hit ?_ | with_reducible refine aw_region ?_ | with_reducible refine go_nil ?_ | with_reducible refine al_of ?_
    | with_reducible refine ablk_miss (by decide) ?_
    | ((with_reducible refine al_id ?_); refine go_run (tyOf_ok _) [] (by simp only [go_sem, Nat.reduceBEq, Nat.reduceBneDiff, Nat.reduceLT, Nat.reduceLeDiff, Nat.reduceAdd, Nat.reduceMul, Nat.reduceSub, Nat.reduceEqDiff, reduceCtorEq, hw1, e1, encSs_len, htk]; exact rfl) ?_ ?_)
    | (refine aw_draw (id := 7) (t := (.node [0, 1, 2, 3, 4, 5, 6] [(.node [7, 8, 9] []), (.node [8, 7, 9] [])])) (drR [7, 5] [25] []) mixed (by kernel_rfl) (by kernel_rfl) (fun _ _ h => h) ?_)
    | (refine aw_draw (id := 14) (t := (.node [0, 1, 2, 3, 5] [(.node [4, 6, 7, 8] []), (.node [6, 4, 7, 8] [])])) (drR [2, 9] [] []) mixed (by kernel_rfl) (by kernel_rfl) (fun _ _ h => h) ?_)
    | (refine at_done (by simp only [List.filterMap_cons, List.filterMap_nil, List.getElem?_toArray, List.getElem?_cons_zero, List.getElem?_cons_succ]; exact rfl) ?_) | (refine at_alt (by simp only [List.filterMap_cons, List.filterMap_nil, List.getElem?_toArray, List.getElem?_cons_zero, List.getElem?_cons_succ]; exact rfl) ?_) | refine qalt_normal ?_ | refine ats_cons ?_ ?_ | exact ats_nil
    | ((with_reducible refine ald_id ?_); refine go_runD (tyOf_ok _) [] (by simp only [go_sem, Nat.reduceBEq, Nat.reduceBneDiff, Nat.reduceLT, Nat.reduceLeDiff, Nat.reduceAdd, Nat.reduceMul, Nat.reduceSub, Nat.reduceEqDiff, reduceCtorEq, hw1, e1, encSs_len, htk]; exact rfl) ?_ ?_)
    | (refine aw_cond (by simp only [go_sem, Nat.reduceBEq, Nat.reduceBneDiff, Nat.reduceLT, Nat.reduceLeDiff, Nat.reduceAdd, Nat.reduceMul, Nat.reduceSub, Nat.reduceEqDiff, reduceCtorEq, hw1, e1, encSs_len, htk]; exact rfl) (by simp only [go_sem, Nat.reduceBEq, Nat.reduceBneDiff, Nat.reduceLT, Nat.reduceLeDiff, Nat.reduceAdd, Nat.reduceMul, Nat.reduceSub, Nat.reduceEqDiff, reduceCtorEq]) (fun h => ?_) (fun h => ?_) <;> (try simp only [decide_eq_true_eq, decide_eq_false_iff_not, Bool.not_eq_true', Bool.not_eq_false', Bool.or_eq_true, Bool.or_eq_false_iff, Bool.and_eq_true, Bool.and_eq_false_iff, Decidable.not_not, reduceCtorEq] at h) <;> (try (exfalso; omega)))
    | (refine aend_ret (by simp only [go_sem, Nat.reduceBEq, Nat.reduceBneDiff, Nat.reduceLT, Nat.reduceLeDiff, Nat.reduceAdd, Nat.reduceMul, Nat.reduceSub, Nat.reduceEqDiff, reduceCtorEq, hw1, e1, encSs_len, htk]; exact rfl) ?_ ?_)
    | (refine aend_normal (by simp only [go_sem, Nat.reduceBEq, Nat.reduceBneDiff, Nat.reduceLT, Nat.reduceLeDiff, Nat.reduceAdd, Nat.reduceMul, Nat.reduceSub, Nat.reduceEqDiff, reduceCtorEq, hw1, e1, encSs_len, htk]; exact rfl) ?_ ?_)
    | (refine aendG_ret (by simp only [go_sem, Nat.reduceBEq, Nat.reduceBneDiff, Nat.reduceLT, Nat.reduceLeDiff, Nat.reduceAdd, Nat.reduceMul, Nat.reduceSub, Nat.reduceEqDiff, reduceCtorEq, hw1, e1, encSs_len, htk]; exact rfl) ?_ ?_ ?_)
    | (refine aendG_normal (by simp only [go_sem, Nat.reduceBEq, Nat.reduceBneDiff, Nat.reduceLT, Nat.reduceLeDiff, Nat.reduceAdd, Nat.reduceMul, Nat.reduceSub, Nat.reduceEqDiff, reduceCtorEq, hw1, e1, encSs_len, htk]; exact rfl) ?_ ?_ ?_) | fail)) <;> (try omega)
      rw [take_len (by omega)] at hx
      rw [layM, if_pos k8, ← hx]
      exact AV.up_rfl _
  · have e8 : (t.kind = 8) = False := eq_false k8
    by_cases k4 : t.kind = 4
    · have e4 : (t.kind = 4) = True := eq_true k4
      have hel := ht.1 (.inl k4)
      have hlt : t.elem.toNat < L.length := by omega
      have ge := encEs_get hlt
      have hat : atE L t.elem = L[t.elem.toNat] := by rw [atE, List.getElem?_eq_getElem hlt]; rfl
      have hok := hL _ (List.getElem_mem hlt)
      generalize L[t.elem.toNat] = e at ge hat hok
      obtain ⟨hlo, hmo, hde⟩ := hok
      have hn := rightOK_n hr (.inl k4)
      have i1 : I64 t.n := by unfold I64; omega
      have i2 : I64 (slotOf e 0).size := by unfold slotOf I64; dsimp only; split <;> omega
      (repeat' (first
    | exact trivial
    | with_reducible refine aw_seq ?_ | with_reducible refine aw_block ?_ | with_reducible refine aw_skip ?_ | with_reducible refine aw_ret ?_ | with_reducible refine aw_exit ?_ | with_reducible refine aseq_normal ?_ | with_reducible refine aseq_ret ?_ | with_reducible refine aseq_exit ?_ | with_reducible refine ablk_normal ?_ | with_reducible refine ablk_ret ?_ | with_reducible refine ablk_hit ?_ | with_reducible refine aw_region ?_ | with_reducible refine go_nil ?_ | with_reducible refine al_of ?_
    | with_reducible refine ablk_miss (by decide) ?_
    | ((with_reducible refine al_id ?_); refine go_run (tyOf_ok _) [] (by simp only [go_sem, Nat.reduceBEq, Nat.reduceBneDiff, Nat.reduceLT, Nat.reduceLeDiff, Nat.reduceAdd, Nat.reduceMul, Nat.reduceSub, Nat.reduceEqDiff, reduceCtorEq, encPs_len, encEs_len, e8, e4, ge, slotS]; exact rfl) ?_ ?_)
    | (refine aw_draw (id := 7) (t := (.node [0, 1, 2, 3, 4, 5, 6] [(.node [7, 8, 9] []), (.node [8, 7, 9] [])])) (drR [7, 5] [25] []) mixed (by kernel_rfl) (by kernel_rfl) (fun _ _ h => h) ?_)
    | (refine aw_draw (id := 14) (t := (.node [0, 1, 2, 3, 5] [(.node [4, 6, 7, 8] []), (.node [6, 4, 7, 8] [])])) (drR [2, 9] [] []) mixed (by kernel_rfl) (by kernel_rfl) (fun _ _ h => h) ?_)
    | (refine at_done (by simp only [List.filterMap_cons, List.filterMap_nil, List.getElem?_toArray, List.getElem?_cons_zero, List.getElem?_cons_succ]; exact rfl) ?_) | (refine at_alt (by simp only [List.filterMap_cons, List.filterMap_nil, List.getElem?_toArray, List.getElem?_cons_zero, List.getElem?_cons_succ]; exact rfl) ?_) | refine qalt_normal ?_ | refine ats_cons ?_ ?_ | exact ats_nil
    | ((with_reducible refine ald_id ?_); refine go_runD (tyOf_ok _) [] (by simp only [go_sem, Nat.reduceBEq, Nat.reduceBneDiff, Nat.reduceLT, Nat.reduceLeDiff, Nat.reduceAdd, Nat.reduceMul, Nat.reduceSub, Nat.reduceEqDiff, reduceCtorEq, encPs_len, encEs_len, e8, e4, ge, slotS]; exact rfl) ?_ ?_)
    | (refine aw_cond (by simp only [go_sem, Nat.reduceBEq, Nat.reduceBneDiff, Nat.reduceLT, Nat.reduceLeDiff, Nat.reduceAdd, Nat.reduceMul, Nat.reduceSub, Nat.reduceEqDiff, reduceCtorEq, encPs_len, encEs_len, e8, e4, ge, slotS]; exact rfl) (by simp only [go_sem, Nat.reduceBEq, Nat.reduceBneDiff, Nat.reduceLT, Nat.reduceLeDiff, Nat.reduceAdd, Nat.reduceMul, Nat.reduceSub, Nat.reduceEqDiff, reduceCtorEq]) (fun h => ?_) (fun h => ?_) <;> (try simp only [decide_eq_true_eq, decide_eq_false_iff_not, Bool.not_eq_true', Bool.not_eq_false', Bool.or_eq_true, Bool.or_eq_false_iff, Bool.and_eq_true, Bool.and_eq_false_iff, Decidable.not_not, reduceCtorEq] at h) <;> (try (exfalso; omega)))
    | (refine aend_ret (by simp only [go_sem, Nat.reduceBEq, Nat.reduceBneDiff, Nat.reduceLT, Nat.reduceLeDiff, Nat.reduceAdd, Nat.reduceMul, Nat.reduceSub, Nat.reduceEqDiff, reduceCtorEq, encPs_len, encEs_len, e8, e4, ge, slotS]; exact rfl) ?_ ?_)
    | (refine aend_normal (by simp only [go_sem, Nat.reduceBEq, Nat.reduceBneDiff, Nat.reduceLT, Nat.reduceLeDiff, Nat.reduceAdd, Nat.reduceMul, Nat.reduceSub, Nat.reduceEqDiff, reduceCtorEq, encPs_len, encEs_len, e8, e4, ge, slotS]; exact rfl) ?_ ?_)
    | (refine aendG_ret (by simp only [go_sem, Nat.reduceBEq, Nat.reduceBneDiff, Nat.reduceLT, Nat.reduceLeDiff, Nat.reduceAdd, Nat.reduceMul, Nat.reduceSub, Nat.reduceEqDiff, reduceCtorEq, encPs_len, encEs_len, e8, e4, ge, slotS]; exact rfl) ?_ ?_ ?_)
    | (refine aendG_normal (by simp only [go_sem, Nat.reduceBEq, Nat.reduceBneDiff, Nat.reduceLT, Nat.reduceLeDiff, Nat.reduceAdd, Nat.reduceMul, Nat.reduceSub, Nat.reduceEqDiff, reduceCtorEq, encPs_len, encEs_len, e8, e4, ge, slotS]; exact rfl) ?_ ?_ ?_)
    | (refine go_call (by simp only [go_sem, Nat.reduceBEq, Nat.reduceBneDiff, Nat.reduceLT, Nat.reduceLeDiff, Nat.reduceAdd, Nat.reduceMul, Nat.reduceSub, Nat.reduceEqDiff, reduceCtorEq, encPs_len, encEs_len, e8, e4, ge, slotS]; exact rfl) ?_ (fun _ => lslot_any e 0) rfl ?_)
    | (refine go_call (by simp only [go_sem, Nat.reduceBEq, Nat.reduceBneDiff, Nat.reduceLT, Nat.reduceLeDiff, Nat.reduceAdd, Nat.reduceMul, Nat.reduceSub, Nat.reduceEqDiff, reduceCtorEq, encPs_len, encEs_len, e8, e4, ge, slotS]; exact rfl) ?_ (fun _ => times_p i1 i2) rfl ?_) | fail)) <;> (try omega)
      all_goals (rw [layM, if_neg k8, if_pos k4, hat]; exact AV.up_rfl _)
    · have e4 : (t.kind = 4) = False := eq_false k4
      by_cases k5 : t.kind = 5
      · have e5 : (t.kind = 5) = True := eq_true k5
        have hel := ht.1 (.inr (.inl k5))
        have hlt : t.elem.toNat < L.length := by omega
        have ge := encEs_get hlt
        have hat : atE L t.elem = L[t.elem.toNat] := by rw [atE, List.getElem?_eq_getElem hlt]; rfl
        generalize L[t.elem.toNat] = e at ge hat
        (repeat' (first
    | exact trivial
    | with_reducible refine aw_seq ?_ | with_reducible refine aw_block ?_ | with_reducible refine aw_skip ?_ | with_reducible refine aw_ret ?_ | with_reducible refine aw_exit ?_ | with_reducible refine aseq_normal ?_ | with_reducible refine aseq_ret ?_ | with_reducible refine aseq_exit ?_ | with_reducible refine ablk_normal ?_ | with_reducible refine ablk_ret ?_ | with_reducible refine ablk_hit ?_ | with_reducible refine aw_region ?_ | with_reducible refine go_nil ?_ | with_reducible refine al_of ?_
    | with_reducible refine ablk_miss (by decide) ?_
    | ((with_reducible refine al_id ?_); refine go_run (tyOf_ok _) [] (by simp only [go_sem, Nat.reduceBEq, Nat.reduceBneDiff, Nat.reduceLT, Nat.reduceLeDiff, Nat.reduceAdd, Nat.reduceMul, Nat.reduceSub, Nat.reduceEqDiff, reduceCtorEq, encPs_len, encEs_len, e8, e4, e5, ge, slotS]; exact rfl) ?_ ?_)
    | (refine aw_draw (id := 7) (t := (.node [0, 1, 2, 3, 4, 5, 6] [(.node [7, 8, 9] []), (.node [8, 7, 9] [])])) (drR [7, 5] [25] []) mixed (by kernel_rfl) (by kernel_rfl) (fun _ _ h => h) ?_)
    | (refine aw_draw (id := 14) (t := (.node [0, 1, 2, 3, 5] [(.node [4, 6, 7, 8] []), (.node [6, 4, 7, 8] [])])) (drR [2, 9] [] []) mixed (by kernel_rfl) (by kernel_rfl) (fun _ _ h => h) ?_)
    | (refine at_done (by simp only [List.filterMap_cons, List.filterMap_nil, List.getElem?_toArray, List.getElem?_cons_zero, List.getElem?_cons_succ]; exact rfl) ?_) | (refine at_alt (by simp only [List.filterMap_cons, List.filterMap_nil, List.getElem?_toArray, List.getElem?_cons_zero, List.getElem?_cons_succ]; exact rfl) ?_) | refine qalt_normal ?_ | refine ats_cons ?_ ?_ | exact ats_nil
    | ((with_reducible refine ald_id ?_); refine go_runD (tyOf_ok _) [] (by simp only [go_sem, Nat.reduceBEq, Nat.reduceBneDiff, Nat.reduceLT, Nat.reduceLeDiff, Nat.reduceAdd, Nat.reduceMul, Nat.reduceSub, Nat.reduceEqDiff, reduceCtorEq, encPs_len, encEs_len, e8, e4, e5, ge, slotS]; exact rfl) ?_ ?_)
    | (refine aw_cond (by simp only [go_sem, Nat.reduceBEq, Nat.reduceBneDiff, Nat.reduceLT, Nat.reduceLeDiff, Nat.reduceAdd, Nat.reduceMul, Nat.reduceSub, Nat.reduceEqDiff, reduceCtorEq, encPs_len, encEs_len, e8, e4, e5, ge, slotS]; exact rfl) (by simp only [go_sem, Nat.reduceBEq, Nat.reduceBneDiff, Nat.reduceLT, Nat.reduceLeDiff, Nat.reduceAdd, Nat.reduceMul, Nat.reduceSub, Nat.reduceEqDiff, reduceCtorEq]) (fun h => ?_) (fun h => ?_) <;> (try simp only [decide_eq_true_eq, decide_eq_false_iff_not, Bool.not_eq_true', Bool.not_eq_false', Bool.or_eq_true, Bool.or_eq_false_iff, Bool.and_eq_true, Bool.and_eq_false_iff, Decidable.not_not, reduceCtorEq] at h) <;> (try (exfalso; omega)))
    | (refine aend_ret (by simp only [go_sem, Nat.reduceBEq, Nat.reduceBneDiff, Nat.reduceLT, Nat.reduceLeDiff, Nat.reduceAdd, Nat.reduceMul, Nat.reduceSub, Nat.reduceEqDiff, reduceCtorEq, encPs_len, encEs_len, e8, e4, e5, ge, slotS]; exact rfl) ?_ ?_)
    | (refine aend_normal (by simp only [go_sem, Nat.reduceBEq, Nat.reduceBneDiff, Nat.reduceLT, Nat.reduceLeDiff, Nat.reduceAdd, Nat.reduceMul, Nat.reduceSub, Nat.reduceEqDiff, reduceCtorEq, encPs_len, encEs_len, e8, e4, e5, ge, slotS]; exact rfl) ?_ ?_)
    | (refine aendG_ret (by simp only [go_sem, Nat.reduceBEq, Nat.reduceBneDiff, Nat.reduceLT, Nat.reduceLeDiff, Nat.reduceAdd, Nat.reduceMul, Nat.reduceSub, Nat.reduceEqDiff, reduceCtorEq, encPs_len, encEs_len, e8, e4, e5, ge, slotS]; exact rfl) ?_ ?_ ?_)
    | (refine aendG_normal (by simp only [go_sem, Nat.reduceBEq, Nat.reduceBneDiff, Nat.reduceLT, Nat.reduceLeDiff, Nat.reduceAdd, Nat.reduceMul, Nat.reduceSub, Nat.reduceEqDiff, reduceCtorEq, encPs_len, encEs_len, e8, e4, e5, ge, slotS]; exact rfl) ?_ ?_ ?_)
    | (refine go_call (by simp only [go_sem, Nat.reduceBEq, Nat.reduceBneDiff, Nat.reduceLT, Nat.reduceLeDiff, Nat.reduceAdd, Nat.reduceMul, Nat.reduceSub, Nat.reduceEqDiff, reduceCtorEq, encPs_len, encEs_len, e8, e4, e5, ge, slotS]; exact rfl) ?_ (fun _ => lslot_any e 0) rfl ?_) | fail)) <;> (try omega)
        all_goals (rw [layM, if_neg k8, if_neg k4, if_pos k5, hat]; exact AV.up_rfl _)
      · have e5 : (t.kind = 5) = False := eq_false k5
        (repeat' (first
    | exact trivial
    | with_reducible refine aw_seq ?_ | with_reducible refine aw_block ?_ | with_reducible refine aw_skip ?_ | with_reducible refine aw_ret ?_ | with_reducible refine aw_exit ?_ | with_reducible refine aseq_normal ?_ | with_reducible refine aseq_ret ?_ | with_reducible refine aseq_exit ?_ | with_reducible refine ablk_normal ?_ | with_reducible refine ablk_ret ?_ | with_reducible refine ablk_hit ?_ | with_reducible refine aw_region ?_ | with_reducible refine go_nil ?_ | with_reducible refine al_of ?_
    | with_reducible refine ablk_miss (by decide) ?_
    | ((with_reducible refine al_id ?_); refine go_run (tyOf_ok _) [] (by simp only [go_sem, Nat.reduceBEq, Nat.reduceBneDiff, Nat.reduceLT, Nat.reduceLeDiff, Nat.reduceAdd, Nat.reduceMul, Nat.reduceSub, Nat.reduceEqDiff, reduceCtorEq, encPs_len, encEs_len, e8, e4, e5]; exact rfl) ?_ ?_)
    | (refine aw_draw (id := 7) (t := (.node [0, 1, 2, 3, 4, 5, 6] [(.node [7, 8, 9] []), (.node [8, 7, 9] [])])) (drR [7, 5] [25] []) mixed (by kernel_rfl) (by kernel_rfl) (fun _ _ h => h) ?_)
    | (refine aw_draw (id := 14) (t := (.node [0, 1, 2, 3, 5] [(.node [4, 6, 7, 8] []), (.node [6, 4, 7, 8] [])])) (drR [2, 9] [] []) mixed (by kernel_rfl) (by kernel_rfl) (fun _ _ h => h) ?_)
    | (refine at_done (by simp only [List.filterMap_cons, List.filterMap_nil, List.getElem?_toArray, List.getElem?_cons_zero, List.getElem?_cons_succ]; exact rfl) ?_) | (refine at_alt (by simp only [List.filterMap_cons, List.filterMap_nil, List.getElem?_toArray, List.getElem?_cons_zero, List.getElem?_cons_succ]; exact rfl) ?_) | refine qalt_normal ?_ | refine ats_cons ?_ ?_ | exact ats_nil
    | ((with_reducible refine ald_id ?_); refine go_runD (tyOf_ok _) [] (by simp only [go_sem, Nat.reduceBEq, Nat.reduceBneDiff, Nat.reduceLT, Nat.reduceLeDiff, Nat.reduceAdd, Nat.reduceMul, Nat.reduceSub, Nat.reduceEqDiff, reduceCtorEq, encPs_len, encEs_len, e8, e4, e5]; exact rfl) ?_ ?_)
    | (refine aw_cond (by simp only [go_sem, Nat.reduceBEq, Nat.reduceBneDiff, Nat.reduceLT, Nat.reduceLeDiff, Nat.reduceAdd, Nat.reduceMul, Nat.reduceSub, Nat.reduceEqDiff, reduceCtorEq, encPs_len, encEs_len, e8, e4, e5]; exact rfl) (by simp only [go_sem, Nat.reduceBEq, Nat.reduceBneDiff, Nat.reduceLT, Nat.reduceLeDiff, Nat.reduceAdd, Nat.reduceMul, Nat.reduceSub, Nat.reduceEqDiff, reduceCtorEq]) (fun h => ?_) (fun h => ?_) <;> (try simp only [decide_eq_true_eq, decide_eq_false_iff_not, Bool.not_eq_true', Bool.not_eq_false', Bool.or_eq_true, Bool.or_eq_false_iff, Bool.and_eq_true, Bool.and_eq_false_iff, Decidable.not_not, reduceCtorEq] at h) <;> (try (exfalso; omega)))
    | (refine aend_ret (by simp only [go_sem, Nat.reduceBEq, Nat.reduceBneDiff, Nat.reduceLT, Nat.reduceLeDiff, Nat.reduceAdd, Nat.reduceMul, Nat.reduceSub, Nat.reduceEqDiff, reduceCtorEq, encPs_len, encEs_len, e8, e4, e5]; exact rfl) ?_ ?_)
    | (refine aend_normal (by simp only [go_sem, Nat.reduceBEq, Nat.reduceBneDiff, Nat.reduceLT, Nat.reduceLeDiff, Nat.reduceAdd, Nat.reduceMul, Nat.reduceSub, Nat.reduceEqDiff, reduceCtorEq, encPs_len, encEs_len, e8, e4, e5]; exact rfl) ?_ ?_)
    | (refine aendG_ret (by simp only [go_sem, Nat.reduceBEq, Nat.reduceBneDiff, Nat.reduceLT, Nat.reduceLeDiff, Nat.reduceAdd, Nat.reduceMul, Nat.reduceSub, Nat.reduceEqDiff, reduceCtorEq, encPs_len, encEs_len, e8, e4, e5]; exact rfl) ?_ ?_ ?_)
    | (refine aendG_normal (by simp only [go_sem, Nat.reduceBEq, Nat.reduceBneDiff, Nat.reduceLT, Nat.reduceLeDiff, Nat.reduceAdd, Nat.reduceMul, Nat.reduceSub, Nat.reduceEqDiff, reduceCtorEq, encPs_len, encEs_len, e8, e4, e5]; exact rfl) ?_ ?_ ?_) | fail)) <;> (try omega)
        rw [layM, if_neg k8, if_neg k4, if_neg k5]
        exact AV.up_agg ⟨AV.up_rfl _, AV.up_nil _, trivial⟩
end Go.Proofs.Ytfgacgpicfknpaa
end
section
namespace Go.Proofs.Ytfgacgpicfknpaa
open Go.RowKit
set_option maxRecDepth 100000
set_option maxHeartbeats 4000000
def lays (ts : List TypeM) : List LayM := ts.map fun t => layM t (exts ts)
def laysF (ts : List TypeM) (rs : List RootM) : List LayM × Int := if (checkF ts rs).1 ≠ 0 then ([], 92) else (lays ts, 0)
theorem encLs_len (l : List LayM) : (encLs l).length = l.length := by simp [encLs]
/-- of the first k types -/
def laysK (ts : List TypeM) (k : Nat) : List LayM := (ts.take k).map fun t => layM t (exts ts)
theorem laysK_succ {ts : List TypeM} {k : Nat} (h : k < ts.length) : laysK ts (k + 1) = laysK ts k ++ [layM ts[k] (exts ts)] := by
  rw [laysK, List.take_succ_eq_append_getElem h, List.map_append]; rfl
theorem laysK_len {ts : List TypeM} {k : Nat} (h : k ≤ ts.length) : (laysK ts k).length = k := by simp [laysK, Nat.min_eq_left h]
theorem rightOK_mono {t : TypeM} {k m : Int} (hkm : k ≤ m) (h : rightOK t k = true) : rightOK t m = true := by
  have hg : ∀ (kind : Int) (l pre : List PartM), goodFrom kind k pre l = true → goodFrom kind m pre l = true := by
    intro kind l
    induction l with
    | nil => intro pre _; rfl
    | cons p l ih =>
      intro pre h
      simp only [goodFrom, Bool.and_eq_true] at h ⊢
      refine ⟨?_, ih _ h.2⟩
      have h1 := h.1
      unfold good at h1 ⊢
      split at h1 <;> rename_i hk
      · rw [if_pos hk]
        simp only [Bool.and_eq_true, decide_eq_true_eq] at h1 ⊢
        exact ⟨⟨h1.1.1, by omega⟩, h1.2⟩
      · rw [if_neg hk]
        simp only [Bool.and_eq_true, decide_eq_true_eq] at h1 ⊢
        exact ⟨⟨h1.1.1, by omega⟩, h1.2⟩
  rw [rightOK, Bool.and_eq_true] at h ⊢
  refine ⟨h.1, ?_⟩
  have h2 := h.2
  split at h2 <;> rename_i h3
  · rw [if_pos h3]; exact h2
  · rw [if_neg h3]
    split at h2 <;> rename_i h4
    · rw [if_pos h4]
      simp only [Bool.and_eq_true, decide_eq_true_eq] at h2 ⊢
      exact ⟨⟨h2.1.1, by omega⟩, h2.2⟩
    · rw [if_neg h4]
      split at h2 <;> rename_i h5
      · rw [if_pos h5]
        simp only [Bool.and_eq_true, partsOK] at h2 ⊢
        exact ⟨h2.1, h2.2.1, hg _ _ _ h2.2.2⟩
      · cases h2
theorem exts_ok {ts : List TypeM} {rs : List RootM} (h : (checkF ts rs).1 = 0) (hts : ts.length ≤ 1000000000) : ∀ k, k ≤ ts.length → ∀ e ∈ exts (ts.take k), extOK e ∧ e.depth ≤ k := by
  intro k
  induction k with
  | zero => intro _ e he; cases he
  | succ k ih =>
    intro hk e he
    have hlt : k < ts.length := by omega
    rw [exts_succ hlt] at he
    rcases List.mem_append.1 he with he | he
    · have := ih (by omega) e he
      exact ⟨this.1, by have := this.2; omega⟩
    · rw [List.mem_singleton] at he
      subst he
      have := extM_ok (by omega) (by omega) (check_right h k hlt) (ih (by omega))
      exact ⟨this.1, by have := this.2; omega⟩
theorem layOf_any (ts : List TypeM) (rs : List RootM) (hts : ts.length ≤ 1000000000) (hrs : rs.length ≤ 1000000000) (hp : ∀ t ∈ ts, t.parts.length ≤ 1000000000) : PCall Try.prog 13 [vSch ts rs] (fun r => r = .tup [.lst 2 (encLs (laysF ts rs).1), vI (laysF ts rs).2]) := by
  refine go_fnU (tyOf_ok _) Try.func13 rfl rfl (by rw [Try.results13]) Try.ntmps13 rfl fun E => ?_
  by_cases hc : (checkF ts rs).1 = 0
  case neg =>
    have ec : ((checkF ts rs).1 = 0) = False := eq_false hc
    (repeat' (first
    | exact trivial
    | with_reducible refine aw_seq ?_ | with_reducible refine aw_block ?_ | with_reducible refine aw_skip ?_ | with_reducible refine aw_ret ?_ | with_reducible refine aw_exit ?_ | with_reducible refine aseq_normal ?_ | with_reducible refine aseq_ret ?_ | with_reducible refine aseq_exit ?_ | with_reducible refine ablk_normal ?_ | with_reducible refine ablk_ret ?_ | with_reducible refine ablk_hit ?_ | with_reducible refine aw_region ?_ | with_reducible refine go_nil ?_ | with_reducible refine al_of ?_
    | with_reducible refine ablk_miss (by decide) ?_
    | ((with_reducible refine al_id ?_); refine go_run (tyOf_ok _) [] (by simp only [go_sem, Nat.reduceBEq, Nat.reduceBneDiff, Nat.reduceLT, Nat.reduceLeDiff, Nat.reduceAdd, Nat.reduceMul, Nat.reduceSub, Nat.reduceEqDiff, reduceCtorEq, vSch, vF, ec]; exact rfl) ?_ ?_)
    | (refine aw_cond (by simp only [go_sem, Nat.reduceBEq, Nat.reduceBneDiff, Nat.reduceLT, Nat.reduceLeDiff, Nat.reduceAdd, Nat.reduceMul, Nat.reduceSub, Nat.reduceEqDiff, reduceCtorEq, vSch, vF, ec]; exact rfl) (by simp only [go_sem, Nat.reduceBEq, Nat.reduceBneDiff, Nat.reduceLT, Nat.reduceLeDiff, Nat.reduceAdd, Nat.reduceMul, Nat.reduceSub, Nat.reduceEqDiff, reduceCtorEq]) (fun h => ?_) (fun h => ?_) <;> (try simp only [decide_eq_true_eq, decide_eq_false_iff_not, Bool.not_eq_true', Bool.not_eq_false', Bool.or_eq_true, Bool.or_eq_false_iff, Bool.and_eq_true, Bool.and_eq_false_iff, Decidable.not_not, reduceCtorEq] at h) <;> (try (exfalso; omega)))
    | (refine aend_ret (by simp only [go_sem, Nat.reduceBEq, Nat.reduceBneDiff, Nat.reduceLT, Nat.reduceLeDiff, Nat.reduceAdd, Nat.reduceMul, Nat.reduceSub, Nat.reduceEqDiff, reduceCtorEq, vSch, vF, ec]; exact rfl) ?_ ?_)
    | (refine aend_normal (by simp only [go_sem, Nat.reduceBEq, Nat.reduceBneDiff, Nat.reduceLT, Nat.reduceLeDiff, Nat.reduceAdd, Nat.reduceMul, Nat.reduceSub, Nat.reduceEqDiff, reduceCtorEq, vSch, vF, ec]; exact rfl) ?_ ?_)
    | (refine aendG_ret (by simp only [go_sem, Nat.reduceBEq, Nat.reduceBneDiff, Nat.reduceLT, Nat.reduceLeDiff, Nat.reduceAdd, Nat.reduceMul, Nat.reduceSub, Nat.reduceEqDiff, reduceCtorEq, vSch, vF, ec]; exact rfl) ?_ ?_ ?_)
    | (refine aendG_normal (by simp only [go_sem, Nat.reduceBEq, Nat.reduceBneDiff, Nat.reduceLT, Nat.reduceLeDiff, Nat.reduceAdd, Nat.reduceMul, Nat.reduceSub, Nat.reduceEqDiff, reduceCtorEq, vSch, vF, ec]; exact rfl) ?_ ?_ ?_)
    | (refine go_call (by simp only [go_sem, Nat.reduceBEq, Nat.reduceBneDiff, Nat.reduceLT, Nat.reduceLeDiff, Nat.reduceAdd, Nat.reduceMul, Nat.reduceSub, Nat.reduceEqDiff, reduceCtorEq, vSch, vF, ec]; exact rfl) ?_ (fun _ => check_any ts rs hts hrs hp) rfl ?_) | fail)) <;> (try omega)
    rw [laysF, if_pos hc]; exact AV.up_nil2 _ _
  have ec : ((checkF ts rs).1 = 0) = True := eq_true hc
  have hsz : sizesF ts rs = (exts ts, 0) := by rw [sizesF, if_neg (fun g => g hc)]
  have hE := exts_ok hc hts ts.length (Nat.le_refl _)
  rw [take_len (Nat.le_refl _)] at hE
  have hEl := exts_len ts ts.length (Nat.le_refl _)
  rw [take_len (Nat.le_refl _)] at hEl
  have hsz1 : (sizesF ts rs).1 = exts ts := by rw [hsz]
  have hsz2 : (sizesF ts rs).2 = 0 := by rw [hsz]
  (repeat' (first
    | exact trivial
    | with_reducible refine aw_seq ?_ | with_reducible refine aw_block ?_ | with_reducible refine aw_skip ?_ | with_reducible refine aw_ret ?_ | with_reducible refine aw_exit ?_ | with_reducible refine aseq_normal ?_ | with_reducible refine aseq_ret ?_ | with_reducible refine aseq_exit ?_ | with_reducible refine ablk_normal ?_ | with_reducible refine ablk_ret ?_ | with_reducible refine ablk_hit ?_ | with_reducible refine aw_region ?_ | with_reducible refine go_nil ?_ | with_reducible refine al_of ?_
    | with_reducible refine ablk_miss (by decide) ?_
    | ((with_reducible refine al_id ?_); refine go_run (tyOf_ok _) [] (by simp only [go_sem, Nat.reduceBEq, Nat.reduceBneDiff, Nat.reduceLT, Nat.reduceLeDiff, Nat.reduceAdd, Nat.reduceMul, Nat.reduceSub, Nat.reduceEqDiff, reduceCtorEq, vSch, vF, ec, hsz1, hsz2, encTs_len]; exact rfl) ?_ ?_)
    | (refine aw_cond (by simp only [go_sem, Nat.reduceBEq, Nat.reduceBneDiff, Nat.reduceLT, Nat.reduceLeDiff, Nat.reduceAdd, Nat.reduceMul, Nat.reduceSub, Nat.reduceEqDiff, reduceCtorEq, vSch, vF, ec, hsz1, hsz2, encTs_len]; exact rfl) (by simp only [go_sem, Nat.reduceBEq, Nat.reduceBneDiff, Nat.reduceLT, Nat.reduceLeDiff, Nat.reduceAdd, Nat.reduceMul, Nat.reduceSub, Nat.reduceEqDiff, reduceCtorEq]) (fun h => ?_) (fun h => ?_) <;> (try simp only [decide_eq_true_eq, decide_eq_false_iff_not, Bool.not_eq_true', Bool.not_eq_false', Bool.or_eq_true, Bool.or_eq_false_iff, Bool.and_eq_true, Bool.and_eq_false_iff, Decidable.not_not, reduceCtorEq] at h) <;> (try (exfalso; omega)))
    | (refine aend_ret (by simp only [go_sem, Nat.reduceBEq, Nat.reduceBneDiff, Nat.reduceLT, Nat.reduceLeDiff, Nat.reduceAdd, Nat.reduceMul, Nat.reduceSub, Nat.reduceEqDiff, reduceCtorEq, vSch, vF, ec, hsz1, hsz2, encTs_len]; exact rfl) ?_ ?_)
    | (refine aend_normal (by simp only [go_sem, Nat.reduceBEq, Nat.reduceBneDiff, Nat.reduceLT, Nat.reduceLeDiff, Nat.reduceAdd, Nat.reduceMul, Nat.reduceSub, Nat.reduceEqDiff, reduceCtorEq, vSch, vF, ec, hsz1, hsz2, encTs_len]; exact rfl) ?_ ?_)
    | (refine aendG_ret (by simp only [go_sem, Nat.reduceBEq, Nat.reduceBneDiff, Nat.reduceLT, Nat.reduceLeDiff, Nat.reduceAdd, Nat.reduceMul, Nat.reduceSub, Nat.reduceEqDiff, reduceCtorEq, vSch, vF, ec, hsz1, hsz2, encTs_len]; exact rfl) ?_ ?_ ?_)
    | (refine aendG_normal (by simp only [go_sem, Nat.reduceBEq, Nat.reduceBneDiff, Nat.reduceLT, Nat.reduceLeDiff, Nat.reduceAdd, Nat.reduceMul, Nat.reduceSub, Nat.reduceEqDiff, reduceCtorEq, vSch, vF, ec, hsz1, hsz2, encTs_len]; exact rfl) ?_ ?_ ?_)
    | (refine go_call (by simp only [go_sem, Nat.reduceBEq, Nat.reduceBneDiff, Nat.reduceLT, Nat.reduceLeDiff, Nat.reduceAdd, Nat.reduceMul, Nat.reduceSub, Nat.reduceEqDiff, reduceCtorEq, vSch, vF, ec, hsz1, hsz2, encTs_len]; exact rfl) ?_ (fun _ => check_any ts rs hts hrs hp) rfl ?_)
    | (refine go_call1 (by simp only [go_sem, Nat.reduceBEq, Nat.reduceBneDiff, Nat.reduceLT, Nat.reduceLeDiff, Nat.reduceAdd, Nat.reduceMul, Nat.reduceSub, Nat.reduceEqDiff, reduceCtorEq, vSch, vF, ec, hsz1, hsz2, encTs_len]; exact rfl) ?_ rfl (by simp only [go_sem, Nat.reduceBEq, Nat.reduceBneDiff, Nat.reduceLT, Nat.reduceLeDiff, Nat.reduceAdd, Nat.reduceMul, Nat.reduceSub, Nat.reduceEqDiff, reduceCtorEq, vSch, vF, ec, hsz1, hsz2, encTs_len]) (by simp only [go_sem, Nat.reduceBEq, Nat.reduceBneDiff, Nat.reduceLT, Nat.reduceLeDiff, Nat.reduceAdd, Nat.reduceMul, Nat.reduceSub, Nat.reduceEqDiff, reduceCtorEq, vSch, vF, ec, hsz1, hsz2, encTs_len]) (sizeOf_any ts rs hts hrs hp) ?_) | fail)) <;> (try omega)
  refine aw_nilrow 6 34 2 6 (.inl (by decide)) (by simp only [go_sem, Nat.reduceBEq, Nat.reduceBneDiff, Nat.reduceLT, Nat.reduceLeDiff, Nat.reduceAdd, Nat.reduceMul, Nat.reduceSub, Nat.reduceEqDiff, reduceCtorEq]) ?_
  refine go_loop [4, 6, 21, 22, 23] [6] (fun k : Nat => ⟨[(4, true, .lst 4 (encEs (exts ts))), (6, true, .ref 34 2 6 0 k), (21, true, .lst 4 (encTs ts)), (22, true, vI ts.length), (23, true, vI k)],
      [(6, .row 34 2 (encLs (laysK ts k)))]⟩)
      (fun k => k ≤ ts.length) (fun k => ts.length - k) 0 (by simp only [AState.nilrow, go_sem, Nat.reduceBEq, Nat.reduceBneDiff, Nat.reduceLT, Nat.reduceLeDiff, Nat.reduceAdd, Nat.reduceMul, Nat.reduceSub, Nat.reduceEqDiff, reduceCtorEq]; exact rfl) (Nat.zero_le _) ?_
  intro k hk
  have hw1 := wrap_i64 (n := (k : Int) + 1) (by omega)
  have htk : (encLs (laysK ts k)).take k = encLs (laysK ts k) := take_len (by rw [encLs_len, laysK_len hk]; exact Nat.le_refl _)
  have hll : (encLs (laysK ts k)).length = k := by rw [encLs_len, laysK_len hk]
  by_cases hlt : k < ts.length
  · have e1 : ((k : Int) < ts.length) = True := eq_true (by omega)
    have g1 := encTs_get hlt
    have hone := lone_any ts[k] (exts ts) (rightOK_mono (by omega) (check_right hc k hlt)) (hp _ (List.getElem_mem hlt)) (fun e he => (hE e he).1)
    have happ : encLs (laysK ts k) ++ [[vI (layM ts[k] (exts ts)).size, .lst 3 (encSs (layM ts[k] (exts ts)).slots)]] = encLs (laysK ts (k + 1)) := by rw [laysK_succ hlt]; simp [encLs, encL]
    have hl1 : (encLs (laysK ts (k + 1))).length = k + 1 := by rw [encLs_len, laysK_len hlt]
    (repeat' (first
    | exact trivial
    | with_reducible refine aw_seq ?_ | with_reducible refine aw_block ?_ | with_reducible refine aw_skip ?_ | with_reducible refine aw_ret ?_ | with_reducible refine aw_exit ?_ | with_reducible refine aseq_normal ?_ | with_reducible refine aseq_ret ?_ | with_reducible refine aseq_exit ?_ | with_reducible refine ablk_normal ?_ | with_reducible refine ablk_ret ?_ | with_reducible refine ablk_hit ?_ | with_reducible refine aw_region ?_ | with_reducible refine go_nil ?_ | with_reducible refine al_of ?_
    | with_reducible refine ablk_miss (by decide) ?_
    | ((with_reducible refine al_id ?_); refine go_run (tyOf_ok _) [] (by simp only [go_sem, Nat.reduceBEq, Nat.reduceBneDiff, Nat.reduceLT, Nat.reduceLeDiff, Nat.reduceAdd, Nat.reduceMul, Nat.reduceSub, Nat.reduceEqDiff, reduceCtorEq, hw1, e1, g1, vLay, htk, happ, hl1, hll, encTs_len]; exact rfl) ?_ ?_)
    | (refine aw_cond (by simp only [go_sem, Nat.reduceBEq, Nat.reduceBneDiff, Nat.reduceLT, Nat.reduceLeDiff, Nat.reduceAdd, Nat.reduceMul, Nat.reduceSub, Nat.reduceEqDiff, reduceCtorEq, hw1, e1, g1, vLay, htk, happ, hl1, hll, encTs_len]; exact rfl) (by simp only [go_sem, Nat.reduceBEq, Nat.reduceBneDiff, Nat.reduceLT, Nat.reduceLeDiff, Nat.reduceAdd, Nat.reduceMul, Nat.reduceSub, Nat.reduceEqDiff, reduceCtorEq]) (fun h => ?_) (fun h => ?_) <;> (try simp only [decide_eq_true_eq, decide_eq_false_iff_not, Bool.not_eq_true', Bool.not_eq_false', Bool.or_eq_true, Bool.or_eq_false_iff, Bool.and_eq_true, Bool.and_eq_false_iff, Decidable.not_not, reduceCtorEq] at h) <;> (try (exfalso; omega)))
    | (refine aend_ret (by simp only [go_sem, Nat.reduceBEq, Nat.reduceBneDiff, Nat.reduceLT, Nat.reduceLeDiff, Nat.reduceAdd, Nat.reduceMul, Nat.reduceSub, Nat.reduceEqDiff, reduceCtorEq, hw1, e1, g1, vLay, htk, happ, hl1, hll, encTs_len]; exact rfl) ?_ ?_)
    | (refine aend_normal (by simp only [go_sem, Nat.reduceBEq, Nat.reduceBneDiff, Nat.reduceLT, Nat.reduceLeDiff, Nat.reduceAdd, Nat.reduceMul, Nat.reduceSub, Nat.reduceEqDiff, reduceCtorEq, hw1, e1, g1, vLay, htk, happ, hl1, hll, encTs_len]; exact rfl) ?_ ?_)
    | (refine aendG_ret (by simp only [go_sem, Nat.reduceBEq, Nat.reduceBneDiff, Nat.reduceLT, Nat.reduceLeDiff, Nat.reduceAdd, Nat.reduceMul, Nat.reduceSub, Nat.reduceEqDiff, reduceCtorEq, hw1, e1, g1, vLay, htk, happ, hl1, hll, encTs_len]; exact rfl) ?_ ?_ ?_)
    | (refine aendG_normal (by simp only [go_sem, Nat.reduceBEq, Nat.reduceBneDiff, Nat.reduceLT, Nat.reduceLeDiff, Nat.reduceAdd, Nat.reduceMul, Nat.reduceSub, Nat.reduceEqDiff, reduceCtorEq, hw1, e1, g1, vLay, htk, happ, hl1, hll, encTs_len]; exact rfl) ?_ ?_ ?_)
    | (refine go_call1 (by simp only [go_sem, Nat.reduceBEq, Nat.reduceBneDiff, Nat.reduceLT, Nat.reduceLeDiff, Nat.reduceAdd, Nat.reduceMul, Nat.reduceSub, Nat.reduceEqDiff, reduceCtorEq, hw1, e1, g1, vLay, htk, happ, hl1, hll, encTs_len]; exact rfl) ?_ rfl (by simp only [go_sem, Nat.reduceBEq, Nat.reduceBneDiff, Nat.reduceLT, Nat.reduceLeDiff, Nat.reduceAdd, Nat.reduceMul, Nat.reduceSub, Nat.reduceEqDiff, reduceCtorEq, hw1, e1, g1, vLay, htk, happ, hl1, hll, encTs_len]) (by simp only [go_sem, Nat.reduceBEq, Nat.reduceBneDiff, Nat.reduceLT, Nat.reduceLeDiff, Nat.reduceAdd, Nat.reduceMul, Nat.reduceSub, Nat.reduceEqDiff, reduceCtorEq, hw1, e1, g1, vLay, htk, happ, hl1, hll, encTs_len]) (hone) ?_) | fail)) <;> (try omega)
    exact ⟨k + 1, by simp only [go_sem, Nat.reduceBEq, Nat.reduceBneDiff, Nat.reduceLT, Nat.reduceLeDiff, Nat.reduceAdd, Nat.reduceMul, Nat.reduceSub, Nat.reduceEqDiff, reduceCtorEq]; exact rfl, hlt, by omega⟩
  · have e1 : ((k : Int) < ts.length) = False := eq_false (by omega)
    (repeat' (first
    | exact trivial
    | with_reducible refine aw_seq ?_ | with_reducible refine aw_block ?_ | with_reducible refine aw_skip ?_ | with_reducible refine aw_ret ?_ | with_reducible refine aw_exit ?_ | with_reducible refine aseq_normal ?_ | with_reducible refine aseq_ret ?_ | with_reducible refine aseq_exit ?_ | with_reducible refine ablk_normal ?_ | with_reducible refine ablk_ret ?_ | with_reducible refine ablk_hit ?_ | with_reducible refine aw_region ?_ | with_reducible refine go_nil ?_ | with_reducible refine al_of ?_
    | with_reducible refine ablk_miss (by decide) ?_
    | ((with_reducible refine al_id ?_); refine go_run (tyOf_ok _) [] (by simp only [go_sem, Nat.reduceBEq, Nat.reduceBneDiff, Nat.reduceLT, Nat.reduceLeDiff, Nat.reduceAdd, Nat.reduceMul, Nat.reduceSub, Nat.reduceEqDiff, reduceCtorEq, hw1, e1, htk, hll]; exact rfl) ?_ ?_)
    | (refine aw_cond (by simp only [go_sem, Nat.reduceBEq, Nat.reduceBneDiff, Nat.reduceLT, Nat.reduceLeDiff, Nat.reduceAdd, Nat.reduceMul, Nat.reduceSub, Nat.reduceEqDiff, reduceCtorEq, hw1, e1, htk, hll]; exact rfl) (by simp only [go_sem, Nat.reduceBEq, Nat.reduceBneDiff, Nat.reduceLT, Nat.reduceLeDiff, Nat.reduceAdd, Nat.reduceMul, Nat.reduceSub, Nat.reduceEqDiff, reduceCtorEq]) (fun h => ?_) (fun h => ?_) <;> (try simp only [decide_eq_true_eq, decide_eq_false_iff_not, Bool.not_eq_true', Bool.not_eq_false', Bool.or_eq_true, Bool.or_eq_false_iff, Bool.and_eq_true, Bool.and_eq_false_iff, Decidable.not_not, reduceCtorEq] at h) <;> (try (exfalso; omega)))
    | (refine aend_ret (by simp only [go_sem, Nat.reduceBEq, Nat.reduceBneDiff, Nat.reduceLT, Nat.reduceLeDiff, Nat.reduceAdd, Nat.reduceMul, Nat.reduceSub, Nat.reduceEqDiff, reduceCtorEq, hw1, e1, htk, hll]; exact rfl) ?_ ?_)
    | (refine aend_normal (by simp only [go_sem, Nat.reduceBEq, Nat.reduceBneDiff, Nat.reduceLT, Nat.reduceLeDiff, Nat.reduceAdd, Nat.reduceMul, Nat.reduceSub, Nat.reduceEqDiff, reduceCtorEq, hw1, e1, htk, hll]; exact rfl) ?_ ?_)
    | (refine aendG_ret (by simp only [go_sem, Nat.reduceBEq, Nat.reduceBneDiff, Nat.reduceLT, Nat.reduceLeDiff, Nat.reduceAdd, Nat.reduceMul, Nat.reduceSub, Nat.reduceEqDiff, reduceCtorEq, hw1, e1, htk, hll]; exact rfl) ?_ ?_ ?_)
    | (refine aendG_normal (by simp only [go_sem, Nat.reduceBEq, Nat.reduceBneDiff, Nat.reduceLT, Nat.reduceLeDiff, Nat.reduceAdd, Nat.reduceMul, Nat.reduceSub, Nat.reduceEqDiff, reduceCtorEq, hw1, e1, htk, hll]; exact rfl) ?_ ?_ ?_) | fail)) <;> (try omega)
    have hke : k = ts.length := by omega
    subst hke
    rw [laysF, if_neg (fun g => g hc), lays, laysK, take_len (Nat.le_refl _)]
    exact AV.up_rfl _
end Go.Proofs.Ytfgacgpicfknpaa
end
section
namespace Go.Proofs.Ytfgacgpicfknpaa
open Go.RowKit
attribute [go_sem] v8_len encPs_len encTs_len encRs_len encEs_len encSs_len encLs_len
set_option maxRecDepth 100000
set_option maxHeartbeats 4000000
def ts0 : List TypeM := [⟨3, 0, 0, []⟩, ⟨4, 3, 0, []⟩]
theorem laysF0 : laysF ts0 [] = ([⟨0, []⟩, ⟨12, [⟨0, true, 4⟩]⟩], 0) := by kernel_rfl
theorem sch0_any : PCall Try.prog 13 [.agg [.lst 4 [[vI 3, vI 0, vI 0, .v (.slice none 0 0)], [vI 4, vI 3, vI 0, .v (.slice none 0 0)]], .v (.slice none 0 0)]] (fun r => r = .tup [.lst 2 [[vI 0, .lst 3 []], [vI 12, .lst 3 [[vI 0, vB true, vI 4]]]], vI 0]) := by
  have h := layOf_any ts0 [] (by decide) (by decide) (by decide)
  rw [laysF0] at h
  exact PCall.args (.cons (.agg (.cons (.lst (.cons (.cons (.rfl _) (.cons (.rfl _) (.cons (.rfl _) (.cons (.nil _) .nil)))) (.cons (.cons (.rfl _) (.cons (.rfl _) (.cons (.rfl _) (.cons (.nil _) .nil)))) .nil))) (.cons (.nil _) .nil))) .nil) h
theorem offs0 : offsets 9 [3, 0, 2] = ([9, 12, 12], 0) := by decide
theorem lens0 : lengths 9 [9, 12, 12] 14 = ([3, 0, 2], 0, 0) := by decide
theorem offs0_any : PCall Try.prog 16 [vI 9, .lst 1 [[vI 3], [vI 0], [vI 2]]] (fun r => r = .tup [.lst 1 [[vI 9], [vI 12], [vI 12]], vI 0]) := by
  have h := offsets_any 9 (by decide) [3, 0, 2] (by decide) (by decide)
  rw [offs0] at h; exact h
theorem lens0_any : PCall Try.prog 17 [vI 9, .lst 1 [[vI 9], [vI 12], [vI 12]], vI 14] (fun r => r = .tup [.lst 1 [[vI 3], [vI 0], [vI 2]], vI 0, vI 0]) := by
  have h := lengths_any 9 (by decide) [9, 12, 12] (by decide) (by decide) 14 (by decide)
  rw [lens0] at h; exact h
theorem same3 (a b c x y z : Int) : PCall Try.prog 20 [.lst 1 [[vI a], [vI b], [vI c]], .lst 1 [[vI x], [vI y], [vI z]]] (fun r => r = vB (decide ([a, b, c] = [x, y, z]))) := same_any [a, b, c] [x, y, z] (show 3 ≤ 4611686018427387904 by decide)
theorem awake13 : PCall Try.prog 12 [] (fun r => r = vB true) := by
  refine go_fn (tyOf_ok _) Try.func12 rfl rfl (by rw [Try.results12]) Try.ntmps12 rfl fun E => ?_
  (repeat' (first
    | exact trivial
    | with_reducible refine aw_seq ?_ | with_reducible refine aw_block ?_ | with_reducible refine aw_skip ?_ | with_reducible refine aw_ret ?_ | with_reducible refine aw_exit ?_ | with_reducible refine aseq_normal ?_ | with_reducible refine aseq_ret ?_ | with_reducible refine aseq_exit ?_ | with_reducible refine ablk_normal ?_ | with_reducible refine ablk_ret ?_ | with_reducible refine ablk_hit ?_ | with_reducible refine aw_region ?_ | with_reducible refine go_nil ?_ | with_reducible refine al_of ?_
    | with_reducible refine ablk_miss (by decide) ?_
    | ((with_reducible refine al_id ?_); refine go_run (tyOf_ok _) [] (by simp only [go_sem, Nat.reduceBEq, Nat.reduceBneDiff, Nat.reduceLT, Nat.reduceLeDiff, Nat.reduceAdd, Nat.reduceMul, Nat.reduceSub, Nat.reduceEqDiff, reduceCtorEq, Int.cast_ofNat_Int, Int.reduceToNat, Int.reduceEq, Int.reduceLT, Int.reduceLE, Int.reduceNe]; exact rfl) ?_ ?_)
    | (refine aw_cond (by simp only [go_sem, Nat.reduceBEq, Nat.reduceBneDiff, Nat.reduceLT, Nat.reduceLeDiff, Nat.reduceAdd, Nat.reduceMul, Nat.reduceSub, Nat.reduceEqDiff, reduceCtorEq, Int.cast_ofNat_Int, Int.reduceToNat, Int.reduceEq, Int.reduceLT, Int.reduceLE, Int.reduceNe]; exact rfl) (by simp only [go_sem, Nat.reduceBEq, Nat.reduceBneDiff, Nat.reduceLT, Nat.reduceLeDiff, Nat.reduceAdd, Nat.reduceMul, Nat.reduceSub, Nat.reduceEqDiff, reduceCtorEq]) (fun h => ?_) (fun h => ?_) <;> (try simp only [decide_eq_true_eq, decide_eq_false_iff_not, Bool.not_eq_true', Bool.not_eq_false', Bool.or_eq_true, Bool.or_eq_false_iff, Bool.and_eq_true, Bool.and_eq_false_iff, Decidable.not_not, reduceCtorEq] at h) <;> (try (exfalso; omega)))
    | (refine aend_ret (by simp only [go_sem, Nat.reduceBEq, Nat.reduceBneDiff, Nat.reduceLT, Nat.reduceLeDiff, Nat.reduceAdd, Nat.reduceMul, Nat.reduceSub, Nat.reduceEqDiff, reduceCtorEq, Int.cast_ofNat_Int, Int.reduceToNat, Int.reduceEq, Int.reduceLT, Int.reduceLE, Int.reduceNe]; exact rfl) ?_ ?_)
    | (refine aend_normal (by simp only [go_sem, Nat.reduceBEq, Nat.reduceBneDiff, Nat.reduceLT, Nat.reduceLeDiff, Nat.reduceAdd, Nat.reduceMul, Nat.reduceSub, Nat.reduceEqDiff, reduceCtorEq, Int.cast_ofNat_Int, Int.reduceToNat, Int.reduceEq, Int.reduceLT, Int.reduceLE, Int.reduceNe]; exact rfl) ?_ ?_)
    | (refine aendG_ret (by simp only [go_sem, Nat.reduceBEq, Nat.reduceBneDiff, Nat.reduceLT, Nat.reduceLeDiff, Nat.reduceAdd, Nat.reduceMul, Nat.reduceSub, Nat.reduceEqDiff, reduceCtorEq, Int.cast_ofNat_Int, Int.reduceToNat, Int.reduceEq, Int.reduceLT, Int.reduceLE, Int.reduceNe]; exact rfl) ?_ ?_ ?_)
    | (refine aendG_normal (by simp only [go_sem, Nat.reduceBEq, Nat.reduceBneDiff, Nat.reduceLT, Nat.reduceLeDiff, Nat.reduceAdd, Nat.reduceMul, Nat.reduceSub, Nat.reduceEqDiff, reduceCtorEq, Int.cast_ofNat_Int, Int.reduceToNat, Int.reduceEq, Int.reduceLT, Int.reduceLE, Int.reduceNe]; exact rfl) ?_ ?_ ?_)
    | (refine go_call1 (by simp only [go_sem, Nat.reduceBEq, Nat.reduceBneDiff, Nat.reduceLT, Nat.reduceLeDiff, Nat.reduceAdd, Nat.reduceMul, Nat.reduceSub, Nat.reduceEqDiff, reduceCtorEq, Int.cast_ofNat_Int, Int.reduceToNat, Int.reduceEq, Int.reduceLT, Int.reduceLE, Int.reduceNe]; exact rfl) ?_ rfl (by simp only [go_sem, Nat.reduceBEq, Nat.reduceBneDiff, Nat.reduceLT, Nat.reduceLeDiff, Nat.reduceAdd, Nat.reduceMul, Nat.reduceSub, Nat.reduceEqDiff, reduceCtorEq, Int.cast_ofNat_Int, Int.reduceToNat, Int.reduceEq, Int.reduceLT, Int.reduceLE, Int.reduceNe]) (by simp only [go_sem, Nat.reduceBEq, Nat.reduceBneDiff, Nat.reduceLT, Nat.reduceLeDiff, Nat.reduceAdd, Nat.reduceMul, Nat.reduceSub, Nat.reduceEqDiff, reduceCtorEq, Int.cast_ofNat_Int, Int.reduceToNat, Int.reduceEq, Int.reduceLT, Int.reduceLE, Int.reduceNe]) (offs0_any) ?_)
    | (refine go_call (by simp only [go_sem, Nat.reduceBEq, Nat.reduceBneDiff, Nat.reduceLT, Nat.reduceLeDiff, Nat.reduceAdd, Nat.reduceMul, Nat.reduceSub, Nat.reduceEqDiff, reduceCtorEq, Int.cast_ofNat_Int, Int.reduceToNat, Int.reduceEq, Int.reduceLT, Int.reduceLE, Int.reduceNe]; exact rfl) ?_ (fun _ => same3 _ _ _ _ _ _) rfl ?_)
    | (refine go_call1 (by simp only [go_sem, Nat.reduceBEq, Nat.reduceBneDiff, Nat.reduceLT, Nat.reduceLeDiff, Nat.reduceAdd, Nat.reduceMul, Nat.reduceSub, Nat.reduceEqDiff, reduceCtorEq, Int.cast_ofNat_Int, Int.reduceToNat, Int.reduceEq, Int.reduceLT, Int.reduceLE, Int.reduceNe]; exact rfl) ?_ rfl (by simp only [go_sem, Nat.reduceBEq, Nat.reduceBneDiff, Nat.reduceLT, Nat.reduceLeDiff, Nat.reduceAdd, Nat.reduceMul, Nat.reduceSub, Nat.reduceEqDiff, reduceCtorEq, Int.cast_ofNat_Int, Int.reduceToNat, Int.reduceEq, Int.reduceLT, Int.reduceLE, Int.reduceNe]) (by simp only [go_sem, Nat.reduceBEq, Nat.reduceBneDiff, Nat.reduceLT, Nat.reduceLeDiff, Nat.reduceAdd, Nat.reduceMul, Nat.reduceSub, Nat.reduceEqDiff, reduceCtorEq, Int.cast_ofNat_Int, Int.reduceToNat, Int.reduceEq, Int.reduceLT, Int.reduceLE, Int.reduceNe]) (lens0_any) ?_)
    | (refine go_call1 (by simp only [go_sem, Nat.reduceBEq, Nat.reduceBneDiff, Nat.reduceLT, Nat.reduceLeDiff, Nat.reduceAdd, Nat.reduceMul, Nat.reduceSub, Nat.reduceEqDiff, reduceCtorEq, Int.cast_ofNat_Int, Int.reduceToNat, Int.reduceEq, Int.reduceLT, Int.reduceLE, Int.reduceNe]; exact rfl) ?_ rfl (by simp only [go_sem, Nat.reduceBEq, Nat.reduceBneDiff, Nat.reduceLT, Nat.reduceLeDiff, Nat.reduceAdd, Nat.reduceMul, Nat.reduceSub, Nat.reduceEqDiff, reduceCtorEq, Int.cast_ofNat_Int, Int.reduceToNat, Int.reduceEq, Int.reduceLT, Int.reduceLE, Int.reduceNe]) (by simp only [go_sem, Nat.reduceBEq, Nat.reduceBneDiff, Nat.reduceLT, Nat.reduceLeDiff, Nat.reduceAdd, Nat.reduceMul, Nat.reduceSub, Nat.reduceEqDiff, reduceCtorEq, Int.cast_ofNat_Int, Int.reduceToNat, Int.reduceEq, Int.reduceLT, Int.reduceLE, Int.reduceNe]) (sch0_any) ?_) | fail)) <;> (try omega)
  exact rfl
end Go.Proofs.Ytfgacgpicfknpaa
end
section
namespace Go.Proofs.Ytfgacgpicfknpaa
open Go.RowKit
set_option maxRecDepth 100000
set_option maxHeartbeats 8000000
def ssum (l : List SlotM) : Int := l.foldl (fun a s => plusL [a, s.size]) 0
theorem ssum_succ {l : List SlotM} {k : Nat} (h : k < l.length) : ssum (l.take (k + 1)) = plusL [ssum (l.take k), l[k].size] := by
  rw [List.take_succ_eq_append_getElem h, ssum, List.foldl_append]; rfl
theorem plusL2 {a b : Int} (ha : 0 ≤ a ∧ a ≤ 4611686018427387904) (hb : 0 ≤ b ∧ b ≤ 4611686018427387904) : plusL [a, b] = min (a + b) 4611686018427387904 := by
  show addS (addS 0 a) b = _
  unfold addS sz
  omega
theorem ssum_bd : ∀ (l : List SlotM), 0 ≤ ssum l ∧ ssum l ≤ 4611686018427387904 := fun l => by
  rcases List.eq_nil_or_concat l with rfl | ⟨l', s, rfl⟩
  · exact ⟨by decide, by decide⟩
  · rw [ssum, List.concat_eq_append, List.foldl_append]; exact plusL_bd _
structure LayOK (kind : Int) (l : LayM) (x : ExtM) : Prop where
  len : l.slots.length ≤ 1000000000
  other : ¬ (kind = 8 ∨ kind = 4) → l.size = 0 ∧ l.slots.length ≤ 1
  at_ : kind = 8 ∨ kind = 4 → ∀ (k : Nat) (h : k < l.slots.length), l.slots[k].at_ = ssum (l.slots.take k)
  size : ∀ s ∈ l.slots, (s.var = true → s.size = 4) ∧ 1 ≤ s.size ∧ s.size ≤ 4611686018427387904
  sum : kind = 8 → ssum l.slots = l.size
  any : kind = 8 ∨ kind = 4 → (l.slots.any (·.var)) = !x.fixed
  fixed : kind = 8 ∨ kind = 4 → x.fixed = true → l.size = x.least ∧ l.size = x.most
theorem encLs_get {l : List LayM} {k : Nat} (h : k < l.length) : (encLs l)[k]? = some [vI l[k].size, .lst 3 (encSs l[k].slots)] := by simp [encLs, encL, h]
theorem encSs_get {l : List SlotM} {k : Nat} (h : k < l.length) : (encSs l)[k]? = some [vI l[k].at_, vB l[k].var, vI l[k].size] := by simp [encSs, encS, h]
theorem layFixed_any (ts : List TypeM) (rs : List RootM) (hts : ts.length ≤ 1000000000) (hrs : rs.length ≤ 1000000000) (hp : ∀ t ∈ ts, t.parts.length ≤ 1000000000)
    (hok : (checkF ts rs).1 = 0 → ∀ (i : Nat) (h : i < ts.length), LayOK ts[i].kind (layM ts[i] (exts ts)) ((exts ts).getD i ⟨false, 0, 0, 0⟩)) : PCall Try.prog 6 [vSch ts rs] (fun r => r = vB true) := by
  refine go_fn (tyOf_ok _) Try.func6 rfl rfl (by rw [Try.results6]) Try.ntmps6 rfl fun E => ?_
  have hl := layOf_any ts rs hts hrs hp
  by_cases hc : (checkF ts rs).1 = 0
  case neg =>
    have ec : ((checkF ts rs).1 = 0) = False := eq_false hc
    have el : laysF ts rs = ([], 92) := by rw [laysF, if_pos hc]
    rw [el] at hl
    (repeat' (first
    | exact trivial
    | with_reducible refine aw_seq ?_ | with_reducible refine aw_block ?_ | with_reducible refine aw_skip ?_ | with_reducible refine aw_ret ?_ | with_reducible refine aw_exit ?_ | with_reducible refine aseq_normal ?_ | with_reducible refine aseq_ret ?_ | with_reducible refine aseq_exit ?_ | with_reducible refine ablk_normal ?_ | with_reducible refine ablk_ret ?_ | with_reducible refine ablk_hit ?_ | with_reducible refine aw_region ?_ | with_reducible refine go_nil ?_ | with_reducible refine al_of ?_
    | with_reducible refine ablk_miss (by decide) ?_
    | ((with_reducible refine al_id ?_); refine go_run (tyOf_ok _) [] (by simp only [go_sem, Nat.reduceBEq, Nat.reduceBneDiff, Nat.reduceLT, Nat.reduceLeDiff, Nat.reduceAdd, Nat.reduceMul, Nat.reduceSub, Nat.reduceEqDiff, reduceCtorEq, vSch, vF, ec, Int.cast_ofNat_Int, Int.reduceToNat, Int.reduceEq, Int.reduceLT, Int.reduceLE, Int.reduceNe]; exact rfl) ?_ ?_)
    | (refine aw_draw (id := 29) (t := (.node [0, 1, 2, 3, 4, 5, 6, 7, 8, 9, 10, 11, 12, 13, 14, 15, 16, 17, 18, 19, 20, 21, 22, 23, 24, 25, 26, 27, 28, 29, 30, 31, 32, 33, 34, 35, 36, 37, 38, 39, 40, 41, 42, 43, 44, 45, 46, 47, 48, 49, 50, 51, 52, 53] [])) (drR [10] [158, 167, 175, 181, 186, 193, 198] []) mixed (by kernel_rfl) (by kernel_rfl) (fun _ _ h => h) ?_)
    | (refine at_done (by simp only [List.filterMap_cons, List.filterMap_nil, List.getElem?_toArray, List.getElem?_cons_zero, List.getElem?_cons_succ]; exact rfl) ?_) | (refine at_alt (by simp only [List.filterMap_cons, List.filterMap_nil, List.getElem?_toArray, List.getElem?_cons_zero, List.getElem?_cons_succ]; exact rfl) ?_) | refine qalt_normal ?_ | refine ats_cons ?_ ?_ | exact ats_nil
    | ((with_reducible refine ald_id ?_); refine go_runD (tyOf_ok _) [] (by simp only [go_sem, Nat.reduceBEq, Nat.reduceBneDiff, Nat.reduceLT, Nat.reduceLeDiff, Nat.reduceAdd, Nat.reduceMul, Nat.reduceSub, Nat.reduceEqDiff, reduceCtorEq, vSch, vF, ec, Int.cast_ofNat_Int, Int.reduceToNat, Int.reduceEq, Int.reduceLT, Int.reduceLE, Int.reduceNe]; exact rfl) ?_ ?_)
    | (refine aw_cond (by simp only [go_sem, Nat.reduceBEq, Nat.reduceBneDiff, Nat.reduceLT, Nat.reduceLeDiff, Nat.reduceAdd, Nat.reduceMul, Nat.reduceSub, Nat.reduceEqDiff, reduceCtorEq, vSch, vF, ec, Int.cast_ofNat_Int, Int.reduceToNat, Int.reduceEq, Int.reduceLT, Int.reduceLE, Int.reduceNe]; exact rfl) (by simp only [go_sem, Nat.reduceBEq, Nat.reduceBneDiff, Nat.reduceLT, Nat.reduceLeDiff, Nat.reduceAdd, Nat.reduceMul, Nat.reduceSub, Nat.reduceEqDiff, reduceCtorEq]) (fun h => ?_) (fun h => ?_) <;> (try simp only [decide_eq_true_eq, decide_eq_false_iff_not, Bool.not_eq_true', Bool.not_eq_false', Bool.or_eq_true, Bool.or_eq_false_iff, Bool.and_eq_true, Bool.and_eq_false_iff, Decidable.not_not, reduceCtorEq] at h) <;> (try (exfalso; omega)))
    | (refine aend_ret (by simp only [go_sem, Nat.reduceBEq, Nat.reduceBneDiff, Nat.reduceLT, Nat.reduceLeDiff, Nat.reduceAdd, Nat.reduceMul, Nat.reduceSub, Nat.reduceEqDiff, reduceCtorEq, vSch, vF, ec, Int.cast_ofNat_Int, Int.reduceToNat, Int.reduceEq, Int.reduceLT, Int.reduceLE, Int.reduceNe]; exact rfl) ?_ ?_)
    | (refine aend_normal (by simp only [go_sem, Nat.reduceBEq, Nat.reduceBneDiff, Nat.reduceLT, Nat.reduceLeDiff, Nat.reduceAdd, Nat.reduceMul, Nat.reduceSub, Nat.reduceEqDiff, reduceCtorEq, vSch, vF, ec, Int.cast_ofNat_Int, Int.reduceToNat, Int.reduceEq, Int.reduceLT, Int.reduceLE, Int.reduceNe]; exact rfl) ?_ ?_)
    | (refine aendG_ret (by simp only [go_sem, Nat.reduceBEq, Nat.reduceBneDiff, Nat.reduceLT, Nat.reduceLeDiff, Nat.reduceAdd, Nat.reduceMul, Nat.reduceSub, Nat.reduceEqDiff, reduceCtorEq, vSch, vF, ec, Int.cast_ofNat_Int, Int.reduceToNat, Int.reduceEq, Int.reduceLT, Int.reduceLE, Int.reduceNe]; exact rfl) ?_ ?_ ?_)
    | (refine aendG_normal (by simp only [go_sem, Nat.reduceBEq, Nat.reduceBneDiff, Nat.reduceLT, Nat.reduceLeDiff, Nat.reduceAdd, Nat.reduceMul, Nat.reduceSub, Nat.reduceEqDiff, reduceCtorEq, vSch, vF, ec, Int.cast_ofNat_Int, Int.reduceToNat, Int.reduceEq, Int.reduceLT, Int.reduceLE, Int.reduceNe]; exact rfl) ?_ ?_ ?_)
    | (refine go_call (by simp only [go_sem, Nat.reduceBEq, Nat.reduceBneDiff, Nat.reduceLT, Nat.reduceLeDiff, Nat.reduceAdd, Nat.reduceMul, Nat.reduceSub, Nat.reduceEqDiff, reduceCtorEq, vSch, vF, ec, Int.cast_ofNat_Int, Int.reduceToNat, Int.reduceEq, Int.reduceLT, Int.reduceLE, Int.reduceNe]; exact rfl) ?_ (fun _ => awake13) rfl ?_)
    | (refine go_call (by simp only [go_sem, Nat.reduceBEq, Nat.reduceBneDiff, Nat.reduceLT, Nat.reduceLeDiff, Nat.reduceAdd, Nat.reduceMul, Nat.reduceSub, Nat.reduceEqDiff, reduceCtorEq, vSch, vF, ec, Int.cast_ofNat_Int, Int.reduceToNat, Int.reduceEq, Int.reduceLT, Int.reduceLE, Int.reduceNe]; exact rfl) ?_ (fun _ => check_any ts rs hts hrs hp) rfl ?_)
    | (refine go_call1 (by simp only [go_sem, Nat.reduceBEq, Nat.reduceBneDiff, Nat.reduceLT, Nat.reduceLeDiff, Nat.reduceAdd, Nat.reduceMul, Nat.reduceSub, Nat.reduceEqDiff, reduceCtorEq, vSch, vF, ec, Int.cast_ofNat_Int, Int.reduceToNat, Int.reduceEq, Int.reduceLT, Int.reduceLE, Int.reduceNe]; exact rfl) ?_ rfl (by simp only [go_sem, Nat.reduceBEq, Nat.reduceBneDiff, Nat.reduceLT, Nat.reduceLeDiff, Nat.reduceAdd, Nat.reduceMul, Nat.reduceSub, Nat.reduceEqDiff, reduceCtorEq, vSch, vF, ec, Int.cast_ofNat_Int, Int.reduceToNat, Int.reduceEq, Int.reduceLT, Int.reduceLE, Int.reduceNe]) (by simp only [go_sem, Nat.reduceBEq, Nat.reduceBneDiff, Nat.reduceLT, Nat.reduceLeDiff, Nat.reduceAdd, Nat.reduceMul, Nat.reduceSub, Nat.reduceEqDiff, reduceCtorEq, vSch, vF, ec, Int.cast_ofNat_Int, Int.reduceToNat, Int.reduceEq, Int.reduceLT, Int.reduceLE, Int.reduceNe]) (hl) ?_) | fail)) <;> (try omega)
    exact rfl
  have ec : ((checkF ts rs).1 = 0) = True := eq_true hc
  have el : laysF ts rs = (lays ts, 0) := by rw [laysF, if_neg (fun g => g hc)]
  rw [el] at hl
  have hsz : sizesF ts rs = (exts ts, 0) := by rw [sizesF, if_neg (fun g => g hc)]
  have hs := sizeOf_any ts rs hts hrs hp
  rw [hsz] at hs
  have hEl := exts_len ts ts.length (Nat.le_refl _)
  rw [take_len (Nat.le_refl _)] at hEl
  have hLl : (lays ts).length = ts.length := by simp [lays]
  have hok := hok hc
  (repeat' (first
    | exact trivial
    | with_reducible refine aw_seq ?_ | with_reducible refine aw_block ?_ | with_reducible refine aw_skip ?_ | with_reducible refine aw_ret ?_ | with_reducible refine aw_exit ?_ | with_reducible refine aseq_normal ?_ | with_reducible refine aseq_ret ?_ | with_reducible refine aseq_exit ?_ | with_reducible refine ablk_normal ?_ | with_reducible refine ablk_ret ?_ | with_reducible refine ablk_hit ?_ | with_reducible refine aw_region ?_ | with_reducible refine go_nil ?_ | with_reducible refine al_of ?_
    | with_reducible refine ablk_miss (by decide) ?_
    | ((with_reducible refine al_id ?_); refine go_run (tyOf_ok _) [] (by simp only [go_sem, Nat.reduceBEq, Nat.reduceBneDiff, Nat.reduceLT, Nat.reduceLeDiff, Nat.reduceAdd, Nat.reduceMul, Nat.reduceSub, Nat.reduceEqDiff, reduceCtorEq, vSch, vF, ec, hEl, hLl]; exact rfl) ?_ ?_)
    | (refine aw_draw (id := 29) (t := (.node [0, 1, 2, 3, 4, 5, 6, 7, 8, 9, 10, 11, 12, 13, 14, 15, 16, 17, 18, 19, 20, 21, 22, 23, 24, 25, 26, 27, 28, 29, 30, 31, 32, 33, 34, 35, 36, 37, 38, 39, 40, 41, 42, 43, 44, 45, 46, 47, 48, 49, 50, 51, 52, 53] [])) (drR [10] [158, 167, 175, 181, 186, 193, 198] []) mixed (by kernel_rfl) (by kernel_rfl) (fun _ _ h => h) ?_)
    | (refine at_done (by simp only [List.filterMap_cons, List.filterMap_nil, List.getElem?_toArray, List.getElem?_cons_zero, List.getElem?_cons_succ]; exact rfl) ?_) | (refine at_alt (by simp only [List.filterMap_cons, List.filterMap_nil, List.getElem?_toArray, List.getElem?_cons_zero, List.getElem?_cons_succ]; exact rfl) ?_) | refine qalt_normal ?_ | refine ats_cons ?_ ?_ | exact ats_nil
    | ((with_reducible refine ald_id ?_); refine go_runD (tyOf_ok _) [] (by simp only [go_sem, Nat.reduceBEq, Nat.reduceBneDiff, Nat.reduceLT, Nat.reduceLeDiff, Nat.reduceAdd, Nat.reduceMul, Nat.reduceSub, Nat.reduceEqDiff, reduceCtorEq, vSch, vF, ec, hEl, hLl]; exact rfl) ?_ ?_)
    | (refine aw_cond (by simp only [go_sem, Nat.reduceBEq, Nat.reduceBneDiff, Nat.reduceLT, Nat.reduceLeDiff, Nat.reduceAdd, Nat.reduceMul, Nat.reduceSub, Nat.reduceEqDiff, reduceCtorEq, vSch, vF, ec, hEl, hLl]; exact rfl) (by simp only [go_sem, Nat.reduceBEq, Nat.reduceBneDiff, Nat.reduceLT, Nat.reduceLeDiff, Nat.reduceAdd, Nat.reduceMul, Nat.reduceSub, Nat.reduceEqDiff, reduceCtorEq]) (fun h => ?_) (fun h => ?_) <;> (try simp only [decide_eq_true_eq, decide_eq_false_iff_not, Bool.not_eq_true', Bool.not_eq_false', Bool.or_eq_true, Bool.or_eq_false_iff, Bool.and_eq_true, Bool.and_eq_false_iff, Decidable.not_not, reduceCtorEq] at h) <;> (try (exfalso; omega)))
    | (refine aend_ret (by simp only [go_sem, Nat.reduceBEq, Nat.reduceBneDiff, Nat.reduceLT, Nat.reduceLeDiff, Nat.reduceAdd, Nat.reduceMul, Nat.reduceSub, Nat.reduceEqDiff, reduceCtorEq, vSch, vF, ec, hEl, hLl]; exact rfl) ?_ ?_)
    | (refine aend_normal (by simp only [go_sem, Nat.reduceBEq, Nat.reduceBneDiff, Nat.reduceLT, Nat.reduceLeDiff, Nat.reduceAdd, Nat.reduceMul, Nat.reduceSub, Nat.reduceEqDiff, reduceCtorEq, vSch, vF, ec, hEl, hLl]; exact rfl) ?_ ?_)
    | (refine aendG_ret (by simp only [go_sem, Nat.reduceBEq, Nat.reduceBneDiff, Nat.reduceLT, Nat.reduceLeDiff, Nat.reduceAdd, Nat.reduceMul, Nat.reduceSub, Nat.reduceEqDiff, reduceCtorEq, vSch, vF, ec, hEl, hLl]; exact rfl) ?_ ?_ ?_)
    | (refine aendG_normal (by simp only [go_sem, Nat.reduceBEq, Nat.reduceBneDiff, Nat.reduceLT, Nat.reduceLeDiff, Nat.reduceAdd, Nat.reduceMul, Nat.reduceSub, Nat.reduceEqDiff, reduceCtorEq, vSch, vF, ec, hEl, hLl]; exact rfl) ?_ ?_ ?_)
    | (refine go_call (by simp only [go_sem, Nat.reduceBEq, Nat.reduceBneDiff, Nat.reduceLT, Nat.reduceLeDiff, Nat.reduceAdd, Nat.reduceMul, Nat.reduceSub, Nat.reduceEqDiff, reduceCtorEq, vSch, vF, ec, hEl, hLl]; exact rfl) ?_ (fun _ => awake13) rfl ?_)
    | (refine go_call (by simp only [go_sem, Nat.reduceBEq, Nat.reduceBneDiff, Nat.reduceLT, Nat.reduceLeDiff, Nat.reduceAdd, Nat.reduceMul, Nat.reduceSub, Nat.reduceEqDiff, reduceCtorEq, vSch, vF, ec, hEl, hLl]; exact rfl) ?_ (fun _ => check_any ts rs hts hrs hp) rfl ?_)
    | (refine go_call1 (by simp only [go_sem, Nat.reduceBEq, Nat.reduceBneDiff, Nat.reduceLT, Nat.reduceLeDiff, Nat.reduceAdd, Nat.reduceMul, Nat.reduceSub, Nat.reduceEqDiff, reduceCtorEq, vSch, vF, ec, hEl, hLl]; exact rfl) ?_ rfl (by simp only [go_sem, Nat.reduceBEq, Nat.reduceBneDiff, Nat.reduceLT, Nat.reduceLeDiff, Nat.reduceAdd, Nat.reduceMul, Nat.reduceSub, Nat.reduceEqDiff, reduceCtorEq, vSch, vF, ec, hEl, hLl]) (by simp only [go_sem, Nat.reduceBEq, Nat.reduceBneDiff, Nat.reduceLT, Nat.reduceLeDiff, Nat.reduceAdd, Nat.reduceMul, Nat.reduceSub, Nat.reduceEqDiff, reduceCtorEq, vSch, vF, ec, hEl, hLl]) (hl) ?_)
    | (refine go_call1 (by simp only [go_sem, Nat.reduceBEq, Nat.reduceBneDiff, Nat.reduceLT, Nat.reduceLeDiff, Nat.reduceAdd, Nat.reduceMul, Nat.reduceSub, Nat.reduceEqDiff, reduceCtorEq, vSch, vF, ec, hEl, hLl]; exact rfl) ?_ rfl (by simp only [go_sem, Nat.reduceBEq, Nat.reduceBneDiff, Nat.reduceLT, Nat.reduceLeDiff, Nat.reduceAdd, Nat.reduceMul, Nat.reduceSub, Nat.reduceEqDiff, reduceCtorEq, vSch, vF, ec, hEl, hLl]) (by simp only [go_sem, Nat.reduceBEq, Nat.reduceBneDiff, Nat.reduceLT, Nat.reduceLeDiff, Nat.reduceAdd, Nat.reduceMul, Nat.reduceSub, Nat.reduceEqDiff, reduceCtorEq, vSch, vF, ec, hEl, hLl]) (hs) ?_) | fail)) <;> (try omega)
  refine go_loop [1, 5, 7, 9] [1] (fun i : Nat => ⟨[(1, true, .ptr 1 1 0 0), (5, true, .lst 2 (encLs (lays ts))), (7, true, .lst 4 (encEs (exts ts))), (9, true, vI i)], [(1, .var [.lst 4 (encTs ts), .lst 2 (encRs rs)])]⟩)
    (fun i => i ≤ ts.length) (fun i => ts.length - i) 0 (by simp only [go_sem, Nat.reduceBEq, Nat.reduceBneDiff, Nat.reduceLT, Nat.reduceLeDiff, Nat.reduceAdd, Nat.reduceMul, Nat.reduceSub, Nat.reduceEqDiff, reduceCtorEq]; exact rfl) (Nat.zero_le _) ?_
  intro i hi
  have hw1 := wrap_i64 (n := (i : Int) + 1) (by omega)
  by_cases hlt : i < ts.length
  case neg =>
    have e1 : ((i : Int) < ts.length) = False := eq_false (by omega)
    (repeat' (first
    | exact trivial
    | with_reducible refine aw_seq ?_ | with_reducible refine aw_block ?_ | with_reducible refine aw_skip ?_ | with_reducible refine aw_ret ?_ | with_reducible refine aw_exit ?_ | with_reducible refine aseq_normal ?_ | with_reducible refine aseq_ret ?_ | with_reducible refine aseq_exit ?_ | with_reducible refine ablk_normal ?_ | with_reducible refine ablk_ret ?_ | with_reducible refine ablk_hit ?_ | with_reducible refine aw_region ?_ | with_reducible refine go_nil ?_ | with_reducible refine al_of ?_
    | with_reducible refine ablk_miss (by decide) ?_
    | ((with_reducible refine al_id ?_); refine go_run (tyOf_ok _) [] (by simp only [go_sem, Nat.reduceBEq, Nat.reduceBneDiff, Nat.reduceLT, Nat.reduceLeDiff, Nat.reduceAdd, Nat.reduceMul, Nat.reduceSub, Nat.reduceEqDiff, reduceCtorEq, hw1, e1, hEl, hLl]; exact rfl) ?_ ?_)
    | (refine aw_draw (id := 29) (t := (.node [0, 1, 2, 3, 4, 5, 6, 7, 8, 9, 10, 11, 12, 13, 14, 15, 16, 17, 18, 19, 20, 21, 22, 23, 24, 25, 26, 27, 28, 29, 30, 31, 32, 33, 34, 35, 36, 37, 38, 39, 40, 41, 42, 43, 44, 45, 46, 47, 48, 49, 50, 51, 52, 53] [])) (drR [10] [158, 167, 175, 181, 186, 193, 198] []) mixed (by kernel_rfl) (by kernel_rfl) (fun _ _ h => h) ?_)
    | (refine at_done (by simp only [List.filterMap_cons, List.filterMap_nil, List.getElem?_toArray, List.getElem?_cons_zero, List.getElem?_cons_succ]; exact rfl) ?_) | (refine at_alt (by simp only [List.filterMap_cons, List.filterMap_nil, List.getElem?_toArray, List.getElem?_cons_zero, List.getElem?_cons_succ]; exact rfl) ?_) | refine qalt_normal ?_ | refine ats_cons ?_ ?_ | exact ats_nil
    | ((with_reducible refine ald_id ?_); refine go_runD (tyOf_ok _) [] (by simp only [go_sem, Nat.reduceBEq, Nat.reduceBneDiff, Nat.reduceLT, Nat.reduceLeDiff, Nat.reduceAdd, Nat.reduceMul, Nat.reduceSub, Nat.reduceEqDiff, reduceCtorEq, hw1, e1, hEl, hLl]; exact rfl) ?_ ?_)
    | (refine aw_cond (by simp only [go_sem, Nat.reduceBEq, Nat.reduceBneDiff, Nat.reduceLT, Nat.reduceLeDiff, Nat.reduceAdd, Nat.reduceMul, Nat.reduceSub, Nat.reduceEqDiff, reduceCtorEq, hw1, e1, hEl, hLl]; exact rfl) (by simp only [go_sem, Nat.reduceBEq, Nat.reduceBneDiff, Nat.reduceLT, Nat.reduceLeDiff, Nat.reduceAdd, Nat.reduceMul, Nat.reduceSub, Nat.reduceEqDiff, reduceCtorEq]) (fun h => ?_) (fun h => ?_) <;> (try simp only [decide_eq_true_eq, decide_eq_false_iff_not, Bool.not_eq_true', Bool.not_eq_false', Bool.or_eq_true, Bool.or_eq_false_iff, Bool.and_eq_true, Bool.and_eq_false_iff, Decidable.not_not, reduceCtorEq] at h) <;> (try (exfalso; omega)))
    | (refine aend_ret (by simp only [go_sem, Nat.reduceBEq, Nat.reduceBneDiff, Nat.reduceLT, Nat.reduceLeDiff, Nat.reduceAdd, Nat.reduceMul, Nat.reduceSub, Nat.reduceEqDiff, reduceCtorEq, hw1, e1, hEl, hLl]; exact rfl) ?_ ?_)
    | (refine aend_normal (by simp only [go_sem, Nat.reduceBEq, Nat.reduceBneDiff, Nat.reduceLT, Nat.reduceLeDiff, Nat.reduceAdd, Nat.reduceMul, Nat.reduceSub, Nat.reduceEqDiff, reduceCtorEq, hw1, e1, hEl, hLl]; exact rfl) ?_ ?_)
    | (refine aendG_ret (by simp only [go_sem, Nat.reduceBEq, Nat.reduceBneDiff, Nat.reduceLT, Nat.reduceLeDiff, Nat.reduceAdd, Nat.reduceMul, Nat.reduceSub, Nat.reduceEqDiff, reduceCtorEq, hw1, e1, hEl, hLl]; exact rfl) ?_ ?_ ?_)
    | (refine aendG_normal (by simp only [go_sem, Nat.reduceBEq, Nat.reduceBneDiff, Nat.reduceLT, Nat.reduceLeDiff, Nat.reduceAdd, Nat.reduceMul, Nat.reduceSub, Nat.reduceEqDiff, reduceCtorEq, hw1, e1, hEl, hLl]; exact rfl) ?_ ?_ ?_) | fail)) <;> (try omega)
    exact rfl
  have e1 : ((i : Int) < ts.length) = True := eq_true (by omega)
  have g1 := encTs_get hlt
  have g2 := encLs_get (l := lays ts) (k := i) (by omega)
  have g3 := encEs_get (l := exts ts) (k := i) (by omega)
  have hli : (lays ts)[i]'(by omega) = layM ts[i] (exts ts) := by simp [lays]
  rw [hli] at g2
  have hO := hok i hlt
  rw [List.getD_eq_getElem?_getD, List.getElem?_eq_getElem (by omega), Option.getD_some] at hO
  generalize (exts ts)[i]'(by omega) = x at g3 hO
  generalize layM ts[i] (exts ts) = l at g2 hO
  have hsl := hO.len
  by_cases hk : ts[i].kind = 8 ∨ ts[i].kind = 4
  case neg =>
    have e8 : (ts[i].kind = 8) = False := eq_false (by omega)
    have e4 : (ts[i].kind = 4) = False := eq_false (by omega)
    have h0 := hO.other hk
    have e5 : ((l.slots.length : Int) ≤ 1) = True := eq_true (by omega)
    have e6 : ((1 : Int) < l.slots.length) = False := eq_false (by omega)
    (repeat' (first
    | exact trivial
    | with_reducible refine aw_seq ?_ | with_reducible refine aw_block ?_ | with_reducible refine aw_skip ?_ | with_reducible refine aw_ret ?_ | with_reducible refine aw_exit ?_ | with_reducible refine aseq_normal ?_ | with_reducible refine aseq_ret ?_ | with_reducible refine aseq_exit ?_ | with_reducible refine ablk_normal ?_ | with_reducible refine ablk_ret ?_ | with_reducible refine ablk_hit ?_ | with_reducible refine aw_region ?_ | with_reducible refine go_nil ?_ | with_reducible refine al_of ?_
    | with_reducible refine ablk_miss (by decide) ?_
    | ((with_reducible refine al_id ?_); refine go_run (tyOf_ok _) [] (by simp only [go_sem, Nat.reduceBEq, Nat.reduceBneDiff, Nat.reduceLT, Nat.reduceLeDiff, Nat.reduceAdd, Nat.reduceMul, Nat.reduceSub, Nat.reduceEqDiff, reduceCtorEq, hw1, e1, g1, g2, g3, hEl, hLl, e8, e4, h0.1, e5, e6]; exact rfl) ?_ ?_)
    | (refine aw_draw (id := 29) (t := (.node [0, 1, 2, 3, 4, 5, 6, 7, 8, 9, 10, 11, 12, 13, 14, 15, 16, 17, 18, 19, 20, 21, 22, 23, 24, 25, 26, 27, 28, 29, 30, 31, 32, 33, 34, 35, 36, 37, 38, 39, 40, 41, 42, 43, 44, 45, 46, 47, 48, 49, 50, 51, 52, 53] [])) (drR [10] [158, 167, 175, 181, 186, 193, 198] []) mixed (by kernel_rfl) (by kernel_rfl) (fun _ _ h => h) ?_)
    | (refine at_done (by simp only [List.filterMap_cons, List.filterMap_nil, List.getElem?_toArray, List.getElem?_cons_zero, List.getElem?_cons_succ]; exact rfl) ?_) | (refine at_alt (by simp only [List.filterMap_cons, List.filterMap_nil, List.getElem?_toArray, List.getElem?_cons_zero, List.getElem?_cons_succ]; exact rfl) ?_) | refine qalt_normal ?_ | refine ats_cons ?_ ?_ | exact ats_nil
    | ((with_reducible refine ald_id ?_); refine go_runD (tyOf_ok _) [] (by simp only [go_sem, Nat.reduceBEq, Nat.reduceBneDiff, Nat.reduceLT, Nat.reduceLeDiff, Nat.reduceAdd, Nat.reduceMul, Nat.reduceSub, Nat.reduceEqDiff, reduceCtorEq, hw1, e1, g1, g2, g3, hEl, hLl, e8, e4, h0.1, e5, e6]; exact rfl) ?_ ?_)
    | (refine aw_cond (by simp only [go_sem, Nat.reduceBEq, Nat.reduceBneDiff, Nat.reduceLT, Nat.reduceLeDiff, Nat.reduceAdd, Nat.reduceMul, Nat.reduceSub, Nat.reduceEqDiff, reduceCtorEq, hw1, e1, g1, g2, g3, hEl, hLl, e8, e4, h0.1, e5, e6]; exact rfl) (by simp only [go_sem, Nat.reduceBEq, Nat.reduceBneDiff, Nat.reduceLT, Nat.reduceLeDiff, Nat.reduceAdd, Nat.reduceMul, Nat.reduceSub, Nat.reduceEqDiff, reduceCtorEq]) (fun h => ?_) (fun h => ?_) <;> (try simp only [decide_eq_true_eq, decide_eq_false_iff_not, Bool.not_eq_true', Bool.not_eq_false', Bool.or_eq_true, Bool.or_eq_false_iff, Bool.and_eq_true, Bool.and_eq_false_iff, Decidable.not_not, reduceCtorEq] at h) <;> (try (exfalso; omega)))
    | (refine aend_ret (by simp only [go_sem, Nat.reduceBEq, Nat.reduceBneDiff, Nat.reduceLT, Nat.reduceLeDiff, Nat.reduceAdd, Nat.reduceMul, Nat.reduceSub, Nat.reduceEqDiff, reduceCtorEq, hw1, e1, g1, g2, g3, hEl, hLl, e8, e4, h0.1, e5, e6]; exact rfl) ?_ ?_)
    | (refine aend_normal (by simp only [go_sem, Nat.reduceBEq, Nat.reduceBneDiff, Nat.reduceLT, Nat.reduceLeDiff, Nat.reduceAdd, Nat.reduceMul, Nat.reduceSub, Nat.reduceEqDiff, reduceCtorEq, hw1, e1, g1, g2, g3, hEl, hLl, e8, e4, h0.1, e5, e6]; exact rfl) ?_ ?_)
    | (refine aendG_ret (by simp only [go_sem, Nat.reduceBEq, Nat.reduceBneDiff, Nat.reduceLT, Nat.reduceLeDiff, Nat.reduceAdd, Nat.reduceMul, Nat.reduceSub, Nat.reduceEqDiff, reduceCtorEq, hw1, e1, g1, g2, g3, hEl, hLl, e8, e4, h0.1, e5, e6]; exact rfl) ?_ ?_ ?_)
    | (refine aendG_normal (by simp only [go_sem, Nat.reduceBEq, Nat.reduceBneDiff, Nat.reduceLT, Nat.reduceLeDiff, Nat.reduceAdd, Nat.reduceMul, Nat.reduceSub, Nat.reduceEqDiff, reduceCtorEq, hw1, e1, g1, g2, g3, hEl, hLl, e8, e4, h0.1, e5, e6]; exact rfl) ?_ ?_ ?_) | fail)) <;> (try omega)
    exact ⟨i + 1, by simp only [go_sem, Nat.reduceBEq, Nat.reduceBneDiff, Nat.reduceLT, Nat.reduceLeDiff, Nat.reduceAdd, Nat.reduceMul, Nat.reduceSub, Nat.reduceEqDiff, reduceCtorEq]; exact rfl, hlt, by omega⟩
  have ek : (ts[i].kind = 8 ∨ ts[i].kind = 4) = True := eq_true hk
  (repeat' (first
    | exact trivial
    | with_reducible refine aw_seq ?_ | with_reducible refine aw_block ?_ | with_reducible refine aw_skip ?_ | with_reducible refine aw_ret ?_ | with_reducible refine aw_exit ?_ | with_reducible refine aseq_normal ?_ | with_reducible refine aseq_ret ?_ | with_reducible refine aseq_exit ?_ | with_reducible refine ablk_normal ?_ | with_reducible refine ablk_ret ?_ | with_reducible refine ablk_hit ?_ | with_reducible refine aw_region ?_ | with_reducible refine go_nil ?_ | with_reducible refine al_of ?_
    | with_reducible refine ablk_miss (by decide) ?_
    | ((with_reducible refine al_id ?_); refine go_run (tyOf_ok _) [] (by simp only [go_sem, Nat.reduceBEq, Nat.reduceBneDiff, Nat.reduceLT, Nat.reduceLeDiff, Nat.reduceAdd, Nat.reduceMul, Nat.reduceSub, Nat.reduceEqDiff, reduceCtorEq, hw1, e1, g1, g2, g3, hEl, hLl, ek]; exact rfl) ?_ ?_)
    | (refine aw_draw (id := 29) (t := (.node [0, 1, 2, 3, 4, 5, 6, 7, 8, 9, 10, 11, 12, 13, 14, 15, 16, 17, 18, 19, 20, 21, 22, 23, 24, 25, 26, 27, 28, 29, 30, 31, 32, 33, 34, 35, 36, 37, 38, 39, 40, 41, 42, 43, 44, 45, 46, 47, 48, 49, 50, 51, 52, 53] [])) (drR [10] [158, 167, 175, 181, 186, 193, 198] []) mixed (by kernel_rfl) (by kernel_rfl) (fun _ _ h => h) ?_)
    | (refine at_done (by simp only [List.filterMap_cons, List.filterMap_nil, List.getElem?_toArray, List.getElem?_cons_zero, List.getElem?_cons_succ]; exact rfl) ?_) | (refine at_alt (by simp only [List.filterMap_cons, List.filterMap_nil, List.getElem?_toArray, List.getElem?_cons_zero, List.getElem?_cons_succ]; exact rfl) ?_) | refine qalt_normal ?_ | refine ats_cons ?_ ?_ | exact ats_nil
    | ((with_reducible refine ald_id ?_); refine go_runD (tyOf_ok _) [] (by simp only [go_sem, Nat.reduceBEq, Nat.reduceBneDiff, Nat.reduceLT, Nat.reduceLeDiff, Nat.reduceAdd, Nat.reduceMul, Nat.reduceSub, Nat.reduceEqDiff, reduceCtorEq, hw1, e1, g1, g2, g3, hEl, hLl, ek]; exact rfl) ?_ ?_)
    | (refine aw_cond (by simp only [go_sem, Nat.reduceBEq, Nat.reduceBneDiff, Nat.reduceLT, Nat.reduceLeDiff, Nat.reduceAdd, Nat.reduceMul, Nat.reduceSub, Nat.reduceEqDiff, reduceCtorEq, hw1, e1, g1, g2, g3, hEl, hLl, ek]; exact rfl) (by simp only [go_sem, Nat.reduceBEq, Nat.reduceBneDiff, Nat.reduceLT, Nat.reduceLeDiff, Nat.reduceAdd, Nat.reduceMul, Nat.reduceSub, Nat.reduceEqDiff, reduceCtorEq]) (fun h => ?_) (fun h => ?_) <;> (try simp only [decide_eq_true_eq, decide_eq_false_iff_not, Bool.not_eq_true', Bool.not_eq_false', Bool.or_eq_true, Bool.or_eq_false_iff, Bool.and_eq_true, Bool.and_eq_false_iff, Decidable.not_not, reduceCtorEq] at h) <;> (try (exfalso; omega)))
    | (refine aend_ret (by simp only [go_sem, Nat.reduceBEq, Nat.reduceBneDiff, Nat.reduceLT, Nat.reduceLeDiff, Nat.reduceAdd, Nat.reduceMul, Nat.reduceSub, Nat.reduceEqDiff, reduceCtorEq, hw1, e1, g1, g2, g3, hEl, hLl, ek]; exact rfl) ?_ ?_)
    | (refine aend_normal (by simp only [go_sem, Nat.reduceBEq, Nat.reduceBneDiff, Nat.reduceLT, Nat.reduceLeDiff, Nat.reduceAdd, Nat.reduceMul, Nat.reduceSub, Nat.reduceEqDiff, reduceCtorEq, hw1, e1, g1, g2, g3, hEl, hLl, ek]; exact rfl) ?_ ?_)
    | (refine aendG_ret (by simp only [go_sem, Nat.reduceBEq, Nat.reduceBneDiff, Nat.reduceLT, Nat.reduceLeDiff, Nat.reduceAdd, Nat.reduceMul, Nat.reduceSub, Nat.reduceEqDiff, reduceCtorEq, hw1, e1, g1, g2, g3, hEl, hLl, ek]; exact rfl) ?_ ?_ ?_)
    | (refine aendG_normal (by simp only [go_sem, Nat.reduceBEq, Nat.reduceBneDiff, Nat.reduceLT, Nat.reduceLeDiff, Nat.reduceAdd, Nat.reduceMul, Nat.reduceSub, Nat.reduceEqDiff, reduceCtorEq, hw1, e1, g1, g2, g3, hEl, hLl, ek]; exact rfl) ?_ ?_ ?_) | fail)) <;> (try omega)

  refine go_loop [1, 5, 7, 9, 10, 11, 12, 13] [1, 10] (fun y : Nat × Int × Bool => ⟨[(1, true, .ptr 1 1 0 0), (5, true, .lst 2 (encLs (lays ts))), (7, true, .lst 4 (encEs (exts ts))), (9, true, vI i), (10, true, .ptr 1 10 0 0), (11, true, vI y.2.1), (12, true, vB y.2.2), (13, true, vI y.1)],
      [(1, .var [.lst 4 (encTs ts), .lst 2 (encRs rs)]), (10, .var [vI ts[i].kind, vI ts[i].n, vI ts[i].elem, .lst 3 (encPs ts[i].parts)])]⟩)
    (fun y => y.1 ≤ l.slots.length ∧ y.2.1 = ssum (l.slots.take y.1) ∧ y.2.2 = ((l.slots.take y.1).any (·.var))) (fun y => l.slots.length - y.1) (0, 0, false) (by simp only [go_sem, Nat.reduceBEq, Nat.reduceBneDiff, Nat.reduceLT, Nat.reduceLeDiff, Nat.reduceAdd, Nat.reduceMul, Nat.reduceSub, Nat.reduceEqDiff, reduceCtorEq]; exact rfl) ⟨Nat.zero_le _, rfl, rfl⟩ ?_
  intro ⟨k, at_, va⟩ ⟨hk1, hat, hva⟩
  simp only at hk1 hat hva ⊢
  have hw2 := wrap_i64 (n := (k : Int) + 1) (by omega)
  by_cases hlt2 : k < l.slots.length
  case neg =>
    have e3 : ((k : Int) < l.slots.length) = False := eq_false (by omega)
    rw [take_len (by omega)] at hat hva
    have hany := hO.any hk
    rw [← hva] at hany
    have hfix := hO.fixed hk
    have hsum := hO.sum
    rw [← hat] at hsum
    subst hany
    by_cases h8 : ts[i].kind = 8
    · have e8 : (ts[i].kind = 8) = True := eq_true h8
      have hs2 := hsum h8
      cases hf : x.fixed with
      | true =>
        rw [hf] at hfix g3
        have := hfix rfl
        have e9 : (at_ = l.size) = True := eq_true hs2
        have e10 : (l.size = x.least) = True := eq_true this.1
        have e11 : (l.size = x.most) = True := eq_true this.2
        (repeat' (first
    | exact trivial
    | with_reducible refine aw_seq ?_ | with_reducible refine aw_block ?_ | with_reducible refine aw_skip ?_ | with_reducible refine aw_ret ?_ | with_reducible refine aw_exit ?_ | with_reducible refine aseq_normal ?_ | with_reducible refine aseq_ret ?_ | with_reducible refine aseq_exit ?_ | with_reducible refine ablk_normal ?_ | with_reducible refine ablk_ret ?_ | with_reducible refine ablk_hit ?_ | with_reducible refine aw_region ?_ | with_reducible refine go_nil ?_ | with_reducible refine al_of ?_
    | with_reducible refine ablk_miss (by decide) ?_
    | ((with_reducible refine al_id ?_); refine go_run (tyOf_ok _) [] (by simp only [go_sem, Nat.reduceBEq, Nat.reduceBneDiff, Nat.reduceLT, Nat.reduceLeDiff, Nat.reduceAdd, Nat.reduceMul, Nat.reduceSub, Nat.reduceEqDiff, reduceCtorEq, hw1, hw2, e1, e3, g1, g2, g3, hEl, hLl, e8, hf, e9, e10, e11]; exact rfl) ?_ ?_)
    | (refine aw_draw (id := 29) (t := (.node [0, 1, 2, 3, 4, 5, 6, 7, 8, 9, 10, 11, 12, 13, 14, 15, 16, 17, 18, 19, 20, 21, 22, 23, 24, 25, 26, 27, 28, 29, 30, 31, 32, 33, 34, 35, 36, 37, 38, 39, 40, 41, 42, 43, 44, 45, 46, 47, 48, 49, 50, 51, 52, 53] [])) (drR [10] [158, 167, 175, 181, 186, 193, 198] []) mixed (by kernel_rfl) (by kernel_rfl) (fun _ _ h => h) ?_)
    | (refine at_done (by simp only [List.filterMap_cons, List.filterMap_nil, List.getElem?_toArray, List.getElem?_cons_zero, List.getElem?_cons_succ]; exact rfl) ?_) | (refine at_alt (by simp only [List.filterMap_cons, List.filterMap_nil, List.getElem?_toArray, List.getElem?_cons_zero, List.getElem?_cons_succ]; exact rfl) ?_) | refine qalt_normal ?_ | refine ats_cons ?_ ?_ | exact ats_nil
    | ((with_reducible refine ald_id ?_); refine go_runD (tyOf_ok _) [] (by simp only [go_sem, Nat.reduceBEq, Nat.reduceBneDiff, Nat.reduceLT, Nat.reduceLeDiff, Nat.reduceAdd, Nat.reduceMul, Nat.reduceSub, Nat.reduceEqDiff, reduceCtorEq, hw1, hw2, e1, e3, g1, g2, g3, hEl, hLl, e8, hf, e9, e10, e11]; exact rfl) ?_ ?_)
    | (refine aw_cond (by simp only [go_sem, Nat.reduceBEq, Nat.reduceBneDiff, Nat.reduceLT, Nat.reduceLeDiff, Nat.reduceAdd, Nat.reduceMul, Nat.reduceSub, Nat.reduceEqDiff, reduceCtorEq, hw1, hw2, e1, e3, g1, g2, g3, hEl, hLl, e8, hf, e9, e10, e11]; exact rfl) (by simp only [go_sem, Nat.reduceBEq, Nat.reduceBneDiff, Nat.reduceLT, Nat.reduceLeDiff, Nat.reduceAdd, Nat.reduceMul, Nat.reduceSub, Nat.reduceEqDiff, reduceCtorEq]) (fun h => ?_) (fun h => ?_) <;> (try simp only [decide_eq_true_eq, decide_eq_false_iff_not, Bool.not_eq_true', Bool.not_eq_false', Bool.or_eq_true, Bool.or_eq_false_iff, Bool.and_eq_true, Bool.and_eq_false_iff, Decidable.not_not, reduceCtorEq] at h) <;> (try (exfalso; omega)))
    | (refine aend_ret (by simp only [go_sem, Nat.reduceBEq, Nat.reduceBneDiff, Nat.reduceLT, Nat.reduceLeDiff, Nat.reduceAdd, Nat.reduceMul, Nat.reduceSub, Nat.reduceEqDiff, reduceCtorEq, hw1, hw2, e1, e3, g1, g2, g3, hEl, hLl, e8, hf, e9, e10, e11]; exact rfl) ?_ ?_)
    | (refine aend_normal (by simp only [go_sem, Nat.reduceBEq, Nat.reduceBneDiff, Nat.reduceLT, Nat.reduceLeDiff, Nat.reduceAdd, Nat.reduceMul, Nat.reduceSub, Nat.reduceEqDiff, reduceCtorEq, hw1, hw2, e1, e3, g1, g2, g3, hEl, hLl, e8, hf, e9, e10, e11]; exact rfl) ?_ ?_)
    | (refine aendG_ret (by simp only [go_sem, Nat.reduceBEq, Nat.reduceBneDiff, Nat.reduceLT, Nat.reduceLeDiff, Nat.reduceAdd, Nat.reduceMul, Nat.reduceSub, Nat.reduceEqDiff, reduceCtorEq, hw1, hw2, e1, e3, g1, g2, g3, hEl, hLl, e8, hf, e9, e10, e11]; exact rfl) ?_ ?_ ?_)
    | (refine aendG_normal (by simp only [go_sem, Nat.reduceBEq, Nat.reduceBneDiff, Nat.reduceLT, Nat.reduceLeDiff, Nat.reduceAdd, Nat.reduceMul, Nat.reduceSub, Nat.reduceEqDiff, reduceCtorEq, hw1, hw2, e1, e3, g1, g2, g3, hEl, hLl, e8, hf, e9, e10, e11]; exact rfl) ?_ ?_ ?_) | fail)) <;> (try omega)
        exact ⟨i + 1, by simp only [go_sem, Nat.reduceBEq, Nat.reduceBneDiff, Nat.reduceLT, Nat.reduceLeDiff, Nat.reduceAdd, Nat.reduceMul, Nat.reduceSub, Nat.reduceEqDiff, reduceCtorEq]; exact rfl, hlt, by omega⟩
      | false =>
        rw [hf] at g3
        have e9 : (at_ = l.size) = True := eq_true hs2
        (repeat' (first
    | exact trivial
    | with_reducible refine aw_seq ?_ | with_reducible refine aw_block ?_ | with_reducible refine aw_skip ?_ | with_reducible refine aw_ret ?_ | with_reducible refine aw_exit ?_ | with_reducible refine aseq_normal ?_ | with_reducible refine aseq_ret ?_ | with_reducible refine aseq_exit ?_ | with_reducible refine ablk_normal ?_ | with_reducible refine ablk_ret ?_ | with_reducible refine ablk_hit ?_ | with_reducible refine aw_region ?_ | with_reducible refine go_nil ?_ | with_reducible refine al_of ?_
    | with_reducible refine ablk_miss (by decide) ?_
    | ((with_reducible refine al_id ?_); refine go_run (tyOf_ok _) [] (by simp only [go_sem, Nat.reduceBEq, Nat.reduceBneDiff, Nat.reduceLT, Nat.reduceLeDiff, Nat.reduceAdd, Nat.reduceMul, Nat.reduceSub, Nat.reduceEqDiff, reduceCtorEq, hw1, hw2, e1, e3, g1, g2, g3, hEl, hLl, e8, hf, e9]; exact rfl) ?_ ?_)
    | (refine aw_draw (id := 29) (t := (.node [0, 1, 2, 3, 4, 5, 6, 7, 8, 9, 10, 11, 12, 13, 14, 15, 16, 17, 18, 19, 20, 21, 22, 23, 24, 25, 26, 27, 28, 29, 30, 31, 32, 33, 34, 35, 36, 37, 38, 39, 40, 41, 42, 43, 44, 45, 46, 47, 48, 49, 50, 51, 52, 53] [])) (drR [10] [158, 167, 175, 181, 186, 193, 198] []) mixed (by kernel_rfl) (by kernel_rfl) (fun _ _ h => h) ?_)
    | (refine at_done (by simp only [List.filterMap_cons, List.filterMap_nil, List.getElem?_toArray, List.getElem?_cons_zero, List.getElem?_cons_succ]; exact rfl) ?_) | (refine at_alt (by simp only [List.filterMap_cons, List.filterMap_nil, List.getElem?_toArray, List.getElem?_cons_zero, List.getElem?_cons_succ]; exact rfl) ?_) | refine qalt_normal ?_ | refine ats_cons ?_ ?_ | exact ats_nil
    | ((with_reducible refine ald_id ?_); refine go_runD (tyOf_ok _) [] (by simp only [go_sem, Nat.reduceBEq, Nat.reduceBneDiff, Nat.reduceLT, Nat.reduceLeDiff, Nat.reduceAdd, Nat.reduceMul, Nat.reduceSub, Nat.reduceEqDiff, reduceCtorEq, hw1, hw2, e1, e3, g1, g2, g3, hEl, hLl, e8, hf, e9]; exact rfl) ?_ ?_)
    | (refine aw_cond (by simp only [go_sem, Nat.reduceBEq, Nat.reduceBneDiff, Nat.reduceLT, Nat.reduceLeDiff, Nat.reduceAdd, Nat.reduceMul, Nat.reduceSub, Nat.reduceEqDiff, reduceCtorEq, hw1, hw2, e1, e3, g1, g2, g3, hEl, hLl, e8, hf, e9]; exact rfl) (by simp only [go_sem, Nat.reduceBEq, Nat.reduceBneDiff, Nat.reduceLT, Nat.reduceLeDiff, Nat.reduceAdd, Nat.reduceMul, Nat.reduceSub, Nat.reduceEqDiff, reduceCtorEq]) (fun h => ?_) (fun h => ?_) <;> (try simp only [decide_eq_true_eq, decide_eq_false_iff_not, Bool.not_eq_true', Bool.not_eq_false', Bool.or_eq_true, Bool.or_eq_false_iff, Bool.and_eq_true, Bool.and_eq_false_iff, Decidable.not_not, reduceCtorEq] at h) <;> (try (exfalso; omega)))
    | (refine aend_ret (by simp only [go_sem, Nat.reduceBEq, Nat.reduceBneDiff, Nat.reduceLT, Nat.reduceLeDiff, Nat.reduceAdd, Nat.reduceMul, Nat.reduceSub, Nat.reduceEqDiff, reduceCtorEq, hw1, hw2, e1, e3, g1, g2, g3, hEl, hLl, e8, hf, e9]; exact rfl) ?_ ?_)
    | (refine aend_normal (by simp only [go_sem, Nat.reduceBEq, Nat.reduceBneDiff, Nat.reduceLT, Nat.reduceLeDiff, Nat.reduceAdd, Nat.reduceMul, Nat.reduceSub, Nat.reduceEqDiff, reduceCtorEq, hw1, hw2, e1, e3, g1, g2, g3, hEl, hLl, e8, hf, e9]; exact rfl) ?_ ?_)
    | (refine aendG_ret (by simp only [go_sem, Nat.reduceBEq, Nat.reduceBneDiff, Nat.reduceLT, Nat.reduceLeDiff, Nat.reduceAdd, Nat.reduceMul, Nat.reduceSub, Nat.reduceEqDiff, reduceCtorEq, hw1, hw2, e1, e3, g1, g2, g3, hEl, hLl, e8, hf, e9]; exact rfl) ?_ ?_ ?_)
    | (refine aendG_normal (by simp only [go_sem, Nat.reduceBEq, Nat.reduceBneDiff, Nat.reduceLT, Nat.reduceLeDiff, Nat.reduceAdd, Nat.reduceMul, Nat.reduceSub, Nat.reduceEqDiff, reduceCtorEq, hw1, hw2, e1, e3, g1, g2, g3, hEl, hLl, e8, hf, e9]; exact rfl) ?_ ?_ ?_) | fail)) <;> (try omega)
        exact ⟨i + 1, by simp only [go_sem, Nat.reduceBEq, Nat.reduceBneDiff, Nat.reduceLT, Nat.reduceLeDiff, Nat.reduceAdd, Nat.reduceMul, Nat.reduceSub, Nat.reduceEqDiff, reduceCtorEq]; exact rfl, hlt, by omega⟩
    · have e8 : (ts[i].kind = 8) = False := eq_false h8
      cases hf : x.fixed with
      | true =>
        rw [hf] at hfix g3
        have := hfix rfl
        have e10 : (l.size = x.least) = True := eq_true this.1
        have e11 : (l.size = x.most) = True := eq_true this.2
        (repeat' (first
    | exact trivial
    | with_reducible refine aw_seq ?_ | with_reducible refine aw_block ?_ | with_reducible refine aw_skip ?_ | with_reducible refine aw_ret ?_ | with_reducible refine aw_exit ?_ | with_reducible refine aseq_normal ?_ | with_reducible refine aseq_ret ?_ | with_reducible refine aseq_exit ?_ | with_reducible refine ablk_normal ?_ | with_reducible refine ablk_ret ?_ | with_reducible refine ablk_hit ?_ | with_reducible refine aw_region ?_ | with_reducible refine go_nil ?_ | with_reducible refine al_of ?_
    | with_reducible refine ablk_miss (by decide) ?_
    | ((with_reducible refine al_id ?_); refine go_run (tyOf_ok _) [] (by simp only [go_sem, Nat.reduceBEq, Nat.reduceBneDiff, Nat.reduceLT, Nat.reduceLeDiff, Nat.reduceAdd, Nat.reduceMul, Nat.reduceSub, Nat.reduceEqDiff, reduceCtorEq, hw1, hw2, e1, e3, g1, g2, g3, hEl, hLl, e8, hf, e10, e11]; exact rfl) ?_ ?_)
    | (refine aw_draw (id := 29) (t := (.node [0, 1, 2, 3, 4, 5, 6, 7, 8, 9, 10, 11, 12, 13, 14, 15, 16, 17, 18, 19, 20, 21, 22, 23, 24, 25, 26, 27, 28, 29, 30, 31, 32, 33, 34, 35, 36, 37, 38, 39, 40, 41, 42, 43, 44, 45, 46, 47, 48, 49, 50, 51, 52, 53] [])) (drR [10] [158, 167, 175, 181, 186, 193, 198] []) mixed (by kernel_rfl) (by kernel_rfl) (fun _ _ h => h) ?_)
    | (refine at_done (by simp only [List.filterMap_cons, List.filterMap_nil, List.getElem?_toArray, List.getElem?_cons_zero, List.getElem?_cons_succ]; exact rfl) ?_) | (refine at_alt (by simp only [List.filterMap_cons, List.filterMap_nil, List.getElem?_toArray, List.getElem?_cons_zero, List.getElem?_cons_succ]; exact rfl) ?_) | refine qalt_normal ?_ | refine ats_cons ?_ ?_ | exact ats_nil
    | ((with_reducible refine ald_id ?_); refine go_runD (tyOf_ok _) [] (by simp only [go_sem, Nat.reduceBEq, Nat.reduceBneDiff, Nat.reduceLT, Nat.reduceLeDiff, Nat.reduceAdd, Nat.reduceMul, Nat.reduceSub, Nat.reduceEqDiff, reduceCtorEq, hw1, hw2, e1, e3, g1, g2, g3, hEl, hLl, e8, hf, e10, e11]; exact rfl) ?_ ?_)
    | (refine aw_cond (by simp only [go_sem, Nat.reduceBEq, Nat.reduceBneDiff, Nat.reduceLT, Nat.reduceLeDiff, Nat.reduceAdd, Nat.reduceMul, Nat.reduceSub, Nat.reduceEqDiff, reduceCtorEq, hw1, hw2, e1, e3, g1, g2, g3, hEl, hLl, e8, hf, e10, e11]; exact rfl) (by simp only [go_sem, Nat.reduceBEq, Nat.reduceBneDiff, Nat.reduceLT, Nat.reduceLeDiff, Nat.reduceAdd, Nat.reduceMul, Nat.reduceSub, Nat.reduceEqDiff, reduceCtorEq]) (fun h => ?_) (fun h => ?_) <;> (try simp only [decide_eq_true_eq, decide_eq_false_iff_not, Bool.not_eq_true', Bool.not_eq_false', Bool.or_eq_true, Bool.or_eq_false_iff, Bool.and_eq_true, Bool.and_eq_false_iff, Decidable.not_not, reduceCtorEq] at h) <;> (try (exfalso; omega)))
    | (refine aend_ret (by simp only [go_sem, Nat.reduceBEq, Nat.reduceBneDiff, Nat.reduceLT, Nat.reduceLeDiff, Nat.reduceAdd, Nat.reduceMul, Nat.reduceSub, Nat.reduceEqDiff, reduceCtorEq, hw1, hw2, e1, e3, g1, g2, g3, hEl, hLl, e8, hf, e10, e11]; exact rfl) ?_ ?_)
    | (refine aend_normal (by simp only [go_sem, Nat.reduceBEq, Nat.reduceBneDiff, Nat.reduceLT, Nat.reduceLeDiff, Nat.reduceAdd, Nat.reduceMul, Nat.reduceSub, Nat.reduceEqDiff, reduceCtorEq, hw1, hw2, e1, e3, g1, g2, g3, hEl, hLl, e8, hf, e10, e11]; exact rfl) ?_ ?_)
    | (refine aendG_ret (by simp only [go_sem, Nat.reduceBEq, Nat.reduceBneDiff, Nat.reduceLT, Nat.reduceLeDiff, Nat.reduceAdd, Nat.reduceMul, Nat.reduceSub, Nat.reduceEqDiff, reduceCtorEq, hw1, hw2, e1, e3, g1, g2, g3, hEl, hLl, e8, hf, e10, e11]; exact rfl) ?_ ?_ ?_)
    | (refine aendG_normal (by simp only [go_sem, Nat.reduceBEq, Nat.reduceBneDiff, Nat.reduceLT, Nat.reduceLeDiff, Nat.reduceAdd, Nat.reduceMul, Nat.reduceSub, Nat.reduceEqDiff, reduceCtorEq, hw1, hw2, e1, e3, g1, g2, g3, hEl, hLl, e8, hf, e10, e11]; exact rfl) ?_ ?_ ?_) | fail)) <;> (try omega)
        exact ⟨i + 1, by simp only [go_sem, Nat.reduceBEq, Nat.reduceBneDiff, Nat.reduceLT, Nat.reduceLeDiff, Nat.reduceAdd, Nat.reduceMul, Nat.reduceSub, Nat.reduceEqDiff, reduceCtorEq]; exact rfl, hlt, by omega⟩
      | false =>
        rw [hf] at g3
        (repeat' (first
    | exact trivial
    | with_reducible refine aw_seq ?_ | with_reducible refine aw_block ?_ | with_reducible refine aw_skip ?_ | with_reducible refine aw_ret ?_ | with_reducible refine aw_exit ?_ | with_reducible refine aseq_normal ?_ | with_reducible refine aseq_ret ?_ | with_reducible refine aseq_exit ?_ | with_reducible refine ablk_normal ?_ | with_reducible refine ablk_ret ?_ | with_reducible refine ablk_hit ?_ | with_reducible refine aw_region ?_ | with_reducible refine go_nil ?_ | with_reducible refine al_of ?_
    | with_reducible refine ablk_miss (by decide) ?_
    | ((with_reducible refine al_id ?_); refine go_run (tyOf_ok _) [] (by simp only [go_sem, Nat.reduceBEq, Nat.reduceBneDiff, Nat.reduceLT, Nat.reduceLeDiff, Nat.reduceAdd, Nat.reduceMul, Nat.reduceSub, Nat.reduceEqDiff, reduceCtorEq, hw1, hw2, e1, e3, g1, g2, g3, hEl, hLl, e8, hf]; exact rfl) ?_ ?_)
    | (refine aw_draw (id := 29) (t := (.node [0, 1, 2, 3, 4, 5, 6, 7, 8, 9, 10, 11, 12, 13, 14, 15, 16, 17, 18, 19, 20, 21, 22, 23, 24, 25, 26, 27, 28, 29, 30, 31, 32, 33, 34, 35, 36, 37, 38, 39, 40, 41, 42, 43, 44, 45, 46, 47, 48, 49, 50, 51, 52, 53] [])) (drR [10] [158, 167, 175, 181, 186, 193, 198] []) mixed (by kernel_rfl) (by kernel_rfl) (fun _ _ h => h) ?_)
    | (refine at_done (by simp only [List.filterMap_cons, List.filterMap_nil, List.getElem?_toArray, List.getElem?_cons_zero, List.getElem?_cons_succ]; exact rfl) ?_) | (refine at_alt (by simp only [List.filterMap_cons, List.filterMap_nil, List.getElem?_toArray, List.getElem?_cons_zero, List.getElem?_cons_succ]; exact rfl) ?_) | refine qalt_normal ?_ | refine ats_cons ?_ ?_ | exact ats_nil
    | ((with_reducible refine ald_id ?_); refine go_runD (tyOf_ok _) [] (by simp only [go_sem, Nat.reduceBEq, Nat.reduceBneDiff, Nat.reduceLT, Nat.reduceLeDiff, Nat.reduceAdd, Nat.reduceMul, Nat.reduceSub, Nat.reduceEqDiff, reduceCtorEq, hw1, hw2, e1, e3, g1, g2, g3, hEl, hLl, e8, hf]; exact rfl) ?_ ?_)
    | (refine aw_cond (by simp only [go_sem, Nat.reduceBEq, Nat.reduceBneDiff, Nat.reduceLT, Nat.reduceLeDiff, Nat.reduceAdd, Nat.reduceMul, Nat.reduceSub, Nat.reduceEqDiff, reduceCtorEq, hw1, hw2, e1, e3, g1, g2, g3, hEl, hLl, e8, hf]; exact rfl) (by simp only [go_sem, Nat.reduceBEq, Nat.reduceBneDiff, Nat.reduceLT, Nat.reduceLeDiff, Nat.reduceAdd, Nat.reduceMul, Nat.reduceSub, Nat.reduceEqDiff, reduceCtorEq]) (fun h => ?_) (fun h => ?_) <;> (try simp only [decide_eq_true_eq, decide_eq_false_iff_not, Bool.not_eq_true', Bool.not_eq_false', Bool.or_eq_true, Bool.or_eq_false_iff, Bool.and_eq_true, Bool.and_eq_false_iff, Decidable.not_not, reduceCtorEq] at h) <;> (try (exfalso; omega)))
    | (refine aend_ret (by simp only [go_sem, Nat.reduceBEq, Nat.reduceBneDiff, Nat.reduceLT, Nat.reduceLeDiff, Nat.reduceAdd, Nat.reduceMul, Nat.reduceSub, Nat.reduceEqDiff, reduceCtorEq, hw1, hw2, e1, e3, g1, g2, g3, hEl, hLl, e8, hf]; exact rfl) ?_ ?_)
    | (refine aend_normal (by simp only [go_sem, Nat.reduceBEq, Nat.reduceBneDiff, Nat.reduceLT, Nat.reduceLeDiff, Nat.reduceAdd, Nat.reduceMul, Nat.reduceSub, Nat.reduceEqDiff, reduceCtorEq, hw1, hw2, e1, e3, g1, g2, g3, hEl, hLl, e8, hf]; exact rfl) ?_ ?_)
    | (refine aendG_ret (by simp only [go_sem, Nat.reduceBEq, Nat.reduceBneDiff, Nat.reduceLT, Nat.reduceLeDiff, Nat.reduceAdd, Nat.reduceMul, Nat.reduceSub, Nat.reduceEqDiff, reduceCtorEq, hw1, hw2, e1, e3, g1, g2, g3, hEl, hLl, e8, hf]; exact rfl) ?_ ?_ ?_)
    | (refine aendG_normal (by simp only [go_sem, Nat.reduceBEq, Nat.reduceBneDiff, Nat.reduceLT, Nat.reduceLeDiff, Nat.reduceAdd, Nat.reduceMul, Nat.reduceSub, Nat.reduceEqDiff, reduceCtorEq, hw1, hw2, e1, e3, g1, g2, g3, hEl, hLl, e8, hf]; exact rfl) ?_ ?_ ?_) | fail)) <;> (try omega)
        exact ⟨i + 1, by simp only [go_sem, Nat.reduceBEq, Nat.reduceBneDiff, Nat.reduceLT, Nat.reduceLeDiff, Nat.reduceAdd, Nat.reduceMul, Nat.reduceSub, Nat.reduceEqDiff, reduceCtorEq]; exact rfl, hlt, by omega⟩
  have e3 : ((k : Int) < l.slots.length) = True := eq_true (by omega)
  have g4 := encSs_get hlt2
  have hsz1 := hO.size _ (List.getElem_mem hlt2)
  have hat2 := hO.at_ hk k hlt2
  rw [← hat] at hat2
  have hss := ssum_succ hlt2
  rw [← hat] at hss
  have hvs : (l.slots.take (k + 1)).any (·.var) = (va || l.slots[k].var) := by rw [List.take_succ_eq_append_getElem hlt2, List.any_append, ← hva]; simp
  generalize l.slots[k] = p at g4 hsz1 hat2 hss hvs
  have hab : 0 ≤ at_ ∧ at_ ≤ 4611686018427387904 := by rw [hat]; exact ssum_bd _
  have hpl := plusL2 hab ⟨by omega, hsz1.2.2⟩
  have hw3 := wrap_i64 (n := 4611686018427387904 - p.size) (by omega)
  have hw4 := fun h : ¬ 4611686018427387904 - p.size < at_ => wrap_i64 (n := at_ + p.size) (by omega)
  have e4 : (p.at_ = at_) = True := eq_true hat2
  (repeat' (first
    | exact trivial
    | with_reducible refine aw_seq ?_ | with_reducible refine aw_block ?_ | with_reducible refine aw_skip ?_ | with_reducible refine aw_ret ?_ | with_reducible refine aw_exit ?_ | with_reducible refine aseq_normal ?_ | with_reducible refine aseq_ret ?_ | with_reducible refine aseq_exit ?_ | with_reducible refine ablk_normal ?_ | with_reducible refine ablk_ret ?_ | with_reducible refine ablk_hit ?_ | with_reducible refine aw_region ?_ | with_reducible refine go_nil ?_ | with_reducible refine al_of ?_
    | with_reducible refine ablk_miss (by decide) ?_
    | ((with_reducible refine al_id ?_); refine go_run (tyOf_ok _) [] (by simp only [go_sem, Nat.reduceBEq, Nat.reduceBneDiff, Nat.reduceLT, Nat.reduceLeDiff, Nat.reduceAdd, Nat.reduceMul, Nat.reduceSub, Nat.reduceEqDiff, reduceCtorEq, hw1, hw2, hw3, e1, e3, g1, g2, g3, g4, hEl, hLl, e4]; exact rfl) ?_ ?_)
    | (refine aw_draw (id := 29) (t := (.node [0, 1, 2, 3, 4, 5, 6, 7, 8, 9, 10, 11, 12, 13, 14, 15, 16, 17, 18, 19, 20, 21, 22, 23, 24, 25, 26, 27, 28, 29, 30, 31, 32, 33, 34, 35, 36, 37, 38, 39, 40, 41, 42, 43, 44, 45, 46, 47, 48, 49, 50, 51, 52, 53] [])) (drR [10] [158, 167, 175, 181, 186, 193, 198] []) mixed (by kernel_rfl) (by kernel_rfl) (fun _ _ h => h) ?_)
    | (refine at_done (by simp only [List.filterMap_cons, List.filterMap_nil, List.getElem?_toArray, List.getElem?_cons_zero, List.getElem?_cons_succ]; exact rfl) ?_) | (refine at_alt (by simp only [List.filterMap_cons, List.filterMap_nil, List.getElem?_toArray, List.getElem?_cons_zero, List.getElem?_cons_succ]; exact rfl) ?_) | refine qalt_normal ?_ | refine ats_cons ?_ ?_ | exact ats_nil
    | ((with_reducible refine ald_id ?_); refine go_runD (tyOf_ok _) [] (by simp only [go_sem, Nat.reduceBEq, Nat.reduceBneDiff, Nat.reduceLT, Nat.reduceLeDiff, Nat.reduceAdd, Nat.reduceMul, Nat.reduceSub, Nat.reduceEqDiff, reduceCtorEq, hw1, hw2, hw3, e1, e3, g1, g2, g3, g4, hEl, hLl, e4]; exact rfl) ?_ ?_)
    | (refine aw_cond (by simp only [go_sem, Nat.reduceBEq, Nat.reduceBneDiff, Nat.reduceLT, Nat.reduceLeDiff, Nat.reduceAdd, Nat.reduceMul, Nat.reduceSub, Nat.reduceEqDiff, reduceCtorEq, hw1, hw2, hw3, e1, e3, g1, g2, g3, g4, hEl, hLl, e4]; exact rfl) (by simp only [go_sem, Nat.reduceBEq, Nat.reduceBneDiff, Nat.reduceLT, Nat.reduceLeDiff, Nat.reduceAdd, Nat.reduceMul, Nat.reduceSub, Nat.reduceEqDiff, reduceCtorEq]) (fun h => ?_) (fun h => ?_) <;> (try simp only [decide_eq_true_eq, decide_eq_false_iff_not, Bool.not_eq_true', Bool.not_eq_false', Bool.or_eq_true, Bool.or_eq_false_iff, Bool.and_eq_true, Bool.and_eq_false_iff, Decidable.not_not, reduceCtorEq] at h) <;> (try (exfalso; omega)))
    | (refine aend_ret (by simp only [go_sem, Nat.reduceBEq, Nat.reduceBneDiff, Nat.reduceLT, Nat.reduceLeDiff, Nat.reduceAdd, Nat.reduceMul, Nat.reduceSub, Nat.reduceEqDiff, reduceCtorEq, hw1, hw2, hw3, e1, e3, g1, g2, g3, g4, hEl, hLl, e4]; exact rfl) ?_ ?_)
    | (refine aend_normal (by simp only [go_sem, Nat.reduceBEq, Nat.reduceBneDiff, Nat.reduceLT, Nat.reduceLeDiff, Nat.reduceAdd, Nat.reduceMul, Nat.reduceSub, Nat.reduceEqDiff, reduceCtorEq, hw1, hw2, hw3, e1, e3, g1, g2, g3, g4, hEl, hLl, e4]; exact rfl) ?_ ?_)
    | (refine aendG_ret (by simp only [go_sem, Nat.reduceBEq, Nat.reduceBneDiff, Nat.reduceLT, Nat.reduceLeDiff, Nat.reduceAdd, Nat.reduceMul, Nat.reduceSub, Nat.reduceEqDiff, reduceCtorEq, hw1, hw2, hw3, e1, e3, g1, g2, g3, g4, hEl, hLl, e4]; exact rfl) ?_ ?_ ?_)
    | (refine aendG_normal (by simp only [go_sem, Nat.reduceBEq, Nat.reduceBneDiff, Nat.reduceLT, Nat.reduceLeDiff, Nat.reduceAdd, Nat.reduceMul, Nat.reduceSub, Nat.reduceEqDiff, reduceCtorEq, hw1, hw2, hw3, e1, e3, g1, g2, g3, g4, hEl, hLl, e4]; exact rfl) ?_ ?_ ?_) | fail)) <;> (try omega)
  · exfalso
    rcases h with h | h
    · exact h.2 (hsz1.1 h.1)
    · omega
  · refine ⟨(k + 1, 4611686018427387904, va || p.var), by simp only [go_sem, Nat.reduceBEq, Nat.reduceBneDiff, Nat.reduceLT, Nat.reduceLeDiff, Nat.reduceAdd, Nat.reduceMul, Nat.reduceSub, Nat.reduceEqDiff, reduceCtorEq]; exact rfl, ⟨hlt2, ?_, hvs.symm⟩, by simp only; omega⟩
    simp only [hss, hpl]; omega
  · refine ⟨(k + 1, at_ + p.size, va || p.var), by simp only [go_sem, Nat.reduceBEq, Nat.reduceBneDiff, Nat.reduceLT, Nat.reduceLeDiff, Nat.reduceAdd, Nat.reduceMul, Nat.reduceSub, Nat.reduceEqDiff, reduceCtorEq, hw4 h]; exact rfl, ⟨hlt2, ?_, hvs.symm⟩, by simp only; omega⟩
    simp only [hss, hpl]; omega
end Go.Proofs.Ytfgacgpicfknpaa
end
section
namespace Go.Proofs.Ytfgacgpicfknpaa
open Go.RowKit
theorem exts_take {ts : List TypeM} : ∀ (m k : Nat), k ≤ m → m ≤ ts.length → exts (ts.take k) = (exts (ts.take m)).take k := by
  intro m
  induction m with
  | zero =>
    intro k hk _
    have : k = 0 := by omega
    subst this; rfl
  | succ m ih =>
    intro k hk hm
    rw [exts_succ (by omega)]
    have hl := exts_len ts m (by omega)
    rcases Nat.lt_or_ge k (m + 1) with h | h
    · rw [List.take_append_of_le_length (by omega)]; exact ih k (by omega) (by omega)
    · have : k = m + 1 := by omega
      subst this
      rw [exts_succ (show m < ts.length by omega)]
      exact (List.take_of_length_le (by rw [List.length_append, hl]; exact Nat.le_refl _)).symm
theorem exts_get {ts : List TypeM} {k : Nat} (h : k < ts.length) : (exts ts)[k]? = some (extM ts[k] (exts (ts.take k))) := by
  have h1 := exts_take (ts := ts) ts.length (k + 1) (by omega) (Nat.le_refl _)
  rw [take_len (Nat.le_refl _)] at h1
  have h2 : ((exts ts).take (k + 1))[k]? = (exts ts)[k]? := List.getElem?_take_of_lt (by omega)
  rw [← h2, ← h1, exts_succ h, List.getElem?_append_right (by rw [exts_len ts k (by omega)]; exact Nat.le_refl _), exts_len ts k (by omega), Nat.sub_self]; rfl
theorem atE_take {ts : List TypeM} {k : Nat} (hk : k ≤ ts.length) {i : Int} (h0 : 0 ≤ i) (h : i < k) : atE (exts (ts.take k)) i = atE (exts ts) i := by
  have h1 := exts_take (ts := ts) ts.length k hk (Nat.le_refl _)
  rw [take_len (Nat.le_refl _)] at h1
  rw [atE, atE, h1, List.getElem?_take_of_lt (by omega)]
/-- of fixed types -/
def FixP (e : ExtM) : Prop := e.fixed = true → e.least = e.most ∧ 1 ≤ e.most
theorem timesS_pos {a b : Int} (ha : 1 ≤ a) (hb : 1 ≤ b) : 1 ≤ timesS a b := by
  have h1 : 1 ≤ sz a := by unfold sz; omega
  have h2 : 1 ≤ sz b := by unfold sz; omega
  have := Int.mul_le_mul h1 h2 (by omega) (by omega)
  unfold timesS; omega
def strS (L : List ExtM) (x : ExtM) (p : PartM) : ExtM := ⟨x.fixed && (atE L p.ty).fixed, plusL [x.least, withinM (atE L p.ty).fixed (atE L p.ty).least], plusL [x.most, withinM (atE L p.ty).fixed (atE L p.ty).most], max x.depth (1 + (atE L p.ty).depth)⟩
theorem str_fold (L : List ExtM) (l : List PartM) (x : ExtM) : str L l x = l.foldl (strS L) x := rfl
/-- a struct's layout and its extent, part by part -/
structure LI (n : Nat) (l : LayM) (x : ExtM) : Prop where
  len : l.slots.length = n
  at_ : ∀ (k : Nat) (h : k < l.slots.length), l.slots[k].at_ = ssum (l.slots.take k)
  size : ∀ s ∈ l.slots, (s.var = true → s.size = 4) ∧ 1 ≤ s.size ∧ s.size ≤ 4611686018427387904
  sum : ssum l.slots = l.size
  any : (l.slots.any (·.var)) = !x.fixed
  fixed : x.fixed = true → l.size = x.least ∧ l.size = x.most ∧ (1 ≤ n → 1 ≤ l.size)
theorem slot_ok {e : ExtM} {a : Int} (h1 : extOK e) (h2 : FixP e) : ((slotOf e a).var = true → (slotOf e a).size = 4) ∧ 1 ≤ (slotOf e a).size ∧ (slotOf e a).size ≤ 4611686018427387904 := by
  obtain ⟨g1, g2, g3⟩ := h1
  unfold slotOf
  dsimp only
  cases hf : e.fixed with
  | true => have := h2 hf; simp; omega
  | false => simp
theorem LI.step {n : Nat} {l : LayM} {x : ExtM} (h : LI n l x) (L : List ExtM) (p : PartM) (h1 : extOK (atE L p.ty)) (h2 : FixP (atE L p.ty)) : LI (n + 1) (layAdd L l p) (strS L x p) := by
  unfold layAdd strS
  generalize atE L p.ty = e at h1 h2
  have hs := slot_ok (a := l.size) h1 h2
  have hb := ssum_bd l.slots
  rw [h.sum] at hb
  refine ⟨by simp [h.len], fun k hk => ?_, fun s hs' => ?_, ?_, ?_, fun hf => ?_⟩
  · simp only [List.length_append, List.length_singleton] at hk
    rcases Nat.lt_or_ge k l.slots.length with hlt | hge
    · dsimp only
      rw [List.getElem_append_left hlt, h.at_ k hlt, List.take_append_of_le_length (by omega)]
    · have hk' : k = l.slots.length := by omega
      subst hk'
      dsimp only
      rw [List.getElem_append_right (Nat.le_refl _), List.take_left, h.sum]
      simp [slotOf]
  · rcases List.mem_append.1 hs' with h' | h'
    · exact h.size s h'
    · rw [List.mem_singleton] at h'; subst h'; exact hs
  · dsimp only
    rw [ssum, List.foldl_append]
    show plusL [ssum l.slots, _] = _
    rw [h.sum]
  · dsimp only
    rw [List.any_append, h.any]
    simp [slotOf]
  · simp only [Bool.and_eq_true] at hf
    obtain ⟨f1, f2, f3⟩ := h.fixed hf.1
    obtain ⟨k1, k2⟩ := h2 hf.2
    obtain ⟨g1, g2, g3⟩ := h1
    have e1 : (slotOf e l.size).size = e.most := by simp [slotOf, hf.2]
    have e2 : withinM e.fixed e.least = e.most := by rw [withinM, if_pos hf.2, k1]
    have e3 : withinM e.fixed e.most = e.most := by rw [withinM, if_pos hf.2]
    dsimp only
    rw [e1, e2, e3, ← f1, ← f2, plusL2 hb g2]
    exact ⟨rfl, rfl, fun _ => by omega⟩
theorem LI.fold (L : List ExtM) (hL : ∀ i, extOK (atE L i) ∧ FixP (atE L i)) : ∀ (ps : List PartM) {n : Nat} {l : LayM} {x : ExtM}, LI n l x → LI (n + ps.length) (ps.foldl (layAdd L) l) (ps.foldl (strS L) x)
  | [], _, _, _, h => h
  | p :: ps, n, l, x, h => by
    have := LI.fold L hL ps (h.step L p (hL p.ty).1 (hL p.ty).2)
    rw [List.length_cons, show n + (ps.length + 1) = n + 1 + ps.length by omega]
    exact this
theorem LI.nil : LI 0 ⟨0, []⟩ ⟨true, 0, 0, 1⟩ := ⟨rfl, fun k h => by simp at h, fun s h => by simp at h, rfl, rfl, fun _ => ⟨rfl, rfl, fun h => by omega⟩⟩
theorem atE_P {Q : ExtM → Prop} {L : List ExtM} (h0 : Q ⟨false, 0, 0, 0⟩) (hL : ∀ e ∈ L, Q e) (i : Int) : Q (atE L i) := by
  unfold atE
  cases h : L[i.toNat]? with
  | none => exact h0
  | some e => exact hL e (List.mem_of_getElem? h)
theorem ext0_ok : extOK ⟨false, 0, 0, 0⟩ ∧ FixP ⟨false, 0, 0, 0⟩ := ⟨⟨by decide, by decide, by decide, by decide⟩, fun h => by cases h⟩
theorem rightOK_parts {t : TypeM} {k : Int} (h : rightOK t k = true) (hk : t.kind = 7 ∨ t.kind = 8) : 1 ≤ t.parts.length ∧ t.parts.length ≤ 64 := by
  rw [rightOK, Bool.and_eq_true] at h
  have h2 := h.2
  rw [if_neg (by omega), if_neg (by omega), if_pos (by omega)] at h2
  simp only [Bool.and_eq_true, partsOK, decide_eq_true_eq] at h2
  omega
theorem extM_fix {t : TypeM} {L : List ExtM} {k : Int} (hr : rightOK t k = true) (hL : ∀ e ∈ L, extOK e ∧ FixP e) : FixP (extM t L) := by
  have hA := atE_P ext0_ok hL
  intro hf
  unfold extM at hf ⊢
  split at hf
  · rename_i hk
    rw [if_pos hk]
    rw [rightOK, Bool.and_eq_true, numberOK, if_pos hk] at hr
    have := hr.1
    simp only [Bool.or_eq_true, decide_eq_true_eq] at this
    exact ⟨rfl, by simp only; omega⟩
  · rename_i k1
    rw [if_neg k1]
    split at hf
    · rename_i hk; rw [if_pos hk]; exact ⟨rfl, by decide⟩
    · rename_i k2
      rw [if_neg k2]
      split at hf
      · cases hf
      · rename_i k3
        rw [if_neg k3]
        split at hf
        · rename_i k4
          rw [if_pos k4]
          have hn : 1 ≤ t.n := by
            rw [rightOK, Bool.and_eq_true, numberOK, if_neg k1, if_pos (by omega)] at hr
            have := hr.1
            simp only [Bool.and_eq_true, decide_eq_true_eq] at this
            omega
          dsimp only at hf ⊢
          obtain ⟨g1, g2⟩ := (hA t.elem).2 hf
          rw [withinM, if_pos hf, withinM, if_pos hf, g1]
          exact ⟨rfl, timesS_pos hn g2⟩
        · rename_i k4
          rw [if_neg k4]
          split at hf
          · cases hf
          · rename_i k5
            rw [if_neg k5]
            split at hf
            · cases hf
            · rename_i k6
              rw [if_neg k6]
              split at hf
              · cases hf
              · rename_i k7
                rw [if_neg k7]
                rcases rightOK_kind hr with h | h | h
                · omega
                · omega
                · have hp := rightOK_parts hr h
                  have hli := LI.fold L hA t.parts LI.nil
                  rw [str_fold] at hf ⊢
                  obtain ⟨f1, f2, f3⟩ := hli.fixed hf
                  have := f3 (by omega)
                  exact ⟨by omega, by omega⟩
theorem exts_fix {ts : List TypeM} {rs : List RootM} (h : (checkF ts rs).1 = 0) (hts : ts.length ≤ 1000000000) : ∀ k, k ≤ ts.length → ∀ e ∈ exts (ts.take k), extOK e ∧ FixP e := by
  intro k
  induction k with
  | zero => intro _ e he; cases he
  | succ k ih =>
    intro hk e he
    have hlt : k < ts.length := by omega
    refine ⟨(exts_ok h hts (k + 1) hk e he).1, ?_⟩
    rw [exts_succ hlt] at he
    rcases List.mem_append.1 he with he | he
    · exact (ih (by omega) e he).2
    · rw [List.mem_singleton] at he
      subst he
      exact extM_fix (check_right h k hlt) (ih (by omega))
theorem foldl_congr {α β : Type} {f g : β → α → β} : ∀ (l : List α) (x : β), (∀ a ∈ l, ∀ b, f b a = g b a) → l.foldl f x = l.foldl g x
  | [], _, _ => rfl
  | a :: l, x, h => by
    rw [List.foldl_cons, List.foldl_cons, h a (.head _)]
    exact foldl_congr l _ fun b hb => h b (.tail _ hb)
theorem lay_ok {ts : List TypeM} {rs : List RootM} (h : (checkF ts rs).1 = 0) (hts : ts.length ≤ 1000000000) (i : Nat) (hi : i < ts.length) : LayOK ts[i].kind (layM ts[i] (exts ts)) ((exts ts).getD i ⟨false, 0, 0, 0⟩) := by
  have hall := exts_fix h hts ts.length (Nat.le_refl _)
  rw [take_len (Nat.le_refl _)] at hall
  have hA := atE_P ext0_ok hall
  have hr := check_right h i hi
  have hty := rightOK_ty hr
  rw [List.getD_eq_getElem?_getD, exts_get hi, Option.getD_some]
  generalize ts[i] = t at hr hty
  have hel : (t.kind = 4 ∨ t.kind = 5 ∨ t.kind = 6) → atE (exts (ts.take i)) t.elem = atE (exts ts) t.elem := fun hk => by
    have := hty.1 hk
    exact atE_take (by omega) this.1 this.2
  by_cases k8 : t.kind = 8
  · have hli := LI.fold (exts ts) hA t.parts LI.nil
    have hE : extM t (exts (ts.take i)) = t.parts.foldl (strS (exts ts)) ⟨true, 0, 0, 1⟩ := by
      rw [extM, if_neg (by omega), if_neg (by omega), if_neg (by omega), if_neg (by omega), if_neg (by omega), if_neg (by omega), if_neg (by omega), str_fold]
      refine foldl_congr _ _ fun p hp b => ?_
      have := hty.2 p hp
      unfold strS
      rw [atE_take (by omega) this.1 this.2]
    have hp := rightOK_parts hr (.inr k8)
    rw [hE, layM, if_pos k8]
    exact ⟨by have := hli.len; omega, fun hn => absurd (.inl k8) hn, fun _ => hli.at_, hli.size, fun _ => hli.sum, fun _ => hli.any, fun _ hf => ⟨(hli.fixed hf).1, (hli.fixed hf).2.1⟩⟩
  · by_cases k4 : t.kind = 4
    · rw [layM, if_neg k8, if_pos k4]
      have he := hel (.inl k4)
      have hE : extM t (exts (ts.take i)) = ⟨(atE (exts ts) t.elem).fixed, timesS t.n (withinM (atE (exts ts) t.elem).fixed (atE (exts ts) t.elem).least), timesS t.n (withinM (atE (exts ts) t.elem).fixed (atE (exts ts) t.elem).most), 1 + (atE (exts ts) t.elem).depth⟩ := by
        rw [extM, if_neg (by omega), if_neg (by omega), if_neg (by omega), if_pos k4, he]
      rw [hE]
      have hs := slot_ok (a := 0) (hA t.elem).1 (hA t.elem).2
      have hfx := (hA t.elem).2
      generalize atE (exts ts) t.elem = e at hs hfx
      refine ⟨by show 1 ≤ 1000000000; decide, fun hn => absurd (.inr k4) hn, fun _ k hk => ?_, fun s hs' => ?_, fun h8 => absurd h8 k8, fun _ => ?_, fun _ hf => ?_⟩
      · have : k = 0 := by simpa using hk
        subst this; rfl
      · rw [List.mem_singleton] at hs'; subst hs'; exact hs
      · simp [slotOf]
      · dsimp only at hf ⊢
        have g := hfx hf
        rw [withinM, if_pos hf, withinM, if_pos hf, g.1]
        simp [slotOf, hf]
    · by_cases k5 : t.kind = 5
      · rw [layM, if_neg k8, if_neg k4, if_pos k5]
        refine ⟨by show 1 ≤ _; omega, fun _ => ⟨rfl, Nat.le_refl _⟩, fun h => by omega, fun s hs' => ?_, fun h => by omega, fun h => by omega, fun h => by omega⟩
        rw [List.mem_singleton] at hs'; subst hs'
        exact slot_ok (hA t.elem).1 (hA t.elem).2
      · rw [layM, if_neg k8, if_neg k4, if_neg k5]
        exact ⟨Nat.zero_le _, fun _ => ⟨rfl, Nat.zero_le _⟩, fun h => by omega, fun s hs' => by simp at hs', fun h => by omega, fun h => by omega, fun h => by omega⟩
end Go.Proofs.Ytfgacgpicfknpaa
end
section
namespace Go.Proofs.Ytfgacgpicfknpaa
open Go.ChangeShapes Go.WideShapes Go.ChangeAt Go.RowKit

theorem own : ownKnob Try.prog.godebug = none := by kernel_rfl
theorem laidOut : laidOutB Try.prog = true := by kernel_rfl

/-- a slice of integers that came in: nil, or a row of 'cap' cells, the numbers 'zs' -/
def IsRow (k : IntKind) (w : World) (a : Option Addr) (len cap : Nat) (zs : List Int) : Prop :=
  (a = none ∧ len = 0 ∧ cap = 0 ∧ zs = []) ∨
  ∃ x, a = some x ∧ len ≤ cap ∧ cap ≤ maxLen ∧ zs.length = cap ∧ (∀ i, i < zs.length → w.cell? (x.add i) = some (.int k (zs.getD i 0))) ∧ ∀ n ∈ zs, (Lit.int k n).wf = true

theorem I64.of_wf {n : Int} (h : (Lit.int .i64 n).wf = true) : I64 n := bounds_i64 h
theorem U64.of_wf {n : Int} (h : (Lit.int .u64 n).wf = true) : U64 n := bounds_u64 h
theorem U8.of_wf {n : Int} (h : (Lit.int .u8 n).wf = true) : U8 n := bounds_u8 h

theorem IsRow.row {k : IntKind} {w : World} {a : Option Addr} {len cap : Nat} {zs : List Int} (h : IsRow k w a len cap zs) :
    Row w w.heap.size a ((zs.take len).map (Value.int k)) ∧ len = (zs.take len).length ∧ len ≤ cap ∧ cap ≤ maxLen ∧ ∀ z ∈ zs.take len, (Lit.int k z).wf = true := by
  rcases h with ⟨rfl, rfl, rfl, rfl⟩ | ⟨x, rfl, hl, hm, hz, hcell, hwz⟩
  · exact ⟨fun h => by simp at h, rfl, Nat.le_refl _, by decide, fun z hz => by simp at hz⟩
  · refine ⟨fun hn => ?_, by rw [List.length_take]; omega, hl, hm, fun z hz' => hwz z (List.mem_of_mem_take hz')⟩
    have hn' : 0 < len := by simp at hn; omega
    obtain ⟨b, off, spot⟩ := x
    have hc := hcell 0 (by omega)
    have hspot : spot = none := by simpa [Addr.add] using World.cell?_spot hc
    subst hspot
    refine ⟨b, off, rfl, World.block_lt_of_cell? w _ (by simpa [Addr.add] using hc), fun j u hu => ?_⟩
    have hj : j < len := by
      rcases Nat.lt_or_ge j ((zs.take len).map (Value.int k)).length with h | h
      · simp at h; omega
      · rw [List.getElem?_eq_none h] at hu; cases hu
    have hcj := hcell j (by omega)
    have hplain : (⟨b, off, none⟩ : Addr).add j = ⟨b, off + j, none⟩ := by unfold Addr.add; split <;> simp_all
    rw [hplain] at hcj
    rw [hcj]
    rw [List.getElem?_map, List.getElem?_take_of_lt hj, List.getElem?_eq_getElem (by omega : j < zs.length)] at hu
    simpa [List.getD_eq_getElem?_getD, List.getElem?_eq_getElem (by omega : j < zs.length)] using hu

end Go.Proofs.Ytfgacgpicfknpaa
end
end
