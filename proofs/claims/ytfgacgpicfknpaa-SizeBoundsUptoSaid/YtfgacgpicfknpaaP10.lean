import Derived.Test.YtfgacgpicfknpaaP9
set_option linter.all false
section
namespace Go.Proofs.Ytfgacgpicfknpaa
open Go.RowKit
set_option maxRecDepth 100000
set_option maxHeartbeats 8000000
def NodeAt (ts : List TypeM) (rs : List RootM) (X : List ExtM) (V : List NodeM) (v : NodeM) (x : TypeM) (ls : List Int) (r : Int × Bool × List Int) : Prop :=
  GCall Try.prog 75 [.ptr 1 10000 0 0, .agg [vI v.kind, .v (.int .u64 v.n), vI v.kids], .agg [vI x.kind, vI x.n, vI x.elem, .lst 3 (encPs x.parts)]] (wob ts rs X V ls) (tupR r) (wob ts rs X V r.2.2)
section
variable {ts : List TypeM} {rs : List RootM} {X : List ExtM} {V : List NodeM} {rec : Rec}
theorem node_1 (x : TypeM) (hx : I64 x.n) (hk : x.kind = 1) (v : NodeM) (hv : nodeOK v) (ls : List Int) : NodeAt ts rs X V v x ls (nodeW X rec v x ls) := by
  unfold NodeAt
  rw [nodeW, if_pos hk]
  refine go_fnG (tyOf_ok _) Try.func75 rfl rfl (by rw [Try.results75]) Try.ntmps75 rfl fun E => ?_
  have k1 : (x.kind = 1) = True := eq_true hk
  have hu : U64 v.n := by obtain ⟨_, _, hn0, hn1⟩ := hv; unfold U64; omega
  by_cases hi : isN v 1 0 = true
  · rw [hi, Bool.true_and]
    (repeat' (first
    | exact trivial
    | (with_reducible first | refine aw_seq ?_ | refine aw_block ?_ | refine aw_skip ?_ | refine aw_ret ?_ | refine aw_exit ?_ | refine aseq_normal ?_ | refine aseq_ret ?_ | refine aseq_exit ?_ | refine ablk_normal ?_ | refine ablk_ret ?_ | refine ablk_hit ?_ | refine aw_region ?_ | refine go_nil ?_ | refine al_of ?_)
    | with_reducible refine ablk_miss (by decide) ?_
    | ((with_reducible refine al_id ?_); refine go_run (tyOf_ok _) [] (by simp only [go_sem, Nat.reduceBEq, Nat.reduceBneDiff, Nat.reduceLT, Nat.reduceLeDiff, Nat.reduceAdd, Nat.reduceMul, Nat.reduceSub, Nat.reduceEqDiff, reduceCtorEq, wob, tupR, encPs_len, k1, hi]; exact rfl) ?_ ?_)
    | (refine aw_draw (id := 3) (t := (.node [0, 1, 2, 3, 4, 5, 6, 7, 8, 9, 10, 11, 12] [])) (drR [5, 4] [] []) mixed (by kernel_rfl) (by kernel_rfl) (fun _ _ h => h) ?_)
    | (refine aw_draw (id := 5) (t := (.node [0, 1, 2, 3, 4, 5, 6, 7, 8, 9, 10, 11, 12, 13, 14] [])) (drR [4] [] []) mixed (by kernel_rfl) (by kernel_rfl) (fun _ _ h => h) ?_)
    | (refine aw_draw (id := 7) (t := (.node [0, 1, 3, 2, 4, 5, 6] [])) (drR [4] [] []) mixed (by kernel_rfl) (by kernel_rfl) (fun _ _ h => h) ?_)
    | (refine at_done (by simp only [List.filterMap_cons, List.filterMap_nil, List.getElem?_toArray, List.getElem?_cons_zero, List.getElem?_cons_succ]; exact rfl) ?_) | (refine at_alt (by simp only [List.filterMap_cons, List.filterMap_nil, List.getElem?_toArray, List.getElem?_cons_zero, List.getElem?_cons_succ]; exact rfl) ?_) | refine qalt_normal ?_ | refine ats_cons ?_ ?_ | exact ats_nil
    | ((with_reducible refine ald_id ?_); refine go_runD (tyOf_ok _) [] (by simp only [go_sem, Nat.reduceBEq, Nat.reduceBneDiff, Nat.reduceLT, Nat.reduceLeDiff, Nat.reduceAdd, Nat.reduceMul, Nat.reduceSub, Nat.reduceEqDiff, reduceCtorEq, wob, tupR, encPs_len, k1, hi]; exact rfl) ?_ ?_)
    | (refine aw_cond (by simp only [go_sem, Nat.reduceBEq, Nat.reduceBneDiff, Nat.reduceLT, Nat.reduceLeDiff, Nat.reduceAdd, Nat.reduceMul, Nat.reduceSub, Nat.reduceEqDiff, reduceCtorEq, wob, tupR, encPs_len, k1, hi]; exact rfl) (by simp only [go_sem, Nat.reduceBEq, Nat.reduceBneDiff, Nat.reduceLT, Nat.reduceLeDiff, Nat.reduceAdd, Nat.reduceMul, Nat.reduceSub, Nat.reduceEqDiff, reduceCtorEq]) (fun h => ?_) (fun h => ?_) <;> (try simp only [decide_eq_true_eq, decide_eq_false_iff_not, Bool.not_eq_true', Bool.not_eq_false', Bool.or_eq_true, Bool.or_eq_false_iff, Bool.and_eq_true, Bool.and_eq_false_iff, Decidable.not_not, reduceCtorEq] at h) <;> (try (exfalso; omega)))
    | (first | refine aendG_ret (by simp only [go_sem, Nat.reduceBEq, Nat.reduceBneDiff, Nat.reduceLT, Nat.reduceLeDiff, Nat.reduceAdd, Nat.reduceMul, Nat.reduceSub, Nat.reduceEqDiff, reduceCtorEq, wob, tupR, encPs_len, k1, hi]; exact rfl) ?_ ?_ ?_ | refine aendG_normal (by simp only [go_sem, Nat.reduceBEq, Nat.reduceBneDiff, Nat.reduceLT, Nat.reduceLeDiff, Nat.reduceAdd, Nat.reduceMul, Nat.reduceSub, Nat.reduceEqDiff, reduceCtorEq, wob, tupR, encPs_len, k1, hi]; exact rfl) ?_ ?_ ?_)
    | (refine go_call (by simp only [go_sem, Nat.reduceBEq, Nat.reduceBneDiff, Nat.reduceLT, Nat.reduceLeDiff, Nat.reduceAdd, Nat.reduceMul, Nat.reduceSub, Nat.reduceEqDiff, reduceCtorEq, wob, tupR, encPs_len, k1, hi]; exact rfl) ?_ (fun _ => is_any v 1 0) rfl ?_)
    | (refine go_call (by simp only [go_sem, Nat.reduceBEq, Nat.reduceBneDiff, Nat.reduceLT, Nat.reduceLeDiff, Nat.reduceAdd, Nat.reduceMul, Nat.reduceSub, Nat.reduceEqDiff, reduceCtorEq, wob, tupR, encPs_len, k1, hi]; exact rfl) ?_ (fun _ => fits_p hu hx) rfl ?_) | fail)) <;> (try omega)
    all_goals (first | exact AV.up_rfl _ | exact obUp_cons rfl (obUp_cons rfl obUp_nil))
  · have e0 : isN v 1 0 = false := by simpa using hi
    rw [e0, Bool.false_and]
    (repeat' (first
    | exact trivial
    | (with_reducible first | refine aw_seq ?_ | refine aw_block ?_ | refine aw_skip ?_ | refine aw_ret ?_ | refine aw_exit ?_ | refine aseq_normal ?_ | refine aseq_ret ?_ | refine aseq_exit ?_ | refine ablk_normal ?_ | refine ablk_ret ?_ | refine ablk_hit ?_ | refine aw_region ?_ | refine go_nil ?_ | refine al_of ?_)
    | with_reducible refine ablk_miss (by decide) ?_
    | ((with_reducible refine al_id ?_); refine go_run (tyOf_ok _) [] (by simp only [go_sem, Nat.reduceBEq, Nat.reduceBneDiff, Nat.reduceLT, Nat.reduceLeDiff, Nat.reduceAdd, Nat.reduceMul, Nat.reduceSub, Nat.reduceEqDiff, reduceCtorEq, wob, tupR, encPs_len, k1, e0]; exact rfl) ?_ ?_)
    | (refine aw_draw (id := 3) (t := (.node [0, 1, 2, 3, 4, 5, 6, 7, 8, 9, 10, 11, 12] [])) (drR [5, 4] [] []) mixed (by kernel_rfl) (by kernel_rfl) (fun _ _ h => h) ?_)
    | (refine aw_draw (id := 5) (t := (.node [0, 1, 2, 3, 4, 5, 6, 7, 8, 9, 10, 11, 12, 13, 14] [])) (drR [4] [] []) mixed (by kernel_rfl) (by kernel_rfl) (fun _ _ h => h) ?_)
    | (refine aw_draw (id := 7) (t := (.node [0, 1, 3, 2, 4, 5, 6] [])) (drR [4] [] []) mixed (by kernel_rfl) (by kernel_rfl) (fun _ _ h => h) ?_)
    | (refine at_done (by simp only [List.filterMap_cons, List.filterMap_nil, List.getElem?_toArray, List.getElem?_cons_zero, List.getElem?_cons_succ]; exact rfl) ?_) | (refine at_alt (by simp only [List.filterMap_cons, List.filterMap_nil, List.getElem?_toArray, List.getElem?_cons_zero, List.getElem?_cons_succ]; exact rfl) ?_) | refine qalt_normal ?_ | refine ats_cons ?_ ?_ | exact ats_nil
    | ((with_reducible refine ald_id ?_); refine go_runD (tyOf_ok _) [] (by simp only [go_sem, Nat.reduceBEq, Nat.reduceBneDiff, Nat.reduceLT, Nat.reduceLeDiff, Nat.reduceAdd, Nat.reduceMul, Nat.reduceSub, Nat.reduceEqDiff, reduceCtorEq, wob, tupR, encPs_len, k1, e0]; exact rfl) ?_ ?_)
    | (refine aw_cond (by simp only [go_sem, Nat.reduceBEq, Nat.reduceBneDiff, Nat.reduceLT, Nat.reduceLeDiff, Nat.reduceAdd, Nat.reduceMul, Nat.reduceSub, Nat.reduceEqDiff, reduceCtorEq, wob, tupR, encPs_len, k1, e0]; exact rfl) (by simp only [go_sem, Nat.reduceBEq, Nat.reduceBneDiff, Nat.reduceLT, Nat.reduceLeDiff, Nat.reduceAdd, Nat.reduceMul, Nat.reduceSub, Nat.reduceEqDiff, reduceCtorEq]) (fun h => ?_) (fun h => ?_) <;> (try simp only [decide_eq_true_eq, decide_eq_false_iff_not, Bool.not_eq_true', Bool.not_eq_false', Bool.or_eq_true, Bool.or_eq_false_iff, Bool.and_eq_true, Bool.and_eq_false_iff, Decidable.not_not, reduceCtorEq] at h) <;> (try (exfalso; omega)))
    | (first | refine aendG_ret (by simp only [go_sem, Nat.reduceBEq, Nat.reduceBneDiff, Nat.reduceLT, Nat.reduceLeDiff, Nat.reduceAdd, Nat.reduceMul, Nat.reduceSub, Nat.reduceEqDiff, reduceCtorEq, wob, tupR, encPs_len, k1, e0]; exact rfl) ?_ ?_ ?_ | refine aendG_normal (by simp only [go_sem, Nat.reduceBEq, Nat.reduceBneDiff, Nat.reduceLT, Nat.reduceLeDiff, Nat.reduceAdd, Nat.reduceMul, Nat.reduceSub, Nat.reduceEqDiff, reduceCtorEq, wob, tupR, encPs_len, k1, e0]; exact rfl) ?_ ?_ ?_)
    | (refine go_call (by simp only [go_sem, Nat.reduceBEq, Nat.reduceBneDiff, Nat.reduceLT, Nat.reduceLeDiff, Nat.reduceAdd, Nat.reduceMul, Nat.reduceSub, Nat.reduceEqDiff, reduceCtorEq, wob, tupR, encPs_len, k1, e0]; exact rfl) ?_ (fun _ => is_any v 1 0) rfl ?_)
    | (refine go_call0 93 (vB true) (by simp only [go_sem, Nat.reduceBEq, Nat.reduceBneDiff, Nat.reduceLT, Nat.reduceLeDiff, Nat.reduceAdd, Nat.reduceMul, Nat.reduceSub, Nat.reduceEqDiff, reduceCtorEq, wob, tupR, encPs_len, k1, e0]; exact rfl) ?_ ?_) | fail)) <;> (try omega)
    all_goals (first | exact AV.up_rfl _ | exact obUp_cons rfl (obUp_cons rfl obUp_nil))
theorem node_2 (x : TypeM) (hk : x.kind = 2) (v : NodeM) (ls : List Int) : NodeAt ts rs X V v x ls (nodeW X rec v x ls) := by
  unfold NodeAt
  rw [nodeW, if_neg (by omega), if_pos hk]
  refine go_fnG (tyOf_ok _) Try.func75 rfl rfl (by rw [Try.results75]) Try.ntmps75 rfl fun E => ?_
  have k1 : (x.kind = 1) = False := eq_false (by omega)
  have k2 : (x.kind = 2) = True := eq_true hk
  (repeat' (first
    | exact trivial
    | (with_reducible first | refine aw_seq ?_ | refine aw_block ?_ | refine aw_skip ?_ | refine aw_ret ?_ | refine aw_exit ?_ | refine aseq_normal ?_ | refine aseq_ret ?_ | refine aseq_exit ?_ | refine ablk_normal ?_ | refine ablk_ret ?_ | refine ablk_hit ?_ | refine aw_region ?_ | refine go_nil ?_ | refine al_of ?_)
    | with_reducible refine ablk_miss (by decide) ?_
    | ((with_reducible refine al_id ?_); refine go_run (tyOf_ok _) [] (by simp only [go_sem, Nat.reduceBEq, Nat.reduceBneDiff, Nat.reduceLT, Nat.reduceLeDiff, Nat.reduceAdd, Nat.reduceMul, Nat.reduceSub, Nat.reduceEqDiff, reduceCtorEq, wob, tupR, encPs_len, k1, k2]; exact rfl) ?_ ?_)
    | (refine aw_draw (id := 3) (t := (.node [0, 1, 2, 3, 4, 5, 6, 7, 8, 9, 10, 11, 12] [])) (drR [5, 4] [] []) mixed (by kernel_rfl) (by kernel_rfl) (fun _ _ h => h) ?_)
    | (refine aw_draw (id := 5) (t := (.node [0, 1, 2, 3, 4, 5, 6, 7, 8, 9, 10, 11, 12, 13, 14] [])) (drR [4] [] []) mixed (by kernel_rfl) (by kernel_rfl) (fun _ _ h => h) ?_)
    | (refine aw_draw (id := 7) (t := (.node [0, 1, 3, 2, 4, 5, 6] [])) (drR [4] [] []) mixed (by kernel_rfl) (by kernel_rfl) (fun _ _ h => h) ?_)
    | (refine at_done (by simp only [List.filterMap_cons, List.filterMap_nil, List.getElem?_toArray, List.getElem?_cons_zero, List.getElem?_cons_succ]; exact rfl) ?_) | (refine at_alt (by simp only [List.filterMap_cons, List.filterMap_nil, List.getElem?_toArray, List.getElem?_cons_zero, List.getElem?_cons_succ]; exact rfl) ?_) | refine qalt_normal ?_ | refine ats_cons ?_ ?_ | exact ats_nil
    | ((with_reducible refine ald_id ?_); refine go_runD (tyOf_ok _) [] (by simp only [go_sem, Nat.reduceBEq, Nat.reduceBneDiff, Nat.reduceLT, Nat.reduceLeDiff, Nat.reduceAdd, Nat.reduceMul, Nat.reduceSub, Nat.reduceEqDiff, reduceCtorEq, wob, tupR, encPs_len, k1, k2]; exact rfl) ?_ ?_)
    | (refine aw_cond (by simp only [go_sem, Nat.reduceBEq, Nat.reduceBneDiff, Nat.reduceLT, Nat.reduceLeDiff, Nat.reduceAdd, Nat.reduceMul, Nat.reduceSub, Nat.reduceEqDiff, reduceCtorEq, wob, tupR, encPs_len, k1, k2]; exact rfl) (by simp only [go_sem, Nat.reduceBEq, Nat.reduceBneDiff, Nat.reduceLT, Nat.reduceLeDiff, Nat.reduceAdd, Nat.reduceMul, Nat.reduceSub, Nat.reduceEqDiff, reduceCtorEq]) (fun h => ?_) (fun h => ?_) <;> (try simp only [decide_eq_true_eq, decide_eq_false_iff_not, Bool.not_eq_true', Bool.not_eq_false', Bool.or_eq_true, Bool.or_eq_false_iff, Bool.and_eq_true, Bool.and_eq_false_iff, Decidable.not_not, reduceCtorEq] at h) <;> (try (exfalso; omega)))
    | (first | refine aendG_ret (by simp only [go_sem, Nat.reduceBEq, Nat.reduceBneDiff, Nat.reduceLT, Nat.reduceLeDiff, Nat.reduceAdd, Nat.reduceMul, Nat.reduceSub, Nat.reduceEqDiff, reduceCtorEq, wob, tupR, encPs_len, k1, k2]; exact rfl) ?_ ?_ ?_ | refine aendG_normal (by simp only [go_sem, Nat.reduceBEq, Nat.reduceBneDiff, Nat.reduceLT, Nat.reduceLeDiff, Nat.reduceAdd, Nat.reduceMul, Nat.reduceSub, Nat.reduceEqDiff, reduceCtorEq, wob, tupR, encPs_len, k1, k2]; exact rfl) ?_ ?_ ?_) | fail)) <;> (try omega)
  all_goals (first | exact AV.up_rfl _ | exact obUp_cons rfl (obUp_cons rfl obUp_nil))
theorem node_3 (x : TypeM) (hk : x.kind = 3) (v : NodeM) (hv : nodeOK v) (ls : List Int) : NodeAt ts rs X V v x ls (nodeW X rec v x ls) := by
  unfold NodeAt
  rw [nodeW, if_neg (by omega), if_neg (by omega), if_pos hk]
  refine go_fnG (tyOf_ok _) Try.func75 rfl rfl (by rw [Try.results75]) Try.ntmps75 rfl fun E => ?_
  have k1 : (x.kind = 1) = False := eq_false (by omega)
  have k2 : (x.kind = 2) = False := eq_false (by omega)
  have k3 : (x.kind = 3) = True := eq_true hk
  (repeat' (first
    | exact trivial
    | (with_reducible first | refine aw_seq ?_ | refine aw_block ?_ | refine aw_skip ?_ | refine aw_ret ?_ | refine aw_exit ?_ | refine aseq_normal ?_ | refine aseq_ret ?_ | refine aseq_exit ?_ | refine ablk_normal ?_ | refine ablk_ret ?_ | refine ablk_hit ?_ | refine aw_region ?_ | refine go_nil ?_ | refine al_of ?_)
    | with_reducible refine ablk_miss (by decide) ?_
    | ((with_reducible refine al_id ?_); refine go_run (tyOf_ok _) [] (by simp only [go_sem, Nat.reduceBEq, Nat.reduceBneDiff, Nat.reduceLT, Nat.reduceLeDiff, Nat.reduceAdd, Nat.reduceMul, Nat.reduceSub, Nat.reduceEqDiff, reduceCtorEq, wob, tupR, encPs_len, k1, k2, k3]; exact rfl) ?_ ?_)
    | (refine aw_draw (id := 3) (t := (.node [0, 1, 2, 3, 4, 5, 6, 7, 8, 9, 10, 11, 12] [])) (drR [5, 4] [] []) mixed (by kernel_rfl) (by kernel_rfl) (fun _ _ h => h) ?_)
    | (refine aw_draw (id := 5) (t := (.node [0, 1, 2, 3, 4, 5, 6, 7, 8, 9, 10, 11, 12, 13, 14] [])) (drR [4] [] []) mixed (by kernel_rfl) (by kernel_rfl) (fun _ _ h => h) ?_)
    | (refine aw_draw (id := 7) (t := (.node [0, 1, 3, 2, 4, 5, 6] [])) (drR [4] [] []) mixed (by kernel_rfl) (by kernel_rfl) (fun _ _ h => h) ?_)
    | (refine at_done (by simp only [List.filterMap_cons, List.filterMap_nil, List.getElem?_toArray, List.getElem?_cons_zero, List.getElem?_cons_succ]; exact rfl) ?_) | (refine at_alt (by simp only [List.filterMap_cons, List.filterMap_nil, List.getElem?_toArray, List.getElem?_cons_zero, List.getElem?_cons_succ]; exact rfl) ?_) | refine qalt_normal ?_ | refine ats_cons ?_ ?_ | exact ats_nil
    | ((with_reducible refine ald_id ?_); refine go_runD (tyOf_ok _) [] (by simp only [go_sem, Nat.reduceBEq, Nat.reduceBneDiff, Nat.reduceLT, Nat.reduceLeDiff, Nat.reduceAdd, Nat.reduceMul, Nat.reduceSub, Nat.reduceEqDiff, reduceCtorEq, wob, tupR, encPs_len, k1, k2, k3]; exact rfl) ?_ ?_)
    | (refine aw_cond (by simp only [go_sem, Nat.reduceBEq, Nat.reduceBneDiff, Nat.reduceLT, Nat.reduceLeDiff, Nat.reduceAdd, Nat.reduceMul, Nat.reduceSub, Nat.reduceEqDiff, reduceCtorEq, wob, tupR, encPs_len, k1, k2, k3]; exact rfl) (by simp only [go_sem, Nat.reduceBEq, Nat.reduceBneDiff, Nat.reduceLT, Nat.reduceLeDiff, Nat.reduceAdd, Nat.reduceMul, Nat.reduceSub, Nat.reduceEqDiff, reduceCtorEq]) (fun h => ?_) (fun h => ?_) <;> (try simp only [decide_eq_true_eq, decide_eq_false_iff_not, Bool.not_eq_true', Bool.not_eq_false', Bool.or_eq_true, Bool.or_eq_false_iff, Bool.and_eq_true, Bool.and_eq_false_iff, Decidable.not_not, reduceCtorEq] at h) <;> (try (exfalso; omega)))
    | (first | refine aendG_ret (by simp only [go_sem, Nat.reduceBEq, Nat.reduceBneDiff, Nat.reduceLT, Nat.reduceLeDiff, Nat.reduceAdd, Nat.reduceMul, Nat.reduceSub, Nat.reduceEqDiff, reduceCtorEq, wob, tupR, encPs_len, k1, k2, k3]; exact rfl) ?_ ?_ ?_ | refine aendG_normal (by simp only [go_sem, Nat.reduceBEq, Nat.reduceBneDiff, Nat.reduceLT, Nat.reduceLeDiff, Nat.reduceAdd, Nat.reduceMul, Nat.reduceSub, Nat.reduceEqDiff, reduceCtorEq, wob, tupR, encPs_len, k1, k2, k3]; exact rfl) ?_ ?_ ?_)
    | (refine go_call (by simp only [go_sem, Nat.reduceBEq, Nat.reduceBneDiff, Nat.reduceLT, Nat.reduceLeDiff, Nat.reduceAdd, Nat.reduceMul, Nat.reduceSub, Nat.reduceEqDiff, reduceCtorEq, wob, tupR, encPs_len, k1, k2, k3]; exact rfl) ?_ (fun _ => is_any v 1 0) rfl ?_)
    | (refine go_call (by simp only [go_sem, Nat.reduceBEq, Nat.reduceBneDiff, Nat.reduceLT, Nat.reduceLeDiff, Nat.reduceAdd, Nat.reduceMul, Nat.reduceSub, Nat.reduceEqDiff, reduceCtorEq, wob, tupR, encPs_len, k1, k2, k3]; exact rfl) ?_ (fun _ => varint_any v.n hv.2.2.1 hv.2.2.2) rfl ?_) | fail)) <;> (try omega)
  all_goals (first | exact AV.up_rfl _ | exact obUp_cons rfl (obUp_cons rfl obUp_nil))
theorem node_4 (W : WOK ts rs X V) (x : TypeM) (hk : x.kind = 4) (hn : 0 ≤ x.n ∧ x.n ≤ 1048576) (he : 0 ≤ x.elem ∧ x.elem < ts.length) (H : RecAt ts rs X V rec x.elem.toNat) (v : NodeM) (ls : List Int) (hl : ls.length ≤ V.length) :
    NodeAt ts rs X V v x ls (nodeW X rec v x ls) := by
  unfold NodeAt
  rw [nodeW, if_neg (by omega), if_neg (by omega), if_neg (by omega), if_pos hk]
  refine go_fnG (tyOf_ok _) Try.func75 rfl rfl (by rw [Try.results75]) Try.ntmps75 rfl fun E => ?_
  have k1 : (x.kind = 1) = False := eq_false (by omega)
  have k2 : (x.kind = 2) = False := eq_false (by omega)
  have k3 : (x.kind = 3) = False := eq_false (by omega)
  have k4 : (x.kind = 4) = True := eq_true hk
  have hc := kids_any W (t := x.elem.toNat) (by omega) H x.n.toNat (by omega) ls hl
  rw [Int.toNat_of_nonneg he.1, Int.toNat_of_nonneg hn.1] at hc
  by_cases hi : isN v 3 x.n = true
  · rw [if_pos hi]
    generalize kidsW X rec x.elem x.n.toNat 0 ls = r at *
    obtain ⟨n, ok, ls'⟩ := r
    (repeat' (first
    | exact trivial
    | (with_reducible first | refine aw_seq ?_ | refine aw_block ?_ | refine aw_skip ?_ | refine aw_ret ?_ | refine aw_exit ?_ | refine aseq_normal ?_ | refine aseq_ret ?_ | refine aseq_exit ?_ | refine ablk_normal ?_ | refine ablk_ret ?_ | refine ablk_hit ?_ | refine aw_region ?_ | refine go_nil ?_ | refine al_of ?_)
    | with_reducible refine ablk_miss (by decide) ?_
    | ((with_reducible refine al_id ?_); refine go_run (tyOf_ok _) [] (by simp only [go_sem, Nat.reduceBEq, Nat.reduceBneDiff, Nat.reduceLT, Nat.reduceLeDiff, Nat.reduceAdd, Nat.reduceMul, Nat.reduceSub, Nat.reduceEqDiff, reduceCtorEq, wob, tupR, encPs_len, k1, k2, k3, k4, hi]; exact rfl) ?_ ?_)
    | (refine aw_draw (id := 3) (t := (.node [0, 1, 2, 3, 4, 5, 6, 7, 8, 9, 10, 11, 12] [])) (drR [5, 4] [] []) mixed (by kernel_rfl) (by kernel_rfl) (fun _ _ h => h) ?_)
    | (refine aw_draw (id := 5) (t := (.node [0, 1, 2, 3, 4, 5, 6, 7, 8, 9, 10, 11, 12, 13, 14] [])) (drR [4] [] []) mixed (by kernel_rfl) (by kernel_rfl) (fun _ _ h => h) ?_)
    | (refine aw_draw (id := 7) (t := (.node [0, 1, 3, 2, 4, 5, 6] [])) (drR [4] [] []) mixed (by kernel_rfl) (by kernel_rfl) (fun _ _ h => h) ?_)
    | (refine at_done (by simp only [List.filterMap_cons, List.filterMap_nil, List.getElem?_toArray, List.getElem?_cons_zero, List.getElem?_cons_succ]; exact rfl) ?_) | (refine at_alt (by simp only [List.filterMap_cons, List.filterMap_nil, List.getElem?_toArray, List.getElem?_cons_zero, List.getElem?_cons_succ]; exact rfl) ?_) | refine qalt_normal ?_ | refine ats_cons ?_ ?_ | exact ats_nil
    | ((with_reducible refine ald_id ?_); refine go_runD (tyOf_ok _) [] (by simp only [go_sem, Nat.reduceBEq, Nat.reduceBneDiff, Nat.reduceLT, Nat.reduceLeDiff, Nat.reduceAdd, Nat.reduceMul, Nat.reduceSub, Nat.reduceEqDiff, reduceCtorEq, wob, tupR, encPs_len, k1, k2, k3, k4, hi]; exact rfl) ?_ ?_)
    | (refine aw_cond (by simp only [go_sem, Nat.reduceBEq, Nat.reduceBneDiff, Nat.reduceLT, Nat.reduceLeDiff, Nat.reduceAdd, Nat.reduceMul, Nat.reduceSub, Nat.reduceEqDiff, reduceCtorEq, wob, tupR, encPs_len, k1, k2, k3, k4, hi]; exact rfl) (by simp only [go_sem, Nat.reduceBEq, Nat.reduceBneDiff, Nat.reduceLT, Nat.reduceLeDiff, Nat.reduceAdd, Nat.reduceMul, Nat.reduceSub, Nat.reduceEqDiff, reduceCtorEq]) (fun h => ?_) (fun h => ?_) <;> (try simp only [decide_eq_true_eq, decide_eq_false_iff_not, Bool.not_eq_true', Bool.not_eq_false', Bool.or_eq_true, Bool.or_eq_false_iff, Bool.and_eq_true, Bool.and_eq_false_iff, Decidable.not_not, reduceCtorEq] at h) <;> (try (exfalso; omega)))
    | (first | refine aendG_ret (by simp only [go_sem, Nat.reduceBEq, Nat.reduceBneDiff, Nat.reduceLT, Nat.reduceLeDiff, Nat.reduceAdd, Nat.reduceMul, Nat.reduceSub, Nat.reduceEqDiff, reduceCtorEq, wob, tupR, encPs_len, k1, k2, k3, k4, hi]; exact rfl) ?_ ?_ ?_ | refine aendG_normal (by simp only [go_sem, Nat.reduceBEq, Nat.reduceBneDiff, Nat.reduceLT, Nat.reduceLeDiff, Nat.reduceAdd, Nat.reduceMul, Nat.reduceSub, Nat.reduceEqDiff, reduceCtorEq, wob, tupR, encPs_len, k1, k2, k3, k4, hi]; exact rfl) ?_ ?_ ?_)
    | (refine go_call (by simp only [go_sem, Nat.reduceBEq, Nat.reduceBneDiff, Nat.reduceLT, Nat.reduceLeDiff, Nat.reduceAdd, Nat.reduceMul, Nat.reduceSub, Nat.reduceEqDiff, reduceCtorEq, wob, tupR, encPs_len, k1, k2, k3, k4, hi]; exact rfl) ?_ (fun _ => is_any v 3 x.n) rfl ?_)
    | (refine go_callG [(10000, 10000), (15000, 15000)] [(10000, 10000), (15000, 15000)] [15000] [10000] (by simp only [go_sem, Nat.reduceBEq, Nat.reduceBneDiff, Nat.reduceLT, Nat.reduceLeDiff, Nat.reduceAdd, Nat.reduceMul, Nat.reduceSub, Nat.reduceEqDiff, reduceCtorEq, wob, tupR, encPs_len, k1, k2, k3, k4, hi]; exact rfl) ?_ rfl rfl (by first | exact .inl rfl | exact .inr rfl) (by simp only [go_sem, Nat.reduceBEq, Nat.reduceBneDiff, Nat.reduceLT, Nat.reduceLeDiff, Nat.reduceAdd, Nat.reduceMul, Nat.reduceSub, Nat.reduceEqDiff, reduceCtorEq, wob, tupR, encPs_len, k1, k2, k3, k4, hi] <;> exact rfl) (hc) (.inl rfl) ?_) | fail)) <;> (try omega)
    all_goals (first | exact AV.up_rfl _ | exact obUp_cons rfl (obUp_cons rfl obUp_nil))
  · have e0 : isN v 3 x.n = false := by simpa using hi
    rw [if_neg hi]
    (repeat' (first
    | exact trivial
    | (with_reducible first | refine aw_seq ?_ | refine aw_block ?_ | refine aw_skip ?_ | refine aw_ret ?_ | refine aw_exit ?_ | refine aseq_normal ?_ | refine aseq_ret ?_ | refine aseq_exit ?_ | refine ablk_normal ?_ | refine ablk_ret ?_ | refine ablk_hit ?_ | refine aw_region ?_ | refine go_nil ?_ | refine al_of ?_)
    | with_reducible refine ablk_miss (by decide) ?_
    | ((with_reducible refine al_id ?_); refine go_run (tyOf_ok _) [] (by simp only [go_sem, Nat.reduceBEq, Nat.reduceBneDiff, Nat.reduceLT, Nat.reduceLeDiff, Nat.reduceAdd, Nat.reduceMul, Nat.reduceSub, Nat.reduceEqDiff, reduceCtorEq, wob, tupR, encPs_len, k1, k2, k3, k4, e0]; exact rfl) ?_ ?_)
    | (refine aw_draw (id := 3) (t := (.node [0, 1, 2, 3, 4, 5, 6, 7, 8, 9, 10, 11, 12] [])) (drR [5, 4] [] []) mixed (by kernel_rfl) (by kernel_rfl) (fun _ _ h => h) ?_)
    | (refine aw_draw (id := 5) (t := (.node [0, 1, 2, 3, 4, 5, 6, 7, 8, 9, 10, 11, 12, 13, 14] [])) (drR [4] [] []) mixed (by kernel_rfl) (by kernel_rfl) (fun _ _ h => h) ?_)
    | (refine aw_draw (id := 7) (t := (.node [0, 1, 3, 2, 4, 5, 6] [])) (drR [4] [] []) mixed (by kernel_rfl) (by kernel_rfl) (fun _ _ h => h) ?_)
    | (refine at_done (by simp only [List.filterMap_cons, List.filterMap_nil, List.getElem?_toArray, List.getElem?_cons_zero, List.getElem?_cons_succ]; exact rfl) ?_) | (refine at_alt (by simp only [List.filterMap_cons, List.filterMap_nil, List.getElem?_toArray, List.getElem?_cons_zero, List.getElem?_cons_succ]; exact rfl) ?_) | refine qalt_normal ?_ | refine ats_cons ?_ ?_ | exact ats_nil
    | ((with_reducible refine ald_id ?_); refine go_runD (tyOf_ok _) [] (by simp only [go_sem, Nat.reduceBEq, Nat.reduceBneDiff, Nat.reduceLT, Nat.reduceLeDiff, Nat.reduceAdd, Nat.reduceMul, Nat.reduceSub, Nat.reduceEqDiff, reduceCtorEq, wob, tupR, encPs_len, k1, k2, k3, k4, e0]; exact rfl) ?_ ?_)
    | (refine aw_cond (by simp only [go_sem, Nat.reduceBEq, Nat.reduceBneDiff, Nat.reduceLT, Nat.reduceLeDiff, Nat.reduceAdd, Nat.reduceMul, Nat.reduceSub, Nat.reduceEqDiff, reduceCtorEq, wob, tupR, encPs_len, k1, k2, k3, k4, e0]; exact rfl) (by simp only [go_sem, Nat.reduceBEq, Nat.reduceBneDiff, Nat.reduceLT, Nat.reduceLeDiff, Nat.reduceAdd, Nat.reduceMul, Nat.reduceSub, Nat.reduceEqDiff, reduceCtorEq]) (fun h => ?_) (fun h => ?_) <;> (try simp only [decide_eq_true_eq, decide_eq_false_iff_not, Bool.not_eq_true', Bool.not_eq_false', Bool.or_eq_true, Bool.or_eq_false_iff, Bool.and_eq_true, Bool.and_eq_false_iff, Decidable.not_not, reduceCtorEq] at h) <;> (try (exfalso; omega)))
    | (first | refine aendG_ret (by simp only [go_sem, Nat.reduceBEq, Nat.reduceBneDiff, Nat.reduceLT, Nat.reduceLeDiff, Nat.reduceAdd, Nat.reduceMul, Nat.reduceSub, Nat.reduceEqDiff, reduceCtorEq, wob, tupR, encPs_len, k1, k2, k3, k4, e0]; exact rfl) ?_ ?_ ?_ | refine aendG_normal (by simp only [go_sem, Nat.reduceBEq, Nat.reduceBneDiff, Nat.reduceLT, Nat.reduceLeDiff, Nat.reduceAdd, Nat.reduceMul, Nat.reduceSub, Nat.reduceEqDiff, reduceCtorEq, wob, tupR, encPs_len, k1, k2, k3, k4, e0]; exact rfl) ?_ ?_ ?_)
    | (refine go_call (by simp only [go_sem, Nat.reduceBEq, Nat.reduceBneDiff, Nat.reduceLT, Nat.reduceLeDiff, Nat.reduceAdd, Nat.reduceMul, Nat.reduceSub, Nat.reduceEqDiff, reduceCtorEq, wob, tupR, encPs_len, k1, k2, k3, k4, e0]; exact rfl) ?_ (fun _ => is_any v 3 x.n) rfl ?_) | fail)) <;> (try omega)
    all_goals (first | exact AV.up_rfl _ | exact obUp_cons rfl (obUp_cons rfl obUp_nil))
theorem node_5 (W : WOK ts rs X V) (x : TypeM) (hk : x.kind = 5) (hn : 0 ≤ x.n ∧ x.n ≤ 1048576) (he : 0 ≤ x.elem ∧ x.elem < ts.length) (H : RecAt ts rs X V rec x.elem.toNat) (v : NodeM) (ls : List Int) (hl : ls.length ≤ V.length) :
    NodeAt ts rs X V v x ls (nodeW X rec v x ls) := by
  unfold NodeAt
  rw [nodeW, if_neg (by omega), if_neg (by omega), if_neg (by omega), if_neg (by omega), if_pos hk]
  refine go_fnG (tyOf_ok _) Try.func75 rfl rfl (by rw [Try.results75]) Try.ntmps75 rfl fun E => ?_
  have k1 : (x.kind = 1) = False := eq_false (by omega)
  have k2 : (x.kind = 2) = False := eq_false (by omega)
  have k3 : (x.kind = 3) = False := eq_false (by omega)
  have k4 : (x.kind = 4) = False := eq_false (by omega)
  have k5 : (x.kind = 5) = True := eq_true hk
  by_cases h1 : v.kids < 0
  · have e1 : (v.kids < 0) = True := eq_true h1
    rw [if_neg (by omega)]
    (repeat' (first
    | exact trivial
    | (with_reducible first | refine aw_seq ?_ | refine aw_block ?_ | refine aw_skip ?_ | refine aw_ret ?_ | refine aw_exit ?_ | refine aseq_normal ?_ | refine aseq_ret ?_ | refine aseq_exit ?_ | refine ablk_normal ?_ | refine ablk_ret ?_ | refine ablk_hit ?_ | refine aw_region ?_ | refine go_nil ?_ | refine al_of ?_)
    | with_reducible refine ablk_miss (by decide) ?_
    | ((with_reducible refine al_id ?_); refine go_run (tyOf_ok _) [] (by simp only [go_sem, Nat.reduceBEq, Nat.reduceBneDiff, Nat.reduceLT, Nat.reduceLeDiff, Nat.reduceAdd, Nat.reduceMul, Nat.reduceSub, Nat.reduceEqDiff, reduceCtorEq, wob, tupR, encPs_len, k1, k2, k3, k4, k5, e1]; exact rfl) ?_ ?_)
    | (refine aw_draw (id := 3) (t := (.node [0, 1, 2, 3, 4, 5, 6, 7, 8, 9, 10, 11, 12] [])) (drR [5, 4] [] []) mixed (by kernel_rfl) (by kernel_rfl) (fun _ _ h => h) ?_)
    | (refine aw_draw (id := 5) (t := (.node [0, 1, 2, 3, 4, 5, 6, 7, 8, 9, 10, 11, 12, 13, 14] [])) (drR [4] [] []) mixed (by kernel_rfl) (by kernel_rfl) (fun _ _ h => h) ?_)
    | (refine aw_draw (id := 7) (t := (.node [0, 1, 3, 2, 4, 5, 6] [])) (drR [4] [] []) mixed (by kernel_rfl) (by kernel_rfl) (fun _ _ h => h) ?_)
    | (refine at_done (by simp only [List.filterMap_cons, List.filterMap_nil, List.getElem?_toArray, List.getElem?_cons_zero, List.getElem?_cons_succ]; exact rfl) ?_) | (refine at_alt (by simp only [List.filterMap_cons, List.filterMap_nil, List.getElem?_toArray, List.getElem?_cons_zero, List.getElem?_cons_succ]; exact rfl) ?_) | refine qalt_normal ?_ | refine ats_cons ?_ ?_ | exact ats_nil
    | ((with_reducible refine ald_id ?_); refine go_runD (tyOf_ok _) [] (by simp only [go_sem, Nat.reduceBEq, Nat.reduceBneDiff, Nat.reduceLT, Nat.reduceLeDiff, Nat.reduceAdd, Nat.reduceMul, Nat.reduceSub, Nat.reduceEqDiff, reduceCtorEq, wob, tupR, encPs_len, k1, k2, k3, k4, k5, e1]; exact rfl) ?_ ?_)
    | (refine aw_cond (by simp only [go_sem, Nat.reduceBEq, Nat.reduceBneDiff, Nat.reduceLT, Nat.reduceLeDiff, Nat.reduceAdd, Nat.reduceMul, Nat.reduceSub, Nat.reduceEqDiff, reduceCtorEq, wob, tupR, encPs_len, k1, k2, k3, k4, k5, e1]; exact rfl) (by simp only [go_sem, Nat.reduceBEq, Nat.reduceBneDiff, Nat.reduceLT, Nat.reduceLeDiff, Nat.reduceAdd, Nat.reduceMul, Nat.reduceSub, Nat.reduceEqDiff, reduceCtorEq]) (fun h => ?_) (fun h => ?_) <;> (try simp only [decide_eq_true_eq, decide_eq_false_iff_not, Bool.not_eq_true', Bool.not_eq_false', Bool.or_eq_true, Bool.or_eq_false_iff, Bool.and_eq_true, Bool.and_eq_false_iff, Decidable.not_not, reduceCtorEq] at h) <;> (try (exfalso; omega)))
    | (first | refine aendG_ret (by simp only [go_sem, Nat.reduceBEq, Nat.reduceBneDiff, Nat.reduceLT, Nat.reduceLeDiff, Nat.reduceAdd, Nat.reduceMul, Nat.reduceSub, Nat.reduceEqDiff, reduceCtorEq, wob, tupR, encPs_len, k1, k2, k3, k4, k5, e1]; exact rfl) ?_ ?_ ?_ | refine aendG_normal (by simp only [go_sem, Nat.reduceBEq, Nat.reduceBneDiff, Nat.reduceLT, Nat.reduceLeDiff, Nat.reduceAdd, Nat.reduceMul, Nat.reduceSub, Nat.reduceEqDiff, reduceCtorEq, wob, tupR, encPs_len, k1, k2, k3, k4, k5, e1]; exact rfl) ?_ ?_ ?_)
    | (refine go_call0 92 (vB true) (by simp only [go_sem, Nat.reduceBEq, Nat.reduceBneDiff, Nat.reduceLT, Nat.reduceLeDiff, Nat.reduceAdd, Nat.reduceMul, Nat.reduceSub, Nat.reduceEqDiff, reduceCtorEq, wob, tupR, encPs_len, k1, k2, k3, k4, k5, e1]; exact rfl) ?_ ?_) | fail)) <;> (try omega)
    all_goals (first | exact AV.up_rfl _ | exact obUp_cons rfl (obUp_cons rfl obUp_nil))
  have e1 : (v.kids < 0) = False := eq_false h1
  by_cases h2 : x.n < v.kids
  · have e2 : (x.n < v.kids) = True := eq_true h2
    rw [if_neg (by omega)]
    (repeat' (first
    | exact trivial
    | (with_reducible first | refine aw_seq ?_ | refine aw_block ?_ | refine aw_skip ?_ | refine aw_ret ?_ | refine aw_exit ?_ | refine aseq_normal ?_ | refine aseq_ret ?_ | refine aseq_exit ?_ | refine ablk_normal ?_ | refine ablk_ret ?_ | refine ablk_hit ?_ | refine aw_region ?_ | refine go_nil ?_ | refine al_of ?_)
    | with_reducible refine ablk_miss (by decide) ?_
    | ((with_reducible refine al_id ?_); refine go_run (tyOf_ok _) [] (by simp only [go_sem, Nat.reduceBEq, Nat.reduceBneDiff, Nat.reduceLT, Nat.reduceLeDiff, Nat.reduceAdd, Nat.reduceMul, Nat.reduceSub, Nat.reduceEqDiff, reduceCtorEq, wob, tupR, encPs_len, k1, k2, k3, k4, k5, e1, e2]; exact rfl) ?_ ?_)
    | (refine aw_draw (id := 3) (t := (.node [0, 1, 2, 3, 4, 5, 6, 7, 8, 9, 10, 11, 12] [])) (drR [5, 4] [] []) mixed (by kernel_rfl) (by kernel_rfl) (fun _ _ h => h) ?_)
    | (refine aw_draw (id := 5) (t := (.node [0, 1, 2, 3, 4, 5, 6, 7, 8, 9, 10, 11, 12, 13, 14] [])) (drR [4] [] []) mixed (by kernel_rfl) (by kernel_rfl) (fun _ _ h => h) ?_)
    | (refine aw_draw (id := 7) (t := (.node [0, 1, 3, 2, 4, 5, 6] [])) (drR [4] [] []) mixed (by kernel_rfl) (by kernel_rfl) (fun _ _ h => h) ?_)
    | (refine at_done (by simp only [List.filterMap_cons, List.filterMap_nil, List.getElem?_toArray, List.getElem?_cons_zero, List.getElem?_cons_succ]; exact rfl) ?_) | (refine at_alt (by simp only [List.filterMap_cons, List.filterMap_nil, List.getElem?_toArray, List.getElem?_cons_zero, List.getElem?_cons_succ]; exact rfl) ?_) | refine qalt_normal ?_ | refine ats_cons ?_ ?_ | exact ats_nil
    | ((with_reducible refine ald_id ?_); refine go_runD (tyOf_ok _) [] (by simp only [go_sem, Nat.reduceBEq, Nat.reduceBneDiff, Nat.reduceLT, Nat.reduceLeDiff, Nat.reduceAdd, Nat.reduceMul, Nat.reduceSub, Nat.reduceEqDiff, reduceCtorEq, wob, tupR, encPs_len, k1, k2, k3, k4, k5, e1, e2]; exact rfl) ?_ ?_)
    | (refine aw_cond (by simp only [go_sem, Nat.reduceBEq, Nat.reduceBneDiff, Nat.reduceLT, Nat.reduceLeDiff, Nat.reduceAdd, Nat.reduceMul, Nat.reduceSub, Nat.reduceEqDiff, reduceCtorEq, wob, tupR, encPs_len, k1, k2, k3, k4, k5, e1, e2]; exact rfl) (by simp only [go_sem, Nat.reduceBEq, Nat.reduceBneDiff, Nat.reduceLT, Nat.reduceLeDiff, Nat.reduceAdd, Nat.reduceMul, Nat.reduceSub, Nat.reduceEqDiff, reduceCtorEq]) (fun h => ?_) (fun h => ?_) <;> (try simp only [decide_eq_true_eq, decide_eq_false_iff_not, Bool.not_eq_true', Bool.not_eq_false', Bool.or_eq_true, Bool.or_eq_false_iff, Bool.and_eq_true, Bool.and_eq_false_iff, Decidable.not_not, reduceCtorEq] at h) <;> (try (exfalso; omega)))
    | (first | refine aendG_ret (by simp only [go_sem, Nat.reduceBEq, Nat.reduceBneDiff, Nat.reduceLT, Nat.reduceLeDiff, Nat.reduceAdd, Nat.reduceMul, Nat.reduceSub, Nat.reduceEqDiff, reduceCtorEq, wob, tupR, encPs_len, k1, k2, k3, k4, k5, e1, e2]; exact rfl) ?_ ?_ ?_ | refine aendG_normal (by simp only [go_sem, Nat.reduceBEq, Nat.reduceBneDiff, Nat.reduceLT, Nat.reduceLeDiff, Nat.reduceAdd, Nat.reduceMul, Nat.reduceSub, Nat.reduceEqDiff, reduceCtorEq, wob, tupR, encPs_len, k1, k2, k3, k4, k5, e1, e2]; exact rfl) ?_ ?_ ?_)
    | (refine go_call0 92 (vB true) (by simp only [go_sem, Nat.reduceBEq, Nat.reduceBneDiff, Nat.reduceLT, Nat.reduceLeDiff, Nat.reduceAdd, Nat.reduceMul, Nat.reduceSub, Nat.reduceEqDiff, reduceCtorEq, wob, tupR, encPs_len, k1, k2, k3, k4, k5, e1, e2]; exact rfl) ?_ ?_) | fail)) <;> (try omega)
    all_goals (first | exact AV.up_rfl _ | exact obUp_cons rfl (obUp_cons rfl obUp_nil))
  have e2 : (x.n < v.kids) = False := eq_false h2
  have hc := kids_any W (t := x.elem.toNat) (by omega) H v.kids.toNat (by omega) ls hl
  rw [Int.toNat_of_nonneg he.1, Int.toNat_of_nonneg (by omega)] at hc
  by_cases hi : isN v 3 v.kids = true
  · rw [if_pos ⟨by omega, by omega, hi⟩]
    generalize kidsW X rec x.elem v.kids.toNat 0 ls = r at *
    obtain ⟨n, ok, ls'⟩ := r
    (repeat' (first
    | exact trivial
    | (with_reducible first | refine aw_seq ?_ | refine aw_block ?_ | refine aw_skip ?_ | refine aw_ret ?_ | refine aw_exit ?_ | refine aseq_normal ?_ | refine aseq_ret ?_ | refine aseq_exit ?_ | refine ablk_normal ?_ | refine ablk_ret ?_ | refine ablk_hit ?_ | refine aw_region ?_ | refine go_nil ?_ | refine al_of ?_)
    | with_reducible refine ablk_miss (by decide) ?_
    | ((with_reducible refine al_id ?_); refine go_run (tyOf_ok _) [] (by simp only [go_sem, Nat.reduceBEq, Nat.reduceBneDiff, Nat.reduceLT, Nat.reduceLeDiff, Nat.reduceAdd, Nat.reduceMul, Nat.reduceSub, Nat.reduceEqDiff, reduceCtorEq, wob, tupR, encPs_len, k1, k2, k3, k4, k5, e1, e2, hi]; exact rfl) ?_ ?_)
    | (refine aw_draw (id := 3) (t := (.node [0, 1, 2, 3, 4, 5, 6, 7, 8, 9, 10, 11, 12] [])) (drR [5, 4] [] []) mixed (by kernel_rfl) (by kernel_rfl) (fun _ _ h => h) ?_)
    | (refine aw_draw (id := 5) (t := (.node [0, 1, 2, 3, 4, 5, 6, 7, 8, 9, 10, 11, 12, 13, 14] [])) (drR [4] [] []) mixed (by kernel_rfl) (by kernel_rfl) (fun _ _ h => h) ?_)
    | (refine aw_draw (id := 7) (t := (.node [0, 1, 3, 2, 4, 5, 6] [])) (drR [4] [] []) mixed (by kernel_rfl) (by kernel_rfl) (fun _ _ h => h) ?_)
    | (refine at_done (by simp only [List.filterMap_cons, List.filterMap_nil, List.getElem?_toArray, List.getElem?_cons_zero, List.getElem?_cons_succ]; exact rfl) ?_) | (refine at_alt (by simp only [List.filterMap_cons, List.filterMap_nil, List.getElem?_toArray, List.getElem?_cons_zero, List.getElem?_cons_succ]; exact rfl) ?_) | refine qalt_normal ?_ | refine ats_cons ?_ ?_ | exact ats_nil
    | ((with_reducible refine ald_id ?_); refine go_runD (tyOf_ok _) [] (by simp only [go_sem, Nat.reduceBEq, Nat.reduceBneDiff, Nat.reduceLT, Nat.reduceLeDiff, Nat.reduceAdd, Nat.reduceMul, Nat.reduceSub, Nat.reduceEqDiff, reduceCtorEq, wob, tupR, encPs_len, k1, k2, k3, k4, k5, e1, e2, hi]; exact rfl) ?_ ?_)
    | (refine aw_cond (by simp only [go_sem, Nat.reduceBEq, Nat.reduceBneDiff, Nat.reduceLT, Nat.reduceLeDiff, Nat.reduceAdd, Nat.reduceMul, Nat.reduceSub, Nat.reduceEqDiff, reduceCtorEq, wob, tupR, encPs_len, k1, k2, k3, k4, k5, e1, e2, hi]; exact rfl) (by simp only [go_sem, Nat.reduceBEq, Nat.reduceBneDiff, Nat.reduceLT, Nat.reduceLeDiff, Nat.reduceAdd, Nat.reduceMul, Nat.reduceSub, Nat.reduceEqDiff, reduceCtorEq]) (fun h => ?_) (fun h => ?_) <;> (try simp only [decide_eq_true_eq, decide_eq_false_iff_not, Bool.not_eq_true', Bool.not_eq_false', Bool.or_eq_true, Bool.or_eq_false_iff, Bool.and_eq_true, Bool.and_eq_false_iff, Decidable.not_not, reduceCtorEq] at h) <;> (try (exfalso; omega)))
    | (first | refine aendG_ret (by simp only [go_sem, Nat.reduceBEq, Nat.reduceBneDiff, Nat.reduceLT, Nat.reduceLeDiff, Nat.reduceAdd, Nat.reduceMul, Nat.reduceSub, Nat.reduceEqDiff, reduceCtorEq, wob, tupR, encPs_len, k1, k2, k3, k4, k5, e1, e2, hi]; exact rfl) ?_ ?_ ?_ | refine aendG_normal (by simp only [go_sem, Nat.reduceBEq, Nat.reduceBneDiff, Nat.reduceLT, Nat.reduceLeDiff, Nat.reduceAdd, Nat.reduceMul, Nat.reduceSub, Nat.reduceEqDiff, reduceCtorEq, wob, tupR, encPs_len, k1, k2, k3, k4, k5, e1, e2, hi]; exact rfl) ?_ ?_ ?_)
    | (refine go_call (by simp only [go_sem, Nat.reduceBEq, Nat.reduceBneDiff, Nat.reduceLT, Nat.reduceLeDiff, Nat.reduceAdd, Nat.reduceMul, Nat.reduceSub, Nat.reduceEqDiff, reduceCtorEq, wob, tupR, encPs_len, k1, k2, k3, k4, k5, e1, e2, hi]; exact rfl) ?_ (fun _ => is_any v 3 v.kids) rfl ?_)
    | (refine go_callG [(10000, 10000), (15000, 15000)] [(10000, 10000), (15000, 15000)] [15000] [10000] (by simp only [go_sem, Nat.reduceBEq, Nat.reduceBneDiff, Nat.reduceLT, Nat.reduceLeDiff, Nat.reduceAdd, Nat.reduceMul, Nat.reduceSub, Nat.reduceEqDiff, reduceCtorEq, wob, tupR, encPs_len, k1, k2, k3, k4, k5, e1, e2, hi]; exact rfl) ?_ rfl rfl (by first | exact .inl rfl | exact .inr rfl) (by simp only [go_sem, Nat.reduceBEq, Nat.reduceBneDiff, Nat.reduceLT, Nat.reduceLeDiff, Nat.reduceAdd, Nat.reduceMul, Nat.reduceSub, Nat.reduceEqDiff, reduceCtorEq, wob, tupR, encPs_len, k1, k2, k3, k4, k5, e1, e2, hi] <;> exact rfl) (hc) (.inl rfl) ?_) | fail)) <;> (try omega)
    all_goals (first | exact AV.up_rfl _ | exact obUp_cons rfl (obUp_cons rfl obUp_nil))
  · have e0 : isN v 3 v.kids = false := by simpa using hi
    rw [if_neg (by rintro ⟨_, _, h⟩; exact hi h)]
    (repeat' (first
    | exact trivial
    | (with_reducible first | refine aw_seq ?_ | refine aw_block ?_ | refine aw_skip ?_ | refine aw_ret ?_ | refine aw_exit ?_ | refine aseq_normal ?_ | refine aseq_ret ?_ | refine aseq_exit ?_ | refine ablk_normal ?_ | refine ablk_ret ?_ | refine ablk_hit ?_ | refine aw_region ?_ | refine go_nil ?_ | refine al_of ?_)
    | with_reducible refine ablk_miss (by decide) ?_
    | ((with_reducible refine al_id ?_); refine go_run (tyOf_ok _) [] (by simp only [go_sem, Nat.reduceBEq, Nat.reduceBneDiff, Nat.reduceLT, Nat.reduceLeDiff, Nat.reduceAdd, Nat.reduceMul, Nat.reduceSub, Nat.reduceEqDiff, reduceCtorEq, wob, tupR, encPs_len, k1, k2, k3, k4, k5, e1, e2, e0]; exact rfl) ?_ ?_)
    | (refine aw_draw (id := 3) (t := (.node [0, 1, 2, 3, 4, 5, 6, 7, 8, 9, 10, 11, 12] [])) (drR [5, 4] [] []) mixed (by kernel_rfl) (by kernel_rfl) (fun _ _ h => h) ?_)
    | (refine aw_draw (id := 5) (t := (.node [0, 1, 2, 3, 4, 5, 6, 7, 8, 9, 10, 11, 12, 13, 14] [])) (drR [4] [] []) mixed (by kernel_rfl) (by kernel_rfl) (fun _ _ h => h) ?_)
    | (refine aw_draw (id := 7) (t := (.node [0, 1, 3, 2, 4, 5, 6] [])) (drR [4] [] []) mixed (by kernel_rfl) (by kernel_rfl) (fun _ _ h => h) ?_)
    | (refine at_done (by simp only [List.filterMap_cons, List.filterMap_nil, List.getElem?_toArray, List.getElem?_cons_zero, List.getElem?_cons_succ]; exact rfl) ?_) | (refine at_alt (by simp only [List.filterMap_cons, List.filterMap_nil, List.getElem?_toArray, List.getElem?_cons_zero, List.getElem?_cons_succ]; exact rfl) ?_) | refine qalt_normal ?_ | refine ats_cons ?_ ?_ | exact ats_nil
    | ((with_reducible refine ald_id ?_); refine go_runD (tyOf_ok _) [] (by simp only [go_sem, Nat.reduceBEq, Nat.reduceBneDiff, Nat.reduceLT, Nat.reduceLeDiff, Nat.reduceAdd, Nat.reduceMul, Nat.reduceSub, Nat.reduceEqDiff, reduceCtorEq, wob, tupR, encPs_len, k1, k2, k3, k4, k5, e1, e2, e0]; exact rfl) ?_ ?_)
    | (refine aw_cond (by simp only [go_sem, Nat.reduceBEq, Nat.reduceBneDiff, Nat.reduceLT, Nat.reduceLeDiff, Nat.reduceAdd, Nat.reduceMul, Nat.reduceSub, Nat.reduceEqDiff, reduceCtorEq, wob, tupR, encPs_len, k1, k2, k3, k4, k5, e1, e2, e0]; exact rfl) (by simp only [go_sem, Nat.reduceBEq, Nat.reduceBneDiff, Nat.reduceLT, Nat.reduceLeDiff, Nat.reduceAdd, Nat.reduceMul, Nat.reduceSub, Nat.reduceEqDiff, reduceCtorEq]) (fun h => ?_) (fun h => ?_) <;> (try simp only [decide_eq_true_eq, decide_eq_false_iff_not, Bool.not_eq_true', Bool.not_eq_false', Bool.or_eq_true, Bool.or_eq_false_iff, Bool.and_eq_true, Bool.and_eq_false_iff, Decidable.not_not, reduceCtorEq] at h) <;> (try (exfalso; omega)))
    | (first | refine aendG_ret (by simp only [go_sem, Nat.reduceBEq, Nat.reduceBneDiff, Nat.reduceLT, Nat.reduceLeDiff, Nat.reduceAdd, Nat.reduceMul, Nat.reduceSub, Nat.reduceEqDiff, reduceCtorEq, wob, tupR, encPs_len, k1, k2, k3, k4, k5, e1, e2, e0]; exact rfl) ?_ ?_ ?_ | refine aendG_normal (by simp only [go_sem, Nat.reduceBEq, Nat.reduceBneDiff, Nat.reduceLT, Nat.reduceLeDiff, Nat.reduceAdd, Nat.reduceMul, Nat.reduceSub, Nat.reduceEqDiff, reduceCtorEq, wob, tupR, encPs_len, k1, k2, k3, k4, k5, e1, e2, e0]; exact rfl) ?_ ?_ ?_)
    | (refine go_call (by simp only [go_sem, Nat.reduceBEq, Nat.reduceBneDiff, Nat.reduceLT, Nat.reduceLeDiff, Nat.reduceAdd, Nat.reduceMul, Nat.reduceSub, Nat.reduceEqDiff, reduceCtorEq, wob, tupR, encPs_len, k1, k2, k3, k4, k5, e1, e2, e0]; exact rfl) ?_ (fun _ => is_any v 3 v.kids) rfl ?_) | fail)) <;> (try omega)
    all_goals (first | exact AV.up_rfl _ | exact obUp_cons rfl (obUp_cons rfl obUp_nil))
theorem node_6 (x : TypeM) (hk : x.kind = 6) (H : RecAt ts rs X V rec x.elem.toNat) (he : 0 ≤ x.elem) (v : NodeM) (ls : List Int) (hl : ls.length ≤ V.length) :
    NodeAt ts rs X V v x ls (nodeW X rec v x ls) := by
  unfold NodeAt
  rw [nodeW, if_neg (by omega), if_neg (by omega), if_neg (by omega), if_neg (by omega), if_neg (by omega), if_pos hk]
  refine go_fnG (tyOf_ok _) Try.func75 rfl rfl (by rw [Try.results75]) Try.ntmps75 rfl fun E => ?_
  have k1 : (x.kind = 1) = False := eq_false (by omega)
  have k2 : (x.kind = 2) = False := eq_false (by omega)
  have k3 : (x.kind = 3) = False := eq_false (by omega)
  have k4 : (x.kind = 4) = False := eq_false (by omega)
  have k5 : (x.kind = 5) = False := eq_false (by omega)
  have k6 : (x.kind = 6) = True := eq_true hk
  by_cases h1 : v.kids < 0
  · have e1 : (v.kids < 0) = True := eq_true h1
    rw [if_neg (by omega)]
    (repeat' (first
    | exact trivial
    | (with_reducible first | refine aw_seq ?_ | refine aw_block ?_ | refine aw_skip ?_ | refine aw_ret ?_ | refine aw_exit ?_ | refine aseq_normal ?_ | refine aseq_ret ?_ | refine aseq_exit ?_ | refine ablk_normal ?_ | refine ablk_ret ?_ | refine ablk_hit ?_ | refine aw_region ?_ | refine go_nil ?_ | refine al_of ?_)
    | with_reducible refine ablk_miss (by decide) ?_
    | ((with_reducible refine al_id ?_); refine go_run (tyOf_ok _) [] (by simp only [go_sem, Nat.reduceBEq, Nat.reduceBneDiff, Nat.reduceLT, Nat.reduceLeDiff, Nat.reduceAdd, Nat.reduceMul, Nat.reduceSub, Nat.reduceEqDiff, reduceCtorEq, wob, tupR, encPs_len, k1, k2, k3, k4, k5, k6, e1]; exact rfl) ?_ ?_)
    | (refine aw_draw (id := 3) (t := (.node [0, 1, 2, 3, 4, 5, 6, 7, 8, 9, 10, 11, 12] [])) (drR [5, 4] [] []) mixed (by kernel_rfl) (by kernel_rfl) (fun _ _ h => h) ?_)
    | (refine aw_draw (id := 5) (t := (.node [0, 1, 2, 3, 4, 5, 6, 7, 8, 9, 10, 11, 12, 13, 14] [])) (drR [4] [] []) mixed (by kernel_rfl) (by kernel_rfl) (fun _ _ h => h) ?_)
    | (refine aw_draw (id := 7) (t := (.node [0, 1, 3, 2, 4, 5, 6] [])) (drR [4] [] []) mixed (by kernel_rfl) (by kernel_rfl) (fun _ _ h => h) ?_)
    | (refine at_done (by simp only [List.filterMap_cons, List.filterMap_nil, List.getElem?_toArray, List.getElem?_cons_zero, List.getElem?_cons_succ]; exact rfl) ?_) | (refine at_alt (by simp only [List.filterMap_cons, List.filterMap_nil, List.getElem?_toArray, List.getElem?_cons_zero, List.getElem?_cons_succ]; exact rfl) ?_) | refine qalt_normal ?_ | refine ats_cons ?_ ?_ | exact ats_nil
    | ((with_reducible refine ald_id ?_); refine go_runD (tyOf_ok _) [] (by simp only [go_sem, Nat.reduceBEq, Nat.reduceBneDiff, Nat.reduceLT, Nat.reduceLeDiff, Nat.reduceAdd, Nat.reduceMul, Nat.reduceSub, Nat.reduceEqDiff, reduceCtorEq, wob, tupR, encPs_len, k1, k2, k3, k4, k5, k6, e1]; exact rfl) ?_ ?_)
    | (refine aw_cond (by simp only [go_sem, Nat.reduceBEq, Nat.reduceBneDiff, Nat.reduceLT, Nat.reduceLeDiff, Nat.reduceAdd, Nat.reduceMul, Nat.reduceSub, Nat.reduceEqDiff, reduceCtorEq, wob, tupR, encPs_len, k1, k2, k3, k4, k5, k6, e1]; exact rfl) (by simp only [go_sem, Nat.reduceBEq, Nat.reduceBneDiff, Nat.reduceLT, Nat.reduceLeDiff, Nat.reduceAdd, Nat.reduceMul, Nat.reduceSub, Nat.reduceEqDiff, reduceCtorEq]) (fun h => ?_) (fun h => ?_) <;> (try simp only [decide_eq_true_eq, decide_eq_false_iff_not, Bool.not_eq_true', Bool.not_eq_false', Bool.or_eq_true, Bool.or_eq_false_iff, Bool.and_eq_true, Bool.and_eq_false_iff, Decidable.not_not, reduceCtorEq] at h) <;> (try (exfalso; omega)))
    | (first | refine aendG_ret (by simp only [go_sem, Nat.reduceBEq, Nat.reduceBneDiff, Nat.reduceLT, Nat.reduceLeDiff, Nat.reduceAdd, Nat.reduceMul, Nat.reduceSub, Nat.reduceEqDiff, reduceCtorEq, wob, tupR, encPs_len, k1, k2, k3, k4, k5, k6, e1]; exact rfl) ?_ ?_ ?_ | refine aendG_normal (by simp only [go_sem, Nat.reduceBEq, Nat.reduceBneDiff, Nat.reduceLT, Nat.reduceLeDiff, Nat.reduceAdd, Nat.reduceMul, Nat.reduceSub, Nat.reduceEqDiff, reduceCtorEq, wob, tupR, encPs_len, k1, k2, k3, k4, k5, k6, e1]; exact rfl) ?_ ?_ ?_)
    | (refine go_call0 92 (vB true) (by simp only [go_sem, Nat.reduceBEq, Nat.reduceBneDiff, Nat.reduceLT, Nat.reduceLeDiff, Nat.reduceAdd, Nat.reduceMul, Nat.reduceSub, Nat.reduceEqDiff, reduceCtorEq, wob, tupR, encPs_len, k1, k2, k3, k4, k5, k6, e1]; exact rfl) ?_ ?_) | fail)) <;> (try omega)
    all_goals (first | exact AV.up_rfl _ | exact obUp_cons rfl (obUp_cons rfl obUp_nil))
  have e1 : (v.kids < 0) = False := eq_false h1
  by_cases h2 : 1 < v.kids
  · have e2 : (1 < v.kids) = True := eq_true h2
    rw [if_neg (by omega)]
    (repeat' (first
    | exact trivial
    | (with_reducible first | refine aw_seq ?_ | refine aw_block ?_ | refine aw_skip ?_ | refine aw_ret ?_ | refine aw_exit ?_ | refine aseq_normal ?_ | refine aseq_ret ?_ | refine aseq_exit ?_ | refine ablk_normal ?_ | refine ablk_ret ?_ | refine ablk_hit ?_ | refine aw_region ?_ | refine go_nil ?_ | refine al_of ?_)
    | with_reducible refine ablk_miss (by decide) ?_
    | ((with_reducible refine al_id ?_); refine go_run (tyOf_ok _) [] (by simp only [go_sem, Nat.reduceBEq, Nat.reduceBneDiff, Nat.reduceLT, Nat.reduceLeDiff, Nat.reduceAdd, Nat.reduceMul, Nat.reduceSub, Nat.reduceEqDiff, reduceCtorEq, wob, tupR, encPs_len, k1, k2, k3, k4, k5, k6, e1, e2]; exact rfl) ?_ ?_)
    | (refine aw_draw (id := 3) (t := (.node [0, 1, 2, 3, 4, 5, 6, 7, 8, 9, 10, 11, 12] [])) (drR [5, 4] [] []) mixed (by kernel_rfl) (by kernel_rfl) (fun _ _ h => h) ?_)
    | (refine aw_draw (id := 5) (t := (.node [0, 1, 2, 3, 4, 5, 6, 7, 8, 9, 10, 11, 12, 13, 14] [])) (drR [4] [] []) mixed (by kernel_rfl) (by kernel_rfl) (fun _ _ h => h) ?_)
    | (refine aw_draw (id := 7) (t := (.node [0, 1, 3, 2, 4, 5, 6] [])) (drR [4] [] []) mixed (by kernel_rfl) (by kernel_rfl) (fun _ _ h => h) ?_)
    | (refine at_done (by simp only [List.filterMap_cons, List.filterMap_nil, List.getElem?_toArray, List.getElem?_cons_zero, List.getElem?_cons_succ]; exact rfl) ?_) | (refine at_alt (by simp only [List.filterMap_cons, List.filterMap_nil, List.getElem?_toArray, List.getElem?_cons_zero, List.getElem?_cons_succ]; exact rfl) ?_) | refine qalt_normal ?_ | refine ats_cons ?_ ?_ | exact ats_nil
    | ((with_reducible refine ald_id ?_); refine go_runD (tyOf_ok _) [] (by simp only [go_sem, Nat.reduceBEq, Nat.reduceBneDiff, Nat.reduceLT, Nat.reduceLeDiff, Nat.reduceAdd, Nat.reduceMul, Nat.reduceSub, Nat.reduceEqDiff, reduceCtorEq, wob, tupR, encPs_len, k1, k2, k3, k4, k5, k6, e1, e2]; exact rfl) ?_ ?_)
    | (refine aw_cond (by simp only [go_sem, Nat.reduceBEq, Nat.reduceBneDiff, Nat.reduceLT, Nat.reduceLeDiff, Nat.reduceAdd, Nat.reduceMul, Nat.reduceSub, Nat.reduceEqDiff, reduceCtorEq, wob, tupR, encPs_len, k1, k2, k3, k4, k5, k6, e1, e2]; exact rfl) (by simp only [go_sem, Nat.reduceBEq, Nat.reduceBneDiff, Nat.reduceLT, Nat.reduceLeDiff, Nat.reduceAdd, Nat.reduceMul, Nat.reduceSub, Nat.reduceEqDiff, reduceCtorEq]) (fun h => ?_) (fun h => ?_) <;> (try simp only [decide_eq_true_eq, decide_eq_false_iff_not, Bool.not_eq_true', Bool.not_eq_false', Bool.or_eq_true, Bool.or_eq_false_iff, Bool.and_eq_true, Bool.and_eq_false_iff, Decidable.not_not, reduceCtorEq] at h) <;> (try (exfalso; omega)))
    | (first | refine aendG_ret (by simp only [go_sem, Nat.reduceBEq, Nat.reduceBneDiff, Nat.reduceLT, Nat.reduceLeDiff, Nat.reduceAdd, Nat.reduceMul, Nat.reduceSub, Nat.reduceEqDiff, reduceCtorEq, wob, tupR, encPs_len, k1, k2, k3, k4, k5, k6, e1, e2]; exact rfl) ?_ ?_ ?_ | refine aendG_normal (by simp only [go_sem, Nat.reduceBEq, Nat.reduceBneDiff, Nat.reduceLT, Nat.reduceLeDiff, Nat.reduceAdd, Nat.reduceMul, Nat.reduceSub, Nat.reduceEqDiff, reduceCtorEq, wob, tupR, encPs_len, k1, k2, k3, k4, k5, k6, e1, e2]; exact rfl) ?_ ?_ ?_)
    | (refine go_call0 92 (vB true) (by simp only [go_sem, Nat.reduceBEq, Nat.reduceBneDiff, Nat.reduceLT, Nat.reduceLeDiff, Nat.reduceAdd, Nat.reduceMul, Nat.reduceSub, Nat.reduceEqDiff, reduceCtorEq, wob, tupR, encPs_len, k1, k2, k3, k4, k5, k6, e1, e2]; exact rfl) ?_ ?_) | fail)) <;> (try omega)
    all_goals (first | exact AV.up_rfl _ | exact obUp_cons rfl (obUp_cons rfl obUp_nil))
  have e2 : (1 < v.kids) = False := eq_false h2
  by_cases hi : isN v 5 v.kids = true
  · rw [if_pos ⟨by omega, by omega, hi⟩]
    by_cases h0 : v.kids = 0
    · have e3 : (v.kids = 0) = True := eq_true h0
      rw [if_pos h0]
      (repeat' (first
    | exact trivial
    | (with_reducible first | refine aw_seq ?_ | refine aw_block ?_ | refine aw_skip ?_ | refine aw_ret ?_ | refine aw_exit ?_ | refine aseq_normal ?_ | refine aseq_ret ?_ | refine aseq_exit ?_ | refine ablk_normal ?_ | refine ablk_ret ?_ | refine ablk_hit ?_ | refine aw_region ?_ | refine go_nil ?_ | refine al_of ?_)
    | with_reducible refine ablk_miss (by decide) ?_
    | ((with_reducible refine al_id ?_); refine go_run (tyOf_ok _) [] (by simp only [go_sem, Nat.reduceBEq, Nat.reduceBneDiff, Nat.reduceLT, Nat.reduceLeDiff, Nat.reduceAdd, Nat.reduceMul, Nat.reduceSub, Nat.reduceEqDiff, reduceCtorEq, wob, tupR, encPs_len, k1, k2, k3, k4, k5, k6, e1, e2, e3, hi]; exact rfl) ?_ ?_)
    | (refine aw_draw (id := 3) (t := (.node [0, 1, 2, 3, 4, 5, 6, 7, 8, 9, 10, 11, 12] [])) (drR [5, 4] [] []) mixed (by kernel_rfl) (by kernel_rfl) (fun _ _ h => h) ?_)
    | (refine aw_draw (id := 5) (t := (.node [0, 1, 2, 3, 4, 5, 6, 7, 8, 9, 10, 11, 12, 13, 14] [])) (drR [4] [] []) mixed (by kernel_rfl) (by kernel_rfl) (fun _ _ h => h) ?_)
    | (refine aw_draw (id := 7) (t := (.node [0, 1, 3, 2, 4, 5, 6] [])) (drR [4] [] []) mixed (by kernel_rfl) (by kernel_rfl) (fun _ _ h => h) ?_)
    | (refine at_done (by simp only [List.filterMap_cons, List.filterMap_nil, List.getElem?_toArray, List.getElem?_cons_zero, List.getElem?_cons_succ]; exact rfl) ?_) | (refine at_alt (by simp only [List.filterMap_cons, List.filterMap_nil, List.getElem?_toArray, List.getElem?_cons_zero, List.getElem?_cons_succ]; exact rfl) ?_) | refine qalt_normal ?_ | refine ats_cons ?_ ?_ | exact ats_nil
    | ((with_reducible refine ald_id ?_); refine go_runD (tyOf_ok _) [] (by simp only [go_sem, Nat.reduceBEq, Nat.reduceBneDiff, Nat.reduceLT, Nat.reduceLeDiff, Nat.reduceAdd, Nat.reduceMul, Nat.reduceSub, Nat.reduceEqDiff, reduceCtorEq, wob, tupR, encPs_len, k1, k2, k3, k4, k5, k6, e1, e2, e3, hi]; exact rfl) ?_ ?_)
    | (refine aw_cond (by simp only [go_sem, Nat.reduceBEq, Nat.reduceBneDiff, Nat.reduceLT, Nat.reduceLeDiff, Nat.reduceAdd, Nat.reduceMul, Nat.reduceSub, Nat.reduceEqDiff, reduceCtorEq, wob, tupR, encPs_len, k1, k2, k3, k4, k5, k6, e1, e2, e3, hi]; exact rfl) (by simp only [go_sem, Nat.reduceBEq, Nat.reduceBneDiff, Nat.reduceLT, Nat.reduceLeDiff, Nat.reduceAdd, Nat.reduceMul, Nat.reduceSub, Nat.reduceEqDiff, reduceCtorEq]) (fun h => ?_) (fun h => ?_) <;> (try simp only [decide_eq_true_eq, decide_eq_false_iff_not, Bool.not_eq_true', Bool.not_eq_false', Bool.or_eq_true, Bool.or_eq_false_iff, Bool.and_eq_true, Bool.and_eq_false_iff, Decidable.not_not, reduceCtorEq] at h) <;> (try (exfalso; omega)))
    | (first | refine aendG_ret (by simp only [go_sem, Nat.reduceBEq, Nat.reduceBneDiff, Nat.reduceLT, Nat.reduceLeDiff, Nat.reduceAdd, Nat.reduceMul, Nat.reduceSub, Nat.reduceEqDiff, reduceCtorEq, wob, tupR, encPs_len, k1, k2, k3, k4, k5, k6, e1, e2, e3, hi]; exact rfl) ?_ ?_ ?_ | refine aendG_normal (by simp only [go_sem, Nat.reduceBEq, Nat.reduceBneDiff, Nat.reduceLT, Nat.reduceLeDiff, Nat.reduceAdd, Nat.reduceMul, Nat.reduceSub, Nat.reduceEqDiff, reduceCtorEq, wob, tupR, encPs_len, k1, k2, k3, k4, k5, k6, e1, e2, e3, hi]; exact rfl) ?_ ?_ ?_)
    | (refine go_call (by simp only [go_sem, Nat.reduceBEq, Nat.reduceBneDiff, Nat.reduceLT, Nat.reduceLeDiff, Nat.reduceAdd, Nat.reduceMul, Nat.reduceSub, Nat.reduceEqDiff, reduceCtorEq, wob, tupR, encPs_len, k1, k2, k3, k4, k5, k6, e1, e2, e3, hi]; exact rfl) ?_ (fun _ => is_any v 5 v.kids) rfl ?_) | fail)) <;> (try omega)
      all_goals (first | exact AV.up_rfl _ | exact obUp_cons rfl (obUp_cons rfl obUp_nil))
    · have e3 : (v.kids = 0) = False := eq_false h0
      rw [if_neg h0]
      obtain ⟨hc, hb⟩ := H ls hl
      rw [Int.toNat_of_nonneg he] at hc
      generalize rec x.elem.toNat ls = r at *
      obtain ⟨n, ok, ls'⟩ := r
      have hpl := plus_p (zs := [1, n]) (by intro z hz; simp at hz; have := hb.1; simp only at this; rcases hz with rfl | rfl <;> (unfold I64; omega))
      (repeat' (first
    | exact trivial
    | (with_reducible first | refine aw_seq ?_ | refine aw_block ?_ | refine aw_skip ?_ | refine aw_ret ?_ | refine aw_exit ?_ | refine aseq_normal ?_ | refine aseq_ret ?_ | refine aseq_exit ?_ | refine ablk_normal ?_ | refine ablk_ret ?_ | refine ablk_hit ?_ | refine aw_region ?_ | refine go_nil ?_ | refine al_of ?_)
    | with_reducible refine ablk_miss (by decide) ?_
    | ((with_reducible refine al_id ?_); refine go_run (tyOf_ok _) [] (by simp only [go_sem, Nat.reduceBEq, Nat.reduceBneDiff, Nat.reduceLT, Nat.reduceLeDiff, Nat.reduceAdd, Nat.reduceMul, Nat.reduceSub, Nat.reduceEqDiff, reduceCtorEq, wob, tupR, encPs_len, k1, k2, k3, k4, k5, k6, e1, e2, e3, hi]; exact rfl) ?_ ?_)
    | (refine aw_draw (id := 3) (t := (.node [0, 1, 2, 3, 4, 5, 6, 7, 8, 9, 10, 11, 12] [])) (drR [5, 4] [] []) mixed (by kernel_rfl) (by kernel_rfl) (fun _ _ h => h) ?_)
    | (refine aw_draw (id := 5) (t := (.node [0, 1, 2, 3, 4, 5, 6, 7, 8, 9, 10, 11, 12, 13, 14] [])) (drR [4] [] []) mixed (by kernel_rfl) (by kernel_rfl) (fun _ _ h => h) ?_)
    | (refine aw_draw (id := 7) (t := (.node [0, 1, 3, 2, 4, 5, 6] [])) (drR [4] [] []) mixed (by kernel_rfl) (by kernel_rfl) (fun _ _ h => h) ?_)
    | (refine at_done (by simp only [List.filterMap_cons, List.filterMap_nil, List.getElem?_toArray, List.getElem?_cons_zero, List.getElem?_cons_succ]; exact rfl) ?_) | (refine at_alt (by simp only [List.filterMap_cons, List.filterMap_nil, List.getElem?_toArray, List.getElem?_cons_zero, List.getElem?_cons_succ]; exact rfl) ?_) | refine qalt_normal ?_ | refine ats_cons ?_ ?_ | exact ats_nil
    | ((with_reducible refine ald_id ?_); refine go_runD (tyOf_ok _) [] (by simp only [go_sem, Nat.reduceBEq, Nat.reduceBneDiff, Nat.reduceLT, Nat.reduceLeDiff, Nat.reduceAdd, Nat.reduceMul, Nat.reduceSub, Nat.reduceEqDiff, reduceCtorEq, wob, tupR, encPs_len, k1, k2, k3, k4, k5, k6, e1, e2, e3, hi]; exact rfl) ?_ ?_)
    | (refine aw_cond (by simp only [go_sem, Nat.reduceBEq, Nat.reduceBneDiff, Nat.reduceLT, Nat.reduceLeDiff, Nat.reduceAdd, Nat.reduceMul, Nat.reduceSub, Nat.reduceEqDiff, reduceCtorEq, wob, tupR, encPs_len, k1, k2, k3, k4, k5, k6, e1, e2, e3, hi]; exact rfl) (by simp only [go_sem, Nat.reduceBEq, Nat.reduceBneDiff, Nat.reduceLT, Nat.reduceLeDiff, Nat.reduceAdd, Nat.reduceMul, Nat.reduceSub, Nat.reduceEqDiff, reduceCtorEq]) (fun h => ?_) (fun h => ?_) <;> (try simp only [decide_eq_true_eq, decide_eq_false_iff_not, Bool.not_eq_true', Bool.not_eq_false', Bool.or_eq_true, Bool.or_eq_false_iff, Bool.and_eq_true, Bool.and_eq_false_iff, Decidable.not_not, reduceCtorEq] at h) <;> (try (exfalso; omega)))
    | (first | refine aendG_ret (by simp only [go_sem, Nat.reduceBEq, Nat.reduceBneDiff, Nat.reduceLT, Nat.reduceLeDiff, Nat.reduceAdd, Nat.reduceMul, Nat.reduceSub, Nat.reduceEqDiff, reduceCtorEq, wob, tupR, encPs_len, k1, k2, k3, k4, k5, k6, e1, e2, e3, hi]; exact rfl) ?_ ?_ ?_ | refine aendG_normal (by simp only [go_sem, Nat.reduceBEq, Nat.reduceBneDiff, Nat.reduceLT, Nat.reduceLeDiff, Nat.reduceAdd, Nat.reduceMul, Nat.reduceSub, Nat.reduceEqDiff, reduceCtorEq, wob, tupR, encPs_len, k1, k2, k3, k4, k5, k6, e1, e2, e3, hi]; exact rfl) ?_ ?_ ?_)
    | (refine go_call (by simp only [go_sem, Nat.reduceBEq, Nat.reduceBneDiff, Nat.reduceLT, Nat.reduceLeDiff, Nat.reduceAdd, Nat.reduceMul, Nat.reduceSub, Nat.reduceEqDiff, reduceCtorEq, wob, tupR, encPs_len, k1, k2, k3, k4, k5, k6, e1, e2, e3, hi]; exact rfl) ?_ (fun _ => is_any v 5 v.kids) rfl ?_)
    | (refine go_callG [(10000, 10000), (15000, 15000)] [(10000, 10000), (15000, 15000)] [15000] [10000] (by simp only [go_sem, Nat.reduceBEq, Nat.reduceBneDiff, Nat.reduceLT, Nat.reduceLeDiff, Nat.reduceAdd, Nat.reduceMul, Nat.reduceSub, Nat.reduceEqDiff, reduceCtorEq, wob, tupR, encPs_len, k1, k2, k3, k4, k5, k6, e1, e2, e3, hi]; exact rfl) ?_ rfl rfl (by first | exact .inl rfl | exact .inr rfl) (by simp only [go_sem, Nat.reduceBEq, Nat.reduceBneDiff, Nat.reduceLT, Nat.reduceLeDiff, Nat.reduceAdd, Nat.reduceMul, Nat.reduceSub, Nat.reduceEqDiff, reduceCtorEq, wob, tupR, encPs_len, k1, k2, k3, k4, k5, k6, e1, e2, e3, hi] <;> exact rfl) (hc) (.inl rfl) ?_)
    | (refine go_call (by simp only [go_sem, Nat.reduceBEq, Nat.reduceBneDiff, Nat.reduceLT, Nat.reduceLeDiff, Nat.reduceAdd, Nat.reduceMul, Nat.reduceSub, Nat.reduceEqDiff, reduceCtorEq, wob, tupR, encPs_len, k1, k2, k3, k4, k5, k6, e1, e2, e3, hi]; exact rfl) ?_ (fun _ => hpl) rfl ?_) | fail)) <;> (try omega)
      all_goals (first | exact AV.up_rfl _ | exact obUp_cons rfl (obUp_cons rfl obUp_nil))
  · have e0 : isN v 5 v.kids = false := by simpa using hi
    rw [if_neg (by rintro ⟨_, _, h⟩; exact hi h)]
    (repeat' (first
    | exact trivial
    | (with_reducible first | refine aw_seq ?_ | refine aw_block ?_ | refine aw_skip ?_ | refine aw_ret ?_ | refine aw_exit ?_ | refine aseq_normal ?_ | refine aseq_ret ?_ | refine aseq_exit ?_ | refine ablk_normal ?_ | refine ablk_ret ?_ | refine ablk_hit ?_ | refine aw_region ?_ | refine go_nil ?_ | refine al_of ?_)
    | with_reducible refine ablk_miss (by decide) ?_
    | ((with_reducible refine al_id ?_); refine go_run (tyOf_ok _) [] (by simp only [go_sem, Nat.reduceBEq, Nat.reduceBneDiff, Nat.reduceLT, Nat.reduceLeDiff, Nat.reduceAdd, Nat.reduceMul, Nat.reduceSub, Nat.reduceEqDiff, reduceCtorEq, wob, tupR, encPs_len, k1, k2, k3, k4, k5, k6, e1, e2, e0]; exact rfl) ?_ ?_)
    | (refine aw_draw (id := 3) (t := (.node [0, 1, 2, 3, 4, 5, 6, 7, 8, 9, 10, 11, 12] [])) (drR [5, 4] [] []) mixed (by kernel_rfl) (by kernel_rfl) (fun _ _ h => h) ?_)
    | (refine aw_draw (id := 5) (t := (.node [0, 1, 2, 3, 4, 5, 6, 7, 8, 9, 10, 11, 12, 13, 14] [])) (drR [4] [] []) mixed (by kernel_rfl) (by kernel_rfl) (fun _ _ h => h) ?_)
    | (refine aw_draw (id := 7) (t := (.node [0, 1, 3, 2, 4, 5, 6] [])) (drR [4] [] []) mixed (by kernel_rfl) (by kernel_rfl) (fun _ _ h => h) ?_)
    | (refine at_done (by simp only [List.filterMap_cons, List.filterMap_nil, List.getElem?_toArray, List.getElem?_cons_zero, List.getElem?_cons_succ]; exact rfl) ?_) | (refine at_alt (by simp only [List.filterMap_cons, List.filterMap_nil, List.getElem?_toArray, List.getElem?_cons_zero, List.getElem?_cons_succ]; exact rfl) ?_) | refine qalt_normal ?_ | refine ats_cons ?_ ?_ | exact ats_nil
    | ((with_reducible refine ald_id ?_); refine go_runD (tyOf_ok _) [] (by simp only [go_sem, Nat.reduceBEq, Nat.reduceBneDiff, Nat.reduceLT, Nat.reduceLeDiff, Nat.reduceAdd, Nat.reduceMul, Nat.reduceSub, Nat.reduceEqDiff, reduceCtorEq, wob, tupR, encPs_len, k1, k2, k3, k4, k5, k6, e1, e2, e0]; exact rfl) ?_ ?_)
    | (refine aw_cond (by simp only [go_sem, Nat.reduceBEq, Nat.reduceBneDiff, Nat.reduceLT, Nat.reduceLeDiff, Nat.reduceAdd, Nat.reduceMul, Nat.reduceSub, Nat.reduceEqDiff, reduceCtorEq, wob, tupR, encPs_len, k1, k2, k3, k4, k5, k6, e1, e2, e0]; exact rfl) (by simp only [go_sem, Nat.reduceBEq, Nat.reduceBneDiff, Nat.reduceLT, Nat.reduceLeDiff, Nat.reduceAdd, Nat.reduceMul, Nat.reduceSub, Nat.reduceEqDiff, reduceCtorEq]) (fun h => ?_) (fun h => ?_) <;> (try simp only [decide_eq_true_eq, decide_eq_false_iff_not, Bool.not_eq_true', Bool.not_eq_false', Bool.or_eq_true, Bool.or_eq_false_iff, Bool.and_eq_true, Bool.and_eq_false_iff, Decidable.not_not, reduceCtorEq] at h) <;> (try (exfalso; omega)))
    | (first | refine aendG_ret (by simp only [go_sem, Nat.reduceBEq, Nat.reduceBneDiff, Nat.reduceLT, Nat.reduceLeDiff, Nat.reduceAdd, Nat.reduceMul, Nat.reduceSub, Nat.reduceEqDiff, reduceCtorEq, wob, tupR, encPs_len, k1, k2, k3, k4, k5, k6, e1, e2, e0]; exact rfl) ?_ ?_ ?_ | refine aendG_normal (by simp only [go_sem, Nat.reduceBEq, Nat.reduceBneDiff, Nat.reduceLT, Nat.reduceLeDiff, Nat.reduceAdd, Nat.reduceMul, Nat.reduceSub, Nat.reduceEqDiff, reduceCtorEq, wob, tupR, encPs_len, k1, k2, k3, k4, k5, k6, e1, e2, e0]; exact rfl) ?_ ?_ ?_)
    | (refine go_call (by simp only [go_sem, Nat.reduceBEq, Nat.reduceBneDiff, Nat.reduceLT, Nat.reduceLeDiff, Nat.reduceAdd, Nat.reduceMul, Nat.reduceSub, Nat.reduceEqDiff, reduceCtorEq, wob, tupR, encPs_len, k1, k2, k3, k4, k5, k6, e1, e2, e0]; exact rfl) ?_ (fun _ => is_any v 5 v.kids) rfl ?_) | fail)) <;> (try omega)
    all_goals (first | exact AV.up_rfl _ | exact obUp_cons rfl (obUp_cons rfl obUp_nil))
theorem node_8 (W : WOK ts rs X V) (x : TypeM) (hk : x.kind = 8) (hp : x.parts.length ≤ 1000000000) (H : ∀ p ∈ x.parts, 0 ≤ p.ty ∧ p.ty < ts.length ∧ RecAt ts rs X V rec p.ty.toNat) (v : NodeM) (hv : nodeOK v) (ls : List Int) (hl : ls.length ≤ V.length) :
    NodeAt ts rs X V v x ls (nodeW X rec v x ls) := by
  unfold NodeAt
  rw [nodeW, if_neg (by omega), if_neg (by omega), if_neg (by omega), if_neg (by omega), if_neg (by omega), if_neg (by omega), if_neg (by omega)]
  have hc := fields_any (rec := rec) W x hp H v hv ls hl
  generalize (if isN v 4 x.parts.length = true then fieldsW X rec x.parts 0 ls else (0, false, ls)) = r at *
  obtain ⟨n, ok, ls'⟩ := r
  refine go_fnG (tyOf_ok _) Try.func75 rfl rfl (by rw [Try.results75]) Try.ntmps75 rfl fun E => ?_
  have k1 : (x.kind = 1) = False := eq_false (by omega)
  have k2 : (x.kind = 2) = False := eq_false (by omega)
  have k3 : (x.kind = 3) = False := eq_false (by omega)
  have k4 : (x.kind = 4) = False := eq_false (by omega)
  have k5 : (x.kind = 5) = False := eq_false (by omega)
  have k6 : (x.kind = 6) = False := eq_false (by omega)
  have k7 : (x.kind = 7) = False := eq_false (by omega)
  (repeat' (first
    | exact trivial
    | (with_reducible first | refine aw_seq ?_ | refine aw_block ?_ | refine aw_skip ?_ | refine aw_ret ?_ | refine aw_exit ?_ | refine aseq_normal ?_ | refine aseq_ret ?_ | refine aseq_exit ?_ | refine ablk_normal ?_ | refine ablk_ret ?_ | refine ablk_hit ?_ | refine aw_region ?_ | refine go_nil ?_ | refine al_of ?_)
    | with_reducible refine ablk_miss (by decide) ?_
    | ((with_reducible refine al_id ?_); refine go_run (tyOf_ok _) [] (by simp only [go_sem, Nat.reduceBEq, Nat.reduceBneDiff, Nat.reduceLT, Nat.reduceLeDiff, Nat.reduceAdd, Nat.reduceMul, Nat.reduceSub, Nat.reduceEqDiff, reduceCtorEq, wob, tupR, encPs_len, k1, k2, k3, k4, k5, k6, k7]; exact rfl) ?_ ?_)
    | (refine aw_draw (id := 3) (t := (.node [0, 1, 2, 3, 4, 5, 6, 7, 8, 9, 10, 11, 12] [])) (drR [5, 4] [] []) mixed (by kernel_rfl) (by kernel_rfl) (fun _ _ h => h) ?_)
    | (refine aw_draw (id := 5) (t := (.node [0, 1, 2, 3, 4, 5, 6, 7, 8, 9, 10, 11, 12, 13, 14] [])) (drR [4] [] []) mixed (by kernel_rfl) (by kernel_rfl) (fun _ _ h => h) ?_)
    | (refine aw_draw (id := 7) (t := (.node [0, 1, 3, 2, 4, 5, 6] [])) (drR [4] [] []) mixed (by kernel_rfl) (by kernel_rfl) (fun _ _ h => h) ?_)
    | (refine at_done (by simp only [List.filterMap_cons, List.filterMap_nil, List.getElem?_toArray, List.getElem?_cons_zero, List.getElem?_cons_succ]; exact rfl) ?_) | (refine at_alt (by simp only [List.filterMap_cons, List.filterMap_nil, List.getElem?_toArray, List.getElem?_cons_zero, List.getElem?_cons_succ]; exact rfl) ?_) | refine qalt_normal ?_ | refine ats_cons ?_ ?_ | exact ats_nil
    | ((with_reducible refine ald_id ?_); refine go_runD (tyOf_ok _) [] (by simp only [go_sem, Nat.reduceBEq, Nat.reduceBneDiff, Nat.reduceLT, Nat.reduceLeDiff, Nat.reduceAdd, Nat.reduceMul, Nat.reduceSub, Nat.reduceEqDiff, reduceCtorEq, wob, tupR, encPs_len, k1, k2, k3, k4, k5, k6, k7]; exact rfl) ?_ ?_)
    | (refine aw_cond (by simp only [go_sem, Nat.reduceBEq, Nat.reduceBneDiff, Nat.reduceLT, Nat.reduceLeDiff, Nat.reduceAdd, Nat.reduceMul, Nat.reduceSub, Nat.reduceEqDiff, reduceCtorEq, wob, tupR, encPs_len, k1, k2, k3, k4, k5, k6, k7]; exact rfl) (by simp only [go_sem, Nat.reduceBEq, Nat.reduceBneDiff, Nat.reduceLT, Nat.reduceLeDiff, Nat.reduceAdd, Nat.reduceMul, Nat.reduceSub, Nat.reduceEqDiff, reduceCtorEq]) (fun h => ?_) (fun h => ?_) <;> (try simp only [decide_eq_true_eq, decide_eq_false_iff_not, Bool.not_eq_true', Bool.not_eq_false', Bool.or_eq_true, Bool.or_eq_false_iff, Bool.and_eq_true, Bool.and_eq_false_iff, Decidable.not_not, reduceCtorEq] at h) <;> (try (exfalso; omega)))
    | (first | refine aendG_ret (by simp only [go_sem, Nat.reduceBEq, Nat.reduceBneDiff, Nat.reduceLT, Nat.reduceLeDiff, Nat.reduceAdd, Nat.reduceMul, Nat.reduceSub, Nat.reduceEqDiff, reduceCtorEq, wob, tupR, encPs_len, k1, k2, k3, k4, k5, k6, k7]; exact rfl) ?_ ?_ ?_ | refine aendG_normal (by simp only [go_sem, Nat.reduceBEq, Nat.reduceBneDiff, Nat.reduceLT, Nat.reduceLeDiff, Nat.reduceAdd, Nat.reduceMul, Nat.reduceSub, Nat.reduceEqDiff, reduceCtorEq, wob, tupR, encPs_len, k1, k2, k3, k4, k5, k6, k7]; exact rfl) ?_ ?_ ?_)
    | (refine go_callG [(10000, 10000), (15000, 15000)] [(10000, 10000), (15000, 15000)] [15000] [10000] (by simp only [go_sem, Nat.reduceBEq, Nat.reduceBneDiff, Nat.reduceLT, Nat.reduceLeDiff, Nat.reduceAdd, Nat.reduceMul, Nat.reduceSub, Nat.reduceEqDiff, reduceCtorEq, wob, tupR, encPs_len, k1, k2, k3, k4, k5, k6, k7]; exact rfl) ?_ rfl rfl (by first | exact .inl rfl | exact .inr rfl) (by simp only [go_sem, Nat.reduceBEq, Nat.reduceBneDiff, Nat.reduceLT, Nat.reduceLeDiff, Nat.reduceAdd, Nat.reduceMul, Nat.reduceSub, Nat.reduceEqDiff, reduceCtorEq, wob, tupR, encPs_len, k1, k2, k3, k4, k5, k6, k7] <;> exact rfl) (hc) (.inl rfl) ?_) | fail)) <;> (try omega)
  all_goals (first | exact AV.up_rfl _ | exact obUp_cons rfl (obUp_cons rfl obUp_nil))
theorem node_7 (W : WOK ts rs X V) (x : TypeM) (hk : x.kind = 7) (hp : x.parts.length ≤ 1000000000) (hI : ∀ p ∈ x.parts, 0 ≤ p.tag ∧ p.tag ≤ 255) (H : ∀ p ∈ x.parts, 0 ≤ p.ty ∧ p.ty < ts.length ∧ RecAt ts rs X V rec p.ty.toNat) (v : NodeM) (hv : nodeOK v) (ls : List Int) (hl : ls.length ≤ V.length) :
    NodeAt ts rs X V v x ls (nodeW X rec v x ls) := by
  unfold NodeAt
  rw [nodeW, if_neg (by omega), if_neg (by omega), if_neg (by omega), if_neg (by omega), if_neg (by omega), if_neg (by omega), if_pos hk]
  generalize hR : (if isN v 6 1 = true then armW rec x.parts v.n ls else (0, false, ls)) = R
  refine go_fnG (tyOf_ok _) Try.func75 rfl rfl (by rw [Try.results75]) Try.ntmps75 rfl fun E => ?_
  have k1 : (x.kind = 1) = False := eq_false (by omega)
  have k2 : (x.kind = 2) = False := eq_false (by omega)
  have k3 : (x.kind = 3) = False := eq_false (by omega)
  have k4 : (x.kind = 4) = False := eq_false (by omega)
  have k5 : (x.kind = 5) = False := eq_false (by omega)
  have k6 : (x.kind = 6) = False := eq_false (by omega)
  have k7 : (x.kind = 7) = True := eq_true hk
  (repeat' (first
    | exact trivial
    | (with_reducible first | refine aw_seq ?_ | refine aw_block ?_ | refine aw_skip ?_ | refine aw_ret ?_ | refine aw_exit ?_ | refine aseq_normal ?_ | refine aseq_ret ?_ | refine aseq_exit ?_ | refine ablk_normal ?_ | refine ablk_ret ?_ | refine ablk_hit ?_ | refine aw_region ?_ | refine go_nil ?_ | refine al_of ?_)
    | with_reducible refine ablk_miss (by decide) ?_
    | ((with_reducible refine al_id ?_); refine go_run (tyOf_ok _) [] (by simp only [go_sem, Nat.reduceBEq, Nat.reduceBneDiff, Nat.reduceLT, Nat.reduceLeDiff, Nat.reduceAdd, Nat.reduceMul, Nat.reduceSub, Nat.reduceEqDiff, reduceCtorEq, wob, tupR, encPs_len, k1, k2, k3, k4, k5, k6, k7]; exact rfl) ?_ ?_)
    | (refine aw_draw (id := 3) (t := (.node [0, 1, 2, 3, 4, 5, 6, 7, 8, 9, 10, 11, 12] [])) (drR [5, 4] [] []) mixed (by kernel_rfl) (by kernel_rfl) (fun _ _ h => h) ?_)
    | (refine aw_draw (id := 5) (t := (.node [0, 1, 2, 3, 4, 5, 6, 7, 8, 9, 10, 11, 12, 13, 14] [])) (drR [4] [] []) mixed (by kernel_rfl) (by kernel_rfl) (fun _ _ h => h) ?_)
    | (refine aw_draw (id := 7) (t := (.node [0, 1, 3, 2, 4, 5, 6] [])) (drR [4] [] []) mixed (by kernel_rfl) (by kernel_rfl) (fun _ _ h => h) ?_)
    | (refine at_done (by simp only [List.filterMap_cons, List.filterMap_nil, List.getElem?_toArray, List.getElem?_cons_zero, List.getElem?_cons_succ]; exact rfl) ?_) | (refine at_alt (by simp only [List.filterMap_cons, List.filterMap_nil, List.getElem?_toArray, List.getElem?_cons_zero, List.getElem?_cons_succ]; exact rfl) ?_) | refine qalt_normal ?_ | refine ats_cons ?_ ?_ | exact ats_nil
    | ((with_reducible refine ald_id ?_); refine go_runD (tyOf_ok _) [] (by simp only [go_sem, Nat.reduceBEq, Nat.reduceBneDiff, Nat.reduceLT, Nat.reduceLeDiff, Nat.reduceAdd, Nat.reduceMul, Nat.reduceSub, Nat.reduceEqDiff, reduceCtorEq, wob, tupR, encPs_len, k1, k2, k3, k4, k5, k6, k7]; exact rfl) ?_ ?_)
    | (refine aw_cond (by simp only [go_sem, Nat.reduceBEq, Nat.reduceBneDiff, Nat.reduceLT, Nat.reduceLeDiff, Nat.reduceAdd, Nat.reduceMul, Nat.reduceSub, Nat.reduceEqDiff, reduceCtorEq, wob, tupR, encPs_len, k1, k2, k3, k4, k5, k6, k7]; exact rfl) (by simp only [go_sem, Nat.reduceBEq, Nat.reduceBneDiff, Nat.reduceLT, Nat.reduceLeDiff, Nat.reduceAdd, Nat.reduceMul, Nat.reduceSub, Nat.reduceEqDiff, reduceCtorEq]) (fun h => ?_) (fun h => ?_) <;> (try simp only [decide_eq_true_eq, decide_eq_false_iff_not, Bool.not_eq_true', Bool.not_eq_false', Bool.or_eq_true, Bool.or_eq_false_iff, Bool.and_eq_true, Bool.and_eq_false_iff, Decidable.not_not, reduceCtorEq] at h) <;> (try (exfalso; omega)))
    | (first | refine aendG_ret (by simp only [go_sem, Nat.reduceBEq, Nat.reduceBneDiff, Nat.reduceLT, Nat.reduceLeDiff, Nat.reduceAdd, Nat.reduceMul, Nat.reduceSub, Nat.reduceEqDiff, reduceCtorEq, wob, tupR, encPs_len, k1, k2, k3, k4, k5, k6, k7]; exact rfl) ?_ ?_ ?_ | refine aendG_normal (by simp only [go_sem, Nat.reduceBEq, Nat.reduceBneDiff, Nat.reduceLT, Nat.reduceLeDiff, Nat.reduceAdd, Nat.reduceMul, Nat.reduceSub, Nat.reduceEqDiff, reduceCtorEq, wob, tupR, encPs_len, k1, k2, k3, k4, k5, k6, k7]; exact rfl) ?_ ?_ ?_) | fail)) <;> (try omega)
  have hn := hv.2.2
  have hvk : vI v.kind = vI v.kind := rfl
  refine go_loop [0, 4, 5, 127, 128, 129] [4, 5, 10000, 15000] (fun k : Nat => ⟨[(0, true, .ptr 1 10000 0 0), (4, true, .ptr 1 4 0 0), (5, true, .ptr 1 5 0 0), (127, true, .lst 3 (encPs x.parts)), (128, true, vI x.parts.length), (129, true, vI k)],
    [(4, .var [vI v.kind, vU v.n, vI v.kids]), (5, .var [vI x.kind, vI x.n, vI x.elem, .lst 3 (encPs x.parts)])] ++ wob ts rs X V ls⟩)
    (fun k => k ≤ x.parts.length ∧ ((x.parts.take k).find? fun p => decide (p.tag % 18446744073709551616 = v.n)) = none ∨ k ≤ x.parts.length ∧ isN v 6 1 = false) (fun k => x.parts.length - k) 0 (by simp only [go_sem, Nat.reduceBEq, Nat.reduceBneDiff, Nat.reduceLT, Nat.reduceLeDiff, Nat.reduceAdd, Nat.reduceMul, Nat.reduceSub, Nat.reduceEqDiff, reduceCtorEq, wob, encPs_len, List.cons_append, List.nil_append]; exact rfl) (.inl ⟨Nat.zero_le _, rfl⟩) ?_
  intro k hk
  have hw1 := wrap_i64 (n := (k : Int) + 1) (by omega)
  by_cases hlt : k < x.parts.length
  · have e1 : ((k : Int) < x.parts.length) = True := eq_true (by omega)
    have g1 := encPs_get hlt
    have his := is_any v 6 1
    by_cases hi : isN v 6 1 = true
    · have htg := hI _ (List.getElem_mem hlt)
      have ht : IntKind.u64.wrap x.parts[k].tag = x.parts[k].tag := IntWalk.u64_in _ (by omega)
      have hmod : x.parts[k].tag % 18446744073709551616 = x.parts[k].tag := by omega
      obtain ⟨hk1, hk2⟩ := hk.resolve_right (fun h => by rw [hi] at h; cases h.2)
      obtain ⟨h0, h1, hr⟩ := H _ (List.getElem_mem hlt)
      by_cases heq : v.n = x.parts[k].tag
      · have e2 : (v.n = x.parts[k].tag) = True := eq_true heq
        have harm : armOf x.parts v.n = some x.parts[k] := by
          have hs : armOf (x.parts.take k ++ x.parts[k] :: x.parts.drop (k + 1)) v.n = some x.parts[k] := by
            unfold armOf
            rw [List.find?_append, hk2, Option.none_or, List.find?_cons_of_pos]
            simp only [decide_eq_true_eq]
            omega
          rw [← List.drop_eq_getElem_cons hlt, List.take_append_drop] at hs
          exact hs
        rw [if_pos hi, armW, harm] at hR
        obtain ⟨hc, hb⟩ := hr ls hl
        rw [Int.toNat_of_nonneg h0] at hc
        dsimp only at hR
        generalize rec x.parts[k].ty.toNat ls = r at *
        obtain ⟨n, ok, ls'⟩ := r
        subst hR
        have hpl := plus_p (zs := [1, n]) (by intro z hz; simp at hz; have := hb.1; simp only at this; rcases hz with rfl | rfl <;> (unfold I64; omega))
        (repeat' (first
    | exact trivial
    | (with_reducible first | refine aw_seq ?_ | refine aw_block ?_ | refine aw_skip ?_ | refine aw_ret ?_ | refine aw_exit ?_ | refine aseq_normal ?_ | refine aseq_ret ?_ | refine aseq_exit ?_ | refine ablk_normal ?_ | refine ablk_ret ?_ | refine ablk_hit ?_ | refine aw_region ?_ | refine go_nil ?_ | refine al_of ?_)
    | with_reducible refine ablk_miss (by decide) ?_
    | ((with_reducible refine al_id ?_); refine go_run (tyOf_ok _) [] (by simp only [go_sem, Nat.reduceBEq, Nat.reduceBneDiff, Nat.reduceLT, Nat.reduceLeDiff, Nat.reduceAdd, Nat.reduceMul, Nat.reduceSub, Nat.reduceEqDiff, reduceCtorEq, wob, tupR, hw1, e1, g1, encPs_len, hi, ht, e2, List.cons_append, List.nil_append]; exact rfl) ?_ ?_)
    | (refine aw_draw (id := 3) (t := (.node [0, 1, 2, 3, 4, 5, 6, 7, 8, 9, 10, 11, 12] [])) (drR [5, 4] [] []) mixed (by kernel_rfl) (by kernel_rfl) (fun _ _ h => h) ?_)
    | (refine aw_draw (id := 5) (t := (.node [0, 1, 2, 3, 4, 5, 6, 7, 8, 9, 10, 11, 12, 13, 14] [])) (drR [4] [] []) mixed (by kernel_rfl) (by kernel_rfl) (fun _ _ h => h) ?_)
    | (refine aw_draw (id := 7) (t := (.node [0, 1, 3, 2, 4, 5, 6] [])) (drR [4] [] []) mixed (by kernel_rfl) (by kernel_rfl) (fun _ _ h => h) ?_)
    | (refine at_done (by simp only [List.filterMap_cons, List.filterMap_nil, List.getElem?_toArray, List.getElem?_cons_zero, List.getElem?_cons_succ]; exact rfl) ?_) | (refine at_alt (by simp only [List.filterMap_cons, List.filterMap_nil, List.getElem?_toArray, List.getElem?_cons_zero, List.getElem?_cons_succ]; exact rfl) ?_) | refine qalt_normal ?_ | refine ats_cons ?_ ?_ | exact ats_nil
    | ((with_reducible refine ald_id ?_); refine go_runD (tyOf_ok _) [] (by simp only [go_sem, Nat.reduceBEq, Nat.reduceBneDiff, Nat.reduceLT, Nat.reduceLeDiff, Nat.reduceAdd, Nat.reduceMul, Nat.reduceSub, Nat.reduceEqDiff, reduceCtorEq, wob, tupR, hw1, e1, g1, encPs_len, hi, ht, e2, List.cons_append, List.nil_append]; exact rfl) ?_ ?_)
    | (refine aw_cond (by simp only [go_sem, Nat.reduceBEq, Nat.reduceBneDiff, Nat.reduceLT, Nat.reduceLeDiff, Nat.reduceAdd, Nat.reduceMul, Nat.reduceSub, Nat.reduceEqDiff, reduceCtorEq, wob, tupR, hw1, e1, g1, encPs_len, hi, ht, e2, List.cons_append, List.nil_append]; exact rfl) (by simp only [go_sem, Nat.reduceBEq, Nat.reduceBneDiff, Nat.reduceLT, Nat.reduceLeDiff, Nat.reduceAdd, Nat.reduceMul, Nat.reduceSub, Nat.reduceEqDiff, reduceCtorEq]) (fun h => ?_) (fun h => ?_) <;> (try simp only [decide_eq_true_eq, decide_eq_false_iff_not, Bool.not_eq_true', Bool.not_eq_false', Bool.or_eq_true, Bool.or_eq_false_iff, Bool.and_eq_true, Bool.and_eq_false_iff, Decidable.not_not, reduceCtorEq] at h) <;> (try (exfalso; omega)))
    | (first | refine aendG_ret (by simp only [go_sem, Nat.reduceBEq, Nat.reduceBneDiff, Nat.reduceLT, Nat.reduceLeDiff, Nat.reduceAdd, Nat.reduceMul, Nat.reduceSub, Nat.reduceEqDiff, reduceCtorEq, wob, tupR, hw1, e1, g1, encPs_len, hi, ht, e2, List.cons_append, List.nil_append]; exact rfl) ?_ ?_ ?_ | refine aendG_normal (by simp only [go_sem, Nat.reduceBEq, Nat.reduceBneDiff, Nat.reduceLT, Nat.reduceLeDiff, Nat.reduceAdd, Nat.reduceMul, Nat.reduceSub, Nat.reduceEqDiff, reduceCtorEq, wob, tupR, hw1, e1, g1, encPs_len, hi, ht, e2, List.cons_append, List.nil_append]; exact rfl) ?_ ?_ ?_)
    | (refine go_call (by simp only [go_sem, Nat.reduceBEq, Nat.reduceBneDiff, Nat.reduceLT, Nat.reduceLeDiff, Nat.reduceAdd, Nat.reduceMul, Nat.reduceSub, Nat.reduceEqDiff, reduceCtorEq, wob, tupR, hw1, e1, g1, encPs_len, hi, ht, e2, List.cons_append, List.nil_append]; exact rfl) ?_ (fun _ => his) rfl ?_)
    | (refine go_callG [(10000, 10000), (15000, 15000)] [(10000, 10000), (15000, 15000)] [15000] [10000] (by simp only [go_sem, Nat.reduceBEq, Nat.reduceBneDiff, Nat.reduceLT, Nat.reduceLeDiff, Nat.reduceAdd, Nat.reduceMul, Nat.reduceSub, Nat.reduceEqDiff, reduceCtorEq, wob, tupR, hw1, e1, g1, encPs_len, hi, ht, e2, List.cons_append, List.nil_append]; exact rfl) ?_ rfl rfl (by first | exact .inl rfl | exact .inr rfl) (by simp only [go_sem, Nat.reduceBEq, Nat.reduceBneDiff, Nat.reduceLT, Nat.reduceLeDiff, Nat.reduceAdd, Nat.reduceMul, Nat.reduceSub, Nat.reduceEqDiff, reduceCtorEq, wob, tupR, hw1, e1, g1, encPs_len, hi, ht, e2, List.cons_append, List.nil_append] <;> exact rfl) (hc) (.inl rfl) ?_)
    | (refine go_call (by simp only [go_sem, Nat.reduceBEq, Nat.reduceBneDiff, Nat.reduceLT, Nat.reduceLeDiff, Nat.reduceAdd, Nat.reduceMul, Nat.reduceSub, Nat.reduceEqDiff, reduceCtorEq, wob, tupR, hw1, e1, g1, encPs_len, hi, ht, e2, List.cons_append, List.nil_append]; exact rfl) ?_ (fun _ => hpl) rfl ?_) | fail)) <;> (try omega)
        all_goals (first | exact AV.up_rfl _ | exact obUp_cons rfl (obUp_cons rfl obUp_nil))
      · have e2 : (v.n = x.parts[k].tag) = False := eq_false heq
        (repeat' (first
    | exact trivial
    | (with_reducible first | refine aw_seq ?_ | refine aw_block ?_ | refine aw_skip ?_ | refine aw_ret ?_ | refine aw_exit ?_ | refine aseq_normal ?_ | refine aseq_ret ?_ | refine aseq_exit ?_ | refine ablk_normal ?_ | refine ablk_ret ?_ | refine ablk_hit ?_ | refine aw_region ?_ | refine go_nil ?_ | refine al_of ?_)
    | with_reducible refine ablk_miss (by decide) ?_
    | ((with_reducible refine al_id ?_); refine go_run (tyOf_ok _) [] (by simp only [go_sem, Nat.reduceBEq, Nat.reduceBneDiff, Nat.reduceLT, Nat.reduceLeDiff, Nat.reduceAdd, Nat.reduceMul, Nat.reduceSub, Nat.reduceEqDiff, reduceCtorEq, wob, hw1, e1, g1, encPs_len, hi, ht, e2, List.cons_append, List.nil_append]; exact rfl) ?_ ?_)
    | (refine aw_draw (id := 3) (t := (.node [0, 1, 2, 3, 4, 5, 6, 7, 8, 9, 10, 11, 12] [])) (drR [5, 4] [] []) mixed (by kernel_rfl) (by kernel_rfl) (fun _ _ h => h) ?_)
    | (refine aw_draw (id := 5) (t := (.node [0, 1, 2, 3, 4, 5, 6, 7, 8, 9, 10, 11, 12, 13, 14] [])) (drR [4] [] []) mixed (by kernel_rfl) (by kernel_rfl) (fun _ _ h => h) ?_)
    | (refine aw_draw (id := 7) (t := (.node [0, 1, 3, 2, 4, 5, 6] [])) (drR [4] [] []) mixed (by kernel_rfl) (by kernel_rfl) (fun _ _ h => h) ?_)
    | (refine at_done (by simp only [List.filterMap_cons, List.filterMap_nil, List.getElem?_toArray, List.getElem?_cons_zero, List.getElem?_cons_succ]; exact rfl) ?_) | (refine at_alt (by simp only [List.filterMap_cons, List.filterMap_nil, List.getElem?_toArray, List.getElem?_cons_zero, List.getElem?_cons_succ]; exact rfl) ?_) | refine qalt_normal ?_ | refine ats_cons ?_ ?_ | exact ats_nil
    | ((with_reducible refine ald_id ?_); refine go_runD (tyOf_ok _) [] (by simp only [go_sem, Nat.reduceBEq, Nat.reduceBneDiff, Nat.reduceLT, Nat.reduceLeDiff, Nat.reduceAdd, Nat.reduceMul, Nat.reduceSub, Nat.reduceEqDiff, reduceCtorEq, wob, hw1, e1, g1, encPs_len, hi, ht, e2, List.cons_append, List.nil_append]; exact rfl) ?_ ?_)
    | (refine aw_cond (by simp only [go_sem, Nat.reduceBEq, Nat.reduceBneDiff, Nat.reduceLT, Nat.reduceLeDiff, Nat.reduceAdd, Nat.reduceMul, Nat.reduceSub, Nat.reduceEqDiff, reduceCtorEq, wob, hw1, e1, g1, encPs_len, hi, ht, e2, List.cons_append, List.nil_append]; exact rfl) (by simp only [go_sem, Nat.reduceBEq, Nat.reduceBneDiff, Nat.reduceLT, Nat.reduceLeDiff, Nat.reduceAdd, Nat.reduceMul, Nat.reduceSub, Nat.reduceEqDiff, reduceCtorEq]) (fun h => ?_) (fun h => ?_) <;> (try simp only [decide_eq_true_eq, decide_eq_false_iff_not, Bool.not_eq_true', Bool.not_eq_false', Bool.or_eq_true, Bool.or_eq_false_iff, Bool.and_eq_true, Bool.and_eq_false_iff, Decidable.not_not, reduceCtorEq] at h) <;> (try (exfalso; omega)))
    | (first | refine aendG_ret (by simp only [go_sem, Nat.reduceBEq, Nat.reduceBneDiff, Nat.reduceLT, Nat.reduceLeDiff, Nat.reduceAdd, Nat.reduceMul, Nat.reduceSub, Nat.reduceEqDiff, reduceCtorEq, wob, hw1, e1, g1, encPs_len, hi, ht, e2, List.cons_append, List.nil_append]; exact rfl) ?_ ?_ ?_ | refine aendG_normal (by simp only [go_sem, Nat.reduceBEq, Nat.reduceBneDiff, Nat.reduceLT, Nat.reduceLeDiff, Nat.reduceAdd, Nat.reduceMul, Nat.reduceSub, Nat.reduceEqDiff, reduceCtorEq, wob, hw1, e1, g1, encPs_len, hi, ht, e2, List.cons_append, List.nil_append]; exact rfl) ?_ ?_ ?_)
    | (refine go_call (by simp only [go_sem, Nat.reduceBEq, Nat.reduceBneDiff, Nat.reduceLT, Nat.reduceLeDiff, Nat.reduceAdd, Nat.reduceMul, Nat.reduceSub, Nat.reduceEqDiff, reduceCtorEq, wob, hw1, e1, g1, encPs_len, hi, ht, e2, List.cons_append, List.nil_append]; exact rfl) ?_ (fun _ => his) rfl ?_)
    | (refine go_call0 51 (vB true) (by simp only [go_sem, Nat.reduceBEq, Nat.reduceBneDiff, Nat.reduceLT, Nat.reduceLeDiff, Nat.reduceAdd, Nat.reduceMul, Nat.reduceSub, Nat.reduceEqDiff, reduceCtorEq, wob, hw1, e1, g1, encPs_len, hi, ht, e2, List.cons_append, List.nil_append]; exact rfl) ?_ ?_) | fail)) <;> (try omega)
        refine ⟨k + 1, by simp only [go_sem, Nat.reduceBEq, Nat.reduceBneDiff, Nat.reduceLT, Nat.reduceLeDiff, Nat.reduceAdd, Nat.reduceMul, Nat.reduceSub, Nat.reduceEqDiff, reduceCtorEq, wob, List.cons_append, List.nil_append]; exact rfl, .inl ⟨hlt, ?_⟩, by omega⟩
        rw [List.take_succ_eq_append_getElem hlt, List.find?_append, hk2, Option.none_or, List.find?_cons_of_neg]
        · rfl
        · simp only [decide_eq_true_eq]; omega
    · have e0 : isN v 6 1 = false := by simpa using hi
      (repeat' (first
    | exact trivial
    | (with_reducible first | refine aw_seq ?_ | refine aw_block ?_ | refine aw_skip ?_ | refine aw_ret ?_ | refine aw_exit ?_ | refine aseq_normal ?_ | refine aseq_ret ?_ | refine aseq_exit ?_ | refine ablk_normal ?_ | refine ablk_ret ?_ | refine ablk_hit ?_ | refine aw_region ?_ | refine go_nil ?_ | refine al_of ?_)
    | with_reducible refine ablk_miss (by decide) ?_
    | ((with_reducible refine al_id ?_); refine go_run (tyOf_ok _) [] (by simp only [go_sem, Nat.reduceBEq, Nat.reduceBneDiff, Nat.reduceLT, Nat.reduceLeDiff, Nat.reduceAdd, Nat.reduceMul, Nat.reduceSub, Nat.reduceEqDiff, reduceCtorEq, wob, hw1, e1, g1, encPs_len, e0, List.cons_append, List.nil_append]; exact rfl) ?_ ?_)
    | (refine aw_draw (id := 3) (t := (.node [0, 1, 2, 3, 4, 5, 6, 7, 8, 9, 10, 11, 12] [])) (drR [5, 4] [] []) mixed (by kernel_rfl) (by kernel_rfl) (fun _ _ h => h) ?_)
    | (refine aw_draw (id := 5) (t := (.node [0, 1, 2, 3, 4, 5, 6, 7, 8, 9, 10, 11, 12, 13, 14] [])) (drR [4] [] []) mixed (by kernel_rfl) (by kernel_rfl) (fun _ _ h => h) ?_)
    | (refine aw_draw (id := 7) (t := (.node [0, 1, 3, 2, 4, 5, 6] [])) (drR [4] [] []) mixed (by kernel_rfl) (by kernel_rfl) (fun _ _ h => h) ?_)
    | (refine at_done (by simp only [List.filterMap_cons, List.filterMap_nil, List.getElem?_toArray, List.getElem?_cons_zero, List.getElem?_cons_succ]; exact rfl) ?_) | (refine at_alt (by simp only [List.filterMap_cons, List.filterMap_nil, List.getElem?_toArray, List.getElem?_cons_zero, List.getElem?_cons_succ]; exact rfl) ?_) | refine qalt_normal ?_ | refine ats_cons ?_ ?_ | exact ats_nil
    | ((with_reducible refine ald_id ?_); refine go_runD (tyOf_ok _) [] (by simp only [go_sem, Nat.reduceBEq, Nat.reduceBneDiff, Nat.reduceLT, Nat.reduceLeDiff, Nat.reduceAdd, Nat.reduceMul, Nat.reduceSub, Nat.reduceEqDiff, reduceCtorEq, wob, hw1, e1, g1, encPs_len, e0, List.cons_append, List.nil_append]; exact rfl) ?_ ?_)
    | (refine aw_cond (by simp only [go_sem, Nat.reduceBEq, Nat.reduceBneDiff, Nat.reduceLT, Nat.reduceLeDiff, Nat.reduceAdd, Nat.reduceMul, Nat.reduceSub, Nat.reduceEqDiff, reduceCtorEq, wob, hw1, e1, g1, encPs_len, e0, List.cons_append, List.nil_append]; exact rfl) (by simp only [go_sem, Nat.reduceBEq, Nat.reduceBneDiff, Nat.reduceLT, Nat.reduceLeDiff, Nat.reduceAdd, Nat.reduceMul, Nat.reduceSub, Nat.reduceEqDiff, reduceCtorEq]) (fun h => ?_) (fun h => ?_) <;> (try simp only [decide_eq_true_eq, decide_eq_false_iff_not, Bool.not_eq_true', Bool.not_eq_false', Bool.or_eq_true, Bool.or_eq_false_iff, Bool.and_eq_true, Bool.and_eq_false_iff, Decidable.not_not, reduceCtorEq] at h) <;> (try (exfalso; omega)))
    | (first | refine aendG_ret (by simp only [go_sem, Nat.reduceBEq, Nat.reduceBneDiff, Nat.reduceLT, Nat.reduceLeDiff, Nat.reduceAdd, Nat.reduceMul, Nat.reduceSub, Nat.reduceEqDiff, reduceCtorEq, wob, hw1, e1, g1, encPs_len, e0, List.cons_append, List.nil_append]; exact rfl) ?_ ?_ ?_ | refine aendG_normal (by simp only [go_sem, Nat.reduceBEq, Nat.reduceBneDiff, Nat.reduceLT, Nat.reduceLeDiff, Nat.reduceAdd, Nat.reduceMul, Nat.reduceSub, Nat.reduceEqDiff, reduceCtorEq, wob, hw1, e1, g1, encPs_len, e0, List.cons_append, List.nil_append]; exact rfl) ?_ ?_ ?_)
    | (refine go_call (by simp only [go_sem, Nat.reduceBEq, Nat.reduceBneDiff, Nat.reduceLT, Nat.reduceLeDiff, Nat.reduceAdd, Nat.reduceMul, Nat.reduceSub, Nat.reduceEqDiff, reduceCtorEq, wob, hw1, e1, g1, encPs_len, e0, List.cons_append, List.nil_append]; exact rfl) ?_ (fun _ => his) rfl ?_) | fail)) <;> (try omega)
      exact ⟨k + 1, by simp only [go_sem, Nat.reduceBEq, Nat.reduceBneDiff, Nat.reduceLT, Nat.reduceLeDiff, Nat.reduceAdd, Nat.reduceMul, Nat.reduceSub, Nat.reduceEqDiff, reduceCtorEq, wob, List.cons_append, List.nil_append]; exact rfl, .inr ⟨hlt, e0⟩, by omega⟩
  · have e1 : ((k : Int) < x.parts.length) = False := eq_false (by omega)
    have hfin : R = (0, false, ls) := by
      rcases hk with ⟨h1, h2⟩ | ⟨_, h2⟩
      · rw [take_len (by omega)] at h2
        rw [← hR, armW, armOf, h2]; split <;> rfl
      · rw [← hR, if_neg (by rw [h2]; decide)]
    clear hR
    subst hfin
    (repeat' (first
    | exact trivial
    | (with_reducible first | refine aw_seq ?_ | refine aw_block ?_ | refine aw_skip ?_ | refine aw_ret ?_ | refine aw_exit ?_ | refine aseq_normal ?_ | refine aseq_ret ?_ | refine aseq_exit ?_ | refine ablk_normal ?_ | refine ablk_ret ?_ | refine ablk_hit ?_ | refine aw_region ?_ | refine go_nil ?_ | refine al_of ?_)
    | with_reducible refine ablk_miss (by decide) ?_
    | ((with_reducible refine al_id ?_); refine go_run (tyOf_ok _) [] (by simp only [go_sem, Nat.reduceBEq, Nat.reduceBneDiff, Nat.reduceLT, Nat.reduceLeDiff, Nat.reduceAdd, Nat.reduceMul, Nat.reduceSub, Nat.reduceEqDiff, reduceCtorEq, wob, hw1, e1, encPs_len, List.cons_append, List.nil_append]; exact rfl) ?_ ?_)
    | (refine aw_draw (id := 3) (t := (.node [0, 1, 2, 3, 4, 5, 6, 7, 8, 9, 10, 11, 12] [])) (drR [5, 4] [] []) mixed (by kernel_rfl) (by kernel_rfl) (fun _ _ h => h) ?_)
    | (refine aw_draw (id := 5) (t := (.node [0, 1, 2, 3, 4, 5, 6, 7, 8, 9, 10, 11, 12, 13, 14] [])) (drR [4] [] []) mixed (by kernel_rfl) (by kernel_rfl) (fun _ _ h => h) ?_)
    | (refine aw_draw (id := 7) (t := (.node [0, 1, 3, 2, 4, 5, 6] [])) (drR [4] [] []) mixed (by kernel_rfl) (by kernel_rfl) (fun _ _ h => h) ?_)
    | (refine at_done (by simp only [List.filterMap_cons, List.filterMap_nil, List.getElem?_toArray, List.getElem?_cons_zero, List.getElem?_cons_succ]; exact rfl) ?_) | (refine at_alt (by simp only [List.filterMap_cons, List.filterMap_nil, List.getElem?_toArray, List.getElem?_cons_zero, List.getElem?_cons_succ]; exact rfl) ?_) | refine qalt_normal ?_ | refine ats_cons ?_ ?_ | exact ats_nil
    | ((with_reducible refine ald_id ?_); refine go_runD (tyOf_ok _) [] (by simp only [go_sem, Nat.reduceBEq, Nat.reduceBneDiff, Nat.reduceLT, Nat.reduceLeDiff, Nat.reduceAdd, Nat.reduceMul, Nat.reduceSub, Nat.reduceEqDiff, reduceCtorEq, wob, hw1, e1, encPs_len, List.cons_append, List.nil_append]; exact rfl) ?_ ?_)
    | (refine aw_cond (by simp only [go_sem, Nat.reduceBEq, Nat.reduceBneDiff, Nat.reduceLT, Nat.reduceLeDiff, Nat.reduceAdd, Nat.reduceMul, Nat.reduceSub, Nat.reduceEqDiff, reduceCtorEq, wob, hw1, e1, encPs_len, List.cons_append, List.nil_append]; exact rfl) (by simp only [go_sem, Nat.reduceBEq, Nat.reduceBneDiff, Nat.reduceLT, Nat.reduceLeDiff, Nat.reduceAdd, Nat.reduceMul, Nat.reduceSub, Nat.reduceEqDiff, reduceCtorEq]) (fun h => ?_) (fun h => ?_) <;> (try simp only [decide_eq_true_eq, decide_eq_false_iff_not, Bool.not_eq_true', Bool.not_eq_false', Bool.or_eq_true, Bool.or_eq_false_iff, Bool.and_eq_true, Bool.and_eq_false_iff, Decidable.not_not, reduceCtorEq] at h) <;> (try (exfalso; omega)))
    | (first | refine aendG_ret (by simp only [go_sem, Nat.reduceBEq, Nat.reduceBneDiff, Nat.reduceLT, Nat.reduceLeDiff, Nat.reduceAdd, Nat.reduceMul, Nat.reduceSub, Nat.reduceEqDiff, reduceCtorEq, wob, hw1, e1, encPs_len, List.cons_append, List.nil_append]; exact rfl) ?_ ?_ ?_ | refine aendG_normal (by simp only [go_sem, Nat.reduceBEq, Nat.reduceBneDiff, Nat.reduceLT, Nat.reduceLeDiff, Nat.reduceAdd, Nat.reduceMul, Nat.reduceSub, Nat.reduceEqDiff, reduceCtorEq, wob, hw1, e1, encPs_len, List.cons_append, List.nil_append]; exact rfl) ?_ ?_ ?_) | fail)) <;> (try omega)
    all_goals (first | exact AV.up_rfl _ | exact obUp_cons rfl (obUp_cons rfl obUp_nil))
end
end Go.Proofs.Ytfgacgpicfknpaa
end
section
namespace Go.Proofs.Ytfgacgpicfknpaa
open Go.RowKit
set_option maxRecDepth 100000
set_option maxHeartbeats 8000000
section
variable {ts : List TypeM} {rs : List RootM} {X : List ExtM} {V : List NodeM} {rec : Rec}
theorem kidsW_bd (H : ∀ t ls, ls.length ≤ V.length → bdR V ls (rec t ls)) (t : Int) : ∀ (m : Nat) (sum : Int) (ls : List Int), 0 ≤ sum ∧ sum ≤ 4611686018427387904 → ls.length ≤ V.length → bdR V ls (kidsW X rec t m sum ls)
  | 0, _, _, hs, hl => ⟨hs, Nat.le_refl _, hl⟩
  | m + 1, sum, ls, hs, hl => by
    obtain ⟨h1, h2, h3⟩ := H t.toNat ls hl
    rw [kidsW]
    split
    · obtain ⟨g1, g2, g3⟩ := kidsW_bd H t m (plusL [sum, withinM (atE X t).fixed (rec t.toNat ls).1]) (rec t.toNat ls).2.2 (plusL_bd _) h3
      exact ⟨g1, Nat.le_trans h2 g2, g3⟩
    · exact ⟨by simp, h2, h3⟩
theorem fieldsW_bd (H : ∀ t ls, ls.length ≤ V.length → bdR V ls (rec t ls)) : ∀ (l : List PartM) (sum : Int) (ls : List Int), 0 ≤ sum ∧ sum ≤ 4611686018427387904 → ls.length ≤ V.length → bdR V ls (fieldsW X rec l sum ls)
  | [], _, _, hs, hl => ⟨hs, Nat.le_refl _, hl⟩
  | p :: l, sum, ls, hs, hl => by
    obtain ⟨h1, h2, h3⟩ := H p.ty.toNat ls hl
    rw [fieldsW]
    split
    · obtain ⟨g1, g2, g3⟩ := fieldsW_bd H l (plusL [sum, withinM (atE X p.ty).fixed (rec p.ty.toNat ls).1]) (rec p.ty.toNat ls).2.2 (plusL_bd _) h3
      exact ⟨g1, Nat.le_trans h2 g2, g3⟩
    · exact ⟨by simp, h2, h3⟩
theorem leb_bd (n : Int) : 0 ≤ leb 10 n ∧ leb 10 n ≤ 4611686018427387904 := by
  have : ∀ f : Nat, ∀ n, 1 ≤ leb f n ∧ leb f n ≤ f + 1 := by
    intro f
    induction f with
    | zero => intro n; simp [leb]
    | succ f ih => intro n; unfold leb; split; (· omega); have := ih (n / 128); omega
  have := this 10 n
  omega
theorem nodeW_bd (H : ∀ t ls, ls.length ≤ V.length → bdR V ls (rec t ls)) (v : NodeM) (x : TypeM) (hx : x.kind = 1 → 0 ≤ x.n ∧ x.n ≤ 4611686018427387904) (ls : List Int) (hl : ls.length ≤ V.length) : bdR V ls (nodeW X rec v x ls) := by
  have z : ∀ b, bdR V ls (0, b, ls) := fun b => ⟨by simp, Nat.le_refl _, hl⟩
  have o : ∀ b, bdR V ls (1, b, ls) := fun b => ⟨by simp, Nat.le_refl _, hl⟩
  have o1 : ∀ t, bdR V ls (one1 (rec t ls)) := fun t => by
    obtain ⟨_, h2, h3⟩ := H t ls hl
    exact ⟨plusL_bd _, h2, h3⟩
  unfold nodeW
  split
  · exact ⟨hx (by assumption), Nat.le_refl _, hl⟩
  split
  · exact o _
  split
  · exact ⟨leb_bd _, Nat.le_refl _, hl⟩
  split
  · split
    · exact kidsW_bd H _ _ _ _ (by simp) hl
    · exact z _
  split
  · split
    · exact kidsW_bd H _ _ _ _ (by simp) hl
    · exact z _
  split
  · split
    · split
      · exact o _
      · exact o1 _
    · exact z _
  split
  · split
    · unfold armW
      split
      · exact o1 _
      · exact z _
    · exact z _
  · split
    · exact fieldsW_bd H _ _ _ (by simp) hl
    · exact z _
theorem valW_bd (hts : ∀ x ∈ ts, x.kind = 1 → 0 ≤ x.n ∧ x.n ≤ 4611686018427387904) : ∀ (f t : Nat) (ls : List Int), ls.length ≤ V.length → bdR V ls (valW ts X V f t ls)
  | 0, _, _, hl => ⟨by simp [valW], Nat.le_refl _, hl⟩
  | f + 1, t, ls, hl => by
    rw [valW]
    cases hv : V[ls.length]? with
    | none => exact ⟨by simp, Nat.le_refl _, hl⟩
    | some v =>
      have hlt : ls.length < V.length := by
        rcases Nat.lt_or_ge ls.length V.length with h | h
        · exact h
        · rw [List.getElem?_eq_none h] at hv; cases hv
      obtain ⟨h1, h2, h3⟩ := nodeW_bd (X := X) (rec := valW ts X V f) (valW_bd hts f) v ((ts[t]?).getD ⟨0, 0, 0, []⟩) (fun hk => by
        cases ht : ts[t]? with
        | none => rw [ht] at hk; cases hk
        | some x => rw [ht] at hk; exact hts x (List.mem_of_getElem? ht) hk) (ls ++ [0]) (by simp; omega)
      simp only [List.length_append, List.length_singleton] at h2
      exact ⟨h1, by simp only [setL, List.length_set]; omega, by simp only [setL, List.length_set]; exact h3⟩
/-- what the walk needs of a type that is right -/
theorem right_1 {x : TypeM} {k : Int} (h : rightOK x k = true) (hk : x.kind = 1) : 1 ≤ x.n ∧ x.n ≤ 8 := by
  rw [rightOK, Bool.and_eq_true] at h
  have := h.1
  rw [numberOK, if_pos hk] at this
  simp only [Bool.or_eq_true, decide_eq_true_eq] at this
  omega
theorem goodFrom_tag {at_ : Int} : ∀ (l pre : List PartM), goodFrom 7 at_ pre l = true → ∀ p ∈ l, 0 ≤ p.tag ∧ p.tag ≤ 255
  | [], _, _ => fun p hp => by cases hp
  | q :: l, pre, h => fun p hp => by
    simp only [goodFrom, Bool.and_eq_true] at h
    rcases List.mem_cons.1 hp with rfl | hp
    · have := h.1
      rw [good, if_neg (by decide)] at this
      simp only [Bool.and_eq_true, decide_eq_true_eq] at this
      omega
    · exact goodFrom_tag l _ h.2 p hp
theorem right_parts {x : TypeM} {k : Int} (h : rightOK x k = true) (hk : x.kind = 7 ∨ x.kind = 8) : x.parts.length ≤ 64 ∧ 1 ≤ x.parts.length := by
  rw [rightOK, Bool.and_eq_true, if_neg (by omega), if_neg (by omega), if_pos (by omega), partsOK] at h
  simp only [Bool.and_eq_true, decide_eq_true_eq] at h
  omega
theorem right_tag {x : TypeM} {k : Int} (h : rightOK x k = true) (hk : x.kind = 7) : ∀ p ∈ x.parts, 0 ≤ p.tag ∧ p.tag ≤ 255 := by
  rw [rightOK, Bool.and_eq_true, if_neg (by omega), if_neg (by omega), if_pos (by omega), Bool.and_eq_true, partsOK, Bool.and_eq_true, hk] at h
  exact goodFrom_tag _ _ h.2.2.2
theorem node_any (W : WOK ts rs X V) (x : TypeM) (t : Nat) (hr : rightOK x t = true) (ht : t ≤ ts.length) (H : ∀ t', t' < t → RecAt ts rs X V rec t') (v : NodeM) (hv : nodeOK v) (ls : List Int) (hl : ls.length ≤ V.length) :
    NodeAt ts rs X V v x ls (nodeW X rec v x ls) := by
  have hty := rightOK_ty hr
  have hrec : ∀ p ∈ x.parts, 0 ≤ p.ty ∧ p.ty < ts.length ∧ RecAt ts rs X V rec p.ty.toNat := fun p hp => by
    have := hty.2 p hp
    exact ⟨this.1, by omega, H _ (by omega)⟩
  rcases rightOK_kind hr with hk | hk | hk
  · rcases hk with hk | hk | hk
    · have := right_1 hr hk
      exact node_1 x (by unfold I64; omega) hk v hv ls
    · exact node_2 x hk v ls
    · exact node_3 x hk v hv ls
  · have hn := rightOK_n hr hk
    have he := hty.1 hk
    rcases hk with hk | hk | hk
    · exact node_4 W x hk hn (by omega) (H _ (by omega)) v ls hl
    · exact node_5 W x hk hn (by omega) (H _ (by omega)) v ls hl
    · exact node_6 x hk (H _ (by omega)) he.1 v ls hl
  · have hp := right_parts hr hk
    rcases hk with hk | hk
    · exact node_7 W x hk (by omega) (right_tag hr hk) hrec v hv ls hl
    · exact node_8 W x hk (by omega) hrec v hv ls hl
theorem v8_set (l : List Int) (i : Nat) (z : Int) : (v8 l).set i [.v (.int .i64 z)] = v8 (l.set i z) := by simp [v8, List.map_set]
theorem value_step (W : WOK ts rs X V) (t : Nat) (ht : t < ts.length) (hrec : ∀ t ls, ls.length ≤ V.length → bdR V ls (rec t ls)) (H : ∀ t', t' < t → RecAt ts rs X V rec t') (ls : List Int) (hl : ls.length ≤ V.length) (r : Int × Bool × List Int)
    (hr : r = match V[ls.length]? with | some v => setL (nodeW X rec v ts[t] (ls ++ [0])) ls.length | none => (0, false, ls)) :
    GCall Try.prog 51 [.ptr 1 10000 0 0, vI t] (wob ts rs X V ls) (tupR r) (wob ts rs X V r.2.2) := by
  have hV := W.nV
  have hts := W.nts
  refine go_fnG (tyOf_ok _) Try.func51 rfl rfl (by rw [Try.results51]) Try.ntmps51 rfl fun E => ?_
  by_cases hlt : ls.length < V.length
  · have e1 : ((V.length : Int) ≤ ls.length) = False := eq_false (by omega)
    rw [List.getElem?_eq_getElem hlt] at hr
    dsimp only at hr
    have hc := node_any (rec := rec) W ts[t] t (W.right t ht) (by omega) H V[ls.length] (W.node _ (List.getElem_mem hlt)) (ls ++ [0]) (by simp; omega)
    unfold NodeAt at hc
    have hbd := nodeW_bd (X := X) hrec V[ls.length] ts[t] (fun hk => by have := right_1 (W.right t ht) hk; omega) (ls ++ [0]) (by simp; omega)
    have g1 := encTs_get ht
    have g2 := encNs_get hlt
    generalize nodeW X rec V[ls.length] ts[t] (ls ++ [0]) = q at *
    obtain ⟨n, ok, ls'⟩ := q
    subst hr
    simp only [setL] at hc ⊢
    have hw1 := wrap_i64 (n := (ls.length : Int) + 1) (by omega)
    have htl : (v8 ls).take ls.length = v8 ls := take_len (by rw [v8_len]; exact Nat.le_refl _)
    have hl1 : (ls ++ [(0 : Int)]).length = ls.length + 1 := by simp
    have hc1 : ((ls.length + 1 : Nat) : Int) = (ls.length : Int) + 1 := by omega
    have z0 : ((ls.length : Int)).toNat = ls.length := by omega
    have hlt' : ls.length < ls'.length := by have h2 := hbd.2.1; simp only [List.length_append, List.length_singleton] at h2; omega
    have g3 := v8_get hlt'
    (repeat' (first
    | exact trivial
    | (with_reducible first | refine aw_seq ?_ | refine aw_block ?_ | refine aw_skip ?_ | refine aw_ret ?_ | refine aw_exit ?_ | refine aseq_normal ?_ | refine aseq_ret ?_ | refine aseq_exit ?_ | refine ablk_normal ?_ | refine ablk_ret ?_ | refine ablk_hit ?_ | refine aw_region ?_ | refine go_nil ?_ | refine al_of ?_)
    | with_reducible refine ablk_miss (by decide) ?_
    | ((with_reducible refine al_id ?_); refine go_run (tyOf_ok _) [] (by simp only [go_sem, Nat.reduceBEq, Nat.reduceBneDiff, Nat.reduceLT, Nat.reduceLeDiff, Nat.reduceAdd, Nat.reduceMul, Nat.reduceSub, Nat.reduceEqDiff, reduceCtorEq, wob, tupR, e1, g1, g2, g3, hw1, htl, hl1, hc1, z0, v8_app, v8_set, List.length_set]; exact rfl) ?_ ?_)
    | (refine aw_draw (id := 1) (t := (.node [0, 1, 2, 3, 4, 5, 6, 7, 8, 9] [])) (drR [10000] [] []) mixed (by kernel_rfl) (by kernel_rfl) (fun _ _ h => h) ?_)
    | (refine aw_draw (id := 3) (t := (.node [0, 1, 2, 3, 4, 5, 6, 7, 8, 9, 10, 11, 12, 13, 14] [])) (drR [10000] [31] []) mixed (by kernel_rfl) (by kernel_rfl) (fun _ _ h => h) ?_)
    | (refine aw_draw (id := 6) (t := (.node [0, 1, 2, 3, 4, 5, 6, 7, 8, 9, 10, 11, 12, 13, 14] [])) (drR [7] [53, 56] [58]) mixed (by kernel_rfl) (by kernel_rfl) (fun _ _ h => h) ?_)
    | (refine at_done (by simp only [List.filterMap_cons, List.filterMap_nil, List.getElem?_toArray, List.getElem?_cons_zero, List.getElem?_cons_succ]; exact rfl) ?_) | (refine at_alt (by simp only [List.filterMap_cons, List.filterMap_nil, List.getElem?_toArray, List.getElem?_cons_zero, List.getElem?_cons_succ]; exact rfl) ?_) | refine qalt_normal ?_ | refine ats_cons ?_ ?_ | exact ats_nil
    | ((with_reducible refine ald_id ?_); refine go_runD (tyOf_ok _) [] (by simp only [go_sem, Nat.reduceBEq, Nat.reduceBneDiff, Nat.reduceLT, Nat.reduceLeDiff, Nat.reduceAdd, Nat.reduceMul, Nat.reduceSub, Nat.reduceEqDiff, reduceCtorEq, wob, tupR, e1, g1, g2, g3, hw1, htl, hl1, hc1, z0, v8_app, v8_set, List.length_set]; exact rfl) ?_ ?_)
    | (refine aw_cond (by simp only [go_sem, Nat.reduceBEq, Nat.reduceBneDiff, Nat.reduceLT, Nat.reduceLeDiff, Nat.reduceAdd, Nat.reduceMul, Nat.reduceSub, Nat.reduceEqDiff, reduceCtorEq, wob, tupR, e1, g1, g2, g3, hw1, htl, hl1, hc1, z0, v8_app, v8_set, List.length_set]; exact rfl) (by simp only [go_sem, Nat.reduceBEq, Nat.reduceBneDiff, Nat.reduceLT, Nat.reduceLeDiff, Nat.reduceAdd, Nat.reduceMul, Nat.reduceSub, Nat.reduceEqDiff, reduceCtorEq]) (fun h => ?_) (fun h => ?_) <;> (try simp only [decide_eq_true_eq, decide_eq_false_iff_not, Bool.not_eq_true', Bool.not_eq_false', Bool.or_eq_true, Bool.or_eq_false_iff, Bool.and_eq_true, Bool.and_eq_false_iff, Decidable.not_not, reduceCtorEq] at h) <;> (try (exfalso; omega)))
    | (first | refine aendG_ret (by simp only [go_sem, Nat.reduceBEq, Nat.reduceBneDiff, Nat.reduceLT, Nat.reduceLeDiff, Nat.reduceAdd, Nat.reduceMul, Nat.reduceSub, Nat.reduceEqDiff, reduceCtorEq, wob, tupR, e1, g1, g2, g3, hw1, htl, hl1, hc1, z0, v8_app, v8_set, List.length_set]; exact rfl) ?_ ?_ ?_ | refine aendG_normal (by simp only [go_sem, Nat.reduceBEq, Nat.reduceBneDiff, Nat.reduceLT, Nat.reduceLeDiff, Nat.reduceAdd, Nat.reduceMul, Nat.reduceSub, Nat.reduceEqDiff, reduceCtorEq, wob, tupR, e1, g1, g2, g3, hw1, htl, hl1, hc1, z0, v8_app, v8_set, List.length_set]; exact rfl) ?_ ?_ ?_)
    | (refine go_callG [(10000, 10000), (15000, 15000)] [(10000, 10000), (15000, 15000)] [15000] [10000] (by simp only [go_sem, Nat.reduceBEq, Nat.reduceBneDiff, Nat.reduceLT, Nat.reduceLeDiff, Nat.reduceAdd, Nat.reduceMul, Nat.reduceSub, Nat.reduceEqDiff, reduceCtorEq, wob, tupR, e1, g1, g2, g3, hw1, htl, hl1, hc1, z0, v8_app, v8_set, List.length_set]; exact rfl) ?_ rfl rfl (by first | exact .inl rfl | exact .inr rfl) (by simp only [go_sem, Nat.reduceBEq, Nat.reduceBneDiff, Nat.reduceLT, Nat.reduceLeDiff, Nat.reduceAdd, Nat.reduceMul, Nat.reduceSub, Nat.reduceEqDiff, reduceCtorEq, wob, tupR, e1, g1, g2, g3, hw1, htl, hl1, hc1, z0, v8_app, v8_set, List.length_set] <;> exact rfl) (hc) (.inl rfl) ?_) | fail)) <;> (try omega)
    · exact AV.up_rfl _
    · show obUp _ (wob ts rs X V (ls'.set ls.length n))
      rw [show wob ts rs X V (ls'.set ls.length n) = [(10000, .var [.lst 4 (encTs ts), .lst 2 (encRs rs), .lst 4 (encEs X), .lst 3 (encNs V), vI ls'.length, .ref 3 1 15000 0 ls'.length]), (15000, .row 3 1 (v8 (ls'.set ls.length n)))] by simp only [wob, List.length_set]]
      exact obUp_cons rfl (obUp_cons rfl obUp_nil)
  · have e1 : ((V.length : Int) ≤ ls.length) = True := eq_true (by omega)
    rw [List.getElem?_eq_none (by omega)] at hr
    subst hr
    (repeat' (first
    | exact trivial
    | (with_reducible first | refine aw_seq ?_ | refine aw_block ?_ | refine aw_skip ?_ | refine aw_ret ?_ | refine aw_exit ?_ | refine aseq_normal ?_ | refine aseq_ret ?_ | refine aseq_exit ?_ | refine ablk_normal ?_ | refine ablk_ret ?_ | refine ablk_hit ?_ | refine aw_region ?_ | refine go_nil ?_ | refine al_of ?_)
    | with_reducible refine ablk_miss (by decide) ?_
    | ((with_reducible refine al_id ?_); refine go_run (tyOf_ok _) [] (by simp only [go_sem, Nat.reduceBEq, Nat.reduceBneDiff, Nat.reduceLT, Nat.reduceLeDiff, Nat.reduceAdd, Nat.reduceMul, Nat.reduceSub, Nat.reduceEqDiff, reduceCtorEq, wob, tupR, e1]; exact rfl) ?_ ?_)
    | (refine aw_draw (id := 1) (t := (.node [0, 1, 2, 3, 4, 5, 6, 7, 8, 9] [])) (drR [10000] [] []) mixed (by kernel_rfl) (by kernel_rfl) (fun _ _ h => h) ?_)
    | (refine aw_draw (id := 3) (t := (.node [0, 1, 2, 3, 4, 5, 6, 7, 8, 9, 10, 11, 12, 13, 14] [])) (drR [10000] [31] []) mixed (by kernel_rfl) (by kernel_rfl) (fun _ _ h => h) ?_)
    | (refine aw_draw (id := 6) (t := (.node [0, 1, 2, 3, 4, 5, 6, 7, 8, 9, 10, 11, 12, 13, 14] [])) (drR [7] [53, 56] [58]) mixed (by kernel_rfl) (by kernel_rfl) (fun _ _ h => h) ?_)
    | (refine at_done (by simp only [List.filterMap_cons, List.filterMap_nil, List.getElem?_toArray, List.getElem?_cons_zero, List.getElem?_cons_succ]; exact rfl) ?_) | (refine at_alt (by simp only [List.filterMap_cons, List.filterMap_nil, List.getElem?_toArray, List.getElem?_cons_zero, List.getElem?_cons_succ]; exact rfl) ?_) | refine qalt_normal ?_ | refine ats_cons ?_ ?_ | exact ats_nil
    | ((with_reducible refine ald_id ?_); refine go_runD (tyOf_ok _) [] (by simp only [go_sem, Nat.reduceBEq, Nat.reduceBneDiff, Nat.reduceLT, Nat.reduceLeDiff, Nat.reduceAdd, Nat.reduceMul, Nat.reduceSub, Nat.reduceEqDiff, reduceCtorEq, wob, tupR, e1]; exact rfl) ?_ ?_)
    | (refine aw_cond (by simp only [go_sem, Nat.reduceBEq, Nat.reduceBneDiff, Nat.reduceLT, Nat.reduceLeDiff, Nat.reduceAdd, Nat.reduceMul, Nat.reduceSub, Nat.reduceEqDiff, reduceCtorEq, wob, tupR, e1]; exact rfl) (by simp only [go_sem, Nat.reduceBEq, Nat.reduceBneDiff, Nat.reduceLT, Nat.reduceLeDiff, Nat.reduceAdd, Nat.reduceMul, Nat.reduceSub, Nat.reduceEqDiff, reduceCtorEq]) (fun h => ?_) (fun h => ?_) <;> (try simp only [decide_eq_true_eq, decide_eq_false_iff_not, Bool.not_eq_true', Bool.not_eq_false', Bool.or_eq_true, Bool.or_eq_false_iff, Bool.and_eq_true, Bool.and_eq_false_iff, Decidable.not_not, reduceCtorEq] at h) <;> (try (exfalso; omega)))
    | (first | refine aendG_ret (by simp only [go_sem, Nat.reduceBEq, Nat.reduceBneDiff, Nat.reduceLT, Nat.reduceLeDiff, Nat.reduceAdd, Nat.reduceMul, Nat.reduceSub, Nat.reduceEqDiff, reduceCtorEq, wob, tupR, e1]; exact rfl) ?_ ?_ ?_ | refine aendG_normal (by simp only [go_sem, Nat.reduceBEq, Nat.reduceBneDiff, Nat.reduceLT, Nat.reduceLeDiff, Nat.reduceAdd, Nat.reduceMul, Nat.reduceSub, Nat.reduceEqDiff, reduceCtorEq, wob, tupR, e1]; exact rfl) ?_ ?_ ?_) | fail)) <;> (try omega)
    all_goals (first | exact AV.up_rfl _ | exact obUp_cons rfl (obUp_cons rfl obUp_nil))
theorem value_any (W : WOK ts rs X V) : ∀ (f t : Nat), t < f → t < ts.length → RecAt ts rs X V (valW ts X V f) t
  | 0, _, h, _ => absurd h (Nat.not_lt_zero _)
  | f + 1, t, hf, ht => fun ls hl => by
    have hts : ∀ x ∈ ts, x.kind = 1 → 0 ≤ x.n ∧ x.n ≤ 4611686018427387904 := fun x hx hk => by
      obtain ⟨k, hk', rfl⟩ := List.getElem_of_mem hx
      have := right_1 (W.right k hk') hk
      omega
    refine ⟨value_step (rec := valW ts X V f) W t ht (valW_bd hts f) (fun t' ht' => value_any W f t' (by omega) (by omega)) ls hl _ ?_, valW_bd hts (f + 1) t ls hl⟩
    rw [valW, List.getElem?_eq_getElem ht]
    rfl
end
end Go.Proofs.Ytfgacgpicfknpaa
end
