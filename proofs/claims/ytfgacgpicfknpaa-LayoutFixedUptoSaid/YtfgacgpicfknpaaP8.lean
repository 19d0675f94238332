import Derived.Test.YtfgacgpicfknpaaP7
set_option linter.all false
section
section
namespace Go.Proofs.Ytfgacgpicfknpaa
open Go.RowKit
set_option maxRecDepth 100000
set_option maxHeartbeats 4000000
theorem str_succ (L : List ExtM) (l : List PartM) (x : ExtM) {j : Nat} (h : j < l.length) : str L (l.take (j + 1)) x = ⟨(str L (l.take j) x).fixed && (atE L l[j].ty).fixed, plusL [(str L (l.take j) x).least, withinM (atE L l[j].ty).fixed (atE L l[j].ty).least], plusL [(str L (l.take j) x).most, withinM (atE L l[j].ty).fixed (atE L l[j].ty).most], max (str L (l.take j) x).depth (1 + (atE L l[j].ty).depth)⟩ := by
  rw [List.take_succ_eq_append_getElem h, str, List.foldl_append]; rfl
theorem uni_succ (L : List ExtM) (l : List PartM) (x : Int × Int × Int) {j : Nat} (h : j < l.length) : uni L (l.take (j + 1)) x = (min (uni L (l.take j) x).1 (atE L l[j].ty).least, max (uni L (l.take j) x).2.1 (plusL [1, (atE L l[j].ty).most]), max (uni L (l.take j) x).2.2 (1 + (atE L l[j].ty).depth)) := by
  rw [List.take_succ_eq_append_getElem h, uni, List.foldl_append]; rfl
theorem parts_ext (t : TypeM) (L : List ExtM) (hL : ∀ e ∈ L, extOK e) (hp : ∀ p ∈ t.parts, 0 ≤ p.ty ∧ p.ty < L.length) (hl : t.parts.length ≤ 1000000000) (hk : t.kind = 7 ∨ t.kind = 8) : PCall Try.prog 49 [.agg [vI t.kind, vI t.n, vI t.elem, .lst 3 (encPs t.parts)], .lst 4 (encEs L)] (fun r => r = vE (extM t L)) := by
  refine go_fn (tyOf_ok _) Try.func49 rfl rfl (by rw [Try.results49]) Try.ntmps49 rfl fun E => ?_
  have k1 : (t.kind = 1) = False := eq_false (by omega)
  have k2 : (t.kind = 2) = False := eq_false (by omega)
  have k3 : (t.kind = 3) = False := eq_false (by omega)
  have k4 : (t.kind = 4) = False := eq_false (by omega)
  have k5 : (t.kind = 5) = False := eq_false (by omega)
  have k6 : (t.kind = 6) = False := eq_false (by omega)
  rcases hk with hk | hk
  · have k7 : (t.kind = 7) = True := eq_true hk
    (repeat' (first
    | exact trivial
    | with_reducible refine aw_seq ?_ | with_reducible refine aw_block ?_ | with_reducible refine aw_skip ?_ | with_reducible refine aw_ret ?_ | with_reducible refine aw_exit ?_ | with_reducible refine aseq_normal ?_ | with_reducible refine aseq_ret ?_ | with_reducible refine aseq_exit ?_ | with_reducible refine ablk_normal ?_ | with_reducible refine ablk_ret ?_ | with_reducible refine ablk_hit ?_ | with_reducible refine aw_region ?_ | with_reducible refine go_nil ?_ | with_reducible refine al_of ?_
    | with_reducible refine ablk_miss (by decide) ?_
    | ((with_reducible refine al_id ?_); refine go_run (tyOf_ok _) [] (by simp only [go_sem, Nat.reduceBEq, Nat.reduceBneDiff, Nat.reduceLT, Nat.reduceLeDiff, Nat.reduceAdd, Nat.reduceMul, Nat.reduceSub, Nat.reduceEqDiff, reduceCtorEq, encPs_len, encEs_len, k1, k2, k3, k4, k5, k6, k7]; exact rfl) ?_ ?_)
    | (refine aw_draw (id := 11) (t := (.node [0, 1, 2, 3, 4, 5, 6, 7, 8, 9] [])) (drR [2] [] []) mixed (by kernel_rfl) (by kernel_rfl) (fun _ _ h => h) ?_)
    | (refine aw_draw (id := 15) (t := (.node [0, 1, 2, 3, 4, 5, 6, 9, 7, 8, 10, 11, 12] [])) (drR [6, 2] [] []) mixed (by kernel_rfl) (by kernel_rfl) (fun _ _ h => h) ?_)
    | (refine aw_draw (id := 17) (t := (.node [0, 1, 2, 3, 4, 7, 8, 9, 5, 6, 10, 11, 12, 13] [])) (drR [2, 7] [] []) mixed (by kernel_rfl) (by kernel_rfl) (fun _ _ h => h) ?_)
    | (refine aw_draw (id := 19) (t := (.node [0, 1, 4, 5, 6, 7, 2, 3, 8, 9, 10, 11, 12] [])) (drR [8] [] []) mixed (by kernel_rfl) (by kernel_rfl) (fun _ _ h => h) ?_)
    | (refine aw_draw (id := 26) (t := (.node [0, 1, 2, 3, 7, 8, 9, 10, 11, 12, 4, 5, 6, 13, 14, 15, 16] [])) (drR [12] [112, 119] []) mixed (by kernel_rfl) (by kernel_rfl) (fun _ _ h => h) ?_)
    | (refine aw_draw (id := 35) (t := (.node [0, 1, 2, 3, 4, 8, 9, 10, 11, 12, 5, 6, 7, 16, 13, 14, 15, 17, 18, 19] [])) (drR [15] [152, 160] []) mixed (by kernel_rfl) (by kernel_rfl) (fun _ _ h => h) ?_)
    | (refine at_done (by simp only [List.filterMap_cons, List.filterMap_nil, List.getElem?_toArray, List.getElem?_cons_zero, List.getElem?_cons_succ]; exact rfl) ?_) | (refine at_alt (by simp only [List.filterMap_cons, List.filterMap_nil, List.getElem?_toArray, List.getElem?_cons_zero, List.getElem?_cons_succ]; exact rfl) ?_) | refine qalt_normal ?_ | refine ats_cons ?_ ?_ | exact ats_nil
    | ((with_reducible refine ald_id ?_); refine go_runD (tyOf_ok _) [] (by simp only [go_sem, Nat.reduceBEq, Nat.reduceBneDiff, Nat.reduceLT, Nat.reduceLeDiff, Nat.reduceAdd, Nat.reduceMul, Nat.reduceSub, Nat.reduceEqDiff, reduceCtorEq, encPs_len, encEs_len, k1, k2, k3, k4, k5, k6, k7]; exact rfl) ?_ ?_)
    | (refine aw_cond (by simp only [go_sem, Nat.reduceBEq, Nat.reduceBneDiff, Nat.reduceLT, Nat.reduceLeDiff, Nat.reduceAdd, Nat.reduceMul, Nat.reduceSub, Nat.reduceEqDiff, reduceCtorEq, encPs_len, encEs_len, k1, k2, k3, k4, k5, k6, k7]; exact rfl) (by simp only [go_sem, Nat.reduceBEq, Nat.reduceBneDiff, Nat.reduceLT, Nat.reduceLeDiff, Nat.reduceAdd, Nat.reduceMul, Nat.reduceSub, Nat.reduceEqDiff, reduceCtorEq]) (fun h => ?_) (fun h => ?_) <;> (try simp only [decide_eq_true_eq, decide_eq_false_iff_not, Bool.not_eq_true', Bool.not_eq_false', Bool.or_eq_true, Bool.or_eq_false_iff, Bool.and_eq_true, Bool.and_eq_false_iff, Decidable.not_not, reduceCtorEq] at h) <;> (try (exfalso; omega)))
    | (refine aend_ret (by simp only [go_sem, Nat.reduceBEq, Nat.reduceBneDiff, Nat.reduceLT, Nat.reduceLeDiff, Nat.reduceAdd, Nat.reduceMul, Nat.reduceSub, Nat.reduceEqDiff, reduceCtorEq, encPs_len, encEs_len, k1, k2, k3, k4, k5, k6, k7]; exact rfl) ?_ ?_)
    | (refine aend_normal (by simp only [go_sem, Nat.reduceBEq, Nat.reduceBneDiff, Nat.reduceLT, Nat.reduceLeDiff, Nat.reduceAdd, Nat.reduceMul, Nat.reduceSub, Nat.reduceEqDiff, reduceCtorEq, encPs_len, encEs_len, k1, k2, k3, k4, k5, k6, k7]; exact rfl) ?_ ?_)
    | (refine aendG_ret (by simp only [go_sem, Nat.reduceBEq, Nat.reduceBneDiff, Nat.reduceLT, Nat.reduceLeDiff, Nat.reduceAdd, Nat.reduceMul, Nat.reduceSub, Nat.reduceEqDiff, reduceCtorEq, encPs_len, encEs_len, k1, k2, k3, k4, k5, k6, k7]; exact rfl) ?_ ?_ ?_)
    | (refine aendG_normal (by simp only [go_sem, Nat.reduceBEq, Nat.reduceBneDiff, Nat.reduceLT, Nat.reduceLeDiff, Nat.reduceAdd, Nat.reduceMul, Nat.reduceSub, Nat.reduceEqDiff, reduceCtorEq, encPs_len, encEs_len, k1, k2, k3, k4, k5, k6, k7]; exact rfl) ?_ ?_ ?_) | fail)) <;> (try omega)
    refine go_loop [1, 4, 5, 9, 96, 97, 98] [4, 5] (fun x : Nat × Int × Int × Int => ⟨[(1, true, .lst 4 (encEs L)), (4, true, .ptr 1 4 0 0), (5, true, .ptr 1 5 0 0), (9, true, vI x.2.1), (96, true, .lst 3 (encPs t.parts)), (97, true, vI t.parts.length), (98, true, vI x.1)],
      [(4, .var [vB false, vI 0, vI 0, vI 0]), (5, .var [vB false, vI 0, vI x.2.2.1, vI x.2.2.2])]⟩)
      (fun x => x.1 ≤ t.parts.length ∧ x.2 = uni L (t.parts.take x.1) (4611686018427387904, 0, 1) ∧ (0 ≤ x.2.1 ∧ x.2.1 ≤ 4611686018427387904) ∧ (0 ≤ x.2.2.1 ∧ x.2.2.1 ≤ 4611686018427387904) ∧ 0 ≤ x.2.2.2 ∧ x.2.2.2 ≤ 1000000000001) (fun x => t.parts.length - x.1) (0, 4611686018427387904, 0, 1) (by simp only [go_sem, Nat.reduceBEq, Nat.reduceBneDiff, Nat.reduceLT, Nat.reduceLeDiff, Nat.reduceAdd, Nat.reduceMul, Nat.reduceSub, Nat.reduceEqDiff, reduceCtorEq]; exact rfl) ⟨Nat.zero_le _, rfl, by decide, by decide, by decide, by decide⟩ ?_
    intro ⟨j, le, mo, de⟩ ⟨hj, hx, hx1, hx2, hx3, hx4⟩
    simp only at hj hx hx1 hx2 hx3 hx4 ⊢
    have hw1 := wrap_i64 (n := (j : Int) + 1) (by omega)
    have i5 : I64 1 := by unfold I64; omega
    have i6 : I64 le := by unfold I64; omega
    by_cases hlt : j < t.parts.length
    · have e1 : ((j : Int) < t.parts.length) = True := eq_true (by omega)
      have g1 := encPs_get hlt
      have hty := hp _ (List.getElem_mem hlt)
      have htl : (t.parts[j].ty).toNat < L.length := by omega
      have ge := encEs_get htl
      have hat : atE L t.parts[j].ty = L[(t.parts[j].ty).toNat] := by rw [atE, List.getElem?_eq_getElem htl]; rfl
      have hok := hL _ (List.getElem_mem htl)
      have hs := uni_succ L t.parts (4611686018427387904, 0, 1) hlt
      rw [← hx, hat] at hs
      generalize L[(t.parts[j].ty).toNat] = e at ge hat hok hs
      obtain ⟨hlo, hmo, hde⟩ := hok
      have hw := wrap_i64 (n := 1 + e.depth) (by omega)
      have i2 : I64 e.most := by unfold I64; omega
      have b3 := plusL_bd [1, e.most]
      (repeat' (first
    | exact trivial
    | with_reducible refine aw_seq ?_ | with_reducible refine aw_block ?_ | with_reducible refine aw_skip ?_ | with_reducible refine aw_ret ?_ | with_reducible refine aw_exit ?_ | with_reducible refine aseq_normal ?_ | with_reducible refine aseq_ret ?_ | with_reducible refine aseq_exit ?_ | with_reducible refine ablk_normal ?_ | with_reducible refine ablk_ret ?_ | with_reducible refine ablk_hit ?_ | with_reducible refine aw_region ?_ | with_reducible refine go_nil ?_ | with_reducible refine al_of ?_
    | with_reducible refine ablk_miss (by decide) ?_
    | ((with_reducible refine al_id ?_); refine go_run (tyOf_ok _) [] (by simp only [go_sem, Nat.reduceBEq, Nat.reduceBneDiff, Nat.reduceLT, Nat.reduceLeDiff, Nat.reduceAdd, Nat.reduceMul, Nat.reduceSub, Nat.reduceEqDiff, reduceCtorEq, hw1, hw, e1, g1, ge, encPs_len, encEs_len]; exact rfl) ?_ ?_)
    | (refine aw_draw (id := 11) (t := (.node [0, 1, 2, 3, 4, 5, 6, 7, 8, 9] [])) (drR [2] [] []) mixed (by kernel_rfl) (by kernel_rfl) (fun _ _ h => h) ?_)
    | (refine aw_draw (id := 15) (t := (.node [0, 1, 2, 3, 4, 5, 6, 9, 7, 8, 10, 11, 12] [])) (drR [6, 2] [] []) mixed (by kernel_rfl) (by kernel_rfl) (fun _ _ h => h) ?_)
    | (refine aw_draw (id := 17) (t := (.node [0, 1, 2, 3, 4, 7, 8, 9, 5, 6, 10, 11, 12, 13] [])) (drR [2, 7] [] []) mixed (by kernel_rfl) (by kernel_rfl) (fun _ _ h => h) ?_)
    | (refine aw_draw (id := 19) (t := (.node [0, 1, 4, 5, 6, 7, 2, 3, 8, 9, 10, 11, 12] [])) (drR [8] [] []) mixed (by kernel_rfl) (by kernel_rfl) (fun _ _ h => h) ?_)
    | (refine aw_draw (id := 26) (t := (.node [0, 1, 2, 3, 7, 8, 9, 10, 11, 12, 4, 5, 6, 13, 14, 15, 16] [])) (drR [12] [112, 119] []) mixed (by kernel_rfl) (by kernel_rfl) (fun _ _ h => h) ?_)
    | (refine aw_draw (id := 35) (t := (.node [0, 1, 2, 3, 4, 8, 9, 10, 11, 12, 5, 6, 7, 16, 13, 14, 15, 17, 18, 19] [])) (drR [15] [152, 160] []) mixed (by kernel_rfl) (by kernel_rfl) (fun _ _ h => h) ?_)
    | (refine at_done (by simp only [List.filterMap_cons, List.filterMap_nil, List.getElem?_toArray, List.getElem?_cons_zero, List.getElem?_cons_succ]; exact rfl) ?_) | (refine at_alt (by simp only [List.filterMap_cons, List.filterMap_nil, List.getElem?_toArray, List.getElem?_cons_zero, List.getElem?_cons_succ]; exact rfl) ?_) | refine qalt_normal ?_ | refine ats_cons ?_ ?_ | exact ats_nil
    | ((with_reducible refine ald_id ?_); refine go_runD (tyOf_ok _) [] (by simp only [go_sem, Nat.reduceBEq, Nat.reduceBneDiff, Nat.reduceLT, Nat.reduceLeDiff, Nat.reduceAdd, Nat.reduceMul, Nat.reduceSub, Nat.reduceEqDiff, reduceCtorEq, hw1, hw, e1, g1, ge, encPs_len, encEs_len]; exact rfl) ?_ ?_)
    | (refine aw_cond (by simp only [go_sem, Nat.reduceBEq, Nat.reduceBneDiff, Nat.reduceLT, Nat.reduceLeDiff, Nat.reduceAdd, Nat.reduceMul, Nat.reduceSub, Nat.reduceEqDiff, reduceCtorEq, hw1, hw, e1, g1, ge, encPs_len, encEs_len]; exact rfl) (by simp only [go_sem, Nat.reduceBEq, Nat.reduceBneDiff, Nat.reduceLT, Nat.reduceLeDiff, Nat.reduceAdd, Nat.reduceMul, Nat.reduceSub, Nat.reduceEqDiff, reduceCtorEq]) (fun h => ?_) (fun h => ?_) <;> (try simp only [decide_eq_true_eq, decide_eq_false_iff_not, Bool.not_eq_true', Bool.not_eq_false', Bool.or_eq_true, Bool.or_eq_false_iff, Bool.and_eq_true, Bool.and_eq_false_iff, Decidable.not_not, reduceCtorEq] at h) <;> (try (exfalso; omega)))
    | (refine aend_ret (by simp only [go_sem, Nat.reduceBEq, Nat.reduceBneDiff, Nat.reduceLT, Nat.reduceLeDiff, Nat.reduceAdd, Nat.reduceMul, Nat.reduceSub, Nat.reduceEqDiff, reduceCtorEq, hw1, hw, e1, g1, ge, encPs_len, encEs_len]; exact rfl) ?_ ?_)
    | (refine aend_normal (by simp only [go_sem, Nat.reduceBEq, Nat.reduceBneDiff, Nat.reduceLT, Nat.reduceLeDiff, Nat.reduceAdd, Nat.reduceMul, Nat.reduceSub, Nat.reduceEqDiff, reduceCtorEq, hw1, hw, e1, g1, ge, encPs_len, encEs_len]; exact rfl) ?_ ?_)
    | (refine aendG_ret (by simp only [go_sem, Nat.reduceBEq, Nat.reduceBneDiff, Nat.reduceLT, Nat.reduceLeDiff, Nat.reduceAdd, Nat.reduceMul, Nat.reduceSub, Nat.reduceEqDiff, reduceCtorEq, hw1, hw, e1, g1, ge, encPs_len, encEs_len]; exact rfl) ?_ ?_ ?_)
    | (refine aendG_normal (by simp only [go_sem, Nat.reduceBEq, Nat.reduceBneDiff, Nat.reduceLT, Nat.reduceLeDiff, Nat.reduceAdd, Nat.reduceMul, Nat.reduceSub, Nat.reduceEqDiff, reduceCtorEq, hw1, hw, e1, g1, ge, encPs_len, encEs_len]; exact rfl) ?_ ?_ ?_)
    | (refine go_call (by simp only [go_sem, Nat.reduceBEq, Nat.reduceBneDiff, Nat.reduceLT, Nat.reduceLeDiff, Nat.reduceAdd, Nat.reduceMul, Nat.reduceSub, Nat.reduceEqDiff, reduceCtorEq, hw1, hw, e1, g1, ge, encPs_len, encEs_len]; exact rfl) ?_ (fun _ => plus2_p _ _ i5 i2) rfl ?_) | fail)) <;> (try omega)
      exact ⟨(j + 1, min le e.least, max mo (plusL [1, e.most]), max de (1 + e.depth)), by simp only [go_sem, Nat.reduceBEq, Nat.reduceBneDiff, Nat.reduceLT, Nat.reduceLeDiff, Nat.reduceAdd, Nat.reduceMul, Nat.reduceSub, Nat.reduceEqDiff, reduceCtorEq]; exact rfl, ⟨hlt, hs.symm, by simp only; omega, by simp only; omega, by simp only; omega, by simp only; omega⟩, by simp only; omega⟩
    · have e1 : ((j : Int) < t.parts.length) = False := eq_false (by omega)
      (repeat' (first
    | exact trivial
    | with_reducible refine aw_seq ?_ | with_reducible refine aw_block ?_ | with_reducible refine aw_skip ?_ | with_reducible refine aw_ret ?_ | with_reducible refine aw_exit ?_ | with_reducible refine aseq_normal ?_ | with_reducible refine aseq_ret ?_ | with_reducible refine aseq_exit ?_ | with_reducible refine ablk_normal ?_ | with_reducible refine ablk_ret ?_ | with_reducible refine ablk_hit ?_ | with_reducible refine aw_region ?_ | with_reducible refine go_nil ?_ | with_reducible refine al_of ?_
    | with_reducible refine ablk_miss (by decide) ?_
    | ((with_reducible refine al_id ?_); refine go_run (tyOf_ok _) [] (by simp only [go_sem, Nat.reduceBEq, Nat.reduceBneDiff, Nat.reduceLT, Nat.reduceLeDiff, Nat.reduceAdd, Nat.reduceMul, Nat.reduceSub, Nat.reduceEqDiff, reduceCtorEq, hw1, e1]; exact rfl) ?_ ?_)
    | (refine aw_draw (id := 11) (t := (.node [0, 1, 2, 3, 4, 5, 6, 7, 8, 9] [])) (drR [2] [] []) mixed (by kernel_rfl) (by kernel_rfl) (fun _ _ h => h) ?_)
    | (refine aw_draw (id := 15) (t := (.node [0, 1, 2, 3, 4, 5, 6, 9, 7, 8, 10, 11, 12] [])) (drR [6, 2] [] []) mixed (by kernel_rfl) (by kernel_rfl) (fun _ _ h => h) ?_)
    | (refine aw_draw (id := 17) (t := (.node [0, 1, 2, 3, 4, 7, 8, 9, 5, 6, 10, 11, 12, 13] [])) (drR [2, 7] [] []) mixed (by kernel_rfl) (by kernel_rfl) (fun _ _ h => h) ?_)
    | (refine aw_draw (id := 19) (t := (.node [0, 1, 4, 5, 6, 7, 2, 3, 8, 9, 10, 11, 12] [])) (drR [8] [] []) mixed (by kernel_rfl) (by kernel_rfl) (fun _ _ h => h) ?_)
    | (refine aw_draw (id := 26) (t := (.node [0, 1, 2, 3, 7, 8, 9, 10, 11, 12, 4, 5, 6, 13, 14, 15, 16] [])) (drR [12] [112, 119] []) mixed (by kernel_rfl) (by kernel_rfl) (fun _ _ h => h) ?_)
    | (refine aw_draw (id := 35) (t := (.node [0, 1, 2, 3, 4, 8, 9, 10, 11, 12, 5, 6, 7, 16, 13, 14, 15, 17, 18, 19] [])) (drR [15] [152, 160] []) mixed (by kernel_rfl) (by kernel_rfl) (fun _ _ h => h) ?_)
    | (refine at_done (by simp only [List.filterMap_cons, List.filterMap_nil, List.getElem?_toArray, List.getElem?_cons_zero, List.getElem?_cons_succ]; exact rfl) ?_) | (refine at_alt (by simp only [List.filterMap_cons, List.filterMap_nil, List.getElem?_toArray, List.getElem?_cons_zero, List.getElem?_cons_succ]; exact rfl) ?_) | refine qalt_normal ?_ | refine ats_cons ?_ ?_ | exact ats_nil
    | ((with_reducible refine ald_id ?_); refine go_runD (tyOf_ok _) [] (by simp only [go_sem, Nat.reduceBEq, Nat.reduceBneDiff, Nat.reduceLT, Nat.reduceLeDiff, Nat.reduceAdd, Nat.reduceMul, Nat.reduceSub, Nat.reduceEqDiff, reduceCtorEq, hw1, e1]; exact rfl) ?_ ?_)
    | (refine aw_cond (by simp only [go_sem, Nat.reduceBEq, Nat.reduceBneDiff, Nat.reduceLT, Nat.reduceLeDiff, Nat.reduceAdd, Nat.reduceMul, Nat.reduceSub, Nat.reduceEqDiff, reduceCtorEq, hw1, e1]; exact rfl) (by simp only [go_sem, Nat.reduceBEq, Nat.reduceBneDiff, Nat.reduceLT, Nat.reduceLeDiff, Nat.reduceAdd, Nat.reduceMul, Nat.reduceSub, Nat.reduceEqDiff, reduceCtorEq]) (fun h => ?_) (fun h => ?_) <;> (try simp only [decide_eq_true_eq, decide_eq_false_iff_not, Bool.not_eq_true', Bool.not_eq_false', Bool.or_eq_true, Bool.or_eq_false_iff, Bool.and_eq_true, Bool.and_eq_false_iff, Decidable.not_not, reduceCtorEq] at h) <;> (try (exfalso; omega)))
    | (refine aend_ret (by simp only [go_sem, Nat.reduceBEq, Nat.reduceBneDiff, Nat.reduceLT, Nat.reduceLeDiff, Nat.reduceAdd, Nat.reduceMul, Nat.reduceSub, Nat.reduceEqDiff, reduceCtorEq, hw1, e1]; exact rfl) ?_ ?_)
    | (refine aend_normal (by simp only [go_sem, Nat.reduceBEq, Nat.reduceBneDiff, Nat.reduceLT, Nat.reduceLeDiff, Nat.reduceAdd, Nat.reduceMul, Nat.reduceSub, Nat.reduceEqDiff, reduceCtorEq, hw1, e1]; exact rfl) ?_ ?_)
    | (refine aendG_ret (by simp only [go_sem, Nat.reduceBEq, Nat.reduceBneDiff, Nat.reduceLT, Nat.reduceLeDiff, Nat.reduceAdd, Nat.reduceMul, Nat.reduceSub, Nat.reduceEqDiff, reduceCtorEq, hw1, e1]; exact rfl) ?_ ?_ ?_)
    | (refine aendG_normal (by simp only [go_sem, Nat.reduceBEq, Nat.reduceBneDiff, Nat.reduceLT, Nat.reduceLeDiff, Nat.reduceAdd, Nat.reduceMul, Nat.reduceSub, Nat.reduceEqDiff, reduceCtorEq, hw1, e1]; exact rfl) ?_ ?_ ?_)
    | (refine go_call (by simp only [go_sem, Nat.reduceBEq, Nat.reduceBneDiff, Nat.reduceLT, Nat.reduceLeDiff, Nat.reduceAdd, Nat.reduceMul, Nat.reduceSub, Nat.reduceEqDiff, reduceCtorEq, hw1, e1]; exact rfl) ?_ (fun _ => plus2_p _ _ i5 i6) rfl ?_) | fail)) <;> (try omega)
      rw [take_len (by omega)] at hx
      rw [extM, if_neg (by omega), if_neg (by omega), if_neg (by omega), if_neg (by omega), if_neg (by omega), if_neg (by omega), if_pos hk, ← hx]
      exact rfl
  · have k7 : (t.kind = 7) = False := eq_false (by omega)
    have k8 : (t.kind = 8) = True := eq_true hk
    (repeat' (first
    | exact trivial
    | with_reducible refine aw_seq ?_ | with_reducible refine aw_block ?_ | with_reducible refine aw_skip ?_ | with_reducible refine aw_ret ?_ | with_reducible refine aw_exit ?_ | with_reducible refine aseq_normal ?_ | with_reducible refine aseq_ret ?_ | with_reducible refine aseq_exit ?_ | with_reducible refine ablk_normal ?_ | with_reducible refine ablk_ret ?_ | with_reducible refine ablk_hit ?_ | with_reducible refine aw_region ?_ | with_reducible refine go_nil ?_ | with_reducible refine al_of ?_
    | with_reducible refine ablk_miss (by decide) ?_
    | ((with_reducible refine al_id ?_); refine go_run (tyOf_ok _) [] (by simp only [go_sem, Nat.reduceBEq, Nat.reduceBneDiff, Nat.reduceLT, Nat.reduceLeDiff, Nat.reduceAdd, Nat.reduceMul, Nat.reduceSub, Nat.reduceEqDiff, reduceCtorEq, encPs_len, encEs_len, k1, k2, k3, k4, k5, k6, k7, k8]; exact rfl) ?_ ?_)
    | (refine aw_draw (id := 11) (t := (.node [0, 1, 2, 3, 4, 5, 6, 7, 8, 9] [])) (drR [2] [] []) mixed (by kernel_rfl) (by kernel_rfl) (fun _ _ h => h) ?_)
    | (refine aw_draw (id := 15) (t := (.node [0, 1, 2, 3, 4, 5, 6, 9, 7, 8, 10, 11, 12] [])) (drR [6, 2] [] []) mixed (by kernel_rfl) (by kernel_rfl) (fun _ _ h => h) ?_)
    | (refine aw_draw (id := 17) (t := (.node [0, 1, 2, 3, 4, 7, 8, 9, 5, 6, 10, 11, 12, 13] [])) (drR [2, 7] [] []) mixed (by kernel_rfl) (by kernel_rfl) (fun _ _ h => h) ?_)
    | (refine aw_draw (id := 19) (t := (.node [0, 1, 4, 5, 6, 7, 2, 3, 8, 9, 10, 11, 12] [])) (drR [8] [] []) mixed (by kernel_rfl) (by kernel_rfl) (fun _ _ h => h) ?_)
    | (refine aw_draw (id := 26) (t := (.node [0, 1, 2, 3, 7, 8, 9, 10, 11, 12, 4, 5, 6, 13, 14, 15, 16] [])) (drR [12] [112, 119] []) mixed (by kernel_rfl) (by kernel_rfl) (fun _ _ h => h) ?_)
    | (refine aw_draw (id := 35) (t := (.node [0, 1, 2, 3, 4, 8, 9, 10, 11, 12, 5, 6, 7, 16, 13, 14, 15, 17, 18, 19] [])) (drR [15] [152, 160] []) mixed (by kernel_rfl) (by kernel_rfl) (fun _ _ h => h) ?_)
    | (refine at_done (by simp only [List.filterMap_cons, List.filterMap_nil, List.getElem?_toArray, List.getElem?_cons_zero, List.getElem?_cons_succ]; exact rfl) ?_) | (refine at_alt (by simp only [List.filterMap_cons, List.filterMap_nil, List.getElem?_toArray, List.getElem?_cons_zero, List.getElem?_cons_succ]; exact rfl) ?_) | refine qalt_normal ?_ | refine ats_cons ?_ ?_ | exact ats_nil
    | ((with_reducible refine ald_id ?_); refine go_runD (tyOf_ok _) [] (by simp only [go_sem, Nat.reduceBEq, Nat.reduceBneDiff, Nat.reduceLT, Nat.reduceLeDiff, Nat.reduceAdd, Nat.reduceMul, Nat.reduceSub, Nat.reduceEqDiff, reduceCtorEq, encPs_len, encEs_len, k1, k2, k3, k4, k5, k6, k7, k8]; exact rfl) ?_ ?_)
    | (refine aw_cond (by simp only [go_sem, Nat.reduceBEq, Nat.reduceBneDiff, Nat.reduceLT, Nat.reduceLeDiff, Nat.reduceAdd, Nat.reduceMul, Nat.reduceSub, Nat.reduceEqDiff, reduceCtorEq, encPs_len, encEs_len, k1, k2, k3, k4, k5, k6, k7, k8]; exact rfl) (by simp only [go_sem, Nat.reduceBEq, Nat.reduceBneDiff, Nat.reduceLT, Nat.reduceLeDiff, Nat.reduceAdd, Nat.reduceMul, Nat.reduceSub, Nat.reduceEqDiff, reduceCtorEq]) (fun h => ?_) (fun h => ?_) <;> (try simp only [decide_eq_true_eq, decide_eq_false_iff_not, Bool.not_eq_true', Bool.not_eq_false', Bool.or_eq_true, Bool.or_eq_false_iff, Bool.and_eq_true, Bool.and_eq_false_iff, Decidable.not_not, reduceCtorEq] at h) <;> (try (exfalso; omega)))
    | (refine aend_ret (by simp only [go_sem, Nat.reduceBEq, Nat.reduceBneDiff, Nat.reduceLT, Nat.reduceLeDiff, Nat.reduceAdd, Nat.reduceMul, Nat.reduceSub, Nat.reduceEqDiff, reduceCtorEq, encPs_len, encEs_len, k1, k2, k3, k4, k5, k6, k7, k8]; exact rfl) ?_ ?_)
    | (refine aend_normal (by simp only [go_sem, Nat.reduceBEq, Nat.reduceBneDiff, Nat.reduceLT, Nat.reduceLeDiff, Nat.reduceAdd, Nat.reduceMul, Nat.reduceSub, Nat.reduceEqDiff, reduceCtorEq, encPs_len, encEs_len, k1, k2, k3, k4, k5, k6, k7, k8]; exact rfl) ?_ ?_)
    | (refine aendG_ret (by simp only [go_sem, Nat.reduceBEq, Nat.reduceBneDiff, Nat.reduceLT, Nat.reduceLeDiff, Nat.reduceAdd, Nat.reduceMul, Nat.reduceSub, Nat.reduceEqDiff, reduceCtorEq, encPs_len, encEs_len, k1, k2, k3, k4, k5, k6, k7, k8]; exact rfl) ?_ ?_ ?_)
    | (refine aendG_normal (by simp only [go_sem, Nat.reduceBEq, Nat.reduceBneDiff, Nat.reduceLT, Nat.reduceLeDiff, Nat.reduceAdd, Nat.reduceMul, Nat.reduceSub, Nat.reduceEqDiff, reduceCtorEq, encPs_len, encEs_len, k1, k2, k3, k4, k5, k6, k7, k8]; exact rfl) ?_ ?_ ?_) | fail)) <;> (try omega)
    refine go_loop [1, 4, 5, 133, 134, 135] [4, 5] (fun x : Nat × ExtM => ⟨[(1, true, .lst 4 (encEs L)), (4, true, .ptr 1 4 0 0), (5, true, .ptr 1 5 0 0), (133, true, .lst 3 (encPs t.parts)), (134, true, vI t.parts.length), (135, true, vI x.1)],
      [(4, .var [vB false, vI 0, vI 0, vI 0]), (5, .var [vB x.2.fixed, vI x.2.least, vI x.2.most, vI x.2.depth])]⟩)
      (fun x => x.1 ≤ t.parts.length ∧ x.2 = str L (t.parts.take x.1) ⟨true, 0, 0, 1⟩ ∧ (0 ≤ x.2.least ∧ x.2.least ≤ 4611686018427387904) ∧ (0 ≤ x.2.most ∧ x.2.most ≤ 4611686018427387904) ∧ 0 ≤ x.2.depth ∧ x.2.depth ≤ 1000000000001) (fun x => t.parts.length - x.1) (0, ⟨true, 0, 0, 1⟩) (by simp only [go_sem, Nat.reduceBEq, Nat.reduceBneDiff, Nat.reduceLT, Nat.reduceLeDiff, Nat.reduceAdd, Nat.reduceMul, Nat.reduceSub, Nat.reduceEqDiff, reduceCtorEq]; exact rfl) ⟨Nat.zero_le _, rfl, by decide, by decide, by decide, by decide⟩ ?_
    intro ⟨j, x⟩ ⟨hj, hx, hx1, hx2, hx3, hx4⟩
    simp only at hj hx hx1 hx2 hx3 hx4 ⊢
    have hw1 := wrap_i64 (n := (j : Int) + 1) (by omega)
    by_cases hlt : j < t.parts.length
    · have e1 : ((j : Int) < t.parts.length) = True := eq_true (by omega)
      have g1 := encPs_get hlt
      have hty := hp _ (List.getElem_mem hlt)
      have htl : (t.parts[j].ty).toNat < L.length := by omega
      have ge := encEs_get htl
      have hat : atE L t.parts[j].ty = L[(t.parts[j].ty).toNat] := by rw [atE, List.getElem?_eq_getElem htl]; rfl
      have hok := hL _ (List.getElem_mem htl)
      have hs := str_succ L t.parts ⟨true, 0, 0, 1⟩ hlt
      rw [← hx, hat] at hs
      generalize L[(t.parts[j].ty).toNat] = e at ge hat hok hs
      obtain ⟨hlo, hmo, hde⟩ := hok
      have hw := wrap_i64 (n := 1 + e.depth) (by omega)
      have i1 : I64 e.least := by unfold I64; omega
      have i2 : I64 e.most := by unfold I64; omega
      have b1 := withinM_bd (f := e.fixed) hlo
      have b2 := withinM_bd (f := e.fixed) hmo
      have i3 : I64 (withinM e.fixed e.least) := by unfold I64; omega
      have i4 : I64 (withinM e.fixed e.most) := by unfold I64; omega
      have i5 : I64 x.least := by unfold I64; omega
      have i6 : I64 x.most := by unfold I64; omega
      (repeat' (first
    | exact trivial
    | with_reducible refine aw_seq ?_ | with_reducible refine aw_block ?_ | with_reducible refine aw_skip ?_ | with_reducible refine aw_ret ?_ | with_reducible refine aw_exit ?_ | with_reducible refine aseq_normal ?_ | with_reducible refine aseq_ret ?_ | with_reducible refine aseq_exit ?_ | with_reducible refine ablk_normal ?_ | with_reducible refine ablk_ret ?_ | with_reducible refine ablk_hit ?_ | with_reducible refine aw_region ?_ | with_reducible refine go_nil ?_ | with_reducible refine al_of ?_
    | with_reducible refine ablk_miss (by decide) ?_
    | ((with_reducible refine al_id ?_); refine go_run (tyOf_ok _) [] (by simp only [go_sem, Nat.reduceBEq, Nat.reduceBneDiff, Nat.reduceLT, Nat.reduceLeDiff, Nat.reduceAdd, Nat.reduceMul, Nat.reduceSub, Nat.reduceEqDiff, reduceCtorEq, hw1, hw, e1, g1, ge, encPs_len, encEs_len]; exact rfl) ?_ ?_)
    | (refine aw_draw (id := 11) (t := (.node [0, 1, 2, 3, 4, 5, 6, 7, 8, 9] [])) (drR [2] [] []) mixed (by kernel_rfl) (by kernel_rfl) (fun _ _ h => h) ?_)
    | (refine aw_draw (id := 15) (t := (.node [0, 1, 2, 3, 4, 5, 6, 9, 7, 8, 10, 11, 12] [])) (drR [6, 2] [] []) mixed (by kernel_rfl) (by kernel_rfl) (fun _ _ h => h) ?_)
    | (refine aw_draw (id := 17) (t := (.node [0, 1, 2, 3, 4, 7, 8, 9, 5, 6, 10, 11, 12, 13] [])) (drR [2, 7] [] []) mixed (by kernel_rfl) (by kernel_rfl) (fun _ _ h => h) ?_)
    | (refine aw_draw (id := 19) (t := (.node [0, 1, 4, 5, 6, 7, 2, 3, 8, 9, 10, 11, 12] [])) (drR [8] [] []) mixed (by kernel_rfl) (by kernel_rfl) (fun _ _ h => h) ?_)
    | (refine aw_draw (id := 26) (t := (.node [0, 1, 2, 3, 7, 8, 9, 10, 11, 12, 4, 5, 6, 13, 14, 15, 16] [])) (drR [12] [112, 119] []) mixed (by kernel_rfl) (by kernel_rfl) (fun _ _ h => h) ?_)
    | (refine aw_draw (id := 35) (t := (.node [0, 1, 2, 3, 4, 8, 9, 10, 11, 12, 5, 6, 7, 16, 13, 14, 15, 17, 18, 19] [])) (drR [15] [152, 160] []) mixed (by kernel_rfl) (by kernel_rfl) (fun _ _ h => h) ?_)
    | (refine at_done (by simp only [List.filterMap_cons, List.filterMap_nil, List.getElem?_toArray, List.getElem?_cons_zero, List.getElem?_cons_succ]; exact rfl) ?_) | (refine at_alt (by simp only [List.filterMap_cons, List.filterMap_nil, List.getElem?_toArray, List.getElem?_cons_zero, List.getElem?_cons_succ]; exact rfl) ?_) | refine qalt_normal ?_ | refine ats_cons ?_ ?_ | exact ats_nil
    | ((with_reducible refine ald_id ?_); refine go_runD (tyOf_ok _) [] (by simp only [go_sem, Nat.reduceBEq, Nat.reduceBneDiff, Nat.reduceLT, Nat.reduceLeDiff, Nat.reduceAdd, Nat.reduceMul, Nat.reduceSub, Nat.reduceEqDiff, reduceCtorEq, hw1, hw, e1, g1, ge, encPs_len, encEs_len]; exact rfl) ?_ ?_)
    | (refine aw_cond (by simp only [go_sem, Nat.reduceBEq, Nat.reduceBneDiff, Nat.reduceLT, Nat.reduceLeDiff, Nat.reduceAdd, Nat.reduceMul, Nat.reduceSub, Nat.reduceEqDiff, reduceCtorEq, hw1, hw, e1, g1, ge, encPs_len, encEs_len]; exact rfl) (by simp only [go_sem, Nat.reduceBEq, Nat.reduceBneDiff, Nat.reduceLT, Nat.reduceLeDiff, Nat.reduceAdd, Nat.reduceMul, Nat.reduceSub, Nat.reduceEqDiff, reduceCtorEq]) (fun h => ?_) (fun h => ?_) <;> (try simp only [decide_eq_true_eq, decide_eq_false_iff_not, Bool.not_eq_true', Bool.not_eq_false', Bool.or_eq_true, Bool.or_eq_false_iff, Bool.and_eq_true, Bool.and_eq_false_iff, Decidable.not_not, reduceCtorEq] at h) <;> (try (exfalso; omega)))
    | (refine aend_ret (by simp only [go_sem, Nat.reduceBEq, Nat.reduceBneDiff, Nat.reduceLT, Nat.reduceLeDiff, Nat.reduceAdd, Nat.reduceMul, Nat.reduceSub, Nat.reduceEqDiff, reduceCtorEq, hw1, hw, e1, g1, ge, encPs_len, encEs_len]; exact rfl) ?_ ?_)
    | (refine aend_normal (by simp only [go_sem, Nat.reduceBEq, Nat.reduceBneDiff, Nat.reduceLT, Nat.reduceLeDiff, Nat.reduceAdd, Nat.reduceMul, Nat.reduceSub, Nat.reduceEqDiff, reduceCtorEq, hw1, hw, e1, g1, ge, encPs_len, encEs_len]; exact rfl) ?_ ?_)
    | (refine aendG_ret (by simp only [go_sem, Nat.reduceBEq, Nat.reduceBneDiff, Nat.reduceLT, Nat.reduceLeDiff, Nat.reduceAdd, Nat.reduceMul, Nat.reduceSub, Nat.reduceEqDiff, reduceCtorEq, hw1, hw, e1, g1, ge, encPs_len, encEs_len]; exact rfl) ?_ ?_ ?_)
    | (refine aendG_normal (by simp only [go_sem, Nat.reduceBEq, Nat.reduceBneDiff, Nat.reduceLT, Nat.reduceLeDiff, Nat.reduceAdd, Nat.reduceMul, Nat.reduceSub, Nat.reduceEqDiff, reduceCtorEq, hw1, hw, e1, g1, ge, encPs_len, encEs_len]; exact rfl) ?_ ?_ ?_)
    | (refine go_call (by simp only [go_sem, Nat.reduceBEq, Nat.reduceBneDiff, Nat.reduceLT, Nat.reduceLeDiff, Nat.reduceAdd, Nat.reduceMul, Nat.reduceSub, Nat.reduceEqDiff, reduceCtorEq, hw1, hw, e1, g1, ge, encPs_len, encEs_len]; exact rfl) ?_ (fun _ => within_any e _ i1) rfl ?_)
    | (refine go_call (by simp only [go_sem, Nat.reduceBEq, Nat.reduceBneDiff, Nat.reduceLT, Nat.reduceLeDiff, Nat.reduceAdd, Nat.reduceMul, Nat.reduceSub, Nat.reduceEqDiff, reduceCtorEq, hw1, hw, e1, g1, ge, encPs_len, encEs_len]; exact rfl) ?_ (fun _ => within_any e _ i2) rfl ?_)
    | (refine go_call (by simp only [go_sem, Nat.reduceBEq, Nat.reduceBneDiff, Nat.reduceLT, Nat.reduceLeDiff, Nat.reduceAdd, Nat.reduceMul, Nat.reduceSub, Nat.reduceEqDiff, reduceCtorEq, hw1, hw, e1, g1, ge, encPs_len, encEs_len]; exact rfl) ?_ (fun _ => plus2_p _ _ i5 i3) rfl ?_)
    | (refine go_call (by simp only [go_sem, Nat.reduceBEq, Nat.reduceBneDiff, Nat.reduceLT, Nat.reduceLeDiff, Nat.reduceAdd, Nat.reduceMul, Nat.reduceSub, Nat.reduceEqDiff, reduceCtorEq, hw1, hw, e1, g1, ge, encPs_len, encEs_len]; exact rfl) ?_ (fun _ => plus2_p _ _ i6 i4) rfl ?_) | fail)) <;> (try omega)
      exact ⟨(j + 1, ⟨x.fixed && e.fixed, plusL [x.least, withinM e.fixed e.least], plusL [x.most, withinM e.fixed e.most], max x.depth (1 + e.depth)⟩), by simp only [go_sem, Nat.reduceBEq, Nat.reduceBneDiff, Nat.reduceLT, Nat.reduceLeDiff, Nat.reduceAdd, Nat.reduceMul, Nat.reduceSub, Nat.reduceEqDiff, reduceCtorEq]; exact rfl, ⟨hlt, hs.symm, plusL_bd _, plusL_bd _, by simp only; omega, by simp only; omega⟩, by simp only; omega⟩
    · have e1 : ((j : Int) < t.parts.length) = False := eq_false (by omega)
      (repeat' (first
    | exact trivial
    | with_reducible refine aw_seq ?_ | with_reducible refine aw_block ?_ | with_reducible refine aw_skip ?_ | with_reducible refine aw_ret ?_ | with_reducible refine aw_exit ?_ | with_reducible refine aseq_normal ?_ | with_reducible refine aseq_ret ?_ | with_reducible refine aseq_exit ?_ | with_reducible refine ablk_normal ?_ | with_reducible refine ablk_ret ?_ | with_reducible refine ablk_hit ?_ | with_reducible refine aw_region ?_ | with_reducible refine go_nil ?_ | with_reducible refine al_of ?_
    | with_reducible refine ablk_miss (by decide) ?_
    | ((with_reducible refine al_id ?_); refine go_run (tyOf_ok _) [] (by simp only [go_sem, Nat.reduceBEq, Nat.reduceBneDiff, Nat.reduceLT, Nat.reduceLeDiff, Nat.reduceAdd, Nat.reduceMul, Nat.reduceSub, Nat.reduceEqDiff, reduceCtorEq, hw1, e1]; exact rfl) ?_ ?_)
    | (refine aw_draw (id := 11) (t := (.node [0, 1, 2, 3, 4, 5, 6, 7, 8, 9] [])) (drR [2] [] []) mixed (by kernel_rfl) (by kernel_rfl) (fun _ _ h => h) ?_)
    | (refine aw_draw (id := 15) (t := (.node [0, 1, 2, 3, 4, 5, 6, 9, 7, 8, 10, 11, 12] [])) (drR [6, 2] [] []) mixed (by kernel_rfl) (by kernel_rfl) (fun _ _ h => h) ?_)
    | (refine aw_draw (id := 17) (t := (.node [0, 1, 2, 3, 4, 7, 8, 9, 5, 6, 10, 11, 12, 13] [])) (drR [2, 7] [] []) mixed (by kernel_rfl) (by kernel_rfl) (fun _ _ h => h) ?_)
    | (refine aw_draw (id := 19) (t := (.node [0, 1, 4, 5, 6, 7, 2, 3, 8, 9, 10, 11, 12] [])) (drR [8] [] []) mixed (by kernel_rfl) (by kernel_rfl) (fun _ _ h => h) ?_)
    | (refine aw_draw (id := 26) (t := (.node [0, 1, 2, 3, 7, 8, 9, 10, 11, 12, 4, 5, 6, 13, 14, 15, 16] [])) (drR [12] [112, 119] []) mixed (by kernel_rfl) (by kernel_rfl) (fun _ _ h => h) ?_)
    | (refine aw_draw (id := 35) (t := (.node [0, 1, 2, 3, 4, 8, 9, 10, 11, 12, 5, 6, 7, 16, 13, 14, 15, 17, 18, 19] [])) (drR [15] [152, 160] []) mixed (by kernel_rfl) (by kernel_rfl) (fun _ _ h => h) ?_)
    | (refine at_done (by simp only [List.filterMap_cons, List.filterMap_nil, List.getElem?_toArray, List.getElem?_cons_zero, List.getElem?_cons_succ]; exact rfl) ?_) | (refine at_alt (by simp only [List.filterMap_cons, List.filterMap_nil, List.getElem?_toArray, List.getElem?_cons_zero, List.getElem?_cons_succ]; exact rfl) ?_) | refine qalt_normal ?_ | refine ats_cons ?_ ?_ | exact ats_nil
    | ((with_reducible refine ald_id ?_); refine go_runD (tyOf_ok _) [] (by simp only [go_sem, Nat.reduceBEq, Nat.reduceBneDiff, Nat.reduceLT, Nat.reduceLeDiff, Nat.reduceAdd, Nat.reduceMul, Nat.reduceSub, Nat.reduceEqDiff, reduceCtorEq, hw1, e1]; exact rfl) ?_ ?_)
    | (refine aw_cond (by simp only [go_sem, Nat.reduceBEq, Nat.reduceBneDiff, Nat.reduceLT, Nat.reduceLeDiff, Nat.reduceAdd, Nat.reduceMul, Nat.reduceSub, Nat.reduceEqDiff, reduceCtorEq, hw1, e1]; exact rfl) (by simp only [go_sem, Nat.reduceBEq, Nat.reduceBneDiff, Nat.reduceLT, Nat.reduceLeDiff, Nat.reduceAdd, Nat.reduceMul, Nat.reduceSub, Nat.reduceEqDiff, reduceCtorEq]) (fun h => ?_) (fun h => ?_) <;> (try simp only [decide_eq_true_eq, decide_eq_false_iff_not, Bool.not_eq_true', Bool.not_eq_false', Bool.or_eq_true, Bool.or_eq_false_iff, Bool.and_eq_true, Bool.and_eq_false_iff, Decidable.not_not, reduceCtorEq] at h) <;> (try (exfalso; omega)))
    | (refine aend_ret (by simp only [go_sem, Nat.reduceBEq, Nat.reduceBneDiff, Nat.reduceLT, Nat.reduceLeDiff, Nat.reduceAdd, Nat.reduceMul, Nat.reduceSub, Nat.reduceEqDiff, reduceCtorEq, hw1, e1]; exact rfl) ?_ ?_)
    | (refine aend_normal (by simp only [go_sem, Nat.reduceBEq, Nat.reduceBneDiff, Nat.reduceLT, Nat.reduceLeDiff, Nat.reduceAdd, Nat.reduceMul, Nat.reduceSub, Nat.reduceEqDiff, reduceCtorEq, hw1, e1]; exact rfl) ?_ ?_)
    | (refine aendG_ret (by simp only [go_sem, Nat.reduceBEq, Nat.reduceBneDiff, Nat.reduceLT, Nat.reduceLeDiff, Nat.reduceAdd, Nat.reduceMul, Nat.reduceSub, Nat.reduceEqDiff, reduceCtorEq, hw1, e1]; exact rfl) ?_ ?_ ?_)
    | (refine aendG_normal (by simp only [go_sem, Nat.reduceBEq, Nat.reduceBneDiff, Nat.reduceLT, Nat.reduceLeDiff, Nat.reduceAdd, Nat.reduceMul, Nat.reduceSub, Nat.reduceEqDiff, reduceCtorEq, hw1, e1]; exact rfl) ?_ ?_ ?_) | fail)) <;> (try omega)
      rw [take_len (by omega)] at hx
      rw [extM, if_neg (by omega), if_neg (by omega), if_neg (by omega), if_neg (by omega), if_neg (by omega), if_neg (by omega), if_neg (by omega), ← hx]
      exact rfl
end Go.Proofs.Ytfgacgpicfknpaa
end
section
namespace Go.Proofs.Ytfgacgpicfknpaa
open Go.RowKit
set_option maxRecDepth 100000
theorem rightOK_kind {t : TypeM} {k : Int} (h : rightOK t k = true) : (t.kind = 1 ∨ t.kind = 2 ∨ t.kind = 3) ∨ (t.kind = 4 ∨ t.kind = 5 ∨ t.kind = 6) ∨ (t.kind = 7 ∨ t.kind = 8) := by
  rw [rightOK, Bool.and_eq_true] at h
  obtain ⟨_, h⟩ := h
  split at h
  · exact .inl ‹_›
  · split at h
    · exact .inr (.inl ‹_›)
    · split at h
      · rename_i h3
        exact .inr (.inr (by omega))
      · cases h
theorem rightOK_n {t : TypeM} {k : Int} (h : rightOK t k = true) (hk : t.kind = 4 ∨ t.kind = 5 ∨ t.kind = 6) : 0 ≤ t.n ∧ t.n ≤ 1048576 := by
  rw [rightOK, Bool.and_eq_true] at h
  obtain ⟨h, _⟩ := h
  rw [numberOK, if_neg (by omega)] at h
  split at h
  · simp only [Bool.and_eq_true, decide_eq_true_eq] at h; omega
  · simp only [decide_eq_true_eq] at h; omega
theorem extent_any (t : TypeM) (L : List ExtM) (hr : rightOK t L.length = true) (hl : t.parts.length ≤ 1000000000) (hL : ∀ e ∈ L, extOK e) : PCall Try.prog 49 [.agg [vI t.kind, vI t.n, vI t.elem, .lst 3 (encPs t.parts)], .lst 4 (encEs L)] (fun r => r = vE (extM t L)) := by
  have ht := rightOK_ty hr
  rcases rightOK_kind hr with hk | hk | hk
  · exact leaf_any t L hk
  · have hn := rightOK_n hr hk
    exact elem_any t L (by unfold I64; omega) hL (ht.1 hk) hk
  · exact parts_ext t L hL ht.2 hl hk
end Go.Proofs.Ytfgacgpicfknpaa
end
section
namespace Go.Proofs.Ytfgacgpicfknpaa
open Go.RowKit
theorem atE_ok {L : List ExtM} {B : Int} (hB : 0 ≤ B) (hL : ∀ e ∈ L, extOK e ∧ e.depth ≤ B) (i : Int) : extOK (atE L i) ∧ (atE L i).depth ≤ B := by
  unfold atE
  cases h : L[i.toNat]? with
  | none => exact ⟨⟨by decide, by decide, by decide, by decide⟩, hB⟩
  | some e => exact hL e (List.mem_of_getElem? h)
theorem str_ok {L : List ExtM} {B : Int} (hB : 0 ≤ B) (hL : ∀ e ∈ L, extOK e ∧ e.depth ≤ B) : ∀ (l : List PartM) (x : ExtM), (0 ≤ x.least ∧ x.least ≤ 4611686018427387904) ∧ (0 ≤ x.most ∧ x.most ≤ 4611686018427387904) ∧ 0 ≤ x.depth ∧ x.depth ≤ B + 1 →
    (0 ≤ (str L l x).least ∧ (str L l x).least ≤ 4611686018427387904) ∧ (0 ≤ (str L l x).most ∧ (str L l x).most ≤ 4611686018427387904) ∧ 0 ≤ (str L l x).depth ∧ (str L l x).depth ≤ B + 1
  | [], _, h => h
  | p :: l, x, h => str_ok hB hL l _ ⟨plusL_bd _, plusL_bd _, by have := (atE_ok hB hL p.ty); have := this.1.2.2; simp only; omega, by have := (atE_ok hB hL p.ty).2; simp only; omega⟩
theorem uni_ok {L : List ExtM} {B : Int} (hB : 0 ≤ B) (hL : ∀ e ∈ L, extOK e ∧ e.depth ≤ B) : ∀ (l : List PartM) (x : Int × Int × Int), (0 ≤ x.1 ∧ x.1 ≤ 4611686018427387904) ∧ (0 ≤ x.2.1 ∧ x.2.1 ≤ 4611686018427387904) ∧ 0 ≤ x.2.2 ∧ x.2.2 ≤ B + 1 →
    (0 ≤ (uni L l x).1 ∧ (uni L l x).1 ≤ 4611686018427387904) ∧ (0 ≤ (uni L l x).2.1 ∧ (uni L l x).2.1 ≤ 4611686018427387904) ∧ 0 ≤ (uni L l x).2.2 ∧ (uni L l x).2.2 ≤ B + 1
  | [], _, h => h
  | p :: l, x, h => uni_ok hB hL l _ (by
    obtain ⟨⟨h1, h2, h3⟩, h4⟩ := atE_ok hB hL p.ty
    have h5 := plusL_bd [1, (atE L p.ty).most]
    exact ⟨by simp only; omega, by simp only; omega, by simp only; omega, by simp only; omega⟩)
theorem extM_ok {t : TypeM} {L : List ExtM} {k : Int} {B : Int} (hB : 0 ≤ B) (hB2 : B ≤ 900000000000) (hr : rightOK t k = true) (hL : ∀ e ∈ L, extOK e ∧ e.depth ≤ B) : extOK (extM t L) ∧ (extM t L).depth ≤ B + 1 := by
  have ha := atE_ok hB hL t.elem
  obtain ⟨⟨h1, h2, h3⟩, h4⟩ := ha
  unfold extM
  split
  · rename_i hk
    rw [rightOK, Bool.and_eq_true, numberOK, if_pos hk] at hr
    have := hr.1
    simp only [Bool.or_eq_true, decide_eq_true_eq] at this
    exact ⟨⟨by simp only; omega, by simp only; omega, by simp only; omega, by simp only; omega⟩, by simp only; omega⟩
  · split
    · exact ⟨⟨by decide, by decide, by decide, by decide⟩, by simp only; omega⟩
    · split
      · exact ⟨⟨by decide, by decide, by decide, by decide⟩, by simp only; omega⟩
      · split
        · exact ⟨⟨timesS_bd _ _, timesS_bd _ _, by simp only; omega, by simp only; omega⟩, by simp only; omega⟩
        · split
          · exact ⟨⟨by simp only; omega, timesS_bd _ _, by simp only; omega, by simp only; omega⟩, by simp only; omega⟩
          · split
            · exact ⟨⟨by simp only; omega, plusL_bd _, by simp only; omega, by simp only; omega⟩, by simp only; omega⟩
            · split
              · have := uni_ok hB hL t.parts (4611686018427387904, 0, 1) ⟨by decide, by decide, by decide, by simp only; omega⟩
                exact ⟨⟨plusL_bd _, this.2.1, this.2.2.1, by have := this.2.2.2; simp only; omega⟩, this.2.2.2⟩
              · have := str_ok hB hL t.parts ⟨true, 0, 0, 1⟩ ⟨by decide, by decide, by decide, by simp only; omega⟩
                exact ⟨⟨this.1, this.2.1, this.2.2.1, by omega⟩, this.2.2.2⟩
end Go.Proofs.Ytfgacgpicfknpaa
end
section
namespace Go.Proofs.Ytfgacgpicfknpaa
open Go.RowKit
set_option maxRecDepth 100000
set_option maxHeartbeats 4000000
def exts (l : List TypeM) : List ExtM := l.foldl (fun L t => L ++ [extM t L]) []
theorem exts_succ {l : List TypeM} {k : Nat} (h : k < l.length) : exts (l.take (k + 1)) = exts (l.take k) ++ [extM l[k] (exts (l.take k))] := by
  rw [List.take_succ_eq_append_getElem h, exts, List.foldl_append]; rfl
def sizesF (ts : List TypeM) (rs : List RootM) : List ExtM × Int := if (checkF ts rs).1 ≠ 0 then ([], (checkF ts rs).1) else (exts ts, 0)
theorem exts_len (l : List TypeM) : ∀ k, k ≤ l.length → (exts (l.take k)).length = k := by
  intro k
  induction k with
  | zero => intro _; rfl
  | succ k ih => intro h; rw [exts_succ (by omega), List.length_append, ih (by omega)]; rfl
theorem check_right {ts : List TypeM} {rs : List RootM} (h : (checkF ts rs).1 = 0) : ∀ (k : Nat) (hk : k < ts.length), rightOK ts[k] k = true := by
  intro k hk
  cases hf : (List.range ts.length).find? (wrongType ts) with
  | some j => rw [checkF, hf] at h; exact absurd (show (92 : Int) = 0 from h) (by decide)
  | none =>
    rw [List.find?_range_eq_none] at hf
    have := hf k hk
    rw [wrongType, List.getElem?_eq_getElem hk] at this
    simpa using this
theorem sizeOf_any (ts : List TypeM) (rs : List RootM) (hts : ts.length ≤ 1000000000) (hrs : rs.length ≤ 1000000000) (hp : ∀ t ∈ ts, t.parts.length ≤ 1000000000) : PCall Try.prog 22 [vSch ts rs] (fun r => r = .tup [.lst 4 (encEs (sizesF ts rs).1), vI (sizesF ts rs).2]) := by
  refine go_fnU (tyOf_ok _) Try.func22 rfl rfl (by rw [Try.results22]) Try.ntmps22 rfl fun E => ?_
  (repeat' (first
    | exact trivial
    | with_reducible refine aw_seq ?_ | with_reducible refine aw_block ?_ | with_reducible refine aw_skip ?_ | with_reducible refine aw_ret ?_ | with_reducible refine aw_exit ?_ | with_reducible refine aseq_normal ?_ | with_reducible refine aseq_ret ?_ | with_reducible refine aseq_exit ?_ | with_reducible refine ablk_normal ?_ | with_reducible refine ablk_ret ?_ | with_reducible refine ablk_hit ?_ | with_reducible refine aw_region ?_ | with_reducible refine go_nil ?_ | with_reducible refine al_of ?_
    | with_reducible refine ablk_miss (by decide) ?_
    | ((with_reducible refine al_id ?_); refine go_run (tyOf_ok _) [] (by simp only [go_sem, Nat.reduceBEq, Nat.reduceBneDiff, Nat.reduceLT, Nat.reduceLeDiff, Nat.reduceAdd, Nat.reduceMul, Nat.reduceSub, Nat.reduceEqDiff, reduceCtorEq, encTs_len, vSch, vF]; exact rfl) ?_ ?_)
    | (refine aw_draw (id := 3) (t := (.node [0, 1, 2, 3] [])) (drR [4] [] []) mixed (by kernel_rfl) (by kernel_rfl) (fun _ _ h => h) ?_)
    | (refine at_done (by simp only [List.filterMap_cons, List.filterMap_nil, List.getElem?_toArray, List.getElem?_cons_zero, List.getElem?_cons_succ]; exact rfl) ?_) | (refine at_alt (by simp only [List.filterMap_cons, List.filterMap_nil, List.getElem?_toArray, List.getElem?_cons_zero, List.getElem?_cons_succ]; exact rfl) ?_) | refine qalt_normal ?_ | refine ats_cons ?_ ?_ | exact ats_nil
    | ((with_reducible refine ald_id ?_); refine go_runD (tyOf_ok _) [] (by simp only [go_sem, Nat.reduceBEq, Nat.reduceBneDiff, Nat.reduceLT, Nat.reduceLeDiff, Nat.reduceAdd, Nat.reduceMul, Nat.reduceSub, Nat.reduceEqDiff, reduceCtorEq, encTs_len, vSch, vF]; exact rfl) ?_ ?_)
    | (refine aw_cond (by simp only [go_sem, Nat.reduceBEq, Nat.reduceBneDiff, Nat.reduceLT, Nat.reduceLeDiff, Nat.reduceAdd, Nat.reduceMul, Nat.reduceSub, Nat.reduceEqDiff, reduceCtorEq, encTs_len, vSch, vF]; exact rfl) (by simp only [go_sem, Nat.reduceBEq, Nat.reduceBneDiff, Nat.reduceLT, Nat.reduceLeDiff, Nat.reduceAdd, Nat.reduceMul, Nat.reduceSub, Nat.reduceEqDiff, reduceCtorEq]) (fun h => ?_) (fun h => ?_) <;> (try simp only [decide_eq_true_eq, decide_eq_false_iff_not, Bool.not_eq_true', Bool.not_eq_false', Bool.or_eq_true, Bool.or_eq_false_iff, Bool.and_eq_true, Bool.and_eq_false_iff, Decidable.not_not, reduceCtorEq] at h) <;> (try (exfalso; omega)))
    | (refine aend_ret (by simp only [go_sem, Nat.reduceBEq, Nat.reduceBneDiff, Nat.reduceLT, Nat.reduceLeDiff, Nat.reduceAdd, Nat.reduceMul, Nat.reduceSub, Nat.reduceEqDiff, reduceCtorEq, encTs_len, vSch, vF]; exact rfl) ?_ ?_)
    | (refine aend_normal (by simp only [go_sem, Nat.reduceBEq, Nat.reduceBneDiff, Nat.reduceLT, Nat.reduceLeDiff, Nat.reduceAdd, Nat.reduceMul, Nat.reduceSub, Nat.reduceEqDiff, reduceCtorEq, encTs_len, vSch, vF]; exact rfl) ?_ ?_)
    | (refine aendG_ret (by simp only [go_sem, Nat.reduceBEq, Nat.reduceBneDiff, Nat.reduceLT, Nat.reduceLeDiff, Nat.reduceAdd, Nat.reduceMul, Nat.reduceSub, Nat.reduceEqDiff, reduceCtorEq, encTs_len, vSch, vF]; exact rfl) ?_ ?_ ?_)
    | (refine aendG_normal (by simp only [go_sem, Nat.reduceBEq, Nat.reduceBneDiff, Nat.reduceLT, Nat.reduceLeDiff, Nat.reduceAdd, Nat.reduceMul, Nat.reduceSub, Nat.reduceEqDiff, reduceCtorEq, encTs_len, vSch, vF]; exact rfl) ?_ ?_ ?_)
    | (refine go_call (by simp only [go_sem, Nat.reduceBEq, Nat.reduceBneDiff, Nat.reduceLT, Nat.reduceLeDiff, Nat.reduceAdd, Nat.reduceMul, Nat.reduceSub, Nat.reduceEqDiff, reduceCtorEq, encTs_len, vSch, vF]; exact rfl) ?_ (fun _ => check_any ts rs hts hrs hp) rfl ?_) | fail)) <;> (try omega)
  · rw [sizesF, if_pos h]; exact AV.up_nil2 _ _
  have h0 := h
  have hr := check_right h
  refine aw_nilrow 5 57 4 5 (.inl (by decide)) (by simp only [go_sem, Nat.reduceBEq, Nat.reduceBneDiff, Nat.reduceLT, Nat.reduceLeDiff, Nat.reduceAdd, Nat.reduceMul, Nat.reduceSub, Nat.reduceEqDiff, reduceCtorEq]) ?_
  refine go_loop [5, 16, 17, 18] [5] (fun k : Nat => ⟨[(5, true, .ref 57 4 5 0 (encEs (exts (ts.take k))).length), (16, true, .lst 4 (encTs ts)), (17, true, vI ts.length), (18, true, vI k)],
    [(5, .row 57 4 (encEs (exts (ts.take k))))]⟩)
    (fun k => k ≤ ts.length ∧ ∀ e ∈ exts (ts.take k), extOK e ∧ e.depth ≤ k) (fun k => ts.length - k) 0 (by simp only [AState.nilrow, go_sem, Nat.reduceBEq, Nat.reduceBneDiff, Nat.reduceLT, Nat.reduceLeDiff, Nat.reduceAdd, Nat.reduceMul, Nat.reduceSub, Nat.reduceEqDiff, reduceCtorEq]; exact rfl) ⟨Nat.zero_le _, fun e h => by cases h⟩ ?_
  intro k ⟨hk, hL⟩
  have hw1 := wrap_i64 (n := (k : Int) + 1) (by omega)
  by_cases hlt : k < ts.length
  · have e1 : ((k : Int) < ts.length) = True := eq_true (by omega)
    have g1 := encTs_get hlt
    have hEl := exts_len ts k hk
    have hrk := hr k hlt
    have hok := extM_ok (by omega) (by omega) hrk hL
    have hnext := exts_succ hlt
    have hc := extent_any ts[k] (exts (ts.take k)) (by rw [hEl]; exact hrk) (hp _ (List.getElem_mem hlt)) (fun e he => (hL e he).1)
    generalize exts (ts.take k) = L at *
    have happ : encEs L ++ [[vB (extM ts[k] L).fixed, vI (extM ts[k] L).least, vI (extM ts[k] L).most, vI (extM ts[k] L).depth]] = encEs (exts (ts.take (k + 1))) := by rw [hnext]; simp [encEs, encE]
    have hlen : (encEs (exts (ts.take (k + 1)))).length = k + 1 := by rw [hnext]; simp [encEs, hEl]
    (repeat' (first
    | exact trivial
    | with_reducible refine aw_seq ?_ | with_reducible refine aw_block ?_ | with_reducible refine aw_skip ?_ | with_reducible refine aw_ret ?_ | with_reducible refine aw_exit ?_ | with_reducible refine aseq_normal ?_ | with_reducible refine aseq_ret ?_ | with_reducible refine aseq_exit ?_ | with_reducible refine ablk_normal ?_ | with_reducible refine ablk_ret ?_ | with_reducible refine ablk_hit ?_ | with_reducible refine aw_region ?_ | with_reducible refine go_nil ?_ | with_reducible refine al_of ?_
    | with_reducible refine ablk_miss (by decide) ?_
    | ((with_reducible refine al_id ?_); refine go_run (tyOf_ok _) [] (by simp only [go_sem, Nat.reduceBEq, Nat.reduceBneDiff, Nat.reduceLT, Nat.reduceLeDiff, Nat.reduceAdd, Nat.reduceMul, Nat.reduceSub, Nat.reduceEqDiff, reduceCtorEq, hw1, e1, g1, encTs_len, vE, happ, take_len (Nat.le_refl _)]; exact rfl) ?_ ?_)
    | (refine aw_draw (id := 3) (t := (.node [0, 1, 2, 3] [])) (drR [4] [] []) mixed (by kernel_rfl) (by kernel_rfl) (fun _ _ h => h) ?_)
    | (refine at_done (by simp only [List.filterMap_cons, List.filterMap_nil, List.getElem?_toArray, List.getElem?_cons_zero, List.getElem?_cons_succ]; exact rfl) ?_) | (refine at_alt (by simp only [List.filterMap_cons, List.filterMap_nil, List.getElem?_toArray, List.getElem?_cons_zero, List.getElem?_cons_succ]; exact rfl) ?_) | refine qalt_normal ?_ | refine ats_cons ?_ ?_ | exact ats_nil
    | ((with_reducible refine ald_id ?_); refine go_runD (tyOf_ok _) [] (by simp only [go_sem, Nat.reduceBEq, Nat.reduceBneDiff, Nat.reduceLT, Nat.reduceLeDiff, Nat.reduceAdd, Nat.reduceMul, Nat.reduceSub, Nat.reduceEqDiff, reduceCtorEq, hw1, e1, g1, encTs_len, vE, happ, take_len (Nat.le_refl _)]; exact rfl) ?_ ?_)
    | (refine aw_cond (by simp only [go_sem, Nat.reduceBEq, Nat.reduceBneDiff, Nat.reduceLT, Nat.reduceLeDiff, Nat.reduceAdd, Nat.reduceMul, Nat.reduceSub, Nat.reduceEqDiff, reduceCtorEq, hw1, e1, g1, encTs_len, vE, happ, take_len (Nat.le_refl _)]; exact rfl) (by simp only [go_sem, Nat.reduceBEq, Nat.reduceBneDiff, Nat.reduceLT, Nat.reduceLeDiff, Nat.reduceAdd, Nat.reduceMul, Nat.reduceSub, Nat.reduceEqDiff, reduceCtorEq]) (fun h => ?_) (fun h => ?_) <;> (try simp only [decide_eq_true_eq, decide_eq_false_iff_not, Bool.not_eq_true', Bool.not_eq_false', Bool.or_eq_true, Bool.or_eq_false_iff, Bool.and_eq_true, Bool.and_eq_false_iff, Decidable.not_not, reduceCtorEq] at h) <;> (try (exfalso; omega)))
    | (refine aend_ret (by simp only [go_sem, Nat.reduceBEq, Nat.reduceBneDiff, Nat.reduceLT, Nat.reduceLeDiff, Nat.reduceAdd, Nat.reduceMul, Nat.reduceSub, Nat.reduceEqDiff, reduceCtorEq, hw1, e1, g1, encTs_len, vE, happ, take_len (Nat.le_refl _)]; exact rfl) ?_ ?_)
    | (refine aend_normal (by simp only [go_sem, Nat.reduceBEq, Nat.reduceBneDiff, Nat.reduceLT, Nat.reduceLeDiff, Nat.reduceAdd, Nat.reduceMul, Nat.reduceSub, Nat.reduceEqDiff, reduceCtorEq, hw1, e1, g1, encTs_len, vE, happ, take_len (Nat.le_refl _)]; exact rfl) ?_ ?_)
    | (refine aendG_ret (by simp only [go_sem, Nat.reduceBEq, Nat.reduceBneDiff, Nat.reduceLT, Nat.reduceLeDiff, Nat.reduceAdd, Nat.reduceMul, Nat.reduceSub, Nat.reduceEqDiff, reduceCtorEq, hw1, e1, g1, encTs_len, vE, happ, take_len (Nat.le_refl _)]; exact rfl) ?_ ?_ ?_)
    | (refine aendG_normal (by simp only [go_sem, Nat.reduceBEq, Nat.reduceBneDiff, Nat.reduceLT, Nat.reduceLeDiff, Nat.reduceAdd, Nat.reduceMul, Nat.reduceSub, Nat.reduceEqDiff, reduceCtorEq, hw1, e1, g1, encTs_len, vE, happ, take_len (Nat.le_refl _)]; exact rfl) ?_ ?_ ?_)
    | (refine go_call (by simp only [go_sem, Nat.reduceBEq, Nat.reduceBneDiff, Nat.reduceLT, Nat.reduceLeDiff, Nat.reduceAdd, Nat.reduceMul, Nat.reduceSub, Nat.reduceEqDiff, reduceCtorEq, hw1, e1, g1, encTs_len, vE, happ, take_len (Nat.le_refl _)]; exact rfl) ?_ (fun _ => hc) rfl ?_) | fail)) <;> (try omega)
    refine ⟨k + 1, by simp only [go_sem, Nat.reduceBEq, Nat.reduceBneDiff, Nat.reduceLT, Nat.reduceLeDiff, Nat.reduceAdd, Nat.reduceMul, Nat.reduceSub, Nat.reduceEqDiff, reduceCtorEq]; exact rfl, ⟨hlt, fun e he => ?_⟩, by omega⟩
    rw [hnext] at he
    rcases List.mem_append.1 he with he | he
    · have := hL e he
      exact ⟨this.1, by have := this.2; omega⟩
    · rw [List.mem_singleton] at he
      subst he
      exact ⟨hok.1, by have := hok.2; omega⟩
  · have e1 : ((k : Int) < ts.length) = False := eq_false (by omega)
    (repeat' (first
    | exact trivial
    | with_reducible refine aw_seq ?_ | with_reducible refine aw_block ?_ | with_reducible refine aw_skip ?_ | with_reducible refine aw_ret ?_ | with_reducible refine aw_exit ?_ | with_reducible refine aseq_normal ?_ | with_reducible refine aseq_ret ?_ | with_reducible refine aseq_exit ?_ | with_reducible refine ablk_normal ?_ | with_reducible refine ablk_ret ?_ | with_reducible refine ablk_hit ?_ | with_reducible refine aw_region ?_ | with_reducible refine go_nil ?_ | with_reducible refine al_of ?_
    | with_reducible refine ablk_miss (by decide) ?_
    | ((with_reducible refine al_id ?_); refine go_run (tyOf_ok _) [] (by simp only [go_sem, Nat.reduceBEq, Nat.reduceBneDiff, Nat.reduceLT, Nat.reduceLeDiff, Nat.reduceAdd, Nat.reduceMul, Nat.reduceSub, Nat.reduceEqDiff, reduceCtorEq, hw1, e1]; exact rfl) ?_ ?_)
    | (refine aw_draw (id := 3) (t := (.node [0, 1, 2, 3] [])) (drR [4] [] []) mixed (by kernel_rfl) (by kernel_rfl) (fun _ _ h => h) ?_)
    | (refine at_done (by simp only [List.filterMap_cons, List.filterMap_nil, List.getElem?_toArray, List.getElem?_cons_zero, List.getElem?_cons_succ]; exact rfl) ?_) | (refine at_alt (by simp only [List.filterMap_cons, List.filterMap_nil, List.getElem?_toArray, List.getElem?_cons_zero, List.getElem?_cons_succ]; exact rfl) ?_) | refine qalt_normal ?_ | refine ats_cons ?_ ?_ | exact ats_nil
    | ((with_reducible refine ald_id ?_); refine go_runD (tyOf_ok _) [] (by simp only [go_sem, Nat.reduceBEq, Nat.reduceBneDiff, Nat.reduceLT, Nat.reduceLeDiff, Nat.reduceAdd, Nat.reduceMul, Nat.reduceSub, Nat.reduceEqDiff, reduceCtorEq, hw1, e1]; exact rfl) ?_ ?_)
    | (refine aw_cond (by simp only [go_sem, Nat.reduceBEq, Nat.reduceBneDiff, Nat.reduceLT, Nat.reduceLeDiff, Nat.reduceAdd, Nat.reduceMul, Nat.reduceSub, Nat.reduceEqDiff, reduceCtorEq, hw1, e1]; exact rfl) (by simp only [go_sem, Nat.reduceBEq, Nat.reduceBneDiff, Nat.reduceLT, Nat.reduceLeDiff, Nat.reduceAdd, Nat.reduceMul, Nat.reduceSub, Nat.reduceEqDiff, reduceCtorEq]) (fun h => ?_) (fun h => ?_) <;> (try simp only [decide_eq_true_eq, decide_eq_false_iff_not, Bool.not_eq_true', Bool.not_eq_false', Bool.or_eq_true, Bool.or_eq_false_iff, Bool.and_eq_true, Bool.and_eq_false_iff, Decidable.not_not, reduceCtorEq] at h) <;> (try (exfalso; omega)))
    | (refine aend_ret (by simp only [go_sem, Nat.reduceBEq, Nat.reduceBneDiff, Nat.reduceLT, Nat.reduceLeDiff, Nat.reduceAdd, Nat.reduceMul, Nat.reduceSub, Nat.reduceEqDiff, reduceCtorEq, hw1, e1]; exact rfl) ?_ ?_)
    | (refine aend_normal (by simp only [go_sem, Nat.reduceBEq, Nat.reduceBneDiff, Nat.reduceLT, Nat.reduceLeDiff, Nat.reduceAdd, Nat.reduceMul, Nat.reduceSub, Nat.reduceEqDiff, reduceCtorEq, hw1, e1]; exact rfl) ?_ ?_)
    | (refine aendG_ret (by simp only [go_sem, Nat.reduceBEq, Nat.reduceBneDiff, Nat.reduceLT, Nat.reduceLeDiff, Nat.reduceAdd, Nat.reduceMul, Nat.reduceSub, Nat.reduceEqDiff, reduceCtorEq, hw1, e1]; exact rfl) ?_ ?_ ?_)
    | (refine aendG_normal (by simp only [go_sem, Nat.reduceBEq, Nat.reduceBneDiff, Nat.reduceLT, Nat.reduceLeDiff, Nat.reduceAdd, Nat.reduceMul, Nat.reduceSub, Nat.reduceEqDiff, reduceCtorEq, hw1, e1]; exact rfl) ?_ ?_ ?_) | fail)) <;> (try omega)
    have hke : ts.take k = ts := take_len (by omega)
    rw [hke, take_len (Nat.le_refl _), sizesF, if_neg (fun g => g h0)]
    exact AV.up_rfl _
end Go.Proofs.Ytfgacgpicfknpaa
end
section
namespace Go.Proofs.Ytfgacgpicfknpaa
open Go.RowKit
set_option maxRecDepth 100000
theorem same_any (xs ys : List Int) (hx : xs.length ≤ 4611686018427387904) : PCall Try.prog 20 [.lst 1 (v8 xs), .lst 1 (v8 ys)] (fun r => r = .v (.bool (decide (xs = ys)))) := by
  refine go_fn (tyOf_ok _) Try.func20 rfl rfl (by rw [Try.results20]) Try.ntmps20 rfl fun E => ?_
  (repeat' (first
    | exact trivial
    | with_reducible refine aw_seq ?_ | with_reducible refine aw_block ?_ | with_reducible refine aw_skip ?_ | with_reducible refine aw_ret ?_ | with_reducible refine aw_exit ?_ | with_reducible refine aseq_normal ?_ | with_reducible refine aseq_ret ?_ | with_reducible refine aseq_exit ?_ | with_reducible refine ablk_normal ?_ | with_reducible refine ablk_ret ?_ | with_reducible refine ablk_hit ?_ | with_reducible refine aw_region ?_ | with_reducible refine go_nil ?_ | with_reducible refine al_of ?_
    | with_reducible refine ablk_miss (by decide) ?_
    | ((with_reducible refine al_id ?_); refine go_run (tyOf_ok _) [] (by simp only [go_sem, Nat.reduceBEq, Nat.reduceBneDiff, Nat.reduceLT, Nat.reduceLeDiff, Nat.reduceAdd, Nat.reduceMul, Nat.reduceSub, Nat.reduceEqDiff, reduceCtorEq, v8_len]; exact rfl) ?_ ?_)
    | (refine aw_draw (id := 6) (t := (.node [0, 1, 2, 3, 4, 5, 6, 7, 8] [])) (drR [] [20, 24] []) mixed (by kernel_rfl) (by kernel_rfl) (fun _ _ h => h) ?_)
    | (refine at_done (by simp only [List.filterMap_cons, List.filterMap_nil, List.getElem?_toArray, List.getElem?_cons_zero, List.getElem?_cons_succ]; exact rfl) ?_) | (refine at_alt (by simp only [List.filterMap_cons, List.filterMap_nil, List.getElem?_toArray, List.getElem?_cons_zero, List.getElem?_cons_succ]; exact rfl) ?_) | refine qalt_normal ?_ | refine ats_cons ?_ ?_ | exact ats_nil
    | ((with_reducible refine ald_id ?_); refine go_runD (tyOf_ok _) [] (by simp only [go_sem, Nat.reduceBEq, Nat.reduceBneDiff, Nat.reduceLT, Nat.reduceLeDiff, Nat.reduceAdd, Nat.reduceMul, Nat.reduceSub, Nat.reduceEqDiff, reduceCtorEq, v8_len]; exact rfl) ?_ ?_)
    | (refine aw_cond (by simp only [go_sem, Nat.reduceBEq, Nat.reduceBneDiff, Nat.reduceLT, Nat.reduceLeDiff, Nat.reduceAdd, Nat.reduceMul, Nat.reduceSub, Nat.reduceEqDiff, reduceCtorEq, v8_len]; exact rfl) (by simp only [go_sem, Nat.reduceBEq, Nat.reduceBneDiff, Nat.reduceLT, Nat.reduceLeDiff, Nat.reduceAdd, Nat.reduceMul, Nat.reduceSub, Nat.reduceEqDiff, reduceCtorEq]) (fun h => ?_) (fun h => ?_) <;> (try simp only [decide_eq_true_eq, decide_eq_false_iff_not, Bool.not_eq_true', Bool.not_eq_false', Bool.or_eq_true, Bool.or_eq_false_iff, Bool.and_eq_true, Bool.and_eq_false_iff, Decidable.not_not, reduceCtorEq] at h) <;> (try (exfalso; omega)))
    | (refine aend_ret (by simp only [go_sem, Nat.reduceBEq, Nat.reduceBneDiff, Nat.reduceLT, Nat.reduceLeDiff, Nat.reduceAdd, Nat.reduceMul, Nat.reduceSub, Nat.reduceEqDiff, reduceCtorEq, v8_len]; exact rfl) ?_ ?_)
    | (refine aend_normal (by simp only [go_sem, Nat.reduceBEq, Nat.reduceBneDiff, Nat.reduceLT, Nat.reduceLeDiff, Nat.reduceAdd, Nat.reduceMul, Nat.reduceSub, Nat.reduceEqDiff, reduceCtorEq, v8_len]; exact rfl) ?_ ?_)
    | (refine aendG_ret (by simp only [go_sem, Nat.reduceBEq, Nat.reduceBneDiff, Nat.reduceLT, Nat.reduceLeDiff, Nat.reduceAdd, Nat.reduceMul, Nat.reduceSub, Nat.reduceEqDiff, reduceCtorEq, v8_len]; exact rfl) ?_ ?_ ?_)
    | (refine aendG_normal (by simp only [go_sem, Nat.reduceBEq, Nat.reduceBneDiff, Nat.reduceLT, Nat.reduceLeDiff, Nat.reduceAdd, Nat.reduceMul, Nat.reduceSub, Nat.reduceEqDiff, reduceCtorEq, v8_len]; exact rfl) ?_ ?_ ?_) | fail)) <;> (try omega)
  · show AV.v _ = AV.v _
    rw [decide_eq_false (fun e => h (by rw [e]))]
  refine go_loop [0, 1, 5] [] (fun k : Nat => ⟨[(0, true, .lst 1 (v8 xs)), (1, true, .lst 1 (v8 ys)), (5, true, .v (.int .i64 k))], []⟩) (fun k => k ≤ xs.length ∧ xs.take k = ys.take k) (fun k => xs.length - k) 0 (by simp only [go_sem, Nat.reduceBEq, Nat.reduceBneDiff, Nat.reduceLT, Nat.reduceLeDiff, Nat.reduceAdd, Nat.reduceMul, Nat.reduceSub, Nat.reduceEqDiff, reduceCtorEq]; exact rfl) ⟨Nat.zero_le _, rfl⟩ ?_
  intro k ⟨hk, heq⟩
  have hl : xs.length = ys.length := by omega
  have hw := wrap_i64 (n := (k : Int) + 1) (by omega)
  by_cases hlt : k < xs.length
  · have g1 := v8_get hlt
    have g2 := v8_get (zs := ys) (k := k) (by omega)
    (repeat' (first
    | exact trivial
    | with_reducible refine aw_seq ?_ | with_reducible refine aw_block ?_ | with_reducible refine aw_skip ?_ | with_reducible refine aw_ret ?_ | with_reducible refine aw_exit ?_ | with_reducible refine aseq_normal ?_ | with_reducible refine aseq_ret ?_ | with_reducible refine aseq_exit ?_ | with_reducible refine ablk_normal ?_ | with_reducible refine ablk_ret ?_ | with_reducible refine ablk_hit ?_ | with_reducible refine aw_region ?_ | with_reducible refine go_nil ?_ | with_reducible refine al_of ?_
    | with_reducible refine ablk_miss (by decide) ?_
    | ((with_reducible refine al_id ?_); refine go_run (tyOf_ok _) [] (by simp only [go_sem, Nat.reduceBEq, Nat.reduceBneDiff, Nat.reduceLT, Nat.reduceLeDiff, Nat.reduceAdd, Nat.reduceMul, Nat.reduceSub, Nat.reduceEqDiff, reduceCtorEq, v8_len, g1, g2, hw]; exact rfl) ?_ ?_)
    | (refine aw_draw (id := 6) (t := (.node [0, 1, 2, 3, 4, 5, 6, 7, 8] [])) (drR [] [20, 24] []) mixed (by kernel_rfl) (by kernel_rfl) (fun _ _ h => h) ?_)
    | (refine at_done (by simp only [List.filterMap_cons, List.filterMap_nil, List.getElem?_toArray, List.getElem?_cons_zero, List.getElem?_cons_succ]; exact rfl) ?_) | (refine at_alt (by simp only [List.filterMap_cons, List.filterMap_nil, List.getElem?_toArray, List.getElem?_cons_zero, List.getElem?_cons_succ]; exact rfl) ?_) | refine qalt_normal ?_ | refine ats_cons ?_ ?_ | exact ats_nil
    | ((with_reducible refine ald_id ?_); refine go_runD (tyOf_ok _) [] (by simp only [go_sem, Nat.reduceBEq, Nat.reduceBneDiff, Nat.reduceLT, Nat.reduceLeDiff, Nat.reduceAdd, Nat.reduceMul, Nat.reduceSub, Nat.reduceEqDiff, reduceCtorEq, v8_len, g1, g2, hw]; exact rfl) ?_ ?_)
    | (refine aw_cond (by simp only [go_sem, Nat.reduceBEq, Nat.reduceBneDiff, Nat.reduceLT, Nat.reduceLeDiff, Nat.reduceAdd, Nat.reduceMul, Nat.reduceSub, Nat.reduceEqDiff, reduceCtorEq, v8_len, g1, g2, hw]; exact rfl) (by simp only [go_sem, Nat.reduceBEq, Nat.reduceBneDiff, Nat.reduceLT, Nat.reduceLeDiff, Nat.reduceAdd, Nat.reduceMul, Nat.reduceSub, Nat.reduceEqDiff, reduceCtorEq]) (fun h => ?_) (fun h => ?_) <;> (try simp only [decide_eq_true_eq, decide_eq_false_iff_not, Bool.not_eq_true', Bool.not_eq_false', Bool.or_eq_true, Bool.or_eq_false_iff, Bool.and_eq_true, Bool.and_eq_false_iff, Decidable.not_not, reduceCtorEq] at h) <;> (try (exfalso; omega)))
    | (refine aend_ret (by simp only [go_sem, Nat.reduceBEq, Nat.reduceBneDiff, Nat.reduceLT, Nat.reduceLeDiff, Nat.reduceAdd, Nat.reduceMul, Nat.reduceSub, Nat.reduceEqDiff, reduceCtorEq, v8_len, g1, g2, hw]; exact rfl) ?_ ?_)
    | (refine aend_normal (by simp only [go_sem, Nat.reduceBEq, Nat.reduceBneDiff, Nat.reduceLT, Nat.reduceLeDiff, Nat.reduceAdd, Nat.reduceMul, Nat.reduceSub, Nat.reduceEqDiff, reduceCtorEq, v8_len, g1, g2, hw]; exact rfl) ?_ ?_)
    | (refine aendG_ret (by simp only [go_sem, Nat.reduceBEq, Nat.reduceBneDiff, Nat.reduceLT, Nat.reduceLeDiff, Nat.reduceAdd, Nat.reduceMul, Nat.reduceSub, Nat.reduceEqDiff, reduceCtorEq, v8_len, g1, g2, hw]; exact rfl) ?_ ?_ ?_)
    | (refine aendG_normal (by simp only [go_sem, Nat.reduceBEq, Nat.reduceBneDiff, Nat.reduceLT, Nat.reduceLeDiff, Nat.reduceAdd, Nat.reduceMul, Nat.reduceSub, Nat.reduceEqDiff, reduceCtorEq, v8_len, g1, g2, hw]; exact rfl) ?_ ?_ ?_) | fail)) <;> (try omega)
    · show AV.v _ = AV.v _
      rw [decide_eq_false (fun e => by subst e; exact h rfl)]
    · refine ⟨k + 1, by simp only [go_sem, Nat.reduceBEq, Nat.reduceBneDiff, Nat.reduceLT, Nat.reduceLeDiff, Nat.reduceAdd, Nat.reduceMul, Nat.reduceSub, Nat.reduceEqDiff, reduceCtorEq]; exact rfl, ⟨by omega, ?_⟩, by omega⟩
      rw [List.take_succ_eq_append_getElem hlt, List.take_succ_eq_append_getElem (by omega), heq]
      simp_all
  · (repeat' (first
    | exact trivial
    | with_reducible refine aw_seq ?_ | with_reducible refine aw_block ?_ | with_reducible refine aw_skip ?_ | with_reducible refine aw_ret ?_ | with_reducible refine aw_exit ?_ | with_reducible refine aseq_normal ?_ | with_reducible refine aseq_ret ?_ | with_reducible refine aseq_exit ?_ | with_reducible refine ablk_normal ?_ | with_reducible refine ablk_ret ?_ | with_reducible refine ablk_hit ?_ | with_reducible refine aw_region ?_ | with_reducible refine go_nil ?_ | with_reducible refine al_of ?_
    | with_reducible refine ablk_miss (by decide) ?_
    | ((with_reducible refine al_id ?_); refine go_run (tyOf_ok _) [] (by simp only [go_sem, Nat.reduceBEq, Nat.reduceBneDiff, Nat.reduceLT, Nat.reduceLeDiff, Nat.reduceAdd, Nat.reduceMul, Nat.reduceSub, Nat.reduceEqDiff, reduceCtorEq, v8_len, hw]; exact rfl) ?_ ?_)
    | (refine aw_draw (id := 6) (t := (.node [0, 1, 2, 3, 4, 5, 6, 7, 8] [])) (drR [] [20, 24] []) mixed (by kernel_rfl) (by kernel_rfl) (fun _ _ h => h) ?_)
    | (refine at_done (by simp only [List.filterMap_cons, List.filterMap_nil, List.getElem?_toArray, List.getElem?_cons_zero, List.getElem?_cons_succ]; exact rfl) ?_) | (refine at_alt (by simp only [List.filterMap_cons, List.filterMap_nil, List.getElem?_toArray, List.getElem?_cons_zero, List.getElem?_cons_succ]; exact rfl) ?_) | refine qalt_normal ?_ | refine ats_cons ?_ ?_ | exact ats_nil
    | ((with_reducible refine ald_id ?_); refine go_runD (tyOf_ok _) [] (by simp only [go_sem, Nat.reduceBEq, Nat.reduceBneDiff, Nat.reduceLT, Nat.reduceLeDiff, Nat.reduceAdd, Nat.reduceMul, Nat.reduceSub, Nat.reduceEqDiff, reduceCtorEq, v8_len, hw]; exact rfl) ?_ ?_)
    | (refine aw_cond (by simp only [go_sem, Nat.reduceBEq, Nat.reduceBneDiff, Nat.reduceLT, Nat.reduceLeDiff, Nat.reduceAdd, Nat.reduceMul, Nat.reduceSub, Nat.reduceEqDiff, reduceCtorEq, v8_len, hw]; exact rfl) (by simp only [go_sem, Nat.reduceBEq, Nat.reduceBneDiff, Nat.reduceLT, Nat.reduceLeDiff, Nat.reduceAdd, Nat.reduceMul, Nat.reduceSub, Nat.reduceEqDiff, reduceCtorEq]) (fun h => ?_) (fun h => ?_) <;> (try simp only [decide_eq_true_eq, decide_eq_false_iff_not, Bool.not_eq_true', Bool.not_eq_false', Bool.or_eq_true, Bool.or_eq_false_iff, Bool.and_eq_true, Bool.and_eq_false_iff, Decidable.not_not, reduceCtorEq] at h) <;> (try (exfalso; omega)))
    | (refine aend_ret (by simp only [go_sem, Nat.reduceBEq, Nat.reduceBneDiff, Nat.reduceLT, Nat.reduceLeDiff, Nat.reduceAdd, Nat.reduceMul, Nat.reduceSub, Nat.reduceEqDiff, reduceCtorEq, v8_len, hw]; exact rfl) ?_ ?_)
    | (refine aend_normal (by simp only [go_sem, Nat.reduceBEq, Nat.reduceBneDiff, Nat.reduceLT, Nat.reduceLeDiff, Nat.reduceAdd, Nat.reduceMul, Nat.reduceSub, Nat.reduceEqDiff, reduceCtorEq, v8_len, hw]; exact rfl) ?_ ?_)
    | (refine aendG_ret (by simp only [go_sem, Nat.reduceBEq, Nat.reduceBneDiff, Nat.reduceLT, Nat.reduceLeDiff, Nat.reduceAdd, Nat.reduceMul, Nat.reduceSub, Nat.reduceEqDiff, reduceCtorEq, v8_len, hw]; exact rfl) ?_ ?_ ?_)
    | (refine aendG_normal (by simp only [go_sem, Nat.reduceBEq, Nat.reduceBneDiff, Nat.reduceLT, Nat.reduceLeDiff, Nat.reduceAdd, Nat.reduceMul, Nat.reduceSub, Nat.reduceEqDiff, reduceCtorEq, v8_len, hw]; exact rfl) ?_ ?_ ?_) | fail)) <;> (try omega)
    show AV.v _ = AV.v _
    rw [take_len (by omega), take_len (by omega)] at heq
    rw [decide_eq_true heq]

def offs : Int → List Int → Option (List Int)
  | _, [] => some []
  | x, n :: ns => if 4294967295 < x then none else (offs (x + min n 4294967296) ns).map (x :: ·)
theorem offs_step {x : Int} {xs : List Int} {k : Nat} (h : k < xs.length) : offs x (xs.drop k) = if 4294967295 < x then none else (offs (x + min xs[k] 4294967296) (xs.drop (k + 1))).map (x :: ·) := by
  rw [List.drop_eq_getElem_cons h]; rfl
def offsets (x : Int) (xs : List Int) : List Int × Int :=
  if x < 0 then ([], 3) else if ∃ n ∈ xs, n < 0 then ([], 3) else match offs x xs with
  | none => ([], 91)
  | some l => (l, 0)
def lerr (r : List Int × Int) : AV := .tup [.lst 1 (v8 r.1), .v (.int .i64 r.2)]
theorem drop_len {α : Type} {l : List α} {k : Nat} (h : l.length ≤ k) : l.drop k = [] := List.drop_of_length_le h
theorem offsets_any (x : Int) (hx : I64 x) (xs : List Int) (hl : xs.length ≤ 1000000000) (hxs : ∀ z ∈ xs, I64 z) : PCall Try.prog 16 [.v (.int .i64 x), .lst 1 (v8 xs)] (fun r => r = lerr (offsets x xs)) := by
  refine go_fnU (tyOf_ok _) Try.func16 rfl rfl (by rw [Try.results16]) Try.ntmps16 rfl fun E => ?_
  have hx' := hx
  unfold I64 at hx
  (repeat' (first
    | exact trivial
    | with_reducible refine aw_seq ?_ | with_reducible refine aw_block ?_ | with_reducible refine aw_skip ?_ | with_reducible refine aw_ret ?_ | with_reducible refine aw_exit ?_ | with_reducible refine aseq_normal ?_ | with_reducible refine aseq_ret ?_ | with_reducible refine aseq_exit ?_ | with_reducible refine ablk_normal ?_ | with_reducible refine ablk_ret ?_ | with_reducible refine ablk_hit ?_ | with_reducible refine aw_region ?_ | with_reducible refine go_nil ?_ | with_reducible refine al_of ?_
    | with_reducible refine ablk_miss (by decide) ?_
    | ((with_reducible refine al_id ?_); refine go_run (tyOf_ok _) [] (by simp only [go_sem, Nat.reduceBEq, Nat.reduceBneDiff, Nat.reduceLT, Nat.reduceLeDiff, Nat.reduceAdd, Nat.reduceMul, Nat.reduceSub, Nat.reduceEqDiff, reduceCtorEq, v8_len]; exact rfl) ?_ ?_)
    | (refine aw_cond (by simp only [go_sem, Nat.reduceBEq, Nat.reduceBneDiff, Nat.reduceLT, Nat.reduceLeDiff, Nat.reduceAdd, Nat.reduceMul, Nat.reduceSub, Nat.reduceEqDiff, reduceCtorEq, v8_len]; exact rfl) (by simp only [go_sem, Nat.reduceBEq, Nat.reduceBneDiff, Nat.reduceLT, Nat.reduceLeDiff, Nat.reduceAdd, Nat.reduceMul, Nat.reduceSub, Nat.reduceEqDiff, reduceCtorEq]) (fun h => ?_) (fun h => ?_) <;> (try simp only [decide_eq_true_eq, decide_eq_false_iff_not, Bool.not_eq_true', Bool.not_eq_false', Bool.or_eq_true, Bool.or_eq_false_iff, Bool.and_eq_true, Bool.and_eq_false_iff, Decidable.not_not, reduceCtorEq] at h) <;> (try (exfalso; omega)))
    | (refine aend_ret (by simp only [go_sem, Nat.reduceBEq, Nat.reduceBneDiff, Nat.reduceLT, Nat.reduceLeDiff, Nat.reduceAdd, Nat.reduceMul, Nat.reduceSub, Nat.reduceEqDiff, reduceCtorEq, v8_len]; exact rfl) ?_ ?_)
    | (refine aend_normal (by simp only [go_sem, Nat.reduceBEq, Nat.reduceBneDiff, Nat.reduceLT, Nat.reduceLeDiff, Nat.reduceAdd, Nat.reduceMul, Nat.reduceSub, Nat.reduceEqDiff, reduceCtorEq, v8_len]; exact rfl) ?_ ?_)
    | (refine aendG_ret (by simp only [go_sem, Nat.reduceBEq, Nat.reduceBneDiff, Nat.reduceLT, Nat.reduceLeDiff, Nat.reduceAdd, Nat.reduceMul, Nat.reduceSub, Nat.reduceEqDiff, reduceCtorEq, v8_len]; exact rfl) ?_ ?_ ?_)
    | (refine aendG_normal (by simp only [go_sem, Nat.reduceBEq, Nat.reduceBneDiff, Nat.reduceLT, Nat.reduceLeDiff, Nat.reduceAdd, Nat.reduceMul, Nat.reduceSub, Nat.reduceEqDiff, reduceCtorEq, v8_len]; exact rfl) ?_ ?_ ?_) | fail)) <;> (try omega)
  · rw [lerr, offsets, if_pos h]; exact AV.up_nil2 _ _
  · refine go_loop [0, 1, 14, 15, 16] [] (fun k : Nat => ⟨[(0, true, .v (.int .i64 x)), (1, true, .lst 1 (v8 xs)), (14, true, .lst 1 (v8 xs)), (15, true, .v (.int .i64 xs.length)), (16, true, .v (.int .i64 k))], []⟩) (fun k => k ≤ xs.length ∧ ∀ i (hi : i < xs.length), i < k → 0 ≤ xs[i]) (fun k => xs.length - k) 0 (by simp only [go_sem, Nat.reduceBEq, Nat.reduceBneDiff, Nat.reduceLT, Nat.reduceLeDiff, Nat.reduceAdd, Nat.reduceMul, Nat.reduceSub, Nat.reduceEqDiff, reduceCtorEq, v8_len]; exact rfl) ⟨Nat.zero_le _, fun _ _ h => by omega⟩ ?_
    intro k ⟨hk, hpos⟩
    have hw := wrap_i64 (n := (k : Int) + 1) (by omega)
    by_cases hlt : k < xs.length
    · have g1 := v8_get hlt
      (repeat' (first
    | exact trivial
    | with_reducible refine aw_seq ?_ | with_reducible refine aw_block ?_ | with_reducible refine aw_skip ?_ | with_reducible refine aw_ret ?_ | with_reducible refine aw_exit ?_ | with_reducible refine aseq_normal ?_ | with_reducible refine aseq_ret ?_ | with_reducible refine aseq_exit ?_ | with_reducible refine ablk_normal ?_ | with_reducible refine ablk_ret ?_ | with_reducible refine ablk_hit ?_ | with_reducible refine aw_region ?_ | with_reducible refine go_nil ?_ | with_reducible refine al_of ?_
    | with_reducible refine ablk_miss (by decide) ?_
    | ((with_reducible refine al_id ?_); refine go_run (tyOf_ok _) [] (by simp only [go_sem, Nat.reduceBEq, Nat.reduceBneDiff, Nat.reduceLT, Nat.reduceLeDiff, Nat.reduceAdd, Nat.reduceMul, Nat.reduceSub, Nat.reduceEqDiff, reduceCtorEq, v8_len, g1, hw]; exact rfl) ?_ ?_)
    | (refine aw_cond (by simp only [go_sem, Nat.reduceBEq, Nat.reduceBneDiff, Nat.reduceLT, Nat.reduceLeDiff, Nat.reduceAdd, Nat.reduceMul, Nat.reduceSub, Nat.reduceEqDiff, reduceCtorEq, v8_len, g1, hw]; exact rfl) (by simp only [go_sem, Nat.reduceBEq, Nat.reduceBneDiff, Nat.reduceLT, Nat.reduceLeDiff, Nat.reduceAdd, Nat.reduceMul, Nat.reduceSub, Nat.reduceEqDiff, reduceCtorEq]) (fun h => ?_) (fun h => ?_) <;> (try simp only [decide_eq_true_eq, decide_eq_false_iff_not, Bool.not_eq_true', Bool.not_eq_false', Bool.or_eq_true, Bool.or_eq_false_iff, Bool.and_eq_true, Bool.and_eq_false_iff, Decidable.not_not, reduceCtorEq] at h) <;> (try (exfalso; omega)))
    | (refine aend_ret (by simp only [go_sem, Nat.reduceBEq, Nat.reduceBneDiff, Nat.reduceLT, Nat.reduceLeDiff, Nat.reduceAdd, Nat.reduceMul, Nat.reduceSub, Nat.reduceEqDiff, reduceCtorEq, v8_len, g1, hw]; exact rfl) ?_ ?_)
    | (refine aend_normal (by simp only [go_sem, Nat.reduceBEq, Nat.reduceBneDiff, Nat.reduceLT, Nat.reduceLeDiff, Nat.reduceAdd, Nat.reduceMul, Nat.reduceSub, Nat.reduceEqDiff, reduceCtorEq, v8_len, g1, hw]; exact rfl) ?_ ?_)
    | (refine aendG_ret (by simp only [go_sem, Nat.reduceBEq, Nat.reduceBneDiff, Nat.reduceLT, Nat.reduceLeDiff, Nat.reduceAdd, Nat.reduceMul, Nat.reduceSub, Nat.reduceEqDiff, reduceCtorEq, v8_len, g1, hw]; exact rfl) ?_ ?_ ?_)
    | (refine aendG_normal (by simp only [go_sem, Nat.reduceBEq, Nat.reduceBneDiff, Nat.reduceLT, Nat.reduceLeDiff, Nat.reduceAdd, Nat.reduceMul, Nat.reduceSub, Nat.reduceEqDiff, reduceCtorEq, v8_len, g1, hw]; exact rfl) ?_ ?_ ?_) | fail)) <;> (try omega)
      · rw [lerr, offsets, if_neg (by omega), if_pos ⟨_, List.getElem_mem hlt, h⟩]; exact AV.up_nil2 _ _
      · refine ⟨k + 1, by simp only [go_sem, Nat.reduceBEq, Nat.reduceBneDiff, Nat.reduceLT, Nat.reduceLeDiff, Nat.reduceAdd, Nat.reduceMul, Nat.reduceSub, Nat.reduceEqDiff, reduceCtorEq]; exact rfl, ⟨by omega, fun i hi hik => ?_⟩, by omega⟩
        rcases Nat.lt_or_ge i k with h' | h'
        · exact hpos i hi h'
        · have : i = k := by omega
          subst this; omega
    · (repeat' (first
    | exact trivial
    | with_reducible refine aw_seq ?_ | with_reducible refine aw_block ?_ | with_reducible refine aw_skip ?_ | with_reducible refine aw_ret ?_ | with_reducible refine aw_exit ?_ | with_reducible refine aseq_normal ?_ | with_reducible refine aseq_ret ?_ | with_reducible refine aseq_exit ?_ | with_reducible refine ablk_normal ?_ | with_reducible refine ablk_ret ?_ | with_reducible refine ablk_hit ?_ | with_reducible refine aw_region ?_ | with_reducible refine go_nil ?_ | with_reducible refine al_of ?_
    | with_reducible refine ablk_miss (by decide) ?_
    | ((with_reducible refine al_id ?_); refine go_run (tyOf_ok _) [] (by simp only [go_sem, Nat.reduceBEq, Nat.reduceBneDiff, Nat.reduceLT, Nat.reduceLeDiff, Nat.reduceAdd, Nat.reduceMul, Nat.reduceSub, Nat.reduceEqDiff, reduceCtorEq, v8_len, hw]; exact rfl) ?_ ?_)
    | (refine aw_cond (by simp only [go_sem, Nat.reduceBEq, Nat.reduceBneDiff, Nat.reduceLT, Nat.reduceLeDiff, Nat.reduceAdd, Nat.reduceMul, Nat.reduceSub, Nat.reduceEqDiff, reduceCtorEq, v8_len, hw]; exact rfl) (by simp only [go_sem, Nat.reduceBEq, Nat.reduceBneDiff, Nat.reduceLT, Nat.reduceLeDiff, Nat.reduceAdd, Nat.reduceMul, Nat.reduceSub, Nat.reduceEqDiff, reduceCtorEq]) (fun h => ?_) (fun h => ?_) <;> (try simp only [decide_eq_true_eq, decide_eq_false_iff_not, Bool.not_eq_true', Bool.not_eq_false', Bool.or_eq_true, Bool.or_eq_false_iff, Bool.and_eq_true, Bool.and_eq_false_iff, Decidable.not_not, reduceCtorEq] at h) <;> (try (exfalso; omega)))
    | (refine aend_ret (by simp only [go_sem, Nat.reduceBEq, Nat.reduceBneDiff, Nat.reduceLT, Nat.reduceLeDiff, Nat.reduceAdd, Nat.reduceMul, Nat.reduceSub, Nat.reduceEqDiff, reduceCtorEq, v8_len, hw]; exact rfl) ?_ ?_)
    | (refine aend_normal (by simp only [go_sem, Nat.reduceBEq, Nat.reduceBneDiff, Nat.reduceLT, Nat.reduceLeDiff, Nat.reduceAdd, Nat.reduceMul, Nat.reduceSub, Nat.reduceEqDiff, reduceCtorEq, v8_len, hw]; exact rfl) ?_ ?_)
    | (refine aendG_ret (by simp only [go_sem, Nat.reduceBEq, Nat.reduceBneDiff, Nat.reduceLT, Nat.reduceLeDiff, Nat.reduceAdd, Nat.reduceMul, Nat.reduceSub, Nat.reduceEqDiff, reduceCtorEq, v8_len, hw]; exact rfl) ?_ ?_ ?_)
    | (refine aendG_normal (by simp only [go_sem, Nat.reduceBEq, Nat.reduceBneDiff, Nat.reduceLT, Nat.reduceLeDiff, Nat.reduceAdd, Nat.reduceMul, Nat.reduceSub, Nat.reduceEqDiff, reduceCtorEq, v8_len, hw]; exact rfl) ?_ ?_ ?_) | fail)) <;> (try omega)
      have hall : ∀ n ∈ xs, 0 ≤ n := fun n hn => by
        obtain ⟨i, hi, rfl⟩ := List.getElem_of_mem hn
        exact hpos i hi (by omega)
      have hns : ¬ ∃ n ∈ xs, n < 0 := fun ⟨n, hn, hn0⟩ => absurd (hall n hn) (by omega)
      refine aw_nilrow 8 3 1 8 (.inl (by decide)) (by simp only [go_sem, Nat.reduceBEq, Nat.reduceBneDiff, Nat.reduceLT, Nat.reduceLeDiff, Nat.reduceAdd, Nat.reduceMul, Nat.reduceSub, Nat.reduceEqDiff, reduceCtorEq]) ?_
      refine go_loop [24, 25, 26, 8, 9] [8] (fun p : Nat × List Int × Int => ⟨[(24, true, .lst 1 (v8 xs)), (25, true, .v (.int .i64 xs.length)), (26, true, .v (.int .i64 p.1)), (8, true, .ref 3 1 8 0 (v8 p.2.1).length), (9, true, .v (.int .i64 p.2.2))], [(8, .row 3 1 (v8 p.2.1))]⟩)
        (fun p => p.1 ≤ xs.length ∧ p.2.1.length = p.1 ∧ 0 ≤ p.2.2 ∧ I64 p.2.2 ∧ offs x xs = (offs p.2.2 (xs.drop p.1)).map (p.2.1 ++ ·)) (fun p => xs.length - p.1) (0, [], x) (by simp only [AState.nilrow, go_sem, Nat.reduceBEq, Nat.reduceBneDiff, Nat.reduceLT, Nat.reduceLeDiff, Nat.reduceAdd, Nat.reduceMul, Nat.reduceSub, Nat.reduceEqDiff, reduceCtorEq]; exact rfl) ⟨Nat.zero_le _, rfl, by show 0 ≤ x; omega, hx', by simp⟩ ?_
      clear hk hlt hw h hpos k
      intro ⟨k, out, at_⟩ ⟨hk, hlen, h0, hat, heq⟩
      simp only at hk hlen h0 hat heq ⊢
      unfold I64 at hat
      have hw := wrap_i64 (n := (k : Int) + 1) (by omega)
      by_cases hlt : k < xs.length
      · have g1 := v8_get hlt
        have hp := hall _ (List.getElem_mem hlt)
        have hm : I64 xs[k] := hxs _ (List.getElem_mem hlt)
        unfold I64 at hm
        have hso : (v8 out).length + 1 = k + 1 := by rw [v8_len, hlen]
        have hwm := fun h : at_ ≤ 4294967295 => wrap_i64 (n := at_ + min xs[k] 4294967296) (by omega)
        (repeat' (first
    | exact trivial
    | with_reducible refine aw_seq ?_ | with_reducible refine aw_block ?_ | with_reducible refine aw_skip ?_ | with_reducible refine aw_ret ?_ | with_reducible refine aw_exit ?_ | with_reducible refine aseq_normal ?_ | with_reducible refine aseq_ret ?_ | with_reducible refine aseq_exit ?_ | with_reducible refine ablk_normal ?_ | with_reducible refine ablk_ret ?_ | with_reducible refine ablk_hit ?_ | with_reducible refine aw_region ?_ | with_reducible refine go_nil ?_ | with_reducible refine al_of ?_
    | with_reducible refine ablk_miss (by decide) ?_
    | ((with_reducible refine al_id ?_); refine go_run (tyOf_ok _) [] (by simp only [go_sem, Nat.reduceBEq, Nat.reduceBneDiff, Nat.reduceLT, Nat.reduceLeDiff, Nat.reduceAdd, Nat.reduceMul, Nat.reduceSub, Nat.reduceEqDiff, reduceCtorEq, v8_len, g1, hw, v8_app, v8_take, take_len (Nat.le_refl _)]; exact rfl) ?_ ?_)
    | (refine aw_cond (by simp only [go_sem, Nat.reduceBEq, Nat.reduceBneDiff, Nat.reduceLT, Nat.reduceLeDiff, Nat.reduceAdd, Nat.reduceMul, Nat.reduceSub, Nat.reduceEqDiff, reduceCtorEq, v8_len, g1, hw, v8_app, v8_take, take_len (Nat.le_refl _)]; exact rfl) (by simp only [go_sem, Nat.reduceBEq, Nat.reduceBneDiff, Nat.reduceLT, Nat.reduceLeDiff, Nat.reduceAdd, Nat.reduceMul, Nat.reduceSub, Nat.reduceEqDiff, reduceCtorEq]) (fun h => ?_) (fun h => ?_) <;> (try simp only [decide_eq_true_eq, decide_eq_false_iff_not, Bool.not_eq_true', Bool.not_eq_false', Bool.or_eq_true, Bool.or_eq_false_iff, Bool.and_eq_true, Bool.and_eq_false_iff, Decidable.not_not, reduceCtorEq] at h) <;> (try (exfalso; omega)))
    | (refine aend_ret (by simp only [go_sem, Nat.reduceBEq, Nat.reduceBneDiff, Nat.reduceLT, Nat.reduceLeDiff, Nat.reduceAdd, Nat.reduceMul, Nat.reduceSub, Nat.reduceEqDiff, reduceCtorEq, v8_len, g1, hw, v8_app, v8_take, take_len (Nat.le_refl _)]; exact rfl) ?_ ?_)
    | (refine aend_normal (by simp only [go_sem, Nat.reduceBEq, Nat.reduceBneDiff, Nat.reduceLT, Nat.reduceLeDiff, Nat.reduceAdd, Nat.reduceMul, Nat.reduceSub, Nat.reduceEqDiff, reduceCtorEq, v8_len, g1, hw, v8_app, v8_take, take_len (Nat.le_refl _)]; exact rfl) ?_ ?_)
    | (refine aendG_ret (by simp only [go_sem, Nat.reduceBEq, Nat.reduceBneDiff, Nat.reduceLT, Nat.reduceLeDiff, Nat.reduceAdd, Nat.reduceMul, Nat.reduceSub, Nat.reduceEqDiff, reduceCtorEq, v8_len, g1, hw, v8_app, v8_take, take_len (Nat.le_refl _)]; exact rfl) ?_ ?_ ?_)
    | (refine aendG_normal (by simp only [go_sem, Nat.reduceBEq, Nat.reduceBneDiff, Nat.reduceLT, Nat.reduceLeDiff, Nat.reduceAdd, Nat.reduceMul, Nat.reduceSub, Nat.reduceEqDiff, reduceCtorEq, v8_len, g1, hw, v8_app, v8_take, take_len (Nat.le_refl _)]; exact rfl) ?_ ?_ ?_) | fail)) <;> (try omega)
        · have he : offsets x xs = ([], 91) := by
            rw [offsets, if_neg (by omega), if_neg hns, heq, offs_step hlt, if_pos h]; rfl
          rw [he]; exact AV.up_nil2 _ _
        · simp only [List.length_append, List.length_singleton]; omega
        · refine ⟨(k + 1, out ++ [at_], at_ + min xs[k] 4294967296), by simp only [go_sem, Nat.reduceBEq, Nat.reduceBneDiff, Nat.reduceLT, Nat.reduceLeDiff, Nat.reduceAdd, Nat.reduceMul, Nat.reduceSub, Nat.reduceEqDiff, reduceCtorEq, v8_len, hwm (by omega)]; exact rfl, ⟨hlt, by simp [hlen], by simp only; omega, by unfold I64; simp only; omega, ?_⟩, by simp only; omega⟩
          rw [heq, offs_step hlt, if_neg h, Option.map_map]
          congr 1
          funext l
          simp
      · (repeat' (first
    | exact trivial
    | with_reducible refine aw_seq ?_ | with_reducible refine aw_block ?_ | with_reducible refine aw_skip ?_ | with_reducible refine aw_ret ?_ | with_reducible refine aw_exit ?_ | with_reducible refine aseq_normal ?_ | with_reducible refine aseq_ret ?_ | with_reducible refine aseq_exit ?_ | with_reducible refine ablk_normal ?_ | with_reducible refine ablk_ret ?_ | with_reducible refine ablk_hit ?_ | with_reducible refine aw_region ?_ | with_reducible refine go_nil ?_ | with_reducible refine al_of ?_
    | with_reducible refine ablk_miss (by decide) ?_
    | ((with_reducible refine al_id ?_); refine go_run (tyOf_ok _) [] (by simp only [go_sem, Nat.reduceBEq, Nat.reduceBneDiff, Nat.reduceLT, Nat.reduceLeDiff, Nat.reduceAdd, Nat.reduceMul, Nat.reduceSub, Nat.reduceEqDiff, reduceCtorEq, v8_len, hw]; exact rfl) ?_ ?_)
    | (refine aw_cond (by simp only [go_sem, Nat.reduceBEq, Nat.reduceBneDiff, Nat.reduceLT, Nat.reduceLeDiff, Nat.reduceAdd, Nat.reduceMul, Nat.reduceSub, Nat.reduceEqDiff, reduceCtorEq, v8_len, hw]; exact rfl) (by simp only [go_sem, Nat.reduceBEq, Nat.reduceBneDiff, Nat.reduceLT, Nat.reduceLeDiff, Nat.reduceAdd, Nat.reduceMul, Nat.reduceSub, Nat.reduceEqDiff, reduceCtorEq]) (fun h => ?_) (fun h => ?_) <;> (try simp only [decide_eq_true_eq, decide_eq_false_iff_not, Bool.not_eq_true', Bool.not_eq_false', Bool.or_eq_true, Bool.or_eq_false_iff, Bool.and_eq_true, Bool.and_eq_false_iff, Decidable.not_not, reduceCtorEq] at h) <;> (try (exfalso; omega)))
    | (refine aend_ret (by simp only [go_sem, Nat.reduceBEq, Nat.reduceBneDiff, Nat.reduceLT, Nat.reduceLeDiff, Nat.reduceAdd, Nat.reduceMul, Nat.reduceSub, Nat.reduceEqDiff, reduceCtorEq, v8_len, hw]; exact rfl) ?_ ?_)
    | (refine aend_normal (by simp only [go_sem, Nat.reduceBEq, Nat.reduceBneDiff, Nat.reduceLT, Nat.reduceLeDiff, Nat.reduceAdd, Nat.reduceMul, Nat.reduceSub, Nat.reduceEqDiff, reduceCtorEq, v8_len, hw]; exact rfl) ?_ ?_)
    | (refine aendG_ret (by simp only [go_sem, Nat.reduceBEq, Nat.reduceBneDiff, Nat.reduceLT, Nat.reduceLeDiff, Nat.reduceAdd, Nat.reduceMul, Nat.reduceSub, Nat.reduceEqDiff, reduceCtorEq, v8_len, hw]; exact rfl) ?_ ?_ ?_)
    | (refine aendG_normal (by simp only [go_sem, Nat.reduceBEq, Nat.reduceBneDiff, Nat.reduceLT, Nat.reduceLeDiff, Nat.reduceAdd, Nat.reduceMul, Nat.reduceSub, Nat.reduceEqDiff, reduceCtorEq, v8_len, hw]; exact rfl) ?_ ?_ ?_) | fail)) <;> (try omega)
        have he : offsets x xs = (out, 0) := by
          rw [offsets, if_neg (by omega), if_neg hns, heq, drop_len (by omega)]; simp [offs]
        rw [he, take_len (by rw [v8_len]; exact Nat.le_refl _)]
        exact AV.up_rfl _
end Go.Proofs.Ytfgacgpicfknpaa
end
section
namespace Go.Proofs.Ytfgacgpicfknpaa
open Go.RowKit
set_option maxRecDepth 100000
def bad (x : Int) (xs : List Int) (e : Int) (i : Nat) : Bool := decide ((i = 0 ∧ xs.getD i 0 ≠ x) ∨ (0 < i ∧ xs.getD i 0 < xs.getD (i - 1) 0) ∨ e < xs.getD i 0)
def diffs (xs : List Int) (e : Int) (n : Nat) : List Int := (List.range n).map fun i => xs.getD (i + 1) e - xs.getD i 0
def lengths (x : Int) (xs : List Int) (e : Int) : List Int × Int × Int :=
  if x < 0 then ([], 0, 3) else match (List.range xs.length).find? (bad x xs e) with
  | some i => ([], i, 122)
  | none => (diffs xs e xs.length, 0, 0)
def lerr3 (r : List Int × Int × Int) : AV := .tup [.lst 1 (v8 r.1), .v (.int .i64 r.2.1), .v (.int .i64 r.2.2)]
theorem getD_lt {xs : List Int} {k : Nat} (h : k < xs.length) (d : Int) : xs.getD k d = xs[k] := by simp [h]
theorem diffs_succ (xs : List Int) (e : Int) (n : Nat) : diffs xs e (n + 1) = diffs xs e n ++ [xs.getD (n + 1) e - xs.getD n 0] := by simp [diffs, List.range_succ]
theorem bad_nonneg {x : Int} {xs : List Int} {e : Int} (hx : 0 ≤ x) : ∀ (k : Nat), k < xs.length → (∀ i, i ≤ k → bad x xs e i = false) → 0 ≤ xs.getD k 0 := by
  intro k
  induction k with
  | zero =>
    intro _ h
    have := h 0 (Nat.le_refl _)
    simp only [bad, decide_eq_false_iff_not, true_and, not_or, ne_eq, Decidable.not_not] at this
    omega
  | succ k ih =>
    intro hk h
    have h1 := ih (by omega) (fun i hi => h i (by omega))
    have := h (k + 1) (Nat.le_refl _)
    simp only [bad, decide_eq_false_iff_not, Nat.add_sub_cancel] at this
    omega
set_option maxHeartbeats 1000000 in
theorem lengths_any (x : Int) (hx : I64 x) (xs : List Int) (hl : xs.length ≤ 1000000000) (hxs : ∀ z ∈ xs, I64 z) (e : Int) (he : I64 e) : PCall Try.prog 17 [.v (.int .i64 x), .lst 1 (v8 xs), .v (.int .i64 e)] (fun r => r = lerr3 (lengths x xs e)) := by
  refine go_fnU (tyOf_ok _) Try.func17 rfl rfl (by rw [Try.results17]) Try.ntmps17 rfl fun E => ?_
  have hx' := hx
  unfold I64 at hx
  (repeat' (first
    | exact trivial
    | with_reducible refine aw_seq ?_ | with_reducible refine aw_block ?_ | with_reducible refine aw_skip ?_ | with_reducible refine aw_ret ?_ | with_reducible refine aw_exit ?_ | with_reducible refine aseq_normal ?_ | with_reducible refine aseq_ret ?_ | with_reducible refine aseq_exit ?_ | with_reducible refine ablk_normal ?_ | with_reducible refine ablk_ret ?_ | with_reducible refine ablk_hit ?_ | with_reducible refine aw_region ?_ | with_reducible refine go_nil ?_ | with_reducible refine al_of ?_
    | with_reducible refine ablk_miss (by decide) ?_
    | ((with_reducible refine al_id ?_); refine go_run (tyOf_ok _) [] (by simp only [go_sem, Nat.reduceBEq, Nat.reduceBneDiff, Nat.reduceLT, Nat.reduceLeDiff, Nat.reduceAdd, Nat.reduceMul, Nat.reduceSub, Nat.reduceEqDiff, reduceCtorEq, v8_len]; exact rfl) ?_ ?_)
    | (refine aw_cond (by simp only [go_sem, Nat.reduceBEq, Nat.reduceBneDiff, Nat.reduceLT, Nat.reduceLeDiff, Nat.reduceAdd, Nat.reduceMul, Nat.reduceSub, Nat.reduceEqDiff, reduceCtorEq, v8_len]; exact rfl) (by simp only [go_sem, Nat.reduceBEq, Nat.reduceBneDiff, Nat.reduceLT, Nat.reduceLeDiff, Nat.reduceAdd, Nat.reduceMul, Nat.reduceSub, Nat.reduceEqDiff, reduceCtorEq]) (fun h => ?_) (fun h => ?_) <;> (try simp only [decide_eq_true_eq, decide_eq_false_iff_not, Bool.not_eq_true', Bool.not_eq_false', Bool.or_eq_true, Bool.or_eq_false_iff, Bool.and_eq_true, Bool.and_eq_false_iff, Decidable.not_not, reduceCtorEq] at h) <;> (try (exfalso; omega)))
    | (refine aend_ret (by simp only [go_sem, Nat.reduceBEq, Nat.reduceBneDiff, Nat.reduceLT, Nat.reduceLeDiff, Nat.reduceAdd, Nat.reduceMul, Nat.reduceSub, Nat.reduceEqDiff, reduceCtorEq, v8_len]; exact rfl) ?_ ?_)
    | (refine aend_normal (by simp only [go_sem, Nat.reduceBEq, Nat.reduceBneDiff, Nat.reduceLT, Nat.reduceLeDiff, Nat.reduceAdd, Nat.reduceMul, Nat.reduceSub, Nat.reduceEqDiff, reduceCtorEq, v8_len]; exact rfl) ?_ ?_)
    | (refine aendG_ret (by simp only [go_sem, Nat.reduceBEq, Nat.reduceBneDiff, Nat.reduceLT, Nat.reduceLeDiff, Nat.reduceAdd, Nat.reduceMul, Nat.reduceSub, Nat.reduceEqDiff, reduceCtorEq, v8_len]; exact rfl) ?_ ?_ ?_)
    | (refine aendG_normal (by simp only [go_sem, Nat.reduceBEq, Nat.reduceBneDiff, Nat.reduceLT, Nat.reduceLeDiff, Nat.reduceAdd, Nat.reduceMul, Nat.reduceSub, Nat.reduceEqDiff, reduceCtorEq, v8_len]; exact rfl) ?_ ?_ ?_) | fail)) <;> (try omega)
  · rw [lerr3, lengths, if_pos h]; exact AV.up_nil3 _ _ _
  · refine go_loop [0, 1, 2, 17, 18, 19] [] (fun k : Nat => ⟨[(0, true, .v (.int .i64 x)), (1, true, .lst 1 (v8 xs)), (2, true, .v (.int .i64 e)), (17, true, .lst 1 (v8 xs)), (18, true, .v (.int .i64 xs.length)), (19, true, .v (.int .i64 k))], []⟩) (fun k => k ≤ xs.length ∧ ∀ i, i < k → bad x xs e i = false) (fun k => xs.length - k) 0 (by simp only [go_sem, Nat.reduceBEq, Nat.reduceBneDiff, Nat.reduceLT, Nat.reduceLeDiff, Nat.reduceAdd, Nat.reduceMul, Nat.reduceSub, Nat.reduceEqDiff, reduceCtorEq, v8_len]; exact rfl) ⟨Nat.zero_le _, fun _ h => by omega⟩ ?_
    intro k ⟨hk, hgood⟩
    have hw := wrap_i64 (n := (k : Int) + 1) (by omega)
    by_cases hlt : k < xs.length
    · have g1 := v8_get hlt
      have hbad : (List.range xs.length).find? (bad x xs e) = some k ↔ bad x xs e k = true := by
        rw [List.find?_range_eq_some]
        refine ⟨fun h => h.1, fun h => ⟨h, List.mem_range.2 hlt, fun j hj => by simp [hgood j hj]⟩⟩
      have hnext : bad x xs e k = false → ∀ i, i < k + 1 → bad x xs e i = false := fun hb i hi => by
        rcases Nat.lt_or_ge i k with h' | h'
        · exact hgood i h'
        · have : i = k := by omega
          subst this; exact hb
      have hgk := getD_lt hlt 0
      have hend : bad x xs e k = true → (AV.tup [AV.v (Value.slice none 0 0), AV.v (Value.int IntKind.i64 ↑k), AV.v (Value.int IntKind.i64 122)]).up (lerr3 (lengths x xs e)) := fun hb => by
        rw [lerr3, lengths, if_neg (by omega), hbad.2 hb]; exact AV.up_nil3 _ _ _
      rcases Nat.eq_zero_or_pos k with hk0 | hk0
      · have e1 : ((k : Int) = 0) = True := eq_true (by omega)
        have e2 : ((0 : Int) < k) = False := eq_false (by omega)
        have hw1 := wrap_i64 (n := (k : Int) - 1) (by omega)
        have g0 : (v8 xs)[((k : Int) - 1).toNat]? = some [.v (.int .i64 xs[k])] := by rw [show ((k : Int) - 1).toNat = k by omega]; exact v8_get (by omega)
        by_cases e3 : xs[k] = x
        · have e4 : (xs[k] = x) = True := eq_true e3
          (repeat' (first
    | exact trivial
    | with_reducible refine aw_seq ?_ | with_reducible refine aw_block ?_ | with_reducible refine aw_skip ?_ | with_reducible refine aw_ret ?_ | with_reducible refine aw_exit ?_ | with_reducible refine aseq_normal ?_ | with_reducible refine aseq_ret ?_ | with_reducible refine aseq_exit ?_ | with_reducible refine ablk_normal ?_ | with_reducible refine ablk_ret ?_ | with_reducible refine ablk_hit ?_ | with_reducible refine aw_region ?_ | with_reducible refine go_nil ?_ | with_reducible refine al_of ?_
    | with_reducible refine ablk_miss (by decide) ?_
    | ((with_reducible refine al_id ?_); refine go_run (tyOf_ok _) [] (by simp only [go_sem, Nat.reduceBEq, Nat.reduceBneDiff, Nat.reduceLT, Nat.reduceLeDiff, Nat.reduceAdd, Nat.reduceMul, Nat.reduceSub, Nat.reduceEqDiff, reduceCtorEq, v8_len, g1, hw, hw1, g0, e1, e2, e4]; exact rfl) ?_ ?_)
    | (refine aw_cond (by simp only [go_sem, Nat.reduceBEq, Nat.reduceBneDiff, Nat.reduceLT, Nat.reduceLeDiff, Nat.reduceAdd, Nat.reduceMul, Nat.reduceSub, Nat.reduceEqDiff, reduceCtorEq, v8_len, g1, hw, hw1, g0, e1, e2, e4]; exact rfl) (by simp only [go_sem, Nat.reduceBEq, Nat.reduceBneDiff, Nat.reduceLT, Nat.reduceLeDiff, Nat.reduceAdd, Nat.reduceMul, Nat.reduceSub, Nat.reduceEqDiff, reduceCtorEq]) (fun h => ?_) (fun h => ?_) <;> (try simp only [decide_eq_true_eq, decide_eq_false_iff_not, Bool.not_eq_true', Bool.not_eq_false', Bool.or_eq_true, Bool.or_eq_false_iff, Bool.and_eq_true, Bool.and_eq_false_iff, Decidable.not_not, reduceCtorEq] at h) <;> (try (exfalso; omega)))
    | (refine aend_ret (by simp only [go_sem, Nat.reduceBEq, Nat.reduceBneDiff, Nat.reduceLT, Nat.reduceLeDiff, Nat.reduceAdd, Nat.reduceMul, Nat.reduceSub, Nat.reduceEqDiff, reduceCtorEq, v8_len, g1, hw, hw1, g0, e1, e2, e4]; exact rfl) ?_ ?_)
    | (refine aend_normal (by simp only [go_sem, Nat.reduceBEq, Nat.reduceBneDiff, Nat.reduceLT, Nat.reduceLeDiff, Nat.reduceAdd, Nat.reduceMul, Nat.reduceSub, Nat.reduceEqDiff, reduceCtorEq, v8_len, g1, hw, hw1, g0, e1, e2, e4]; exact rfl) ?_ ?_)
    | (refine aendG_ret (by simp only [go_sem, Nat.reduceBEq, Nat.reduceBneDiff, Nat.reduceLT, Nat.reduceLeDiff, Nat.reduceAdd, Nat.reduceMul, Nat.reduceSub, Nat.reduceEqDiff, reduceCtorEq, v8_len, g1, hw, hw1, g0, e1, e2, e4]; exact rfl) ?_ ?_ ?_)
    | (refine aendG_normal (by simp only [go_sem, Nat.reduceBEq, Nat.reduceBneDiff, Nat.reduceLT, Nat.reduceLeDiff, Nat.reduceAdd, Nat.reduceMul, Nat.reduceSub, Nat.reduceEqDiff, reduceCtorEq, v8_len, g1, hw, hw1, g0, e1, e2, e4]; exact rfl) ?_ ?_ ?_) | fail)) <;> (try omega)
          · exact hend (by simp only [bad, decide_eq_true_eq, hgk]; omega)
          · exact ⟨k + 1, by simp only [go_sem, Nat.reduceBEq, Nat.reduceBneDiff, Nat.reduceLT, Nat.reduceLeDiff, Nat.reduceAdd, Nat.reduceMul, Nat.reduceSub, Nat.reduceEqDiff, reduceCtorEq]; exact rfl, ⟨by omega, hnext (by simp only [bad, decide_eq_false_iff_not, hgk]; omega)⟩, by omega⟩
        · (repeat' (first
    | exact trivial
    | with_reducible refine aw_seq ?_ | with_reducible refine aw_block ?_ | with_reducible refine aw_skip ?_ | with_reducible refine aw_ret ?_ | with_reducible refine aw_exit ?_ | with_reducible refine aseq_normal ?_ | with_reducible refine aseq_ret ?_ | with_reducible refine aseq_exit ?_ | with_reducible refine ablk_normal ?_ | with_reducible refine ablk_ret ?_ | with_reducible refine ablk_hit ?_ | with_reducible refine aw_region ?_ | with_reducible refine go_nil ?_ | with_reducible refine al_of ?_
    | with_reducible refine ablk_miss (by decide) ?_
    | ((with_reducible refine al_id ?_); refine go_run (tyOf_ok _) [] (by simp only [go_sem, Nat.reduceBEq, Nat.reduceBneDiff, Nat.reduceLT, Nat.reduceLeDiff, Nat.reduceAdd, Nat.reduceMul, Nat.reduceSub, Nat.reduceEqDiff, reduceCtorEq, v8_len, g1, hw, hw1, g0, e1, e2, e3]; exact rfl) ?_ ?_)
    | (refine aw_cond (by simp only [go_sem, Nat.reduceBEq, Nat.reduceBneDiff, Nat.reduceLT, Nat.reduceLeDiff, Nat.reduceAdd, Nat.reduceMul, Nat.reduceSub, Nat.reduceEqDiff, reduceCtorEq, v8_len, g1, hw, hw1, g0, e1, e2, e3]; exact rfl) (by simp only [go_sem, Nat.reduceBEq, Nat.reduceBneDiff, Nat.reduceLT, Nat.reduceLeDiff, Nat.reduceAdd, Nat.reduceMul, Nat.reduceSub, Nat.reduceEqDiff, reduceCtorEq]) (fun h => ?_) (fun h => ?_) <;> (try simp only [decide_eq_true_eq, decide_eq_false_iff_not, Bool.not_eq_true', Bool.not_eq_false', Bool.or_eq_true, Bool.or_eq_false_iff, Bool.and_eq_true, Bool.and_eq_false_iff, Decidable.not_not, reduceCtorEq] at h) <;> (try (exfalso; omega)))
    | (refine aend_ret (by simp only [go_sem, Nat.reduceBEq, Nat.reduceBneDiff, Nat.reduceLT, Nat.reduceLeDiff, Nat.reduceAdd, Nat.reduceMul, Nat.reduceSub, Nat.reduceEqDiff, reduceCtorEq, v8_len, g1, hw, hw1, g0, e1, e2, e3]; exact rfl) ?_ ?_)
    | (refine aend_normal (by simp only [go_sem, Nat.reduceBEq, Nat.reduceBneDiff, Nat.reduceLT, Nat.reduceLeDiff, Nat.reduceAdd, Nat.reduceMul, Nat.reduceSub, Nat.reduceEqDiff, reduceCtorEq, v8_len, g1, hw, hw1, g0, e1, e2, e3]; exact rfl) ?_ ?_)
    | (refine aendG_ret (by simp only [go_sem, Nat.reduceBEq, Nat.reduceBneDiff, Nat.reduceLT, Nat.reduceLeDiff, Nat.reduceAdd, Nat.reduceMul, Nat.reduceSub, Nat.reduceEqDiff, reduceCtorEq, v8_len, g1, hw, hw1, g0, e1, e2, e3]; exact rfl) ?_ ?_ ?_)
    | (refine aendG_normal (by simp only [go_sem, Nat.reduceBEq, Nat.reduceBneDiff, Nat.reduceLT, Nat.reduceLeDiff, Nat.reduceAdd, Nat.reduceMul, Nat.reduceSub, Nat.reduceEqDiff, reduceCtorEq, v8_len, g1, hw, hw1, g0, e1, e2, e3]; exact rfl) ?_ ?_ ?_) | fail)) <;> (try omega)
          · exact hend (by simp only [bad, decide_eq_true_eq, hgk]; omega)
      · have e1 : ((k : Int) = 0) = False := eq_false (by omega)
        have e2 : ((0 : Int) < k) = True := eq_true (by omega)
        have hw1 := wrap_i64 (n := (k : Int) - 1) (by omega)
        have g0 : (v8 xs)[((k : Int) - 1).toNat]? = some [.v (.int .i64 xs[k - 1])] := by rw [show ((k : Int) - 1).toNat = k - 1 by omega]; exact v8_get (by omega)
        (repeat' (first
    | exact trivial
    | with_reducible refine aw_seq ?_ | with_reducible refine aw_block ?_ | with_reducible refine aw_skip ?_ | with_reducible refine aw_ret ?_ | with_reducible refine aw_exit ?_ | with_reducible refine aseq_normal ?_ | with_reducible refine aseq_ret ?_ | with_reducible refine aseq_exit ?_ | with_reducible refine ablk_normal ?_ | with_reducible refine ablk_ret ?_ | with_reducible refine ablk_hit ?_ | with_reducible refine aw_region ?_ | with_reducible refine go_nil ?_ | with_reducible refine al_of ?_
    | with_reducible refine ablk_miss (by decide) ?_
    | ((with_reducible refine al_id ?_); refine go_run (tyOf_ok _) [] (by simp only [go_sem, Nat.reduceBEq, Nat.reduceBneDiff, Nat.reduceLT, Nat.reduceLeDiff, Nat.reduceAdd, Nat.reduceMul, Nat.reduceSub, Nat.reduceEqDiff, reduceCtorEq, v8_len, g1, g0, hw, hw1, e1, e2]; exact rfl) ?_ ?_)
    | (refine aw_cond (by simp only [go_sem, Nat.reduceBEq, Nat.reduceBneDiff, Nat.reduceLT, Nat.reduceLeDiff, Nat.reduceAdd, Nat.reduceMul, Nat.reduceSub, Nat.reduceEqDiff, reduceCtorEq, v8_len, g1, g0, hw, hw1, e1, e2]; exact rfl) (by simp only [go_sem, Nat.reduceBEq, Nat.reduceBneDiff, Nat.reduceLT, Nat.reduceLeDiff, Nat.reduceAdd, Nat.reduceMul, Nat.reduceSub, Nat.reduceEqDiff, reduceCtorEq]) (fun h => ?_) (fun h => ?_) <;> (try simp only [decide_eq_true_eq, decide_eq_false_iff_not, Bool.not_eq_true', Bool.not_eq_false', Bool.or_eq_true, Bool.or_eq_false_iff, Bool.and_eq_true, Bool.and_eq_false_iff, Decidable.not_not, reduceCtorEq] at h) <;> (try (exfalso; omega)))
    | (refine aend_ret (by simp only [go_sem, Nat.reduceBEq, Nat.reduceBneDiff, Nat.reduceLT, Nat.reduceLeDiff, Nat.reduceAdd, Nat.reduceMul, Nat.reduceSub, Nat.reduceEqDiff, reduceCtorEq, v8_len, g1, g0, hw, hw1, e1, e2]; exact rfl) ?_ ?_)
    | (refine aend_normal (by simp only [go_sem, Nat.reduceBEq, Nat.reduceBneDiff, Nat.reduceLT, Nat.reduceLeDiff, Nat.reduceAdd, Nat.reduceMul, Nat.reduceSub, Nat.reduceEqDiff, reduceCtorEq, v8_len, g1, g0, hw, hw1, e1, e2]; exact rfl) ?_ ?_)
    | (refine aendG_ret (by simp only [go_sem, Nat.reduceBEq, Nat.reduceBneDiff, Nat.reduceLT, Nat.reduceLeDiff, Nat.reduceAdd, Nat.reduceMul, Nat.reduceSub, Nat.reduceEqDiff, reduceCtorEq, v8_len, g1, g0, hw, hw1, e1, e2]; exact rfl) ?_ ?_ ?_)
    | (refine aendG_normal (by simp only [go_sem, Nat.reduceBEq, Nat.reduceBneDiff, Nat.reduceLT, Nat.reduceLeDiff, Nat.reduceAdd, Nat.reduceMul, Nat.reduceSub, Nat.reduceEqDiff, reduceCtorEq, v8_len, g1, g0, hw, hw1, e1, e2]; exact rfl) ?_ ?_ ?_) | fail)) <;> (try omega)
        · exact hend (by simp only [bad, decide_eq_true_eq, hgk, getD_lt (xs := xs) (k := k - 1) (by omega) 0]; omega)
        · exact ⟨k + 1, by simp only [go_sem, Nat.reduceBEq, Nat.reduceBneDiff, Nat.reduceLT, Nat.reduceLeDiff, Nat.reduceAdd, Nat.reduceMul, Nat.reduceSub, Nat.reduceEqDiff, reduceCtorEq]; exact rfl, ⟨by omega, hnext (by simp only [bad, decide_eq_false_iff_not, hgk, getD_lt (xs := xs) (k := k - 1) (by omega) 0]; omega)⟩, by omega⟩
    · (repeat' (first
    | exact trivial
    | with_reducible refine aw_seq ?_ | with_reducible refine aw_block ?_ | with_reducible refine aw_skip ?_ | with_reducible refine aw_ret ?_ | with_reducible refine aw_exit ?_ | with_reducible refine aseq_normal ?_ | with_reducible refine aseq_ret ?_ | with_reducible refine aseq_exit ?_ | with_reducible refine ablk_normal ?_ | with_reducible refine ablk_ret ?_ | with_reducible refine ablk_hit ?_ | with_reducible refine aw_region ?_ | with_reducible refine go_nil ?_ | with_reducible refine al_of ?_
    | with_reducible refine ablk_miss (by decide) ?_
    | ((with_reducible refine al_id ?_); refine go_run (tyOf_ok _) [] (by simp only [go_sem, Nat.reduceBEq, Nat.reduceBneDiff, Nat.reduceLT, Nat.reduceLeDiff, Nat.reduceAdd, Nat.reduceMul, Nat.reduceSub, Nat.reduceEqDiff, reduceCtorEq, v8_len, hw]; exact rfl) ?_ ?_)
    | (refine aw_cond (by simp only [go_sem, Nat.reduceBEq, Nat.reduceBneDiff, Nat.reduceLT, Nat.reduceLeDiff, Nat.reduceAdd, Nat.reduceMul, Nat.reduceSub, Nat.reduceEqDiff, reduceCtorEq, v8_len, hw]; exact rfl) (by simp only [go_sem, Nat.reduceBEq, Nat.reduceBneDiff, Nat.reduceLT, Nat.reduceLeDiff, Nat.reduceAdd, Nat.reduceMul, Nat.reduceSub, Nat.reduceEqDiff, reduceCtorEq]) (fun h => ?_) (fun h => ?_) <;> (try simp only [decide_eq_true_eq, decide_eq_false_iff_not, Bool.not_eq_true', Bool.not_eq_false', Bool.or_eq_true, Bool.or_eq_false_iff, Bool.and_eq_true, Bool.and_eq_false_iff, Decidable.not_not, reduceCtorEq] at h) <;> (try (exfalso; omega)))
    | (refine aend_ret (by simp only [go_sem, Nat.reduceBEq, Nat.reduceBneDiff, Nat.reduceLT, Nat.reduceLeDiff, Nat.reduceAdd, Nat.reduceMul, Nat.reduceSub, Nat.reduceEqDiff, reduceCtorEq, v8_len, hw]; exact rfl) ?_ ?_)
    | (refine aend_normal (by simp only [go_sem, Nat.reduceBEq, Nat.reduceBneDiff, Nat.reduceLT, Nat.reduceLeDiff, Nat.reduceAdd, Nat.reduceMul, Nat.reduceSub, Nat.reduceEqDiff, reduceCtorEq, v8_len, hw]; exact rfl) ?_ ?_)
    | (refine aendG_ret (by simp only [go_sem, Nat.reduceBEq, Nat.reduceBneDiff, Nat.reduceLT, Nat.reduceLeDiff, Nat.reduceAdd, Nat.reduceMul, Nat.reduceSub, Nat.reduceEqDiff, reduceCtorEq, v8_len, hw]; exact rfl) ?_ ?_ ?_)
    | (refine aendG_normal (by simp only [go_sem, Nat.reduceBEq, Nat.reduceBneDiff, Nat.reduceLT, Nat.reduceLeDiff, Nat.reduceAdd, Nat.reduceMul, Nat.reduceSub, Nat.reduceEqDiff, reduceCtorEq, v8_len, hw]; exact rfl) ?_ ?_ ?_) | fail)) <;> (try omega)
      have hall : ∀ i, i < xs.length → bad x xs e i = false := fun i hi => hgood i (by omega)
      refine aw_nilrow 11 3 1 11 (.inl (by decide)) (by simp only [go_sem, Nat.reduceBEq, Nat.reduceBneDiff, Nat.reduceLT, Nat.reduceLeDiff, Nat.reduceAdd, Nat.reduceMul, Nat.reduceSub, Nat.reduceEqDiff, reduceCtorEq]) ?_
      refine go_loop [1, 2, 51, 52, 53, 11] [11] (fun k : Nat => ⟨[(1, true, .lst 1 (v8 xs)), (2, true, .v (.int .i64 e)), (51, true, .lst 1 (v8 xs)), (52, true, .v (.int .i64 xs.length)), (53, true, .v (.int .i64 k)), (11, true, .ref 3 1 11 0 (v8 (diffs xs e k)).length)], [(11, .row 3 1 (v8 (diffs xs e k)))]⟩)
        (fun k => k ≤ xs.length) (fun k => xs.length - k) 0 (by simp only [AState.nilrow, go_sem, Nat.reduceBEq, Nat.reduceBneDiff, Nat.reduceLT, Nat.reduceLeDiff, Nat.reduceAdd, Nat.reduceMul, Nat.reduceSub, Nat.reduceEqDiff, reduceCtorEq]; exact rfl) (Nat.zero_le _) ?_
      clear hk hlt hw h hgood k
      intro k hk
      have hw := wrap_i64 (n := (k : Int) + 1) (by omega)
      by_cases hlt : k < xs.length
      · have g1 := v8_get hlt
        have hgk := getD_lt hlt 0
        have hnn := bad_nonneg (by omega) k hlt (fun i hi => hall i (by omega))
        have hi := hxs _ (List.getElem_mem hlt)
        have hb := hall k hlt
        simp only [bad, decide_eq_false_iff_not, not_or, hgk] at hb hnn
        unfold I64 at he hi
        have hdl : ∀ k, (diffs xs e k).length = k := fun k => by simp [diffs]
        by_cases hn : k + 1 < xs.length
        · have g2 := v8_get hn
          have e1 : ((k : Int) + 1 < xs.length) = True := eq_true (by omega)
          have hgk' := getD_lt hn e
          have hgk'' := getD_lt hn 0
          have hi2 := hxs _ (List.getElem_mem hn)
          have hb2 := hall (k + 1) hn
          simp only [bad, decide_eq_false_iff_not, not_or, hgk'', hgk, Nat.add_sub_cancel] at hb2
          unfold I64 at hi2
          have hw2 := wrap_i64 (n := xs[k + 1] - xs[k]) (by omega)
          have g3 : ((k : Int) + 1).toNat = k + 1 := by omega
          have hds : diffs xs e k ++ [xs[k + 1] - xs[k]] = diffs xs e (k + 1) := by rw [diffs_succ, hgk, hgk']
          (repeat' (first
    | exact trivial
    | with_reducible refine aw_seq ?_ | with_reducible refine aw_block ?_ | with_reducible refine aw_skip ?_ | with_reducible refine aw_ret ?_ | with_reducible refine aw_exit ?_ | with_reducible refine aseq_normal ?_ | with_reducible refine aseq_ret ?_ | with_reducible refine aseq_exit ?_ | with_reducible refine ablk_normal ?_ | with_reducible refine ablk_ret ?_ | with_reducible refine ablk_hit ?_ | with_reducible refine aw_region ?_ | with_reducible refine go_nil ?_ | with_reducible refine al_of ?_
    | with_reducible refine ablk_miss (by decide) ?_
    | ((with_reducible refine al_id ?_); refine go_run (tyOf_ok _) [] (by simp only [go_sem, Nat.reduceBEq, Nat.reduceBneDiff, Nat.reduceLT, Nat.reduceLeDiff, Nat.reduceAdd, Nat.reduceMul, Nat.reduceSub, Nat.reduceEqDiff, reduceCtorEq, v8_len, g1, g2, g3, hw, hw2, e1, v8_app, v8_take, take_len (Nat.le_refl _), hds]; exact rfl) ?_ ?_)
    | (refine aw_cond (by simp only [go_sem, Nat.reduceBEq, Nat.reduceBneDiff, Nat.reduceLT, Nat.reduceLeDiff, Nat.reduceAdd, Nat.reduceMul, Nat.reduceSub, Nat.reduceEqDiff, reduceCtorEq, v8_len, g1, g2, g3, hw, hw2, e1, v8_app, v8_take, take_len (Nat.le_refl _), hds]; exact rfl) (by simp only [go_sem, Nat.reduceBEq, Nat.reduceBneDiff, Nat.reduceLT, Nat.reduceLeDiff, Nat.reduceAdd, Nat.reduceMul, Nat.reduceSub, Nat.reduceEqDiff, reduceCtorEq]) (fun h => ?_) (fun h => ?_) <;> (try simp only [decide_eq_true_eq, decide_eq_false_iff_not, Bool.not_eq_true', Bool.not_eq_false', Bool.or_eq_true, Bool.or_eq_false_iff, Bool.and_eq_true, Bool.and_eq_false_iff, Decidable.not_not, reduceCtorEq] at h) <;> (try (exfalso; omega)))
    | (refine aend_ret (by simp only [go_sem, Nat.reduceBEq, Nat.reduceBneDiff, Nat.reduceLT, Nat.reduceLeDiff, Nat.reduceAdd, Nat.reduceMul, Nat.reduceSub, Nat.reduceEqDiff, reduceCtorEq, v8_len, g1, g2, g3, hw, hw2, e1, v8_app, v8_take, take_len (Nat.le_refl _), hds]; exact rfl) ?_ ?_)
    | (refine aend_normal (by simp only [go_sem, Nat.reduceBEq, Nat.reduceBneDiff, Nat.reduceLT, Nat.reduceLeDiff, Nat.reduceAdd, Nat.reduceMul, Nat.reduceSub, Nat.reduceEqDiff, reduceCtorEq, v8_len, g1, g2, g3, hw, hw2, e1, v8_app, v8_take, take_len (Nat.le_refl _), hds]; exact rfl) ?_ ?_)
    | (refine aendG_ret (by simp only [go_sem, Nat.reduceBEq, Nat.reduceBneDiff, Nat.reduceLT, Nat.reduceLeDiff, Nat.reduceAdd, Nat.reduceMul, Nat.reduceSub, Nat.reduceEqDiff, reduceCtorEq, v8_len, g1, g2, g3, hw, hw2, e1, v8_app, v8_take, take_len (Nat.le_refl _), hds]; exact rfl) ?_ ?_ ?_)
    | (refine aendG_normal (by simp only [go_sem, Nat.reduceBEq, Nat.reduceBneDiff, Nat.reduceLT, Nat.reduceLeDiff, Nat.reduceAdd, Nat.reduceMul, Nat.reduceSub, Nat.reduceEqDiff, reduceCtorEq, v8_len, g1, g2, g3, hw, hw2, e1, v8_app, v8_take, take_len (Nat.le_refl _), hds]; exact rfl) ?_ ?_ ?_) | fail)) <;> (try omega)
          · rw [hdl (k + 1)]; omega
          · exact ⟨k + 1, by simp only [go_sem, Nat.reduceBEq, Nat.reduceBneDiff, Nat.reduceLT, Nat.reduceLeDiff, Nat.reduceAdd, Nat.reduceMul, Nat.reduceSub, Nat.reduceEqDiff, reduceCtorEq, v8_len]; exact rfl, by omega, by omega⟩
        · have e1 : ((k : Int) + 1 < xs.length) = False := eq_false (by omega)
          have hgk' : xs.getD (k + 1) e = e := by simp [List.getElem?_eq_none (show xs.length ≤ k + 1 by omega)]
          have hw2 := wrap_i64 (n := e - xs[k]) (by omega)
          have hds : diffs xs e k ++ [e - xs[k]] = diffs xs e (k + 1) := by rw [diffs_succ, hgk, hgk']
          (repeat' (first
    | exact trivial
    | with_reducible refine aw_seq ?_ | with_reducible refine aw_block ?_ | with_reducible refine aw_skip ?_ | with_reducible refine aw_ret ?_ | with_reducible refine aw_exit ?_ | with_reducible refine aseq_normal ?_ | with_reducible refine aseq_ret ?_ | with_reducible refine aseq_exit ?_ | with_reducible refine ablk_normal ?_ | with_reducible refine ablk_ret ?_ | with_reducible refine ablk_hit ?_ | with_reducible refine aw_region ?_ | with_reducible refine go_nil ?_ | with_reducible refine al_of ?_
    | with_reducible refine ablk_miss (by decide) ?_
    | ((with_reducible refine al_id ?_); refine go_run (tyOf_ok _) [] (by simp only [go_sem, Nat.reduceBEq, Nat.reduceBneDiff, Nat.reduceLT, Nat.reduceLeDiff, Nat.reduceAdd, Nat.reduceMul, Nat.reduceSub, Nat.reduceEqDiff, reduceCtorEq, v8_len, g1, hw, hw2, e1, v8_app, v8_take, take_len (Nat.le_refl _), hds]; exact rfl) ?_ ?_)
    | (refine aw_cond (by simp only [go_sem, Nat.reduceBEq, Nat.reduceBneDiff, Nat.reduceLT, Nat.reduceLeDiff, Nat.reduceAdd, Nat.reduceMul, Nat.reduceSub, Nat.reduceEqDiff, reduceCtorEq, v8_len, g1, hw, hw2, e1, v8_app, v8_take, take_len (Nat.le_refl _), hds]; exact rfl) (by simp only [go_sem, Nat.reduceBEq, Nat.reduceBneDiff, Nat.reduceLT, Nat.reduceLeDiff, Nat.reduceAdd, Nat.reduceMul, Nat.reduceSub, Nat.reduceEqDiff, reduceCtorEq]) (fun h => ?_) (fun h => ?_) <;> (try simp only [decide_eq_true_eq, decide_eq_false_iff_not, Bool.not_eq_true', Bool.not_eq_false', Bool.or_eq_true, Bool.or_eq_false_iff, Bool.and_eq_true, Bool.and_eq_false_iff, Decidable.not_not, reduceCtorEq] at h) <;> (try (exfalso; omega)))
    | (refine aend_ret (by simp only [go_sem, Nat.reduceBEq, Nat.reduceBneDiff, Nat.reduceLT, Nat.reduceLeDiff, Nat.reduceAdd, Nat.reduceMul, Nat.reduceSub, Nat.reduceEqDiff, reduceCtorEq, v8_len, g1, hw, hw2, e1, v8_app, v8_take, take_len (Nat.le_refl _), hds]; exact rfl) ?_ ?_)
    | (refine aend_normal (by simp only [go_sem, Nat.reduceBEq, Nat.reduceBneDiff, Nat.reduceLT, Nat.reduceLeDiff, Nat.reduceAdd, Nat.reduceMul, Nat.reduceSub, Nat.reduceEqDiff, reduceCtorEq, v8_len, g1, hw, hw2, e1, v8_app, v8_take, take_len (Nat.le_refl _), hds]; exact rfl) ?_ ?_)
    | (refine aendG_ret (by simp only [go_sem, Nat.reduceBEq, Nat.reduceBneDiff, Nat.reduceLT, Nat.reduceLeDiff, Nat.reduceAdd, Nat.reduceMul, Nat.reduceSub, Nat.reduceEqDiff, reduceCtorEq, v8_len, g1, hw, hw2, e1, v8_app, v8_take, take_len (Nat.le_refl _), hds]; exact rfl) ?_ ?_ ?_)
    | (refine aendG_normal (by simp only [go_sem, Nat.reduceBEq, Nat.reduceBneDiff, Nat.reduceLT, Nat.reduceLeDiff, Nat.reduceAdd, Nat.reduceMul, Nat.reduceSub, Nat.reduceEqDiff, reduceCtorEq, v8_len, g1, hw, hw2, e1, v8_app, v8_take, take_len (Nat.le_refl _), hds]; exact rfl) ?_ ?_ ?_) | fail)) <;> (try omega)
          · rw [hdl (k + 1)]; omega
          · exact ⟨k + 1, by simp only [go_sem, Nat.reduceBEq, Nat.reduceBneDiff, Nat.reduceLT, Nat.reduceLeDiff, Nat.reduceAdd, Nat.reduceMul, Nat.reduceSub, Nat.reduceEqDiff, reduceCtorEq, v8_len]; exact rfl, by omega, by omega⟩
      · (repeat' (first
    | exact trivial
    | with_reducible refine aw_seq ?_ | with_reducible refine aw_block ?_ | with_reducible refine aw_skip ?_ | with_reducible refine aw_ret ?_ | with_reducible refine aw_exit ?_ | with_reducible refine aseq_normal ?_ | with_reducible refine aseq_ret ?_ | with_reducible refine aseq_exit ?_ | with_reducible refine ablk_normal ?_ | with_reducible refine ablk_ret ?_ | with_reducible refine ablk_hit ?_ | with_reducible refine aw_region ?_ | with_reducible refine go_nil ?_ | with_reducible refine al_of ?_
    | with_reducible refine ablk_miss (by decide) ?_
    | ((with_reducible refine al_id ?_); refine go_run (tyOf_ok _) [] (by simp only [go_sem, Nat.reduceBEq, Nat.reduceBneDiff, Nat.reduceLT, Nat.reduceLeDiff, Nat.reduceAdd, Nat.reduceMul, Nat.reduceSub, Nat.reduceEqDiff, reduceCtorEq, v8_len, hw]; exact rfl) ?_ ?_)
    | (refine aw_cond (by simp only [go_sem, Nat.reduceBEq, Nat.reduceBneDiff, Nat.reduceLT, Nat.reduceLeDiff, Nat.reduceAdd, Nat.reduceMul, Nat.reduceSub, Nat.reduceEqDiff, reduceCtorEq, v8_len, hw]; exact rfl) (by simp only [go_sem, Nat.reduceBEq, Nat.reduceBneDiff, Nat.reduceLT, Nat.reduceLeDiff, Nat.reduceAdd, Nat.reduceMul, Nat.reduceSub, Nat.reduceEqDiff, reduceCtorEq]) (fun h => ?_) (fun h => ?_) <;> (try simp only [decide_eq_true_eq, decide_eq_false_iff_not, Bool.not_eq_true', Bool.not_eq_false', Bool.or_eq_true, Bool.or_eq_false_iff, Bool.and_eq_true, Bool.and_eq_false_iff, Decidable.not_not, reduceCtorEq] at h) <;> (try (exfalso; omega)))
    | (refine aend_ret (by simp only [go_sem, Nat.reduceBEq, Nat.reduceBneDiff, Nat.reduceLT, Nat.reduceLeDiff, Nat.reduceAdd, Nat.reduceMul, Nat.reduceSub, Nat.reduceEqDiff, reduceCtorEq, v8_len, hw]; exact rfl) ?_ ?_)
    | (refine aend_normal (by simp only [go_sem, Nat.reduceBEq, Nat.reduceBneDiff, Nat.reduceLT, Nat.reduceLeDiff, Nat.reduceAdd, Nat.reduceMul, Nat.reduceSub, Nat.reduceEqDiff, reduceCtorEq, v8_len, hw]; exact rfl) ?_ ?_)
    | (refine aendG_ret (by simp only [go_sem, Nat.reduceBEq, Nat.reduceBneDiff, Nat.reduceLT, Nat.reduceLeDiff, Nat.reduceAdd, Nat.reduceMul, Nat.reduceSub, Nat.reduceEqDiff, reduceCtorEq, v8_len, hw]; exact rfl) ?_ ?_ ?_)
    | (refine aendG_normal (by simp only [go_sem, Nat.reduceBEq, Nat.reduceBneDiff, Nat.reduceLT, Nat.reduceLeDiff, Nat.reduceAdd, Nat.reduceMul, Nat.reduceSub, Nat.reduceEqDiff, reduceCtorEq, v8_len, hw]; exact rfl) ?_ ?_ ?_) | fail)) <;> (try omega)
        have hke : k = xs.length := by omega
        subst hke
        rw [take_len (by rw [v8_len]; exact Nat.le_refl _)]
        have hno : (List.range xs.length).find? (bad x xs e) = none := by
          rw [List.find?_range_eq_none]
          intro i hi
          simp [hall i hi]
        rw [lerr3, lengths, if_neg (by omega), hno]
        exact AV.up_rfl _
end Go.Proofs.Ytfgacgpicfknpaa
end
section
namespace Go.Proofs.Ytfgacgpicfknpaa
open Go.RowKit
/-! More of what a walk needs: nil that grows within a variable; values of which less is said. -/
instance (n : Int) : Decidable (I64 n) := by unfold I64; exact inferInstance
theorem AV.up_agg {l m : List AV} (h : AV.upL l m) : (AV.agg l).up (.agg m) := fun F β w x hx => by
  obtain ⟨g1, g2⟩ := AV.upL_get h
  cases hx with
  | s h => cases h
  | agg h1 h2 h3 =>
    refine .agg (h1.trans g1) h2 fun i c u hc hu => ?_
    obtain ⟨a, ha, hu'⟩ := g2 i c hc
    exact hu' _ _ _ _ (h3 i a u ha hu)
theorem AV.up_cons' {a b : AV} {l m : List AV} (h : a.up b) (h' : AV.upL l m) : AV.upL (a :: l) (b :: m) := ⟨h, h'⟩
theorem AV.upL_rfl : ∀ l : List AV, AV.upL l l
  | [] => trivial
  | a :: l => ⟨AV.up_rfl a, AV.upL_rfl l⟩
theorem AV.up_trans {a b c : AV} (h : a.up b) (h' : b.up c) : a.up c := fun F β w x hx => h' F β w x (h F β w x hx)
mutual
/-- the same, but for nil where an empty list is read -/
inductive Up : AV → AV → Prop
  | rfl (a : AV) : Up a a
  | nil (k : Nat) : Up (.v (.slice none 0 0)) (.lst k [])
  | agg {l m : List AV} : UpL l m → Up (.agg l) (.agg m)
  | tup {l m : List AV} : UpL l m → Up (.tup l) (.tup m)
  | lst {k : Nat} {xs ys : List (List AV)} : UpLL xs ys → Up (.lst k xs) (.lst k ys)
inductive UpL : List AV → List AV → Prop
  | nil : UpL [] []
  | cons {a b : AV} {l m : List AV} : Up a b → UpL l m → UpL (a :: l) (b :: m)
inductive UpLL : List (List AV) → List (List AV) → Prop
  | nil : UpLL [] []
  | cons {a b : List AV} {l m : List (List AV)} : UpL a b → UpLL l m → UpLL (a :: l) (b :: m)
end
section
variable {F : Nat → Prop} {w : World}
mutual
theorem Up.svr : ∀ {a b : AV}, Up a b → ∀ {x : Value}, SVR F w a x → SVR F w b x
  | _, _, .rfl _, _, h => h
  | _, _, .nil k, x, h => by
    have := AV.up_nil k F (fun _ => none) w x (.s h)
    cases this with
    | s h => exact h
  | _, _, .agg _, _, h => by cases h
  | _, _, .tup _, _, h => by cases h
  | _, _, .lst hu, _, h => by
    cases h with
    | lst g h1 h2 h3 h4 h5 h6 h7 =>
      have hl := UpLL.svr hu
      refine .lst g (h1.trans hl.1) h2 h3 (fun cs hcs => ?_) h5 h6 fun i j cs u hc hu => ?_
      · obtain ⟨i, hi⟩ := List.getElem?_of_mem hcs
        obtain ⟨cs', h8, h9, _⟩ := hl.2 i cs hi
        rw [← h9]; exact h4 cs' (List.mem_of_getElem? h8)
      · obtain ⟨cs', h8, _, h10⟩ := hl.2 i cs hc
        obtain ⟨u', h11, h12⟩ := h10 j u hu
        exact h12 _ (h7 i j cs' u' h8 h11)
theorem UpL.svr : ∀ {l m : List AV}, UpL l m → l.length = m.length ∧ ∀ (j : Nat) (u : AV), m[j]? = some u → ∃ u', l[j]? = some u' ∧ ∀ x, SVR F w u' x → SVR F w u x
  | _, _, .nil => ⟨Eq.refl _, fun j u h => by simp at h⟩
  | _, _, .cons h hl => by
    have h1 := fun x => Up.svr h (x := x)
    have h2 := UpL.svr hl
    refine ⟨by simp [h2.1], fun j u hu => ?_⟩
    cases j with
    | zero => simp only [List.getElem?_cons_zero, Option.some.injEq] at hu; subst hu; exact ⟨_, by simp, fun x hx => h1 x hx⟩
    | succ j => exact h2.2 j u (by simpa using hu)
theorem UpLL.svr : ∀ {l m : List (List AV)}, UpLL l m → l.length = m.length ∧ ∀ (i : Nat) (cs : List AV), m[i]? = some cs → ∃ cs', l[i]? = some cs' ∧ cs'.length = cs.length ∧ ∀ (j : Nat) (u : AV), cs[j]? = some u → ∃ u', cs'[j]? = some u' ∧ ∀ x, SVR F w u' x → SVR F w u x
  | _, _, .nil => ⟨Eq.refl _, fun j u h => by simp at h⟩
  | _, _, .cons h hl => by
    have h1 := UpL.svr h
    have h2 := UpLL.svr hl
    refine ⟨by simp [h2.1], fun j u hu => ?_⟩
    cases j with
    | zero => simp only [List.getElem?_cons_zero, Option.some.injEq] at hu; subst hu; exact ⟨_, by simp, h1.1, h1.2⟩
    | succ j => exact h2.2 j u (by simpa using hu)
end
end
mutual
theorem Up.up : ∀ {a b : AV}, Up a b → a.up b
  | _, _, .rfl a => AV.up_rfl a
  | _, _, .nil k => AV.up_nil k
  | _, _, .agg h => AV.up_agg (UpL.up h)
  | _, _, .tup h => AV.up_tup (UpL.up h)
  | _, _, .lst h => fun F β w x hx => by
    cases hx with
    | s hx => exact .s (Up.svr (.lst h) hx)
theorem UpL.up : ∀ {l m : List AV}, UpL l m → AV.upL l m
  | _, _, .nil => trivial
  | _, _, .cons h hl => ⟨Up.up h, UpL.up hl⟩
end
theorem PCall.args {P : Program} {f : Nat} {as' bs : List AV} {R : AV → Prop} (hu : UpL as' bs) (h : PCall P f bs R) : PCall P f as' R :=
  ⟨h.1, fun w F vs h1 h2 h3 => h.2 w F vs h1 (by
    have := (AV.upL_get hu.up).1
    omega) fun i x v hx hv => by
    obtain ⟨a, ha, hau⟩ := (AV.upL_get hu.up).2 i x hx
    exact hau _ _ _ _ (h3 i a v ha hv)⟩
section
variable {P : Program} {T : Nat → Option TyD} {E : Env} {s s' : AState} {n : Nat} {Q : Exit → AState → Prop}
/-- nil within a variable, as an empty row of an object that has no block yet -/
def AState.nilvar (s : AState) (o j ty k d : Nat) (cs : List AV) : AState := { fr := (s.drop d).fr, ob := (o, .var ((AV.kill.killL d cs).set j (.ref ty k d 0 0))) :: (d, .row ty k []) :: (s.drop d).ob }
theorem aw_nilvar {c : Code} (o j ty k d : Nat) {cs : List AV} (hd : ownN d) (hne : o ≠ d) (ho : lk s.ob o = some (.var cs)) (hj : cs[j]? = some (.v (.slice none 0 0))) (h : AWp P E n c Q (s.nilvar o j ty k d cs)) : AWp P E n c Q s := fun a w ⟨hn, hdf, β, hs⟩ => by
  refine h a w ⟨hn, hdf, upd β d none, ?_⟩
  have h1 := hs.turn (β' := upd β d none) (w' := w) d hd (fun e he => upd_other β _ he) (fun b hb => by rw [upd_same] at hb; cases hb) (Keeps.refl _ _)
  have h2 := h1.add d (.row ty k []) ⟨fun cs h => (by cases h), .inl rfl⟩
  refine h2.add o _ ?_
  have h3 := h1.ob o (.var (AV.kill.killL d cs)) (by rw [lk_drop_ob, bif_ne hne, ho]; rfl)
  obtain ⟨b, arr, t, g1, g2, g3, g4⟩ := h3
  refine ⟨b, arr, t, g1, g2, by simpa using g3, fun i u hu => ?_⟩
  by_cases hij : j = i
  · subst hij
    have hlt : j < (AV.kill.killL d cs).length := by
      rw [AV.killL_eq, List.length_map]
      rcases Nat.lt_or_ge j cs.length with h | h
      · exact h
      · rw [List.getElem?_eq_none h] at hj; cases hj
    rw [List.getElem?_set_self hlt] at hu
    injection hu with hu
    subst hu
    obtain ⟨x, hx, hr, ho⟩ := g4 j (.v (.slice none 0 0)) (by rw [AV.killL_eq, List.getElem?_map, hj]; rfl)
    refine ⟨x, hx, ?_, ho⟩
    cases hr with
    | s h =>
    cases h with
    | v h => exact .nil
  · rw [List.getElem?_set_ne hij] at hu
    exact g4 i u hu
end
end Go.Proofs.Ytfgacgpicfknpaa
end
end
