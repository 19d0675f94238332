import Derived.Test.YtfgacgpicfknpaaP7
set_option linter.all false
section
namespace Go.Proofs.Ytfgacgpicfknpaa
open Go.RowKit
set_option maxRecDepth 100000
set_option maxHeartbeats 8000000
def NodeAt (ts : List TypeM) (rs : List RootM) (X : List ExtM) (V : List NodeM) (v : NodeM) (x : TypeM) (ls : List Int) (r : Int × Bool × List Int) : Prop :=
  GCall Try.prog 75 [.ptr 1 10000 0 0, .agg [vI v.kind, .v (.int .u64 v.n), vI v.kids], .agg [vI x.kind, vI x.n, vI x.elem, .lst 3 (encPs x.parts)]] (wob ts rs X V ls) (tupR r) (wob ts rs X V r.2.2)
section
variable {ts : List TypeM} {rs : List RootM} {X : List ExtM} {V : List NodeM} {rec : Rec}
theorem node_1 (x : TypeM) (hx : I64 x.n) (hk : x.kind = 1) (v : NodeM) (hv : nodeOK v) (ls : List Int) : NodeAt ts rs X V v x ls (nodeW X rec v x ls) := by
  unfold NodeAt
  rw [nodeW, if_pos hk]
  refine go_fnG (tyOf_ok _) Try.func75 rfl rfl (by rw [Try.results75]) Try.ntmps75 rfl fun E => ?_
  have k1 : (x.kind = 1) = True := eq_true hk
  have hu : U64 v.n := by obtain ⟨_, _, hn0, hn1⟩ := hv; unfold U64; omega
  by_cases hi : isN v 1 0 = true
  · rw [hi, Bool.true_and]
    (repeat' (first
    | exact trivial
    | (with_reducible first | refine awA ?_ | refine awB ?_ | refine awC ?_ | refine awD ?_ | refine awE ?_ | refine awF ?_ | refine awG ?_ | refine awH ?_ | refine awI ?_ | refine awJ ?_ | refine awK ?_ | refine awL ?_ | refine awM (by decide) ?_)
    | (refine aw_draw (id := 3) (t := (.node [0, 1, 2, 3, 4, 5, 6, 7, 8, 9, 10, 11, 12] [])) (drR [5, 4] [] []) mixed (by kernel_rfl) (by kernel_rfl) (fun _ _ h => h) ?_)
    | (refine aw_draw (id := 5) (t := (.node [0, 1, 2, 3, 4, 5, 6, 7, 8, 9, 10, 11, 12, 13, 14] [])) (drR [4] [] []) mixed (by kernel_rfl) (by kernel_rfl) (fun _ _ h => h) ?_)
    | (refine aw_draw (id := 7) (t := (.node [0, 1, 3, 2, 4, 5, 6] [])) (drR [4] [] []) mixed (by kernel_rfl) (by kernel_rfl) (fun _ _ h => h) ?_)
    | (refine at_done (by simp only [List.filterMap_cons, List.filterMap_nil, List.getElem?_toArray, List.getElem?_cons_zero, List.getElem?_cons_succ]; exact rfl) ?_) | (refine at_alt (by simp only [List.filterMap_cons, List.filterMap_nil, List.getElem?_toArray, List.getElem?_cons_zero, List.getElem?_cons_succ]; exact rfl) ?_) | refine qalt_normal ?_ | refine ats_cons ?_ ?_ | exact ats_nil
    | ((with_reducible first | refine awN (tyOf_ok _) [] ?_ | refine awO (tyOf_ok _) [] ?_ | refine awP (tyOf_ok _) [] ?_ | refine awQ ?_ | refine awR ?_ | refine awS ?_ | refine awT ?_ | refine awU ?_); intro r hr; simp only [go_sem, Nat.reduceBEq, Nat.reduceBneDiff, Nat.reduceLT, Nat.reduceLeDiff, Nat.reduceAdd, Nat.reduceMul, Nat.reduceSub, Nat.reduceEqDiff, reduceCtorEq, wob, tupR, encPs_len, k1, hi] at hr; subst hr; (first | refine caA (fun _ => is_any v 1 0) rfl ?_ ?_ ?_ | refine caA (fun _ => fits_p hu hx) rfl ?_ ?_ ?_ | refine awV ?_ ?_ | refine awW ?_ ?_ | refine endK ?_ ?_ | refine endGK ?_ ?_ ?_ | (refine condK (fun h => ?_) (fun h => ?_) <;> (try simp only [go_sem, reduceCtorEq] at h) <;> (try (exfalso; omega))))) | fail)) <;> (try omega)
    all_goals (first | exact AV.up_rfl _ | exact obUp_cons rfl (obUp_cons rfl obUp_nil))
  · have e0 : isN v 1 0 = false := by simpa using hi
    rw [e0, Bool.false_and]
    (repeat' (first
    | exact trivial
    | (with_reducible first | refine awA ?_ | refine awB ?_ | refine awC ?_ | refine awD ?_ | refine awE ?_ | refine awF ?_ | refine awG ?_ | refine awH ?_ | refine awI ?_ | refine awJ ?_ | refine awK ?_ | refine awL ?_ | refine awM (by decide) ?_)
    | (refine aw_draw (id := 3) (t := (.node [0, 1, 2, 3, 4, 5, 6, 7, 8, 9, 10, 11, 12] [])) (drR [5, 4] [] []) mixed (by kernel_rfl) (by kernel_rfl) (fun _ _ h => h) ?_)
    | (refine aw_draw (id := 5) (t := (.node [0, 1, 2, 3, 4, 5, 6, 7, 8, 9, 10, 11, 12, 13, 14] [])) (drR [4] [] []) mixed (by kernel_rfl) (by kernel_rfl) (fun _ _ h => h) ?_)
    | (refine aw_draw (id := 7) (t := (.node [0, 1, 3, 2, 4, 5, 6] [])) (drR [4] [] []) mixed (by kernel_rfl) (by kernel_rfl) (fun _ _ h => h) ?_)
    | (refine at_done (by simp only [List.filterMap_cons, List.filterMap_nil, List.getElem?_toArray, List.getElem?_cons_zero, List.getElem?_cons_succ]; exact rfl) ?_) | (refine at_alt (by simp only [List.filterMap_cons, List.filterMap_nil, List.getElem?_toArray, List.getElem?_cons_zero, List.getElem?_cons_succ]; exact rfl) ?_) | refine qalt_normal ?_ | refine ats_cons ?_ ?_ | exact ats_nil
    | ((with_reducible first | refine awN (tyOf_ok _) [] ?_ | refine awO (tyOf_ok _) [] ?_ | refine awP (tyOf_ok _) [] ?_ | refine awQ ?_ | refine awR ?_ | refine awS ?_ | refine awT ?_ | refine awU ?_); intro r hr; simp only [go_sem, Nat.reduceBEq, Nat.reduceBneDiff, Nat.reduceLT, Nat.reduceLeDiff, Nat.reduceAdd, Nat.reduceMul, Nat.reduceSub, Nat.reduceEqDiff, reduceCtorEq, wob, tupR, encPs_len, k1, e0] at hr; subst hr; (first | refine caA (fun _ => is_any v 1 0) rfl ?_ ?_ ?_ | refine caB 93 (vB true) ?_ ?_ ?_ | refine awV ?_ ?_ | refine awW ?_ ?_ | refine endK ?_ ?_ | refine endGK ?_ ?_ ?_ | (refine condK (fun h => ?_) (fun h => ?_) <;> (try simp only [go_sem, reduceCtorEq] at h) <;> (try (exfalso; omega))))) | fail)) <;> (try omega)
    all_goals (first | exact AV.up_rfl _ | exact obUp_cons rfl (obUp_cons rfl obUp_nil))
theorem node_2 (x : TypeM) (hk : x.kind = 2) (v : NodeM) (ls : List Int) : NodeAt ts rs X V v x ls (nodeW X rec v x ls) := by
  unfold NodeAt
  rw [nodeW, if_neg (by omega), if_pos hk]
  refine go_fnG (tyOf_ok _) Try.func75 rfl rfl (by rw [Try.results75]) Try.ntmps75 rfl fun E => ?_
  have k1 : (x.kind = 1) = False := eq_false (by omega)
  have k2 : (x.kind = 2) = True := eq_true hk
  (repeat' (first
    | exact trivial
    | (with_reducible first | refine awA ?_ | refine awB ?_ | refine awC ?_ | refine awD ?_ | refine awE ?_ | refine awF ?_ | refine awG ?_ | refine awH ?_ | refine awI ?_ | refine awJ ?_ | refine awK ?_ | refine awL ?_ | refine awM (by decide) ?_)
    | (refine aw_draw (id := 3) (t := (.node [0, 1, 2, 3, 4, 5, 6, 7, 8, 9, 10, 11, 12] [])) (drR [5, 4] [] []) mixed (by kernel_rfl) (by kernel_rfl) (fun _ _ h => h) ?_)
    | (refine aw_draw (id := 5) (t := (.node [0, 1, 2, 3, 4, 5, 6, 7, 8, 9, 10, 11, 12, 13, 14] [])) (drR [4] [] []) mixed (by kernel_rfl) (by kernel_rfl) (fun _ _ h => h) ?_)
    | (refine aw_draw (id := 7) (t := (.node [0, 1, 3, 2, 4, 5, 6] [])) (drR [4] [] []) mixed (by kernel_rfl) (by kernel_rfl) (fun _ _ h => h) ?_)
    | (refine at_done (by simp only [List.filterMap_cons, List.filterMap_nil, List.getElem?_toArray, List.getElem?_cons_zero, List.getElem?_cons_succ]; exact rfl) ?_) | (refine at_alt (by simp only [List.filterMap_cons, List.filterMap_nil, List.getElem?_toArray, List.getElem?_cons_zero, List.getElem?_cons_succ]; exact rfl) ?_) | refine qalt_normal ?_ | refine ats_cons ?_ ?_ | exact ats_nil
    | ((with_reducible first | refine awN (tyOf_ok _) [] ?_ | refine awO (tyOf_ok _) [] ?_ | refine awP (tyOf_ok _) [] ?_ | refine awQ ?_ | refine awR ?_ | refine awS ?_ | refine awT ?_ | refine awU ?_); intro r hr; simp only [go_sem, Nat.reduceBEq, Nat.reduceBneDiff, Nat.reduceLT, Nat.reduceLeDiff, Nat.reduceAdd, Nat.reduceMul, Nat.reduceSub, Nat.reduceEqDiff, reduceCtorEq, wob, tupR, encPs_len, k1, k2] at hr; subst hr; (first | refine awV ?_ ?_ | refine awW ?_ ?_ | refine endK ?_ ?_ | refine endGK ?_ ?_ ?_ | (refine condK (fun h => ?_) (fun h => ?_) <;> (try simp only [go_sem, reduceCtorEq] at h) <;> (try (exfalso; omega))))) | fail)) <;> (try omega)
  all_goals (first | exact AV.up_rfl _ | exact obUp_cons rfl (obUp_cons rfl obUp_nil))
theorem node_3 (x : TypeM) (hk : x.kind = 3) (v : NodeM) (hv : nodeOK v) (ls : List Int) : NodeAt ts rs X V v x ls (nodeW X rec v x ls) := by
  unfold NodeAt
  rw [nodeW, if_neg (by omega), if_neg (by omega), if_pos hk]
  refine go_fnG (tyOf_ok _) Try.func75 rfl rfl (by rw [Try.results75]) Try.ntmps75 rfl fun E => ?_
  have k1 : (x.kind = 1) = False := eq_false (by omega)
  have k2 : (x.kind = 2) = False := eq_false (by omega)
  have k3 : (x.kind = 3) = True := eq_true hk
  (repeat' (first
    | exact trivial
    | (with_reducible first | refine awA ?_ | refine awB ?_ | refine awC ?_ | refine awD ?_ | refine awE ?_ | refine awF ?_ | refine awG ?_ | refine awH ?_ | refine awI ?_ | refine awJ ?_ | refine awK ?_ | refine awL ?_ | refine awM (by decide) ?_)
    | (refine aw_draw (id := 3) (t := (.node [0, 1, 2, 3, 4, 5, 6, 7, 8, 9, 10, 11, 12] [])) (drR [5, 4] [] []) mixed (by kernel_rfl) (by kernel_rfl) (fun _ _ h => h) ?_)
    | (refine aw_draw (id := 5) (t := (.node [0, 1, 2, 3, 4, 5, 6, 7, 8, 9, 10, 11, 12, 13, 14] [])) (drR [4] [] []) mixed (by kernel_rfl) (by kernel_rfl) (fun _ _ h => h) ?_)
    | (refine aw_draw (id := 7) (t := (.node [0, 1, 3, 2, 4, 5, 6] [])) (drR [4] [] []) mixed (by kernel_rfl) (by kernel_rfl) (fun _ _ h => h) ?_)
    | (refine at_done (by simp only [List.filterMap_cons, List.filterMap_nil, List.getElem?_toArray, List.getElem?_cons_zero, List.getElem?_cons_succ]; exact rfl) ?_) | (refine at_alt (by simp only [List.filterMap_cons, List.filterMap_nil, List.getElem?_toArray, List.getElem?_cons_zero, List.getElem?_cons_succ]; exact rfl) ?_) | refine qalt_normal ?_ | refine ats_cons ?_ ?_ | exact ats_nil
    | ((with_reducible first | refine awN (tyOf_ok _) [] ?_ | refine awO (tyOf_ok _) [] ?_ | refine awP (tyOf_ok _) [] ?_ | refine awQ ?_ | refine awR ?_ | refine awS ?_ | refine awT ?_ | refine awU ?_); intro r hr; simp only [go_sem, Nat.reduceBEq, Nat.reduceBneDiff, Nat.reduceLT, Nat.reduceLeDiff, Nat.reduceAdd, Nat.reduceMul, Nat.reduceSub, Nat.reduceEqDiff, reduceCtorEq, wob, tupR, encPs_len, k1, k2, k3] at hr; subst hr; (first | refine caA (fun _ => is_any v 1 0) rfl ?_ ?_ ?_ | refine caA (fun _ => varint_any v.n hv.2.2.1 hv.2.2.2) rfl ?_ ?_ ?_ | refine awV ?_ ?_ | refine awW ?_ ?_ | refine endK ?_ ?_ | refine endGK ?_ ?_ ?_ | (refine condK (fun h => ?_) (fun h => ?_) <;> (try simp only [go_sem, reduceCtorEq] at h) <;> (try (exfalso; omega))))) | fail)) <;> (try omega)
  all_goals (first | exact AV.up_rfl _ | exact obUp_cons rfl (obUp_cons rfl obUp_nil))
theorem node_4 (W : WOK ts rs X V) (x : TypeM) (hk : x.kind = 4) (hn : 0 ≤ x.n ∧ x.n ≤ 1048576) (he : 0 ≤ x.elem ∧ x.elem < ts.length) (H : RecAt ts rs X V rec x.elem.toNat) (v : NodeM) (ls : List Int) (hl : ls.length ≤ V.length) :
    NodeAt ts rs X V v x ls (nodeW X rec v x ls) := by
  unfold NodeAt
  rw [nodeW, if_neg (by omega), if_neg (by omega), if_neg (by omega), if_pos hk]
  refine go_fnG (tyOf_ok _) Try.func75 rfl rfl (by rw [Try.results75]) Try.ntmps75 rfl fun E => ?_
  have k1 : (x.kind = 1) = False := eq_false (by omega)
  have k2 : (x.kind = 2) = False := eq_false (by omega)
  have k3 : (x.kind = 3) = False := eq_false (by omega)
  have k4 : (x.kind = 4) = True := eq_true hk
  have hc := kids_any W (t := x.elem.toNat) (by omega) H x.n.toNat (by omega) ls hl
  rw [Int.toNat_of_nonneg he.1, Int.toNat_of_nonneg hn.1] at hc
  by_cases hi : isN v 3 x.n = true
  · rw [if_pos hi]
    generalize kidsW X rec x.elem x.n.toNat 0 ls = r at *
    obtain ⟨n, ok, ls'⟩ := r
    (repeat' (first
    | exact trivial
    | (with_reducible first | refine awA ?_ | refine awB ?_ | refine awC ?_ | refine awD ?_ | refine awE ?_ | refine awF ?_ | refine awG ?_ | refine awH ?_ | refine awI ?_ | refine awJ ?_ | refine awK ?_ | refine awL ?_ | refine awM (by decide) ?_)
    | (refine aw_draw (id := 3) (t := (.node [0, 1, 2, 3, 4, 5, 6, 7, 8, 9, 10, 11, 12] [])) (drR [5, 4] [] []) mixed (by kernel_rfl) (by kernel_rfl) (fun _ _ h => h) ?_)
    | (refine aw_draw (id := 5) (t := (.node [0, 1, 2, 3, 4, 5, 6, 7, 8, 9, 10, 11, 12, 13, 14] [])) (drR [4] [] []) mixed (by kernel_rfl) (by kernel_rfl) (fun _ _ h => h) ?_)
    | (refine aw_draw (id := 7) (t := (.node [0, 1, 3, 2, 4, 5, 6] [])) (drR [4] [] []) mixed (by kernel_rfl) (by kernel_rfl) (fun _ _ h => h) ?_)
    | (refine at_done (by simp only [List.filterMap_cons, List.filterMap_nil, List.getElem?_toArray, List.getElem?_cons_zero, List.getElem?_cons_succ]; exact rfl) ?_) | (refine at_alt (by simp only [List.filterMap_cons, List.filterMap_nil, List.getElem?_toArray, List.getElem?_cons_zero, List.getElem?_cons_succ]; exact rfl) ?_) | refine qalt_normal ?_ | refine ats_cons ?_ ?_ | exact ats_nil
    | ((with_reducible first | refine awN (tyOf_ok _) [] ?_ | refine awO (tyOf_ok _) [] ?_ | refine awP (tyOf_ok _) [] ?_ | refine awQ ?_ | refine awR ?_ | refine awS ?_ | refine awT ?_ | refine awU ?_); intro r hr; simp only [go_sem, Nat.reduceBEq, Nat.reduceBneDiff, Nat.reduceLT, Nat.reduceLeDiff, Nat.reduceAdd, Nat.reduceMul, Nat.reduceSub, Nat.reduceEqDiff, reduceCtorEq, wob, tupR, encPs_len, k1, k2, k3, k4, hi] at hr; subst hr; (first | refine caA (fun _ => is_any v 3 x.n) rfl ?_ ?_ ?_ | refine awV ?_ ?_ | refine awW ?_ ?_ | refine endK ?_ ?_ | refine endGK ?_ ?_ ?_ | (refine condK (fun h => ?_) (fun h => ?_) <;> (try simp only [go_sem, reduceCtorEq] at h) <;> (try (exfalso; omega)))))
    | (refine go_callGE [(10000, 10000), (15000, 15000)] [(10000, 10000), (15000, 15000)] [15000] [10000] ?_; intro r hr; simp only [go_sem, Nat.reduceBEq, Nat.reduceBneDiff, Nat.reduceLT, Nat.reduceLeDiff, Nat.reduceAdd, Nat.reduceMul, Nat.reduceSub, Nat.reduceEqDiff, reduceCtorEq, wob, tupR, encPs_len, k1, k2, k3, k4, hi] at hr; subst hr; refine callGK (hc) rfl rfl (by first | exact .inl rfl | exact .inr rfl) ?_ (.inl rfl) ?_) | fail)) <;> (try omega)
    all_goals (first | exact AV.up_rfl _ | exact obUp_cons rfl (obUp_cons rfl obUp_nil))
  · have e0 : isN v 3 x.n = false := by simpa using hi
    rw [if_neg hi]
    (repeat' (first
    | exact trivial
    | (with_reducible first | refine awA ?_ | refine awB ?_ | refine awC ?_ | refine awD ?_ | refine awE ?_ | refine awF ?_ | refine awG ?_ | refine awH ?_ | refine awI ?_ | refine awJ ?_ | refine awK ?_ | refine awL ?_ | refine awM (by decide) ?_)
    | (refine aw_draw (id := 3) (t := (.node [0, 1, 2, 3, 4, 5, 6, 7, 8, 9, 10, 11, 12] [])) (drR [5, 4] [] []) mixed (by kernel_rfl) (by kernel_rfl) (fun _ _ h => h) ?_)
    | (refine aw_draw (id := 5) (t := (.node [0, 1, 2, 3, 4, 5, 6, 7, 8, 9, 10, 11, 12, 13, 14] [])) (drR [4] [] []) mixed (by kernel_rfl) (by kernel_rfl) (fun _ _ h => h) ?_)
    | (refine aw_draw (id := 7) (t := (.node [0, 1, 3, 2, 4, 5, 6] [])) (drR [4] [] []) mixed (by kernel_rfl) (by kernel_rfl) (fun _ _ h => h) ?_)
    | (refine at_done (by simp only [List.filterMap_cons, List.filterMap_nil, List.getElem?_toArray, List.getElem?_cons_zero, List.getElem?_cons_succ]; exact rfl) ?_) | (refine at_alt (by simp only [List.filterMap_cons, List.filterMap_nil, List.getElem?_toArray, List.getElem?_cons_zero, List.getElem?_cons_succ]; exact rfl) ?_) | refine qalt_normal ?_ | refine ats_cons ?_ ?_ | exact ats_nil
    | ((with_reducible first | refine awN (tyOf_ok _) [] ?_ | refine awO (tyOf_ok _) [] ?_ | refine awP (tyOf_ok _) [] ?_ | refine awQ ?_ | refine awR ?_ | refine awS ?_ | refine awT ?_ | refine awU ?_); intro r hr; simp only [go_sem, Nat.reduceBEq, Nat.reduceBneDiff, Nat.reduceLT, Nat.reduceLeDiff, Nat.reduceAdd, Nat.reduceMul, Nat.reduceSub, Nat.reduceEqDiff, reduceCtorEq, wob, tupR, encPs_len, k1, k2, k3, k4, e0] at hr; subst hr; (first | refine caA (fun _ => is_any v 3 x.n) rfl ?_ ?_ ?_ | refine awV ?_ ?_ | refine awW ?_ ?_ | refine endK ?_ ?_ | refine endGK ?_ ?_ ?_ | (refine condK (fun h => ?_) (fun h => ?_) <;> (try simp only [go_sem, reduceCtorEq] at h) <;> (try (exfalso; omega))))) | fail)) <;> (try omega)
    all_goals (first | exact AV.up_rfl _ | exact obUp_cons rfl (obUp_cons rfl obUp_nil))
theorem node_5 (W : WOK ts rs X V) (x : TypeM) (hk : x.kind = 5) (hn : 0 ≤ x.n ∧ x.n ≤ 1048576) (he : 0 ≤ x.elem ∧ x.elem < ts.length) (H : RecAt ts rs X V rec x.elem.toNat) (v : NodeM) (ls : List Int) (hl : ls.length ≤ V.length) :
    NodeAt ts rs X V v x ls (nodeW X rec v x ls) := by
  unfold NodeAt
  rw [nodeW, if_neg (by omega), if_neg (by omega), if_neg (by omega), if_neg (by omega), if_pos hk]
  refine go_fnG (tyOf_ok _) Try.func75 rfl rfl (by rw [Try.results75]) Try.ntmps75 rfl fun E => ?_
  have k1 : (x.kind = 1) = False := eq_false (by omega)
  have k2 : (x.kind = 2) = False := eq_false (by omega)
  have k3 : (x.kind = 3) = False := eq_false (by omega)
  have k4 : (x.kind = 4) = False := eq_false (by omega)
  have k5 : (x.kind = 5) = True := eq_true hk
  by_cases h1 : v.kids < 0
  · have e1 : (v.kids < 0) = True := eq_true h1
    rw [if_neg (by omega)]
    (repeat' (first
    | exact trivial
    | (with_reducible first | refine awA ?_ | refine awB ?_ | refine awC ?_ | refine awD ?_ | refine awE ?_ | refine awF ?_ | refine awG ?_ | refine awH ?_ | refine awI ?_ | refine awJ ?_ | refine awK ?_ | refine awL ?_ | refine awM (by decide) ?_)
    | (refine aw_draw (id := 3) (t := (.node [0, 1, 2, 3, 4, 5, 6, 7, 8, 9, 10, 11, 12] [])) (drR [5, 4] [] []) mixed (by kernel_rfl) (by kernel_rfl) (fun _ _ h => h) ?_)
    | (refine aw_draw (id := 5) (t := (.node [0, 1, 2, 3, 4, 5, 6, 7, 8, 9, 10, 11, 12, 13, 14] [])) (drR [4] [] []) mixed (by kernel_rfl) (by kernel_rfl) (fun _ _ h => h) ?_)
    | (refine aw_draw (id := 7) (t := (.node [0, 1, 3, 2, 4, 5, 6] [])) (drR [4] [] []) mixed (by kernel_rfl) (by kernel_rfl) (fun _ _ h => h) ?_)
    | (refine at_done (by simp only [List.filterMap_cons, List.filterMap_nil, List.getElem?_toArray, List.getElem?_cons_zero, List.getElem?_cons_succ]; exact rfl) ?_) | (refine at_alt (by simp only [List.filterMap_cons, List.filterMap_nil, List.getElem?_toArray, List.getElem?_cons_zero, List.getElem?_cons_succ]; exact rfl) ?_) | refine qalt_normal ?_ | refine ats_cons ?_ ?_ | exact ats_nil
    | ((with_reducible first | refine awN (tyOf_ok _) [] ?_ | refine awO (tyOf_ok _) [] ?_ | refine awP (tyOf_ok _) [] ?_ | refine awQ ?_ | refine awR ?_ | refine awS ?_ | refine awT ?_ | refine awU ?_); intro r hr; simp only [go_sem, Nat.reduceBEq, Nat.reduceBneDiff, Nat.reduceLT, Nat.reduceLeDiff, Nat.reduceAdd, Nat.reduceMul, Nat.reduceSub, Nat.reduceEqDiff, reduceCtorEq, wob, tupR, encPs_len, k1, k2, k3, k4, k5, e1] at hr; subst hr; (first | refine caB 92 (vB true) ?_ ?_ ?_ | refine awV ?_ ?_ | refine awW ?_ ?_ | refine endK ?_ ?_ | refine endGK ?_ ?_ ?_ | (refine condK (fun h => ?_) (fun h => ?_) <;> (try simp only [go_sem, reduceCtorEq] at h) <;> (try (exfalso; omega))))) | fail)) <;> (try omega)
    all_goals (first | exact AV.up_rfl _ | exact obUp_cons rfl (obUp_cons rfl obUp_nil))
  have e1 : (v.kids < 0) = False := eq_false h1
  by_cases h2 : x.n < v.kids
  · have e2 : (x.n < v.kids) = True := eq_true h2
    rw [if_neg (by omega)]
    (repeat' (first
    | exact trivial
    | (with_reducible first | refine awA ?_ | refine awB ?_ | refine awC ?_ | refine awD ?_ | refine awE ?_ | refine awF ?_ | refine awG ?_ | refine awH ?_ | refine awI ?_ | refine awJ ?_ | refine awK ?_ | refine awL ?_ | refine awM (by decide) ?_)
    | (refine aw_draw (id := 3) (t := (.node [0, 1, 2, 3, 4, 5, 6, 7, 8, 9, 10, 11, 12] [])) (drR [5, 4] [] []) mixed (by kernel_rfl) (by kernel_rfl) (fun _ _ h => h) ?_)
    | (refine aw_draw (id := 5) (t := (.node [0, 1, 2, 3, 4, 5, 6, 7, 8, 9, 10, 11, 12, 13, 14] [])) (drR [4] [] []) mixed (by kernel_rfl) (by kernel_rfl) (fun _ _ h => h) ?_)
    | (refine aw_draw (id := 7) (t := (.node [0, 1, 3, 2, 4, 5, 6] [])) (drR [4] [] []) mixed (by kernel_rfl) (by kernel_rfl) (fun _ _ h => h) ?_)
    | (refine at_done (by simp only [List.filterMap_cons, List.filterMap_nil, List.getElem?_toArray, List.getElem?_cons_zero, List.getElem?_cons_succ]; exact rfl) ?_) | (refine at_alt (by simp only [List.filterMap_cons, List.filterMap_nil, List.getElem?_toArray, List.getElem?_cons_zero, List.getElem?_cons_succ]; exact rfl) ?_) | refine qalt_normal ?_ | refine ats_cons ?_ ?_ | exact ats_nil
    | ((with_reducible first | refine awN (tyOf_ok _) [] ?_ | refine awO (tyOf_ok _) [] ?_ | refine awP (tyOf_ok _) [] ?_ | refine awQ ?_ | refine awR ?_ | refine awS ?_ | refine awT ?_ | refine awU ?_); intro r hr; simp only [go_sem, Nat.reduceBEq, Nat.reduceBneDiff, Nat.reduceLT, Nat.reduceLeDiff, Nat.reduceAdd, Nat.reduceMul, Nat.reduceSub, Nat.reduceEqDiff, reduceCtorEq, wob, tupR, encPs_len, k1, k2, k3, k4, k5, e1, e2] at hr; subst hr; (first | refine caB 92 (vB true) ?_ ?_ ?_ | refine awV ?_ ?_ | refine awW ?_ ?_ | refine endK ?_ ?_ | refine endGK ?_ ?_ ?_ | (refine condK (fun h => ?_) (fun h => ?_) <;> (try simp only [go_sem, reduceCtorEq] at h) <;> (try (exfalso; omega))))) | fail)) <;> (try omega)
    all_goals (first | exact AV.up_rfl _ | exact obUp_cons rfl (obUp_cons rfl obUp_nil))
  have e2 : (x.n < v.kids) = False := eq_false h2
  have hc := kids_any W (t := x.elem.toNat) (by omega) H v.kids.toNat (by omega) ls hl
  rw [Int.toNat_of_nonneg he.1, Int.toNat_of_nonneg (by omega)] at hc
  by_cases hi : isN v 3 v.kids = true
  · rw [if_pos ⟨by omega, by omega, hi⟩]
    generalize kidsW X rec x.elem v.kids.toNat 0 ls = r at *
    obtain ⟨n, ok, ls'⟩ := r
    (repeat' (first
    | exact trivial
    | (with_reducible first | refine awA ?_ | refine awB ?_ | refine awC ?_ | refine awD ?_ | refine awE ?_ | refine awF ?_ | refine awG ?_ | refine awH ?_ | refine awI ?_ | refine awJ ?_ | refine awK ?_ | refine awL ?_ | refine awM (by decide) ?_)
    | (refine aw_draw (id := 3) (t := (.node [0, 1, 2, 3, 4, 5, 6, 7, 8, 9, 10, 11, 12] [])) (drR [5, 4] [] []) mixed (by kernel_rfl) (by kernel_rfl) (fun _ _ h => h) ?_)
    | (refine aw_draw (id := 5) (t := (.node [0, 1, 2, 3, 4, 5, 6, 7, 8, 9, 10, 11, 12, 13, 14] [])) (drR [4] [] []) mixed (by kernel_rfl) (by kernel_rfl) (fun _ _ h => h) ?_)
    | (refine aw_draw (id := 7) (t := (.node [0, 1, 3, 2, 4, 5, 6] [])) (drR [4] [] []) mixed (by kernel_rfl) (by kernel_rfl) (fun _ _ h => h) ?_)
    | (refine at_done (by simp only [List.filterMap_cons, List.filterMap_nil, List.getElem?_toArray, List.getElem?_cons_zero, List.getElem?_cons_succ]; exact rfl) ?_) | (refine at_alt (by simp only [List.filterMap_cons, List.filterMap_nil, List.getElem?_toArray, List.getElem?_cons_zero, List.getElem?_cons_succ]; exact rfl) ?_) | refine qalt_normal ?_ | refine ats_cons ?_ ?_ | exact ats_nil
    | ((with_reducible first | refine awN (tyOf_ok _) [] ?_ | refine awO (tyOf_ok _) [] ?_ | refine awP (tyOf_ok _) [] ?_ | refine awQ ?_ | refine awR ?_ | refine awS ?_ | refine awT ?_ | refine awU ?_); intro r hr; simp only [go_sem, Nat.reduceBEq, Nat.reduceBneDiff, Nat.reduceLT, Nat.reduceLeDiff, Nat.reduceAdd, Nat.reduceMul, Nat.reduceSub, Nat.reduceEqDiff, reduceCtorEq, wob, tupR, encPs_len, k1, k2, k3, k4, k5, e1, e2, hi] at hr; subst hr; (first | refine caA (fun _ => is_any v 3 v.kids) rfl ?_ ?_ ?_ | refine awV ?_ ?_ | refine awW ?_ ?_ | refine endK ?_ ?_ | refine endGK ?_ ?_ ?_ | (refine condK (fun h => ?_) (fun h => ?_) <;> (try simp only [go_sem, reduceCtorEq] at h) <;> (try (exfalso; omega)))))
    | (refine go_callGE [(10000, 10000), (15000, 15000)] [(10000, 10000), (15000, 15000)] [15000] [10000] ?_; intro r hr; simp only [go_sem, Nat.reduceBEq, Nat.reduceBneDiff, Nat.reduceLT, Nat.reduceLeDiff, Nat.reduceAdd, Nat.reduceMul, Nat.reduceSub, Nat.reduceEqDiff, reduceCtorEq, wob, tupR, encPs_len, k1, k2, k3, k4, k5, e1, e2, hi] at hr; subst hr; refine callGK (hc) rfl rfl (by first | exact .inl rfl | exact .inr rfl) ?_ (.inl rfl) ?_) | fail)) <;> (try omega)
    all_goals (first | exact AV.up_rfl _ | exact obUp_cons rfl (obUp_cons rfl obUp_nil))
  · have e0 : isN v 3 v.kids = false := by simpa using hi
    rw [if_neg (by rintro ⟨_, _, h⟩; exact hi h)]
    (repeat' (first
    | exact trivial
    | (with_reducible first | refine awA ?_ | refine awB ?_ | refine awC ?_ | refine awD ?_ | refine awE ?_ | refine awF ?_ | refine awG ?_ | refine awH ?_ | refine awI ?_ | refine awJ ?_ | refine awK ?_ | refine awL ?_ | refine awM (by decide) ?_)
    | (refine aw_draw (id := 3) (t := (.node [0, 1, 2, 3, 4, 5, 6, 7, 8, 9, 10, 11, 12] [])) (drR [5, 4] [] []) mixed (by kernel_rfl) (by kernel_rfl) (fun _ _ h => h) ?_)
    | (refine aw_draw (id := 5) (t := (.node [0, 1, 2, 3, 4, 5, 6, 7, 8, 9, 10, 11, 12, 13, 14] [])) (drR [4] [] []) mixed (by kernel_rfl) (by kernel_rfl) (fun _ _ h => h) ?_)
    | (refine aw_draw (id := 7) (t := (.node [0, 1, 3, 2, 4, 5, 6] [])) (drR [4] [] []) mixed (by kernel_rfl) (by kernel_rfl) (fun _ _ h => h) ?_)
    | (refine at_done (by simp only [List.filterMap_cons, List.filterMap_nil, List.getElem?_toArray, List.getElem?_cons_zero, List.getElem?_cons_succ]; exact rfl) ?_) | (refine at_alt (by simp only [List.filterMap_cons, List.filterMap_nil, List.getElem?_toArray, List.getElem?_cons_zero, List.getElem?_cons_succ]; exact rfl) ?_) | refine qalt_normal ?_ | refine ats_cons ?_ ?_ | exact ats_nil
    | ((with_reducible first | refine awN (tyOf_ok _) [] ?_ | refine awO (tyOf_ok _) [] ?_ | refine awP (tyOf_ok _) [] ?_ | refine awQ ?_ | refine awR ?_ | refine awS ?_ | refine awT ?_ | refine awU ?_); intro r hr; simp only [go_sem, Nat.reduceBEq, Nat.reduceBneDiff, Nat.reduceLT, Nat.reduceLeDiff, Nat.reduceAdd, Nat.reduceMul, Nat.reduceSub, Nat.reduceEqDiff, reduceCtorEq, wob, tupR, encPs_len, k1, k2, k3, k4, k5, e1, e2, e0] at hr; subst hr; (first | refine caA (fun _ => is_any v 3 v.kids) rfl ?_ ?_ ?_ | refine awV ?_ ?_ | refine awW ?_ ?_ | refine endK ?_ ?_ | refine endGK ?_ ?_ ?_ | (refine condK (fun h => ?_) (fun h => ?_) <;> (try simp only [go_sem, reduceCtorEq] at h) <;> (try (exfalso; omega))))) | fail)) <;> (try omega)
    all_goals (first | exact AV.up_rfl _ | exact obUp_cons rfl (obUp_cons rfl obUp_nil))
theorem node_6 (x : TypeM) (hk : x.kind = 6) (H : RecAt ts rs X V rec x.elem.toNat) (he : 0 ≤ x.elem) (v : NodeM) (ls : List Int) (hl : ls.length ≤ V.length) :
    NodeAt ts rs X V v x ls (nodeW X rec v x ls) := by
  unfold NodeAt
  rw [nodeW, if_neg (by omega), if_neg (by omega), if_neg (by omega), if_neg (by omega), if_neg (by omega), if_pos hk]
  refine go_fnG (tyOf_ok _) Try.func75 rfl rfl (by rw [Try.results75]) Try.ntmps75 rfl fun E => ?_
  have k1 : (x.kind = 1) = False := eq_false (by omega)
  have k2 : (x.kind = 2) = False := eq_false (by omega)
  have k3 : (x.kind = 3) = False := eq_false (by omega)
  have k4 : (x.kind = 4) = False := eq_false (by omega)
  have k5 : (x.kind = 5) = False := eq_false (by omega)
  have k6 : (x.kind = 6) = True := eq_true hk
  by_cases h1 : v.kids < 0
  · have e1 : (v.kids < 0) = True := eq_true h1
    rw [if_neg (by omega)]
    (repeat' (first
    | exact trivial
    | (with_reducible first | refine awA ?_ | refine awB ?_ | refine awC ?_ | refine awD ?_ | refine awE ?_ | refine awF ?_ | refine awG ?_ | refine awH ?_ | refine awI ?_ | refine awJ ?_ | refine awK ?_ | refine awL ?_ | refine awM (by decide) ?_)
    | (refine aw_draw (id := 3) (t := (.node [0, 1, 2, 3, 4, 5, 6, 7, 8, 9, 10, 11, 12] [])) (drR [5, 4] [] []) mixed (by kernel_rfl) (by kernel_rfl) (fun _ _ h => h) ?_)
    | (refine aw_draw (id := 5) (t := (.node [0, 1, 2, 3, 4, 5, 6, 7, 8, 9, 10, 11, 12, 13, 14] [])) (drR [4] [] []) mixed (by kernel_rfl) (by kernel_rfl) (fun _ _ h => h) ?_)
    | (refine aw_draw (id := 7) (t := (.node [0, 1, 3, 2, 4, 5, 6] [])) (drR [4] [] []) mixed (by kernel_rfl) (by kernel_rfl) (fun _ _ h => h) ?_)
    | (refine at_done (by simp only [List.filterMap_cons, List.filterMap_nil, List.getElem?_toArray, List.getElem?_cons_zero, List.getElem?_cons_succ]; exact rfl) ?_) | (refine at_alt (by simp only [List.filterMap_cons, List.filterMap_nil, List.getElem?_toArray, List.getElem?_cons_zero, List.getElem?_cons_succ]; exact rfl) ?_) | refine qalt_normal ?_ | refine ats_cons ?_ ?_ | exact ats_nil
    | ((with_reducible first | refine awN (tyOf_ok _) [] ?_ | refine awO (tyOf_ok _) [] ?_ | refine awP (tyOf_ok _) [] ?_ | refine awQ ?_ | refine awR ?_ | refine awS ?_ | refine awT ?_ | refine awU ?_); intro r hr; simp only [go_sem, Nat.reduceBEq, Nat.reduceBneDiff, Nat.reduceLT, Nat.reduceLeDiff, Nat.reduceAdd, Nat.reduceMul, Nat.reduceSub, Nat.reduceEqDiff, reduceCtorEq, wob, tupR, encPs_len, k1, k2, k3, k4, k5, k6, e1] at hr; subst hr; (first | refine caB 92 (vB true) ?_ ?_ ?_ | refine awV ?_ ?_ | refine awW ?_ ?_ | refine endK ?_ ?_ | refine endGK ?_ ?_ ?_ | (refine condK (fun h => ?_) (fun h => ?_) <;> (try simp only [go_sem, reduceCtorEq] at h) <;> (try (exfalso; omega))))) | fail)) <;> (try omega)
    all_goals (first | exact AV.up_rfl _ | exact obUp_cons rfl (obUp_cons rfl obUp_nil))
  have e1 : (v.kids < 0) = False := eq_false h1
  by_cases h2 : 1 < v.kids
  · have e2 : (1 < v.kids) = True := eq_true h2
    rw [if_neg (by omega)]
    (repeat' (first
    | exact trivial
    | (with_reducible first | refine awA ?_ | refine awB ?_ | refine awC ?_ | refine awD ?_ | refine awE ?_ | refine awF ?_ | refine awG ?_ | refine awH ?_ | refine awI ?_ | refine awJ ?_ | refine awK ?_ | refine awL ?_ | refine awM (by decide) ?_)
    | (refine aw_draw (id := 3) (t := (.node [0, 1, 2, 3, 4, 5, 6, 7, 8, 9, 10, 11, 12] [])) (drR [5, 4] [] []) mixed (by kernel_rfl) (by kernel_rfl) (fun _ _ h => h) ?_)
    | (refine aw_draw (id := 5) (t := (.node [0, 1, 2, 3, 4, 5, 6, 7, 8, 9, 10, 11, 12, 13, 14] [])) (drR [4] [] []) mixed (by kernel_rfl) (by kernel_rfl) (fun _ _ h => h) ?_)
    | (refine aw_draw (id := 7) (t := (.node [0, 1, 3, 2, 4, 5, 6] [])) (drR [4] [] []) mixed (by kernel_rfl) (by kernel_rfl) (fun _ _ h => h) ?_)
    | (refine at_done (by simp only [List.filterMap_cons, List.filterMap_nil, List.getElem?_toArray, List.getElem?_cons_zero, List.getElem?_cons_succ]; exact rfl) ?_) | (refine at_alt (by simp only [List.filterMap_cons, List.filterMap_nil, List.getElem?_toArray, List.getElem?_cons_zero, List.getElem?_cons_succ]; exact rfl) ?_) | refine qalt_normal ?_ | refine ats_cons ?_ ?_ | exact ats_nil
    | ((with_reducible first | refine awN (tyOf_ok _) [] ?_ | refine awO (tyOf_ok _) [] ?_ | refine awP (tyOf_ok _) [] ?_ | refine awQ ?_ | refine awR ?_ | refine awS ?_ | refine awT ?_ | refine awU ?_); intro r hr; simp only [go_sem, Nat.reduceBEq, Nat.reduceBneDiff, Nat.reduceLT, Nat.reduceLeDiff, Nat.reduceAdd, Nat.reduceMul, Nat.reduceSub, Nat.reduceEqDiff, reduceCtorEq, wob, tupR, encPs_len, k1, k2, k3, k4, k5, k6, e1, e2] at hr; subst hr; (first | refine caB 92 (vB true) ?_ ?_ ?_ | refine awV ?_ ?_ | refine awW ?_ ?_ | refine endK ?_ ?_ | refine endGK ?_ ?_ ?_ | (refine condK (fun h => ?_) (fun h => ?_) <;> (try simp only [go_sem, reduceCtorEq] at h) <;> (try (exfalso; omega))))) | fail)) <;> (try omega)
    all_goals (first | exact AV.up_rfl _ | exact obUp_cons rfl (obUp_cons rfl obUp_nil))
  have e2 : (1 < v.kids) = False := eq_false h2
  by_cases hi : isN v 5 v.kids = true
  · rw [if_pos ⟨by omega, by omega, hi⟩]
    by_cases h0 : v.kids = 0
    · have e3 : (v.kids = 0) = True := eq_true h0
      rw [if_pos h0]
      (repeat' (first
    | exact trivial
    | (with_reducible first | refine awA ?_ | refine awB ?_ | refine awC ?_ | refine awD ?_ | refine awE ?_ | refine awF ?_ | refine awG ?_ | refine awH ?_ | refine awI ?_ | refine awJ ?_ | refine awK ?_ | refine awL ?_ | refine awM (by decide) ?_)
    | (refine aw_draw (id := 3) (t := (.node [0, 1, 2, 3, 4, 5, 6, 7, 8, 9, 10, 11, 12] [])) (drR [5, 4] [] []) mixed (by kernel_rfl) (by kernel_rfl) (fun _ _ h => h) ?_)
    | (refine aw_draw (id := 5) (t := (.node [0, 1, 2, 3, 4, 5, 6, 7, 8, 9, 10, 11, 12, 13, 14] [])) (drR [4] [] []) mixed (by kernel_rfl) (by kernel_rfl) (fun _ _ h => h) ?_)
    | (refine aw_draw (id := 7) (t := (.node [0, 1, 3, 2, 4, 5, 6] [])) (drR [4] [] []) mixed (by kernel_rfl) (by kernel_rfl) (fun _ _ h => h) ?_)
    | (refine at_done (by simp only [List.filterMap_cons, List.filterMap_nil, List.getElem?_toArray, List.getElem?_cons_zero, List.getElem?_cons_succ]; exact rfl) ?_) | (refine at_alt (by simp only [List.filterMap_cons, List.filterMap_nil, List.getElem?_toArray, List.getElem?_cons_zero, List.getElem?_cons_succ]; exact rfl) ?_) | refine qalt_normal ?_ | refine ats_cons ?_ ?_ | exact ats_nil
    | ((with_reducible first | refine awN (tyOf_ok _) [] ?_ | refine awO (tyOf_ok _) [] ?_ | refine awP (tyOf_ok _) [] ?_ | refine awQ ?_ | refine awR ?_ | refine awS ?_ | refine awT ?_ | refine awU ?_); intro r hr; simp only [go_sem, Nat.reduceBEq, Nat.reduceBneDiff, Nat.reduceLT, Nat.reduceLeDiff, Nat.reduceAdd, Nat.reduceMul, Nat.reduceSub, Nat.reduceEqDiff, reduceCtorEq, wob, tupR, encPs_len, k1, k2, k3, k4, k5, k6, e1, e2, e3, hi] at hr; subst hr; (first | refine caA (fun _ => is_any v 5 v.kids) rfl ?_ ?_ ?_ | refine awV ?_ ?_ | refine awW ?_ ?_ | refine endK ?_ ?_ | refine endGK ?_ ?_ ?_ | (refine condK (fun h => ?_) (fun h => ?_) <;> (try simp only [go_sem, reduceCtorEq] at h) <;> (try (exfalso; omega))))) | fail)) <;> (try omega)
      all_goals (first | exact AV.up_rfl _ | exact obUp_cons rfl (obUp_cons rfl obUp_nil))
    · have e3 : (v.kids = 0) = False := eq_false h0
      rw [if_neg h0]
      obtain ⟨hc, hb⟩ := H ls hl
      rw [Int.toNat_of_nonneg he] at hc
      generalize rec x.elem.toNat ls = r at *
      obtain ⟨n, ok, ls'⟩ := r
      have hpl := plus_p (zs := [1, n]) (by intro z hz; simp at hz; have := hb.1; simp only at this; rcases hz with rfl | rfl <;> (unfold I64; omega))
      (repeat' (first
    | exact trivial
    | (with_reducible first | refine awA ?_ | refine awB ?_ | refine awC ?_ | refine awD ?_ | refine awE ?_ | refine awF ?_ | refine awG ?_ | refine awH ?_ | refine awI ?_ | refine awJ ?_ | refine awK ?_ | refine awL ?_ | refine awM (by decide) ?_)
    | (refine aw_draw (id := 3) (t := (.node [0, 1, 2, 3, 4, 5, 6, 7, 8, 9, 10, 11, 12] [])) (drR [5, 4] [] []) mixed (by kernel_rfl) (by kernel_rfl) (fun _ _ h => h) ?_)
    | (refine aw_draw (id := 5) (t := (.node [0, 1, 2, 3, 4, 5, 6, 7, 8, 9, 10, 11, 12, 13, 14] [])) (drR [4] [] []) mixed (by kernel_rfl) (by kernel_rfl) (fun _ _ h => h) ?_)
    | (refine aw_draw (id := 7) (t := (.node [0, 1, 3, 2, 4, 5, 6] [])) (drR [4] [] []) mixed (by kernel_rfl) (by kernel_rfl) (fun _ _ h => h) ?_)
    | (refine at_done (by simp only [List.filterMap_cons, List.filterMap_nil, List.getElem?_toArray, List.getElem?_cons_zero, List.getElem?_cons_succ]; exact rfl) ?_) | (refine at_alt (by simp only [List.filterMap_cons, List.filterMap_nil, List.getElem?_toArray, List.getElem?_cons_zero, List.getElem?_cons_succ]; exact rfl) ?_) | refine qalt_normal ?_ | refine ats_cons ?_ ?_ | exact ats_nil
    | ((with_reducible first | refine awN (tyOf_ok _) [] ?_ | refine awO (tyOf_ok _) [] ?_ | refine awP (tyOf_ok _) [] ?_ | refine awQ ?_ | refine awR ?_ | refine awS ?_ | refine awT ?_ | refine awU ?_); intro r hr; simp only [go_sem, Nat.reduceBEq, Nat.reduceBneDiff, Nat.reduceLT, Nat.reduceLeDiff, Nat.reduceAdd, Nat.reduceMul, Nat.reduceSub, Nat.reduceEqDiff, reduceCtorEq, wob, tupR, encPs_len, k1, k2, k3, k4, k5, k6, e1, e2, e3, hi] at hr; subst hr; (first | refine caA (fun _ => is_any v 5 v.kids) rfl ?_ ?_ ?_ | refine caA (fun _ => hpl) rfl ?_ ?_ ?_ | refine awV ?_ ?_ | refine awW ?_ ?_ | refine endK ?_ ?_ | refine endGK ?_ ?_ ?_ | (refine condK (fun h => ?_) (fun h => ?_) <;> (try simp only [go_sem, reduceCtorEq] at h) <;> (try (exfalso; omega)))))
    | (refine go_callGE [(10000, 10000), (15000, 15000)] [(10000, 10000), (15000, 15000)] [15000] [10000] ?_; intro r hr; simp only [go_sem, Nat.reduceBEq, Nat.reduceBneDiff, Nat.reduceLT, Nat.reduceLeDiff, Nat.reduceAdd, Nat.reduceMul, Nat.reduceSub, Nat.reduceEqDiff, reduceCtorEq, wob, tupR, encPs_len, k1, k2, k3, k4, k5, k6, e1, e2, e3, hi] at hr; subst hr; refine callGK (hc) rfl rfl (by first | exact .inl rfl | exact .inr rfl) ?_ (.inl rfl) ?_) | fail)) <;> (try omega)
      all_goals (first | exact AV.up_rfl _ | exact obUp_cons rfl (obUp_cons rfl obUp_nil))
  · have e0 : isN v 5 v.kids = false := by simpa using hi
    rw [if_neg (by rintro ⟨_, _, h⟩; exact hi h)]
    (repeat' (first
    | exact trivial
    | (with_reducible first | refine awA ?_ | refine awB ?_ | refine awC ?_ | refine awD ?_ | refine awE ?_ | refine awF ?_ | refine awG ?_ | refine awH ?_ | refine awI ?_ | refine awJ ?_ | refine awK ?_ | refine awL ?_ | refine awM (by decide) ?_)
    | (refine aw_draw (id := 3) (t := (.node [0, 1, 2, 3, 4, 5, 6, 7, 8, 9, 10, 11, 12] [])) (drR [5, 4] [] []) mixed (by kernel_rfl) (by kernel_rfl) (fun _ _ h => h) ?_)
    | (refine aw_draw (id := 5) (t := (.node [0, 1, 2, 3, 4, 5, 6, 7, 8, 9, 10, 11, 12, 13, 14] [])) (drR [4] [] []) mixed (by kernel_rfl) (by kernel_rfl) (fun _ _ h => h) ?_)
    | (refine aw_draw (id := 7) (t := (.node [0, 1, 3, 2, 4, 5, 6] [])) (drR [4] [] []) mixed (by kernel_rfl) (by kernel_rfl) (fun _ _ h => h) ?_)
    | (refine at_done (by simp only [List.filterMap_cons, List.filterMap_nil, List.getElem?_toArray, List.getElem?_cons_zero, List.getElem?_cons_succ]; exact rfl) ?_) | (refine at_alt (by simp only [List.filterMap_cons, List.filterMap_nil, List.getElem?_toArray, List.getElem?_cons_zero, List.getElem?_cons_succ]; exact rfl) ?_) | refine qalt_normal ?_ | refine ats_cons ?_ ?_ | exact ats_nil
    | ((with_reducible first | refine awN (tyOf_ok _) [] ?_ | refine awO (tyOf_ok _) [] ?_ | refine awP (tyOf_ok _) [] ?_ | refine awQ ?_ | refine awR ?_ | refine awS ?_ | refine awT ?_ | refine awU ?_); intro r hr; simp only [go_sem, Nat.reduceBEq, Nat.reduceBneDiff, Nat.reduceLT, Nat.reduceLeDiff, Nat.reduceAdd, Nat.reduceMul, Nat.reduceSub, Nat.reduceEqDiff, reduceCtorEq, wob, tupR, encPs_len, k1, k2, k3, k4, k5, k6, e1, e2, e0] at hr; subst hr; (first | refine caA (fun _ => is_any v 5 v.kids) rfl ?_ ?_ ?_ | refine awV ?_ ?_ | refine awW ?_ ?_ | refine endK ?_ ?_ | refine endGK ?_ ?_ ?_ | (refine condK (fun h => ?_) (fun h => ?_) <;> (try simp only [go_sem, reduceCtorEq] at h) <;> (try (exfalso; omega))))) | fail)) <;> (try omega)
    all_goals (first | exact AV.up_rfl _ | exact obUp_cons rfl (obUp_cons rfl obUp_nil))
theorem node_8 (W : WOK ts rs X V) (x : TypeM) (hk : x.kind = 8) (hp : x.parts.length ≤ 1000000000) (H : ∀ p ∈ x.parts, 0 ≤ p.ty ∧ p.ty < ts.length ∧ RecAt ts rs X V rec p.ty.toNat) (v : NodeM) (hv : nodeOK v) (ls : List Int) (hl : ls.length ≤ V.length) :
    NodeAt ts rs X V v x ls (nodeW X rec v x ls) := by
  unfold NodeAt
  rw [nodeW, if_neg (by omega), if_neg (by omega), if_neg (by omega), if_neg (by omega), if_neg (by omega), if_neg (by omega), if_neg (by omega)]
  have hc := fields_any (rec := rec) W x hp H v hv ls hl
  generalize (if isN v 4 x.parts.length = true then fieldsW X rec x.parts 0 ls else (0, false, ls)) = r at *
  obtain ⟨n, ok, ls'⟩ := r
  refine go_fnG (tyOf_ok _) Try.func75 rfl rfl (by rw [Try.results75]) Try.ntmps75 rfl fun E => ?_
  have k1 : (x.kind = 1) = False := eq_false (by omega)
  have k2 : (x.kind = 2) = False := eq_false (by omega)
  have k3 : (x.kind = 3) = False := eq_false (by omega)
  have k4 : (x.kind = 4) = False := eq_false (by omega)
  have k5 : (x.kind = 5) = False := eq_false (by omega)
  have k6 : (x.kind = 6) = False := eq_false (by omega)
  have k7 : (x.kind = 7) = False := eq_false (by omega)
  (repeat' (first
    | exact trivial
    | (with_reducible first | refine awA ?_ | refine awB ?_ | refine awC ?_ | refine awD ?_ | refine awE ?_ | refine awF ?_ | refine awG ?_ | refine awH ?_ | refine awI ?_ | refine awJ ?_ | refine awK ?_ | refine awL ?_ | refine awM (by decide) ?_)
    | (refine aw_draw (id := 3) (t := (.node [0, 1, 2, 3, 4, 5, 6, 7, 8, 9, 10, 11, 12] [])) (drR [5, 4] [] []) mixed (by kernel_rfl) (by kernel_rfl) (fun _ _ h => h) ?_)
    | (refine aw_draw (id := 5) (t := (.node [0, 1, 2, 3, 4, 5, 6, 7, 8, 9, 10, 11, 12, 13, 14] [])) (drR [4] [] []) mixed (by kernel_rfl) (by kernel_rfl) (fun _ _ h => h) ?_)
    | (refine aw_draw (id := 7) (t := (.node [0, 1, 3, 2, 4, 5, 6] [])) (drR [4] [] []) mixed (by kernel_rfl) (by kernel_rfl) (fun _ _ h => h) ?_)
    | (refine at_done (by simp only [List.filterMap_cons, List.filterMap_nil, List.getElem?_toArray, List.getElem?_cons_zero, List.getElem?_cons_succ]; exact rfl) ?_) | (refine at_alt (by simp only [List.filterMap_cons, List.filterMap_nil, List.getElem?_toArray, List.getElem?_cons_zero, List.getElem?_cons_succ]; exact rfl) ?_) | refine qalt_normal ?_ | refine ats_cons ?_ ?_ | exact ats_nil
    | ((with_reducible first | refine awN (tyOf_ok _) [] ?_ | refine awO (tyOf_ok _) [] ?_ | refine awP (tyOf_ok _) [] ?_ | refine awQ ?_ | refine awR ?_ | refine awS ?_ | refine awT ?_ | refine awU ?_); intro r hr; simp only [go_sem, Nat.reduceBEq, Nat.reduceBneDiff, Nat.reduceLT, Nat.reduceLeDiff, Nat.reduceAdd, Nat.reduceMul, Nat.reduceSub, Nat.reduceEqDiff, reduceCtorEq, wob, tupR, encPs_len, k1, k2, k3, k4, k5, k6, k7] at hr; subst hr; (first | refine awV ?_ ?_ | refine awW ?_ ?_ | refine endK ?_ ?_ | refine endGK ?_ ?_ ?_ | (refine condK (fun h => ?_) (fun h => ?_) <;> (try simp only [go_sem, reduceCtorEq] at h) <;> (try (exfalso; omega)))))
    | (refine go_callGE [(10000, 10000), (15000, 15000)] [(10000, 10000), (15000, 15000)] [15000] [10000] ?_; intro r hr; simp only [go_sem, Nat.reduceBEq, Nat.reduceBneDiff, Nat.reduceLT, Nat.reduceLeDiff, Nat.reduceAdd, Nat.reduceMul, Nat.reduceSub, Nat.reduceEqDiff, reduceCtorEq, wob, tupR, encPs_len, k1, k2, k3, k4, k5, k6, k7] at hr; subst hr; refine callGK (hc) rfl rfl (by first | exact .inl rfl | exact .inr rfl) ?_ (.inl rfl) ?_) | fail)) <;> (try omega)
  all_goals (first | exact AV.up_rfl _ | exact obUp_cons rfl (obUp_cons rfl obUp_nil))
theorem node_7 (W : WOK ts rs X V) (x : TypeM) (hk : x.kind = 7) (hp : x.parts.length ≤ 1000000000) (hI : ∀ p ∈ x.parts, 0 ≤ p.tag ∧ p.tag ≤ 255) (H : ∀ p ∈ x.parts, 0 ≤ p.ty ∧ p.ty < ts.length ∧ RecAt ts rs X V rec p.ty.toNat) (v : NodeM) (hv : nodeOK v) (ls : List Int) (hl : ls.length ≤ V.length) :
    NodeAt ts rs X V v x ls (nodeW X rec v x ls) := by
  unfold NodeAt
  rw [nodeW, if_neg (by omega), if_neg (by omega), if_neg (by omega), if_neg (by omega), if_neg (by omega), if_neg (by omega), if_pos hk]
  generalize hR : (if isN v 6 1 = true then armW rec x.parts v.n ls else (0, false, ls)) = R
  refine go_fnG (tyOf_ok _) Try.func75 rfl rfl (by rw [Try.results75]) Try.ntmps75 rfl fun E => ?_
  have k1 : (x.kind = 1) = False := eq_false (by omega)
  have k2 : (x.kind = 2) = False := eq_false (by omega)
  have k3 : (x.kind = 3) = False := eq_false (by omega)
  have k4 : (x.kind = 4) = False := eq_false (by omega)
  have k5 : (x.kind = 5) = False := eq_false (by omega)
  have k6 : (x.kind = 6) = False := eq_false (by omega)
  have k7 : (x.kind = 7) = True := eq_true hk
  (repeat' (first
    | exact trivial
    | (with_reducible first | refine awA ?_ | refine awB ?_ | refine awC ?_ | refine awD ?_ | refine awE ?_ | refine awF ?_ | refine awG ?_ | refine awH ?_ | refine awI ?_ | refine awJ ?_ | refine awK ?_ | refine awL ?_ | refine awM (by decide) ?_)
    | (refine aw_draw (id := 3) (t := (.node [0, 1, 2, 3, 4, 5, 6, 7, 8, 9, 10, 11, 12] [])) (drR [5, 4] [] []) mixed (by kernel_rfl) (by kernel_rfl) (fun _ _ h => h) ?_)
    | (refine aw_draw (id := 5) (t := (.node [0, 1, 2, 3, 4, 5, 6, 7, 8, 9, 10, 11, 12, 13, 14] [])) (drR [4] [] []) mixed (by kernel_rfl) (by kernel_rfl) (fun _ _ h => h) ?_)
    | (refine aw_draw (id := 7) (t := (.node [0, 1, 3, 2, 4, 5, 6] [])) (drR [4] [] []) mixed (by kernel_rfl) (by kernel_rfl) (fun _ _ h => h) ?_)
    | (refine at_done (by simp only [List.filterMap_cons, List.filterMap_nil, List.getElem?_toArray, List.getElem?_cons_zero, List.getElem?_cons_succ]; exact rfl) ?_) | (refine at_alt (by simp only [List.filterMap_cons, List.filterMap_nil, List.getElem?_toArray, List.getElem?_cons_zero, List.getElem?_cons_succ]; exact rfl) ?_) | refine qalt_normal ?_ | refine ats_cons ?_ ?_ | exact ats_nil
    | ((with_reducible first | refine awN (tyOf_ok _) [] ?_ | refine awO (tyOf_ok _) [] ?_ | refine awP (tyOf_ok _) [] ?_ | refine awQ ?_ | refine awR ?_ | refine awS ?_ | refine awT ?_ | refine awU ?_); intro r hr; simp only [go_sem, Nat.reduceBEq, Nat.reduceBneDiff, Nat.reduceLT, Nat.reduceLeDiff, Nat.reduceAdd, Nat.reduceMul, Nat.reduceSub, Nat.reduceEqDiff, reduceCtorEq, wob, tupR, encPs_len, k1, k2, k3, k4, k5, k6, k7] at hr; subst hr; (first | refine awV ?_ ?_ | refine awW ?_ ?_ | refine endK ?_ ?_ | refine endGK ?_ ?_ ?_ | (refine condK (fun h => ?_) (fun h => ?_) <;> (try simp only [go_sem, reduceCtorEq] at h) <;> (try (exfalso; omega))))) | fail)) <;> (try omega)
  have hn := hv.2.2
  have hvk : vI v.kind = vI v.kind := rfl
  refine go_loop [0, 4, 5, 127, 128, 129] [4, 5, 10000, 15000] (fun k : Nat => ⟨[(0, true, .ptr 1 10000 0 0), (4, true, .ptr 1 4 0 0), (5, true, .ptr 1 5 0 0), (127, true, .lst 3 (encPs x.parts)), (128, true, vI x.parts.length), (129, true, vI k)],
    [(4, .var [vI v.kind, vU v.n, vI v.kids]), (5, .var [vI x.kind, vI x.n, vI x.elem, .lst 3 (encPs x.parts)])] ++ wob ts rs X V ls⟩)
    (fun k => k ≤ x.parts.length ∧ ((x.parts.take k).find? fun p => decide (p.tag % 18446744073709551616 = v.n)) = none ∨ k ≤ x.parts.length ∧ isN v 6 1 = false) (fun k => x.parts.length - k) 0 (by simp only [go_sem, Nat.reduceBEq, Nat.reduceBneDiff, Nat.reduceLT, Nat.reduceLeDiff, Nat.reduceAdd, Nat.reduceMul, Nat.reduceSub, Nat.reduceEqDiff, reduceCtorEq, wob, encPs_len, List.cons_append, List.nil_append]; exact rfl) (.inl ⟨Nat.zero_le _, rfl⟩) ?_
  intro k hk
  have hw1 := wrap_i64 (n := (k : Int) + 1) (by omega)
  by_cases hlt : k < x.parts.length
  · have e1 : ((k : Int) < x.parts.length) = True := eq_true (by omega)
    have g1 := encPs_get hlt
    have his := is_any v 6 1
    by_cases hi : isN v 6 1 = true
    · have htg := hI _ (List.getElem_mem hlt)
      have ht : IntKind.u64.wrap x.parts[k].tag = x.parts[k].tag := IntWalk.u64_in _ (by omega)
      have hmod : x.parts[k].tag % 18446744073709551616 = x.parts[k].tag := by omega
      obtain ⟨hk1, hk2⟩ := hk.resolve_right (fun h => by rw [hi] at h; cases h.2)
      obtain ⟨h0, h1, hr⟩ := H _ (List.getElem_mem hlt)
      by_cases heq : v.n = x.parts[k].tag
      · have e2 : (v.n = x.parts[k].tag) = True := eq_true heq
        have harm : armOf x.parts v.n = some x.parts[k] := by
          have hs : armOf (x.parts.take k ++ x.parts[k] :: x.parts.drop (k + 1)) v.n = some x.parts[k] := by
            unfold armOf
            rw [List.find?_append, hk2, Option.none_or, List.find?_cons_of_pos]
            simp only [decide_eq_true_eq]
            omega
          rw [← List.drop_eq_getElem_cons hlt, List.take_append_drop] at hs
          exact hs
        rw [if_pos hi, armW, harm] at hR
        obtain ⟨hc, hb⟩ := hr ls hl
        rw [Int.toNat_of_nonneg h0] at hc
        dsimp only at hR
        generalize rec x.parts[k].ty.toNat ls = r at *
        obtain ⟨n, ok, ls'⟩ := r
        subst hR
        have hpl := plus_p (zs := [1, n]) (by intro z hz; simp at hz; have := hb.1; simp only at this; rcases hz with rfl | rfl <;> (unfold I64; omega))
        (repeat' (first
    | exact trivial
    | (with_reducible first | refine awA ?_ | refine awB ?_ | refine awC ?_ | refine awD ?_ | refine awE ?_ | refine awF ?_ | refine awG ?_ | refine awH ?_ | refine awI ?_ | refine awJ ?_ | refine awK ?_ | refine awL ?_ | refine awM (by decide) ?_)
    | (refine aw_draw (id := 3) (t := (.node [0, 1, 2, 3, 4, 5, 6, 7, 8, 9, 10, 11, 12] [])) (drR [5, 4] [] []) mixed (by kernel_rfl) (by kernel_rfl) (fun _ _ h => h) ?_)
    | (refine aw_draw (id := 5) (t := (.node [0, 1, 2, 3, 4, 5, 6, 7, 8, 9, 10, 11, 12, 13, 14] [])) (drR [4] [] []) mixed (by kernel_rfl) (by kernel_rfl) (fun _ _ h => h) ?_)
    | (refine aw_draw (id := 7) (t := (.node [0, 1, 3, 2, 4, 5, 6] [])) (drR [4] [] []) mixed (by kernel_rfl) (by kernel_rfl) (fun _ _ h => h) ?_)
    | (refine at_done (by simp only [List.filterMap_cons, List.filterMap_nil, List.getElem?_toArray, List.getElem?_cons_zero, List.getElem?_cons_succ]; exact rfl) ?_) | (refine at_alt (by simp only [List.filterMap_cons, List.filterMap_nil, List.getElem?_toArray, List.getElem?_cons_zero, List.getElem?_cons_succ]; exact rfl) ?_) | refine qalt_normal ?_ | refine ats_cons ?_ ?_ | exact ats_nil
    | ((with_reducible first | refine awN (tyOf_ok _) [] ?_ | refine awO (tyOf_ok _) [] ?_ | refine awP (tyOf_ok _) [] ?_ | refine awQ ?_ | refine awR ?_ | refine awS ?_ | refine awT ?_ | refine awU ?_); intro r hr; simp only [go_sem, Nat.reduceBEq, Nat.reduceBneDiff, Nat.reduceLT, Nat.reduceLeDiff, Nat.reduceAdd, Nat.reduceMul, Nat.reduceSub, Nat.reduceEqDiff, reduceCtorEq, wob, tupR, hw1, e1, g1, encPs_len, hi, ht, e2, List.cons_append, List.nil_append] at hr; subst hr; (first | refine caA (fun _ => his) rfl ?_ ?_ ?_ | refine caA (fun _ => hpl) rfl ?_ ?_ ?_ | refine awV ?_ ?_ | refine awW ?_ ?_ | refine endK ?_ ?_ | refine endGK ?_ ?_ ?_ | (refine condK (fun h => ?_) (fun h => ?_) <;> (try simp only [go_sem, reduceCtorEq] at h) <;> (try (exfalso; omega)))))
    | (refine go_callGE [(10000, 10000), (15000, 15000)] [(10000, 10000), (15000, 15000)] [15000] [10000] ?_; intro r hr; simp only [go_sem, Nat.reduceBEq, Nat.reduceBneDiff, Nat.reduceLT, Nat.reduceLeDiff, Nat.reduceAdd, Nat.reduceMul, Nat.reduceSub, Nat.reduceEqDiff, reduceCtorEq, wob, tupR, hw1, e1, g1, encPs_len, hi, ht, e2, List.cons_append, List.nil_append] at hr; subst hr; refine callGK (hc) rfl rfl (by first | exact .inl rfl | exact .inr rfl) ?_ (.inl rfl) ?_) | fail)) <;> (try omega)
        all_goals (first | exact AV.up_rfl _ | exact obUp_cons rfl (obUp_cons rfl obUp_nil))
      · have e2 : (v.n = x.parts[k].tag) = False := eq_false heq
        (repeat' (first
    | exact trivial
    | (with_reducible first | refine awA ?_ | refine awB ?_ | refine awC ?_ | refine awD ?_ | refine awE ?_ | refine awF ?_ | refine awG ?_ | refine awH ?_ | refine awI ?_ | refine awJ ?_ | refine awK ?_ | refine awL ?_ | refine awM (by decide) ?_)
    | (refine aw_draw (id := 3) (t := (.node [0, 1, 2, 3, 4, 5, 6, 7, 8, 9, 10, 11, 12] [])) (drR [5, 4] [] []) mixed (by kernel_rfl) (by kernel_rfl) (fun _ _ h => h) ?_)
    | (refine aw_draw (id := 5) (t := (.node [0, 1, 2, 3, 4, 5, 6, 7, 8, 9, 10, 11, 12, 13, 14] [])) (drR [4] [] []) mixed (by kernel_rfl) (by kernel_rfl) (fun _ _ h => h) ?_)
    | (refine aw_draw (id := 7) (t := (.node [0, 1, 3, 2, 4, 5, 6] [])) (drR [4] [] []) mixed (by kernel_rfl) (by kernel_rfl) (fun _ _ h => h) ?_)
    | (refine at_done (by simp only [List.filterMap_cons, List.filterMap_nil, List.getElem?_toArray, List.getElem?_cons_zero, List.getElem?_cons_succ]; exact rfl) ?_) | (refine at_alt (by simp only [List.filterMap_cons, List.filterMap_nil, List.getElem?_toArray, List.getElem?_cons_zero, List.getElem?_cons_succ]; exact rfl) ?_) | refine qalt_normal ?_ | refine ats_cons ?_ ?_ | exact ats_nil
    | ((with_reducible first | refine awN (tyOf_ok _) [] ?_ | refine awO (tyOf_ok _) [] ?_ | refine awP (tyOf_ok _) [] ?_ | refine awQ ?_ | refine awR ?_ | refine awS ?_ | refine awT ?_ | refine awU ?_); intro r hr; simp only [go_sem, Nat.reduceBEq, Nat.reduceBneDiff, Nat.reduceLT, Nat.reduceLeDiff, Nat.reduceAdd, Nat.reduceMul, Nat.reduceSub, Nat.reduceEqDiff, reduceCtorEq, wob, hw1, e1, g1, encPs_len, hi, ht, e2, List.cons_append, List.nil_append] at hr; subst hr; (first | refine caA (fun _ => his) rfl ?_ ?_ ?_ | refine caB 51 (vB true) ?_ ?_ ?_ | refine awV ?_ ?_ | refine awW ?_ ?_ | refine endK ?_ ?_ | refine endGK ?_ ?_ ?_ | (refine condK (fun h => ?_) (fun h => ?_) <;> (try simp only [go_sem, reduceCtorEq] at h) <;> (try (exfalso; omega))))) | fail)) <;> (try omega)
        refine ⟨k + 1, by simp only [go_sem, Nat.reduceBEq, Nat.reduceBneDiff, Nat.reduceLT, Nat.reduceLeDiff, Nat.reduceAdd, Nat.reduceMul, Nat.reduceSub, Nat.reduceEqDiff, reduceCtorEq, wob, List.cons_append, List.nil_append]; exact rfl, .inl ⟨hlt, ?_⟩, by omega⟩
        rw [List.take_succ_eq_append_getElem hlt, List.find?_append, hk2, Option.none_or, List.find?_cons_of_neg]
        · rfl
        · simp only [decide_eq_true_eq]; omega
    · have e0 : isN v 6 1 = false := by simpa using hi
      (repeat' (first
    | exact trivial
    | (with_reducible first | refine awA ?_ | refine awB ?_ | refine awC ?_ | refine awD ?_ | refine awE ?_ | refine awF ?_ | refine awG ?_ | refine awH ?_ | refine awI ?_ | refine awJ ?_ | refine awK ?_ | refine awL ?_ | refine awM (by decide) ?_)
    | (refine aw_draw (id := 3) (t := (.node [0, 1, 2, 3, 4, 5, 6, 7, 8, 9, 10, 11, 12] [])) (drR [5, 4] [] []) mixed (by kernel_rfl) (by kernel_rfl) (fun _ _ h => h) ?_)
    | (refine aw_draw (id := 5) (t := (.node [0, 1, 2, 3, 4, 5, 6, 7, 8, 9, 10, 11, 12, 13, 14] [])) (drR [4] [] []) mixed (by kernel_rfl) (by kernel_rfl) (fun _ _ h => h) ?_)
    | (refine aw_draw (id := 7) (t := (.node [0, 1, 3, 2, 4, 5, 6] [])) (drR [4] [] []) mixed (by kernel_rfl) (by kernel_rfl) (fun _ _ h => h) ?_)
    | (refine at_done (by simp only [List.filterMap_cons, List.filterMap_nil, List.getElem?_toArray, List.getElem?_cons_zero, List.getElem?_cons_succ]; exact rfl) ?_) | (refine at_alt (by simp only [List.filterMap_cons, List.filterMap_nil, List.getElem?_toArray, List.getElem?_cons_zero, List.getElem?_cons_succ]; exact rfl) ?_) | refine qalt_normal ?_ | refine ats_cons ?_ ?_ | exact ats_nil
    | ((with_reducible first | refine awN (tyOf_ok _) [] ?_ | refine awO (tyOf_ok _) [] ?_ | refine awP (tyOf_ok _) [] ?_ | refine awQ ?_ | refine awR ?_ | refine awS ?_ | refine awT ?_ | refine awU ?_); intro r hr; simp only [go_sem, Nat.reduceBEq, Nat.reduceBneDiff, Nat.reduceLT, Nat.reduceLeDiff, Nat.reduceAdd, Nat.reduceMul, Nat.reduceSub, Nat.reduceEqDiff, reduceCtorEq, wob, hw1, e1, g1, encPs_len, e0, List.cons_append, List.nil_append] at hr; subst hr; (first | refine caA (fun _ => his) rfl ?_ ?_ ?_ | refine awV ?_ ?_ | refine awW ?_ ?_ | refine endK ?_ ?_ | refine endGK ?_ ?_ ?_ | (refine condK (fun h => ?_) (fun h => ?_) <;> (try simp only [go_sem, reduceCtorEq] at h) <;> (try (exfalso; omega))))) | fail)) <;> (try omega)
      exact ⟨k + 1, by simp only [go_sem, Nat.reduceBEq, Nat.reduceBneDiff, Nat.reduceLT, Nat.reduceLeDiff, Nat.reduceAdd, Nat.reduceMul, Nat.reduceSub, Nat.reduceEqDiff, reduceCtorEq, wob, List.cons_append, List.nil_append]; exact rfl, .inr ⟨hlt, e0⟩, by omega⟩
  · have e1 : ((k : Int) < x.parts.length) = False := eq_false (by omega)
    have hfin : R = (0, false, ls) := by
      rcases hk with ⟨h1, h2⟩ | ⟨_, h2⟩
      · rw [take_len (by omega)] at h2
        rw [← hR, armW, armOf, h2]; split <;> rfl
      · rw [← hR, if_neg (by rw [h2]; decide)]
    clear hR
    subst hfin
    (repeat' (first
    | exact trivial
    | (with_reducible first | refine awA ?_ | refine awB ?_ | refine awC ?_ | refine awD ?_ | refine awE ?_ | refine awF ?_ | refine awG ?_ | refine awH ?_ | refine awI ?_ | refine awJ ?_ | refine awK ?_ | refine awL ?_ | refine awM (by decide) ?_)
    | (refine aw_draw (id := 3) (t := (.node [0, 1, 2, 3, 4, 5, 6, 7, 8, 9, 10, 11, 12] [])) (drR [5, 4] [] []) mixed (by kernel_rfl) (by kernel_rfl) (fun _ _ h => h) ?_)
    | (refine aw_draw (id := 5) (t := (.node [0, 1, 2, 3, 4, 5, 6, 7, 8, 9, 10, 11, 12, 13, 14] [])) (drR [4] [] []) mixed (by kernel_rfl) (by kernel_rfl) (fun _ _ h => h) ?_)
    | (refine aw_draw (id := 7) (t := (.node [0, 1, 3, 2, 4, 5, 6] [])) (drR [4] [] []) mixed (by kernel_rfl) (by kernel_rfl) (fun _ _ h => h) ?_)
    | (refine at_done (by simp only [List.filterMap_cons, List.filterMap_nil, List.getElem?_toArray, List.getElem?_cons_zero, List.getElem?_cons_succ]; exact rfl) ?_) | (refine at_alt (by simp only [List.filterMap_cons, List.filterMap_nil, List.getElem?_toArray, List.getElem?_cons_zero, List.getElem?_cons_succ]; exact rfl) ?_) | refine qalt_normal ?_ | refine ats_cons ?_ ?_ | exact ats_nil
    | ((with_reducible first | refine awN (tyOf_ok _) [] ?_ | refine awO (tyOf_ok _) [] ?_ | refine awP (tyOf_ok _) [] ?_ | refine awQ ?_ | refine awR ?_ | refine awS ?_ | refine awT ?_ | refine awU ?_); intro r hr; simp only [go_sem, Nat.reduceBEq, Nat.reduceBneDiff, Nat.reduceLT, Nat.reduceLeDiff, Nat.reduceAdd, Nat.reduceMul, Nat.reduceSub, Nat.reduceEqDiff, reduceCtorEq, wob, hw1, e1, encPs_len, List.cons_append, List.nil_append] at hr; subst hr; (first | refine awV ?_ ?_ | refine awW ?_ ?_ | refine endK ?_ ?_ | refine endGK ?_ ?_ ?_ | (refine condK (fun h => ?_) (fun h => ?_) <;> (try simp only [go_sem, reduceCtorEq] at h) <;> (try (exfalso; omega))))) | fail)) <;> (try omega)
    all_goals (first | exact AV.up_rfl _ | exact obUp_cons rfl (obUp_cons rfl obUp_nil))
end
end Go.Proofs.Ytfgacgpicfknpaa
end
section
namespace Go.Proofs.Ytfgacgpicfknpaa
open Go.RowKit
set_option maxRecDepth 100000
set_option maxHeartbeats 8000000
section
variable {ts : List TypeM} {rs : List RootM} {X : List ExtM} {V : List NodeM} {rec : Rec}
theorem kidsW_bd (H : ∀ t ls, ls.length ≤ V.length → bdR V ls (rec t ls)) (t : Int) : ∀ (m : Nat) (sum : Int) (ls : List Int), 0 ≤ sum ∧ sum ≤ 4611686018427387904 → ls.length ≤ V.length → bdR V ls (kidsW X rec t m sum ls)
  | 0, _, _, hs, hl => ⟨hs, Nat.le_refl _, hl⟩
  | m + 1, sum, ls, hs, hl => by
    obtain ⟨h1, h2, h3⟩ := H t.toNat ls hl
    rw [kidsW]
    split
    · obtain ⟨g1, g2, g3⟩ := kidsW_bd H t m (plusL [sum, withinM (atE X t).fixed (rec t.toNat ls).1]) (rec t.toNat ls).2.2 (plusL_bd _) h3
      exact ⟨g1, Nat.le_trans h2 g2, g3⟩
    · exact ⟨by simp, h2, h3⟩
theorem fieldsW_bd (H : ∀ t ls, ls.length ≤ V.length → bdR V ls (rec t ls)) : ∀ (l : List PartM) (sum : Int) (ls : List Int), 0 ≤ sum ∧ sum ≤ 4611686018427387904 → ls.length ≤ V.length → bdR V ls (fieldsW X rec l sum ls)
  | [], _, _, hs, hl => ⟨hs, Nat.le_refl _, hl⟩
  | p :: l, sum, ls, hs, hl => by
    obtain ⟨h1, h2, h3⟩ := H p.ty.toNat ls hl
    rw [fieldsW]
    split
    · obtain ⟨g1, g2, g3⟩ := fieldsW_bd H l (plusL [sum, withinM (atE X p.ty).fixed (rec p.ty.toNat ls).1]) (rec p.ty.toNat ls).2.2 (plusL_bd _) h3
      exact ⟨g1, Nat.le_trans h2 g2, g3⟩
    · exact ⟨by simp, h2, h3⟩
theorem leb_bd (n : Int) : 0 ≤ leb 10 n ∧ leb 10 n ≤ 4611686018427387904 := by
  have : ∀ f : Nat, ∀ n, 1 ≤ leb f n ∧ leb f n ≤ f + 1 := by
    intro f
    induction f with
    | zero => intro n; simp [leb]
    | succ f ih => intro n; unfold leb; split; (· omega); have := ih (n / 128); omega
  have := this 10 n
  omega
theorem nodeW_bd (H : ∀ t ls, ls.length ≤ V.length → bdR V ls (rec t ls)) (v : NodeM) (x : TypeM) (hx : x.kind = 1 → 0 ≤ x.n ∧ x.n ≤ 4611686018427387904) (ls : List Int) (hl : ls.length ≤ V.length) : bdR V ls (nodeW X rec v x ls) := by
  have z : ∀ b, bdR V ls (0, b, ls) := fun b => ⟨by simp, Nat.le_refl _, hl⟩
  have o : ∀ b, bdR V ls (1, b, ls) := fun b => ⟨by simp, Nat.le_refl _, hl⟩
  have o1 : ∀ t, bdR V ls (one1 (rec t ls)) := fun t => by
    obtain ⟨_, h2, h3⟩ := H t ls hl
    exact ⟨plusL_bd _, h2, h3⟩
  unfold nodeW
  split
  · exact ⟨hx (by assumption), Nat.le_refl _, hl⟩
  split
  · exact o _
  split
  · exact ⟨leb_bd _, Nat.le_refl _, hl⟩
  split
  · split
    · exact kidsW_bd H _ _ _ _ (by simp) hl
    · exact z _
  split
  · split
    · exact kidsW_bd H _ _ _ _ (by simp) hl
    · exact z _
  split
  · split
    · split
      · exact o _
      · exact o1 _
    · exact z _
  split
  · split
    · unfold armW
      split
      · exact o1 _
      · exact z _
    · exact z _
  · split
    · exact fieldsW_bd H _ _ _ (by simp) hl
    · exact z _
theorem valW_bd (hts : ∀ x ∈ ts, x.kind = 1 → 0 ≤ x.n ∧ x.n ≤ 4611686018427387904) : ∀ (f t : Nat) (ls : List Int), ls.length ≤ V.length → bdR V ls (valW ts X V f t ls)
  | 0, _, _, hl => ⟨by simp [valW], Nat.le_refl _, hl⟩
  | f + 1, t, ls, hl => by
    rw [valW]
    cases hv : V[ls.length]? with
    | none => exact ⟨by simp, Nat.le_refl _, hl⟩
    | some v =>
      have hlt : ls.length < V.length := by
        rcases Nat.lt_or_ge ls.length V.length with h | h
        · exact h
        · rw [List.getElem?_eq_none h] at hv; cases hv
      obtain ⟨h1, h2, h3⟩ := nodeW_bd (X := X) (rec := valW ts X V f) (valW_bd hts f) v ((ts[t]?).getD ⟨0, 0, 0, []⟩) (fun hk => by
        cases ht : ts[t]? with
        | none => rw [ht] at hk; cases hk
        | some x => rw [ht] at hk; exact hts x (List.mem_of_getElem? ht) hk) (ls ++ [0]) (by simp; omega)
      simp only [List.length_append, List.length_singleton] at h2
      exact ⟨h1, by simp only [setL, List.length_set]; omega, by simp only [setL, List.length_set]; exact h3⟩
/-- what the walk needs of a type that is right -/
theorem right_1 {x : TypeM} {k : Int} (h : rightOK x k = true) (hk : x.kind = 1) : 1 ≤ x.n ∧ x.n ≤ 8 := by
  rw [rightOK, Bool.and_eq_true] at h
  have := h.1
  rw [numberOK, if_pos hk] at this
  simp only [Bool.or_eq_true, decide_eq_true_eq] at this
  omega
theorem goodFrom_tag {at_ : Int} : ∀ (l pre : List PartM), goodFrom 7 at_ pre l = true → ∀ p ∈ l, 0 ≤ p.tag ∧ p.tag ≤ 255
  | [], _, _ => fun p hp => by cases hp
  | q :: l, pre, h => fun p hp => by
    simp only [goodFrom, Bool.and_eq_true] at h
    rcases List.mem_cons.1 hp with rfl | hp
    · have := h.1
      rw [good, if_neg (by decide)] at this
      simp only [Bool.and_eq_true, decide_eq_true_eq] at this
      omega
    · exact goodFrom_tag l _ h.2 p hp
theorem right_parts {x : TypeM} {k : Int} (h : rightOK x k = true) (hk : x.kind = 7 ∨ x.kind = 8) : x.parts.length ≤ 64 ∧ 1 ≤ x.parts.length := by
  rw [rightOK, Bool.and_eq_true, if_neg (by omega), if_neg (by omega), if_pos (by omega), partsOK] at h
  simp only [Bool.and_eq_true, decide_eq_true_eq] at h
  omega
theorem right_tag {x : TypeM} {k : Int} (h : rightOK x k = true) (hk : x.kind = 7) : ∀ p ∈ x.parts, 0 ≤ p.tag ∧ p.tag ≤ 255 := by
  rw [rightOK, Bool.and_eq_true, if_neg (by omega), if_neg (by omega), if_pos (by omega), Bool.and_eq_true, partsOK, Bool.and_eq_true, hk] at h
  exact goodFrom_tag _ _ h.2.2.2
theorem node_any (W : WOK ts rs X V) (x : TypeM) (t : Nat) (hr : rightOK x t = true) (ht : t ≤ ts.length) (H : ∀ t', t' < t → RecAt ts rs X V rec t') (v : NodeM) (hv : nodeOK v) (ls : List Int) (hl : ls.length ≤ V.length) :
    NodeAt ts rs X V v x ls (nodeW X rec v x ls) := by
  have hty := rightOK_ty hr
  have hrec : ∀ p ∈ x.parts, 0 ≤ p.ty ∧ p.ty < ts.length ∧ RecAt ts rs X V rec p.ty.toNat := fun p hp => by
    have := hty.2 p hp
    exact ⟨this.1, by omega, H _ (by omega)⟩
  rcases rightOK_kind hr with hk | hk | hk
  · rcases hk with hk | hk | hk
    · have := right_1 hr hk
      exact node_1 x (by unfold I64; omega) hk v hv ls
    · exact node_2 x hk v ls
    · exact node_3 x hk v hv ls
  · have hn := rightOK_n hr hk
    have he := hty.1 hk
    rcases hk with hk | hk | hk
    · exact node_4 W x hk hn (by omega) (H _ (by omega)) v ls hl
    · exact node_5 W x hk hn (by omega) (H _ (by omega)) v ls hl
    · exact node_6 x hk (H _ (by omega)) he.1 v ls hl
  · have hp := right_parts hr hk
    rcases hk with hk | hk
    · exact node_7 W x hk (by omega) (right_tag hr hk) hrec v hv ls hl
    · exact node_8 W x hk (by omega) hrec v hv ls hl
theorem v8_set (l : List Int) (i : Nat) (z : Int) : (v8 l).set i [.v (.int .i64 z)] = v8 (l.set i z) := by simp [v8, List.map_set]
theorem value_step (W : WOK ts rs X V) (t : Nat) (ht : t < ts.length) (hrec : ∀ t ls, ls.length ≤ V.length → bdR V ls (rec t ls)) (H : ∀ t', t' < t → RecAt ts rs X V rec t') (ls : List Int) (hl : ls.length ≤ V.length) (r : Int × Bool × List Int)
    (hr : r = match V[ls.length]? with | some v => setL (nodeW X rec v ts[t] (ls ++ [0])) ls.length | none => (0, false, ls)) :
    GCall Try.prog 51 [.ptr 1 10000 0 0, vI t] (wob ts rs X V ls) (tupR r) (wob ts rs X V r.2.2) := by
  have hV := W.nV
  have hts := W.nts
  refine go_fnG (tyOf_ok _) Try.func51 rfl rfl (by rw [Try.results51]) Try.ntmps51 rfl fun E => ?_
  by_cases hlt : ls.length < V.length
  · have e1 : ((V.length : Int) ≤ ls.length) = False := eq_false (by omega)
    rw [List.getElem?_eq_getElem hlt] at hr
    dsimp only at hr
    have hc := node_any (rec := rec) W ts[t] t (W.right t ht) (by omega) H V[ls.length] (W.node _ (List.getElem_mem hlt)) (ls ++ [0]) (by simp; omega)
    unfold NodeAt at hc
    have hbd := nodeW_bd (X := X) hrec V[ls.length] ts[t] (fun hk => by have := right_1 (W.right t ht) hk; omega) (ls ++ [0]) (by simp; omega)
    have g1 := encTs_get ht
    have g2 := encNs_get hlt
    generalize nodeW X rec V[ls.length] ts[t] (ls ++ [0]) = q at *
    obtain ⟨n, ok, ls'⟩ := q
    subst hr
    simp only [setL] at hc ⊢
    have hw1 := wrap_i64 (n := (ls.length : Int) + 1) (by omega)
    have htl : (v8 ls).take ls.length = v8 ls := take_len (by rw [v8_len]; exact Nat.le_refl _)
    have hl1 : (ls ++ [(0 : Int)]).length = ls.length + 1 := by simp
    have hc1 : ((ls.length + 1 : Nat) : Int) = (ls.length : Int) + 1 := by omega
    have z0 : ((ls.length : Int)).toNat = ls.length := by omega
    have hlt' : ls.length < ls'.length := by have h2 := hbd.2.1; simp only [List.length_append, List.length_singleton] at h2; omega
    have g3 := v8_get hlt'
    simp only [wob, hl1, hc1] at hc
    (repeat' (first
    | exact trivial
    | (with_reducible first | refine awA ?_ | refine awB ?_ | refine awC ?_ | refine awD ?_ | refine awE ?_ | refine awF ?_ | refine awG ?_ | refine awH ?_ | refine awI ?_ | refine awJ ?_ | refine awK ?_ | refine awL ?_ | refine awM (by decide) ?_)
    | (refine aw_draw (id := 1) (t := (.node [0, 1, 2, 3, 4, 5, 6, 7, 8, 9] [])) (drR [10000] [] []) mixed (by kernel_rfl) (by kernel_rfl) (fun _ _ h => h) ?_)
    | (refine aw_draw (id := 3) (t := (.node [0, 1, 2, 3, 4, 5, 6, 7, 8, 9, 10, 11, 12, 13, 14] [])) (drR [10000] [31] []) mixed (by kernel_rfl) (by kernel_rfl) (fun _ _ h => h) ?_)
    | (refine aw_draw (id := 6) (t := (.node [0, 1, 2, 3, 4, 5, 6, 7, 8, 9, 10, 11, 12, 13, 14] [])) (drR [7] [53, 56] [58]) mixed (by kernel_rfl) (by kernel_rfl) (fun _ _ h => h) ?_)
    | (refine at_done (by simp only [List.filterMap_cons, List.filterMap_nil, List.getElem?_toArray, List.getElem?_cons_zero, List.getElem?_cons_succ]; exact rfl) ?_) | (refine at_alt (by simp only [List.filterMap_cons, List.filterMap_nil, List.getElem?_toArray, List.getElem?_cons_zero, List.getElem?_cons_succ]; exact rfl) ?_) | refine qalt_normal ?_ | refine ats_cons ?_ ?_ | exact ats_nil
    | ((with_reducible first | refine awN (tyOf_ok _) [] ?_ | refine awO (tyOf_ok _) [] ?_ | refine awP (tyOf_ok _) [] ?_ | refine awQ ?_ | refine awR ?_ | refine awS ?_ | refine awT ?_ | refine awU ?_); intro r hr; simp only [go_sem, Nat.reduceBEq, Nat.reduceBneDiff, Nat.reduceLT, Nat.reduceLeDiff, Nat.reduceAdd, Nat.reduceMul, Nat.reduceSub, Nat.reduceEqDiff, reduceCtorEq, wob, tupR, e1, g1, g2, g3, hw1, htl, hl1, hc1, z0, v8_app, v8_set, List.length_set] at hr; subst hr; (first | refine awV ?_ ?_ | refine awW ?_ ?_ | refine endK ?_ ?_ | refine endGK ?_ ?_ ?_ | (refine condK (fun h => ?_) (fun h => ?_) <;> (try simp only [go_sem, reduceCtorEq] at h) <;> (try (exfalso; omega)))))
    | (refine go_callGE [(10000, 10000), (15000, 15000)] [(10000, 10000), (15000, 15000)] [15000] [10000] ?_; intro r hr; simp only [go_sem, Nat.reduceBEq, Nat.reduceBneDiff, Nat.reduceLT, Nat.reduceLeDiff, Nat.reduceAdd, Nat.reduceMul, Nat.reduceSub, Nat.reduceEqDiff, reduceCtorEq, wob, tupR, e1, g1, g2, g3, hw1, htl, hl1, hc1, z0, v8_app, v8_set, List.length_set] at hr; subst hr; refine callGK (hc) rfl rfl (by first | exact .inl rfl | exact .inr rfl) ?_ (.inl rfl) ?_) | fail)) <;> (try omega)
    · exact AV.up_rfl _
    · show obUp _ (wob ts rs X V (ls'.set ls.length n))
      rw [show wob ts rs X V (ls'.set ls.length n) = [(10000, .var [.lst 4 (encTs ts), .lst 2 (encRs rs), .lst 4 (encEs X), .lst 3 (encNs V), vI ls'.length, .ref 3 1 15000 0 ls'.length]), (15000, .row 3 1 (v8 (ls'.set ls.length n)))] by simp only [wob, List.length_set]]
      exact obUp_cons rfl (obUp_cons rfl obUp_nil)
  · have e1 : ((V.length : Int) ≤ ls.length) = True := eq_true (by omega)
    rw [List.getElem?_eq_none (by omega)] at hr
    subst hr
    (repeat' (first
    | exact trivial
    | (with_reducible first | refine awA ?_ | refine awB ?_ | refine awC ?_ | refine awD ?_ | refine awE ?_ | refine awF ?_ | refine awG ?_ | refine awH ?_ | refine awI ?_ | refine awJ ?_ | refine awK ?_ | refine awL ?_ | refine awM (by decide) ?_)
    | (refine aw_draw (id := 1) (t := (.node [0, 1, 2, 3, 4, 5, 6, 7, 8, 9] [])) (drR [10000] [] []) mixed (by kernel_rfl) (by kernel_rfl) (fun _ _ h => h) ?_)
    | (refine aw_draw (id := 3) (t := (.node [0, 1, 2, 3, 4, 5, 6, 7, 8, 9, 10, 11, 12, 13, 14] [])) (drR [10000] [31] []) mixed (by kernel_rfl) (by kernel_rfl) (fun _ _ h => h) ?_)
    | (refine aw_draw (id := 6) (t := (.node [0, 1, 2, 3, 4, 5, 6, 7, 8, 9, 10, 11, 12, 13, 14] [])) (drR [7] [53, 56] [58]) mixed (by kernel_rfl) (by kernel_rfl) (fun _ _ h => h) ?_)
    | (refine at_done (by simp only [List.filterMap_cons, List.filterMap_nil, List.getElem?_toArray, List.getElem?_cons_zero, List.getElem?_cons_succ]; exact rfl) ?_) | (refine at_alt (by simp only [List.filterMap_cons, List.filterMap_nil, List.getElem?_toArray, List.getElem?_cons_zero, List.getElem?_cons_succ]; exact rfl) ?_) | refine qalt_normal ?_ | refine ats_cons ?_ ?_ | exact ats_nil
    | ((with_reducible first | refine awN (tyOf_ok _) [] ?_ | refine awO (tyOf_ok _) [] ?_ | refine awP (tyOf_ok _) [] ?_ | refine awQ ?_ | refine awR ?_ | refine awS ?_ | refine awT ?_ | refine awU ?_); intro r hr; simp only [go_sem, Nat.reduceBEq, Nat.reduceBneDiff, Nat.reduceLT, Nat.reduceLeDiff, Nat.reduceAdd, Nat.reduceMul, Nat.reduceSub, Nat.reduceEqDiff, reduceCtorEq, wob, tupR, e1] at hr; subst hr; (first | refine awV ?_ ?_ | refine awW ?_ ?_ | refine endK ?_ ?_ | refine endGK ?_ ?_ ?_ | (refine condK (fun h => ?_) (fun h => ?_) <;> (try simp only [go_sem, reduceCtorEq] at h) <;> (try (exfalso; omega))))) | fail)) <;> (try omega)
    all_goals (first | exact AV.up_rfl _ | exact obUp_cons rfl (obUp_cons rfl obUp_nil))
theorem value_any (W : WOK ts rs X V) : ∀ (f t : Nat), t < f → t < ts.length → RecAt ts rs X V (valW ts X V f) t
  | 0, _, h, _ => absurd h (Nat.not_lt_zero _)
  | f + 1, t, hf, ht => fun ls hl => by
    have hts : ∀ x ∈ ts, x.kind = 1 → 0 ≤ x.n ∧ x.n ≤ 4611686018427387904 := fun x hx hk => by
      obtain ⟨k, hk', rfl⟩ := List.getElem_of_mem hx
      have := right_1 (W.right k hk') hk
      omega
    refine ⟨value_step (rec := valW ts X V f) W t ht (valW_bd hts f) (fun t' ht' => value_any W f t' (by omega) (by omega)) ls hl _ ?_, valW_bd hts (f + 1) t ls hl⟩
    rw [valW, List.getElem?_eq_getElem ht]
    rfl
end
end Go.Proofs.Ytfgacgpicfknpaa
end
section
namespace Go.Proofs.Ytfgacgpicfknpaa
open Go.RowKit
set_option maxRecDepth 100000
set_option maxHeartbeats 8000000
/-! size.Lengths and size.Length. -/
def lensF (ts : List TypeM) (rs : List RootM) (t : Int) (V : List NodeM) : List Int × Int :=
  if (checkF ts rs).1 ≠ 0 then ([], (checkF ts rs).1)
  else if t < 0 ∨ (ts.length : Int) ≤ t then ([], 3)
  else if (valW ts (exts ts) V ts.length t.toNat []).2.1 = true ∧ (valW ts (exts ts) V ts.length t.toNat []).2.2.length = V.length then ((valW ts (exts ts) V ts.length t.toNat []).2.2, 0) else ([], 40)
theorem wok_of {ts : List TypeM} {rs : List RootM} {V : List NodeM} (h : (checkF ts rs).1 = 0) (hts : ts.length ≤ 1000000000) (hp : ∀ t ∈ ts, t.parts.length ≤ 1000000000) (hV : V.length ≤ 1000000000) (hv : ∀ x ∈ V, nodeOK x) : WOK ts rs (exts ts) V :=
  have hr := check_right h
  { nts := hts, nV := hV, nX := by have := exts_len ts ts.length (Nat.le_refl _); rwa [List.take_length] at this,
    ok := fun e he => (exts_ok h hts ts.length (Nat.le_refl _) e (by rw [List.take_length]; exact he)).1,
    right := hr, parts := hp, node := hv }
def obI (d : Nat) (l : List Int) : List (Nat × AObj) := [(d, .row 3 1 (v8 l))]
theorem up_nI (d : Nat) (e : Int) : (AV.tup [.v (.slice none 0 0), .v (.int .i64 e)]).up (.tup [.ref 3 1 d 0 0, vI e]) := AV.up_tup (AV.up_cons (AV.up_nilref _ _ _ _) (AV.up_cons (AV.up_rfl _) AV.up_nilL))
theorem lens_G (ts : List TypeM) (rs : List RootM) (hts : ts.length ≤ 1000000000) (hrs : rs.length ≤ 1000000000) (hp : ∀ t ∈ ts, t.parts.length ≤ 1000000000) (t : Int) (ht : I64 t) (V : List NodeM) (hV : V.length ≤ 1000000000) (hv : ∀ x ∈ V, nodeOK x) :
    GCall Try.prog 28 [vSch ts rs, vI t, .lst 3 (encNs V)] [] (.tup [.ref 3 1 8000 0 (lensF ts rs t V).1.length, vI (lensF ts rs t V).2]) (obI 8000 (lensF ts rs t V).1) := by
  refine go_fnG (tyOf_ok _) Try.func28 rfl rfl (by rw [Try.results28]) Try.ntmps28 rfl fun E => ?_
  have hc := sizeOf_any ts rs hts hrs hp
  by_cases h0 : (checkF ts rs).1 = 0
  case neg =>
    rw [lensF, if_pos h0]
    rw [sizesF, if_pos h0] at hc
    have e1 : ((checkF ts rs).1 = 0) = False := eq_false h0
    generalize (checkF ts rs).1 = e at *
    (repeat' (first
    | exact trivial
    | (with_reducible first | refine awA ?_ | refine awB ?_ | refine awC ?_ | refine awD ?_ | refine awE ?_ | refine awF ?_ | refine awG ?_ | refine awH ?_ | refine awI ?_ | refine awJ ?_ | refine awK ?_ | refine awL ?_ | refine awM (by decide) ?_)
    | ((with_reducible first | refine awN (tyOf_ok _) [] ?_ | refine awO (tyOf_ok _) [] ?_ | refine awP (tyOf_ok _) [] ?_ | refine awQ ?_ | refine awR ?_ | refine awS ?_ | refine awT ?_ | refine awU ?_); intro r hr; simp only [go_sem, Nat.reduceBEq, Nat.reduceBneDiff, Nat.reduceLT, Nat.reduceLeDiff, Nat.reduceAdd, Nat.reduceMul, Nat.reduceSub, Nat.reduceEqDiff, reduceCtorEq, vSch, encTs_len, encNs_len, e1] at hr; subst hr; (first | refine caC (hc) rfl ?_ ?_ ?_ | refine awV ?_ ?_ | refine awW ?_ ?_ | refine endK ?_ ?_ | refine endGK ?_ ?_ ?_ | (refine condK (fun h => ?_) (fun h => ?_) <;> (try simp only [go_sem, reduceCtorEq] at h) <;> (try (exfalso; omega))))) | fail)) <;> (try omega)
    · exact up_nI _ _
    · exact obUp_row0 obUp_nil
  rw [sizesF, if_neg (by rw [h0]; decide)] at hc
  rw [lensF, if_neg (by rw [h0]; decide)]
  have W := wok_of (V := V) h0 hts hp hV hv
  by_cases h1 : t < 0
  · have e1 : (t < 0) = True := eq_true h1
    rw [if_pos (.inl h1)]
    (repeat' (first
    | exact trivial
    | (with_reducible first | refine awA ?_ | refine awB ?_ | refine awC ?_ | refine awD ?_ | refine awE ?_ | refine awF ?_ | refine awG ?_ | refine awH ?_ | refine awI ?_ | refine awJ ?_ | refine awK ?_ | refine awL ?_ | refine awM (by decide) ?_)
    | ((with_reducible first | refine awN (tyOf_ok _) [] ?_ | refine awO (tyOf_ok _) [] ?_ | refine awP (tyOf_ok _) [] ?_ | refine awQ ?_ | refine awR ?_ | refine awS ?_ | refine awT ?_ | refine awU ?_); intro r hr; simp only [go_sem, Nat.reduceBEq, Nat.reduceBneDiff, Nat.reduceLT, Nat.reduceLeDiff, Nat.reduceAdd, Nat.reduceMul, Nat.reduceSub, Nat.reduceEqDiff, reduceCtorEq, vSch, encTs_len, encNs_len, e1] at hr; subst hr; (first | refine caC (hc) rfl ?_ ?_ ?_ | refine awV ?_ ?_ | refine awW ?_ ?_ | refine endK ?_ ?_ | refine endGK ?_ ?_ ?_ | (refine condK (fun h => ?_) (fun h => ?_) <;> (try simp only [go_sem, reduceCtorEq] at h) <;> (try (exfalso; omega))))) | fail)) <;> (try omega)
    · exact up_nI _ _
    · exact obUp_row0 obUp_nil
  have e1 : (t < 0) = False := eq_false h1
  by_cases h2 : (ts.length : Int) ≤ t
  · have e2 : ((ts.length : Int) ≤ t) = True := eq_true h2
    rw [if_pos (.inr h2)]
    (repeat' (first
    | exact trivial
    | (with_reducible first | refine awA ?_ | refine awB ?_ | refine awC ?_ | refine awD ?_ | refine awE ?_ | refine awF ?_ | refine awG ?_ | refine awH ?_ | refine awI ?_ | refine awJ ?_ | refine awK ?_ | refine awL ?_ | refine awM (by decide) ?_)
    | ((with_reducible first | refine awN (tyOf_ok _) [] ?_ | refine awO (tyOf_ok _) [] ?_ | refine awP (tyOf_ok _) [] ?_ | refine awQ ?_ | refine awR ?_ | refine awS ?_ | refine awT ?_ | refine awU ?_); intro r hr; simp only [go_sem, Nat.reduceBEq, Nat.reduceBneDiff, Nat.reduceLT, Nat.reduceLeDiff, Nat.reduceAdd, Nat.reduceMul, Nat.reduceSub, Nat.reduceEqDiff, reduceCtorEq, vSch, encTs_len, encNs_len, e1, e2] at hr; subst hr; (first | refine caC (hc) rfl ?_ ?_ ?_ | refine awV ?_ ?_ | refine awW ?_ ?_ | refine endK ?_ ?_ | refine endGK ?_ ?_ ?_ | (refine condK (fun h => ?_) (fun h => ?_) <;> (try simp only [go_sem, reduceCtorEq] at h) <;> (try (exfalso; omega))))) | fail)) <;> (try omega)
    · exact up_nI _ _
    · exact obUp_row0 obUp_nil
  have e2 : ((ts.length : Int) ≤ t) = False := eq_false h2
  rw [if_neg (by omega)]
  have hw := (value_any W ts.length t.toNat (by omega) (by omega) [] (Nat.zero_le _))
  rw [Int.toNat_of_nonneg (by omega)] at hw
  obtain ⟨hw, hb⟩ := hw
  generalize valW ts (exts ts) V ts.length t.toNat [] = r at *
  obtain ⟨n, ok, ls⟩ := r
  dsimp only at hw ⊢
  cases ok with
  | false =>
    rw [if_neg (by simp)]
    (repeat' (first
    | exact trivial
    | (refine aw_nilvar 34 5 3 1 8000 (.inl (by decide)) (by decide) rfl rfl ?_)
    | (with_reducible first | refine awA ?_ | refine awB ?_ | refine awC ?_ | refine awD ?_ | refine awE ?_ | refine awF ?_ | refine awG ?_ | refine awH ?_ | refine awI ?_ | refine awJ ?_ | refine awK ?_ | refine awL ?_ | refine awM (by decide) ?_)
    | ((with_reducible first | refine awN (tyOf_ok _) [] ?_ | refine awO (tyOf_ok _) [] ?_ | refine awP (tyOf_ok _) [] ?_ | refine awQ ?_ | refine awR ?_ | refine awS ?_ | refine awT ?_ | refine awU ?_); intro r hr; simp only [go_sem, Nat.reduceBEq, Nat.reduceBneDiff, Nat.reduceLT, Nat.reduceLeDiff, Nat.reduceAdd, Nat.reduceMul, Nat.reduceSub, Nat.reduceEqDiff, reduceCtorEq, AState.nilvar, List.set_cons_succ, List.set_cons_zero, vSch, encTs_len, encNs_len, e1, e2, wob, tupR, v8_nil] at hr; subst hr; (first | refine caC (hc) rfl ?_ ?_ ?_ | refine awV ?_ ?_ | refine awW ?_ ?_ | refine endK ?_ ?_ | refine endGK ?_ ?_ ?_ | (refine condK (fun h => ?_) (fun h => ?_) <;> (try simp only [go_sem, reduceCtorEq] at h) <;> (try (exfalso; omega)))))
    | (refine go_callGE [(34, 10000), (8000, 15000)] [(10000, 34), (15000, 8000)] [8000] [34] ?_; intro r hr; simp only [go_sem, Nat.reduceBEq, Nat.reduceBneDiff, Nat.reduceLT, Nat.reduceLeDiff, Nat.reduceAdd, Nat.reduceMul, Nat.reduceSub, Nat.reduceEqDiff, reduceCtorEq, AState.nilvar, List.set_cons_succ, List.set_cons_zero, vSch, encTs_len, encNs_len, e1, e2, wob, tupR, v8_nil] at hr; subst hr; refine callGK (hw) rfl rfl (by first | exact .inl rfl | exact .inr rfl) ?_ (.inl rfl) ?_) | fail)) <;> (try omega)
    · exact up_nI _ _
    · exact obUp_row0 obUp_nil
  | true =>
    by_cases hl : ls.length = V.length
    · have e3 : ((ls.length : Int) = V.length) = True := eq_true (by omega)
      rw [if_pos ⟨rfl, hl⟩]
      (repeat' (first
    | exact trivial
    | (refine aw_nilvar 34 5 3 1 8000 (.inl (by decide)) (by decide) rfl rfl ?_)
    | (with_reducible first | refine awA ?_ | refine awB ?_ | refine awC ?_ | refine awD ?_ | refine awE ?_ | refine awF ?_ | refine awG ?_ | refine awH ?_ | refine awI ?_ | refine awJ ?_ | refine awK ?_ | refine awL ?_ | refine awM (by decide) ?_)
    | ((with_reducible first | refine awN (tyOf_ok _) [] ?_ | refine awO (tyOf_ok _) [] ?_ | refine awP (tyOf_ok _) [] ?_ | refine awQ ?_ | refine awR ?_ | refine awS ?_ | refine awT ?_ | refine awU ?_); intro r hr; simp only [go_sem, Nat.reduceBEq, Nat.reduceBneDiff, Nat.reduceLT, Nat.reduceLeDiff, Nat.reduceAdd, Nat.reduceMul, Nat.reduceSub, Nat.reduceEqDiff, reduceCtorEq, AState.nilvar, List.set_cons_succ, List.set_cons_zero, vSch, encTs_len, encNs_len, e1, e2, e3, wob, tupR, v8_nil] at hr; subst hr; (first | refine caC (hc) rfl ?_ ?_ ?_ | refine awV ?_ ?_ | refine awW ?_ ?_ | refine endK ?_ ?_ | refine endGK ?_ ?_ ?_ | (refine condK (fun h => ?_) (fun h => ?_) <;> (try simp only [go_sem, reduceCtorEq] at h) <;> (try (exfalso; omega)))))
    | (refine go_callGE [(34, 10000), (8000, 15000)] [(10000, 34), (15000, 8000)] [8000] [34] ?_; intro r hr; simp only [go_sem, Nat.reduceBEq, Nat.reduceBneDiff, Nat.reduceLT, Nat.reduceLeDiff, Nat.reduceAdd, Nat.reduceMul, Nat.reduceSub, Nat.reduceEqDiff, reduceCtorEq, AState.nilvar, List.set_cons_succ, List.set_cons_zero, vSch, encTs_len, encNs_len, e1, e2, e3, wob, tupR, v8_nil] at hr; subst hr; refine callGK (hw) rfl rfl (by first | exact .inl rfl | exact .inr rfl) ?_ (.inl rfl) ?_) | fail)) <;> (try omega)
      · exact AV.up_rfl _
      · exact obUp_cons rfl obUp_nil
    · have e3 : ((ls.length : Int) = V.length) = False := eq_false (by omega)
      rw [if_neg (by rintro ⟨_, h⟩; exact hl h)]
      (repeat' (first
    | exact trivial
    | (refine aw_nilvar 34 5 3 1 8000 (.inl (by decide)) (by decide) rfl rfl ?_)
    | (with_reducible first | refine awA ?_ | refine awB ?_ | refine awC ?_ | refine awD ?_ | refine awE ?_ | refine awF ?_ | refine awG ?_ | refine awH ?_ | refine awI ?_ | refine awJ ?_ | refine awK ?_ | refine awL ?_ | refine awM (by decide) ?_)
    | ((with_reducible first | refine awN (tyOf_ok _) [] ?_ | refine awO (tyOf_ok _) [] ?_ | refine awP (tyOf_ok _) [] ?_ | refine awQ ?_ | refine awR ?_ | refine awS ?_ | refine awT ?_ | refine awU ?_); intro r hr; simp only [go_sem, Nat.reduceBEq, Nat.reduceBneDiff, Nat.reduceLT, Nat.reduceLeDiff, Nat.reduceAdd, Nat.reduceMul, Nat.reduceSub, Nat.reduceEqDiff, reduceCtorEq, AState.nilvar, List.set_cons_succ, List.set_cons_zero, vSch, encTs_len, encNs_len, e1, e2, e3, wob, tupR, v8_nil] at hr; subst hr; (first | refine caC (hc) rfl ?_ ?_ ?_ | refine awV ?_ ?_ | refine awW ?_ ?_ | refine endK ?_ ?_ | refine endGK ?_ ?_ ?_ | (refine condK (fun h => ?_) (fun h => ?_) <;> (try simp only [go_sem, reduceCtorEq] at h) <;> (try (exfalso; omega)))))
    | (refine go_callGE [(34, 10000), (8000, 15000)] [(10000, 34), (15000, 8000)] [8000] [34] ?_; intro r hr; simp only [go_sem, Nat.reduceBEq, Nat.reduceBneDiff, Nat.reduceLT, Nat.reduceLeDiff, Nat.reduceAdd, Nat.reduceMul, Nat.reduceSub, Nat.reduceEqDiff, reduceCtorEq, AState.nilvar, List.set_cons_succ, List.set_cons_zero, vSch, encTs_len, encNs_len, e1, e2, e3, wob, tupR, v8_nil] at hr; subst hr; refine callGK (hw) rfl rfl (by first | exact .inl rfl | exact .inr rfl) ?_ (.inl rfl) ?_) | fail)) <;> (try omega)
      · exact up_nI _ _
      · exact obUp_row0 obUp_nil
end Go.Proofs.Ytfgacgpicfknpaa
end
section
namespace Go.Proofs.Ytfgacgpicfknpaa
open Go.RowKit
set_option maxRecDepth 100000
set_option maxHeartbeats 8000000
theorem valW_ok {ts : List TypeM} {X : List ExtM} {V : List NodeM} : ∀ (f t : Nat) (ls : List Int), (valW ts X V f t ls).2.1 = true → ls.length < V.length
  | 0, _, _, h => by cases h
  | f + 1, t, ls, h => by
    rw [valW] at h
    cases hv : V[ls.length]? with
    | none => rw [hv] at h; cases h
    | some v =>
      rcases Nat.lt_or_ge ls.length V.length with h' | h'
      · exact h'
      · rw [List.getElem?_eq_none h'] at hv; cases hv
def len1F (ts : List TypeM) (rs : List RootM) (t : Int) (V : List NodeM) : Int × Int := if (lensF ts rs t V).2 = 0 then ((lensF ts rs t V).1.getD 0 0, 0) else (0, (lensF ts rs t V).2)
theorem lensF_pos {ts : List TypeM} {rs : List RootM} {t : Int} {V : List NodeM} (h : (lensF ts rs t V).2 = 0) : 0 < (lensF ts rs t V).1.length ∧ (lensF ts rs t V).1.length = V.length := by
  unfold lensF at h ⊢
  split at h
  · rename_i h'; exact absurd h h'
  · rename_i h1
    split at h
    · cases h
    · rename_i h2
      split at h
      · rename_i h3
        rw [if_neg h1, if_neg h2, if_pos h3]
        have := valW_ok _ _ _ h3.1
        exact ⟨by simp only; rw [h3.2]; simpa using this, h3.2⟩
      · cases h
theorem len1_any (ts : List TypeM) (rs : List RootM) (hts : ts.length ≤ 1000000000) (hrs : rs.length ≤ 1000000000) (hp : ∀ t ∈ ts, t.parts.length ≤ 1000000000) (t : Int) (ht : I64 t) (V : List NodeM) (hV : V.length ≤ 1000000000) (hv : ∀ x ∈ V, nodeOK x) :
    PCall Try.prog 29 [vSch ts rs, vI t, .lst 3 (encNs V)] (fun r => r = .tup [vI (len1F ts rs t V).1, vI (len1F ts rs t V).2]) := by
  refine go_fn (tyOf_ok _) Try.func29 rfl rfl (by rw [Try.results29]) Try.ntmps29 rfl fun E => ?_
  have hG := lens_G ts rs hts hrs hp t ht V hV hv
  have hpos := lensF_pos (ts := ts) (rs := rs) (t := t) (V := V)
  unfold len1F
  generalize lensF ts rs t V = r at *
  obtain ⟨l, e⟩ := r
  dsimp only at hG hpos ⊢
  by_cases h : e = 0
  · have e1 : (e = 0) = True := eq_true h
    obtain ⟨h1, _⟩ := hpos h
    have g1 := v8_get (zs := l) (k := 0) h1
    have g2 : l.getD 0 0 = l[0] := by simp [List.getElem?_eq_getElem h1]
    rw [if_pos h, g2]
    (repeat' (first
    | exact trivial
    | (with_reducible first | refine awA ?_ | refine awB ?_ | refine awC ?_ | refine awD ?_ | refine awE ?_ | refine awF ?_ | refine awG ?_ | refine awH ?_ | refine awI ?_ | refine awJ ?_ | refine awK ?_ | refine awL ?_ | refine awM (by decide) ?_)
    | ((with_reducible first | refine awN (tyOf_ok _) [] ?_ | refine awO (tyOf_ok _) [] ?_ | refine awP (tyOf_ok _) [] ?_ | refine awQ ?_ | refine awR ?_ | refine awS ?_); intro r hr; simp only [go_sem, Nat.reduceBEq, Nat.reduceBneDiff, Nat.reduceLT, Nat.reduceLeDiff, Nat.reduceAdd, Nat.reduceMul, Nat.reduceSub, Nat.reduceEqDiff, reduceCtorEq, vSch, e1, obI, g1, Int.reduceToNat] at hr; subst hr; (first | refine awV ?_ ?_ | refine awW ?_ ?_ | refine endK ?_ ?_ | (refine condK (fun h => ?_) (fun h => ?_) <;> (try simp only [go_sem, reduceCtorEq] at h) <;> (try (exfalso; omega)))))
    | (refine go_callGE [] [(8000, 14)] [14] [] ?_; intro r hr; simp only [go_sem, Nat.reduceBEq, Nat.reduceBneDiff, Nat.reduceLT, Nat.reduceLeDiff, Nat.reduceAdd, Nat.reduceMul, Nat.reduceSub, Nat.reduceEqDiff, reduceCtorEq, vSch, e1, obI, g1, Int.reduceToNat] at hr; subst hr; refine callGK (hG) rfl rfl (by first | exact .inl rfl | exact .inr rfl) ?_ (.inl rfl) ?_) | fail)) <;> (try omega)
    exact rfl
  · have e1 : (e = 0) = False := eq_false h
    rw [if_neg h]
    (repeat' (first
    | exact trivial
    | (with_reducible first | refine awA ?_ | refine awB ?_ | refine awC ?_ | refine awD ?_ | refine awE ?_ | refine awF ?_ | refine awG ?_ | refine awH ?_ | refine awI ?_ | refine awJ ?_ | refine awK ?_ | refine awL ?_ | refine awM (by decide) ?_)
    | ((with_reducible first | refine awN (tyOf_ok _) [] ?_ | refine awO (tyOf_ok _) [] ?_ | refine awP (tyOf_ok _) [] ?_ | refine awQ ?_ | refine awR ?_ | refine awS ?_); intro r hr; simp only [go_sem, Nat.reduceBEq, Nat.reduceBneDiff, Nat.reduceLT, Nat.reduceLeDiff, Nat.reduceAdd, Nat.reduceMul, Nat.reduceSub, Nat.reduceEqDiff, reduceCtorEq, vSch, e1, obI] at hr; subst hr; (first | refine awV ?_ ?_ | refine awW ?_ ?_ | refine endK ?_ ?_ | (refine condK (fun h => ?_) (fun h => ?_) <;> (try simp only [go_sem, reduceCtorEq] at h) <;> (try (exfalso; omega)))))
    | (refine go_callGE [] [(8000, 14)] [14] [] ?_; intro r hr; simp only [go_sem, Nat.reduceBEq, Nat.reduceBneDiff, Nat.reduceLT, Nat.reduceLeDiff, Nat.reduceAdd, Nat.reduceMul, Nat.reduceSub, Nat.reduceEqDiff, reduceCtorEq, vSch, e1, obI] at hr; subst hr; refine callGK (hG) rfl rfl (by first | exact .inl rfl | exact .inr rfl) ?_ (.inl rfl) ?_) | fail)) <;> (try omega)
    exact rfl
/-- the lengths, as a list that nobody writes -/
theorem lens_any (ts : List TypeM) (rs : List RootM) (hts : ts.length ≤ 1000000000) (hrs : rs.length ≤ 1000000000) (hp : ∀ t ∈ ts, t.parts.length ≤ 1000000000) (t : Int) (ht : I64 t) (V : List NodeM) (hV : V.length ≤ 1000000000) (hv : ∀ x ∈ V, nodeOK x) :
    PCall Try.prog 28 [vSch ts rs, vI t, .lst 3 (encNs V)] (fun r => r = .tup [.lst 1 (v8 (lensF ts rs t V).1), vI (lensF ts rs t V).2]) := by
  have h := (lens_G ts rs hts hrs hp t ht V hV hv).toP (by simp [AV.snapOK, AV.snapOK.snapOKL, obI, lk, v8_len])
  refine h.mono fun r hr => hr.trans ?_
  simp [AV.snap, AV.snap.snapL, obI, lk, v8_take, take_len]
end Go.Proofs.Ytfgacgpicfknpaa
end
section
namespace Go.Proofs.Ytfgacgpicfknpaa
open Go.RowKit
set_option maxRecDepth 100000
set_option maxHeartbeats 4000000
/-! Types that double: what sizesF says of them. -/
def emptyS : ByteArray := ⟨#[]⟩
def aS : ByteArray := ⟨#[97]⟩
def bS : ByteArray := ⟨#[98]⟩
def dblT (b : Bool) (i : Nat) : TypeM := if b = true then ⟨8, 0, 0, [⟨aS, 0, i⟩, ⟨bS, 0, i⟩]⟩ else ⟨7, 0, 0, [⟨emptyS, 0, i⟩, ⟨emptyS, 1, i⟩]⟩
def dbl0 : TypeM := ⟨1, 1, 0, []⟩
def dbl (b : Bool) (n : Nat) : List TypeM := dbl0 :: (List.range n).map (dblT b)
theorem dbl_succ (b : Bool) (n : Nat) : dbl b (n + 1) = dbl b n ++ [dblT b n] := by simp [dbl, List.range_succ]
theorem dbl_len (b : Bool) (n : Nat) : (dbl b n).length = n + 1 := by simp [dbl]
def two (i : Nat) : Int := min (2 ^ i) 4611686018427387904
def dblE (b : Bool) (i : Nat) : ExtM := if b = true then ⟨true, two i, two i, i + 1⟩ else if i = 0 then ⟨true, 1, 1, 1⟩ else ⟨false, i + 1, i + 1, i + 1⟩
def dblX (b : Bool) (e : ExtM) : ExtM :=
  if b = true then (fun x : ExtM => (⟨x.fixed && e.fixed, plusL [x.least, withinM e.fixed e.least], plusL [x.most, withinM e.fixed e.most], max x.depth (1 + e.depth)⟩ : ExtM)) ((fun x : ExtM => (⟨x.fixed && e.fixed, plusL [x.least, withinM e.fixed e.least], plusL [x.most, withinM e.fixed e.most], max x.depth (1 + e.depth)⟩ : ExtM)) ⟨true, 0, 0, 1⟩)
  else let x := (fun x : Int × Int × Int => (min x.1 e.least, max x.2.1 (plusL [1, e.most]), max x.2.2 (1 + e.depth))) ((fun x : Int × Int × Int => (min x.1 e.least, max x.2.1 (plusL [1, e.most]), max x.2.2 (1 + e.depth))) (4611686018427387904, 0, 1))
    ⟨false, plusL [1, x.1], x.2.1, x.2.2⟩
theorem dblX_eq (b : Bool) (L : List ExtM) (i : Nat) : extM (dblT b i) L = dblX b (atE L i) := by cases b <;> rfl
deriving instance DecidableEq for ExtM
theorem dblX_step : ∀ b : Bool, ∀ i : Nat, i < 63 → dblX b (dblE b i) = dblE b (i + 1) := by decide +kernel
theorem dbl_exts (b : Bool) : ∀ n : Nat, n ≤ 63 → exts (dbl b n) = (List.range (n + 1)).map (dblE b)
  | 0, _ => by cases b <;> decide +kernel
  | n + 1, h => by
    have ih := dbl_exts b n (by omega)
    have h1 : exts (dbl b (n + 1)) = exts (dbl b n) ++ [extM (dblT b n) (exts (dbl b n))] := by rw [dbl_succ, exts, List.foldl_append]; rfl
    rw [h1, dblX_eq, ih, List.range_succ (n := n + 1), List.map_append]
    congr 2
    have : atE ((List.range (n + 1)).map (dblE b)) (n : Int) = dblE b n := by
      rw [atE, Int.toNat_natCast, List.getElem?_map, List.getElem?_range (by omega)]; rfl
    rw [this, dblX_step b n (by omega)]
theorem dbl_deps (b : Bool) : ∀ n : Nat, deps (dbl b n) = (List.range (n + 1)).map (fun i : Nat => (i : Int) + 1)
  | 0 => by cases b <;> decide +kernel
  | n + 1 => by
    have ih := dbl_deps b n
    have h1 : deps (dbl b (n + 1)) = deps (dbl b n) ++ [dep (deps (dbl b n)) (dblT b n)] := by rw [dbl_succ, deps, List.foldl_append]; rfl
    rw [h1, ih, List.range_succ (n := n + 1), List.map_append]
    congr 2
    have : ((List.range (n + 1)).map (fun i : Nat => (i : Int) + 1)).getD n 0 = n + 1 := by
      rw [List.getD_eq_getElem?_getD, List.getElem?_map, List.getElem?_range (by omega)]; rfl
    cases b <;> simp [dep, dep0, depTo, dblT, this] <;> omega
theorem dbl_take (b : Bool) {n k : Nat} (h : k ≤ n) : (dbl b n).take (k + 1) = dbl b k := by
  simp [dbl, List.take_succ_cons, ← List.map_take, List.take_range, Nat.min_eq_left h]
theorem dbl_get (b : Bool) {n k : Nat} (h : k ≤ n) : (dbl b n)[k]? = some (if k = 0 then dbl0 else dblT b (k - 1)) := by
  cases k with
  | zero => rfl
  | succ k =>
    have : k < n := h
    simp [dbl, List.getElem?_range this]
theorem dbl_right : ∀ b : Bool, ∀ k : Nat, k ≤ 63 → rightOK (if k = 0 then dbl0 else dblT b (k - 1)) k = true := by decide +kernel
theorem dbl_check (b : Bool) (n : Nat) (h : n ≤ 63) : checkF (dbl b n) [] = (0, 0) := by
  have h1 : (List.range (dbl b n).length).find? (wrongType (dbl b n)) = none := find_none fun i hi => by
    rw [dbl_len] at hi
    rw [wrongType, dbl_get b (by omega : i ≤ n)]
    simp [dbl_right b i (by omega)]
  have h2 : (List.range (dbl b n).length).find? (tooDeep (dbl b n)) = none := find_none fun i hi => by
    rw [dbl_len] at hi
    have hd : dep (deps ((dbl b n).take i)) (((dbl b n)[i]?).getD ⟨0, 0, 0, []⟩) = i + 1 := by
      have h3 := dbl_deps b i
      have h4 : dbl b i = (dbl b n).take i ++ [((dbl b n)[i]?).getD ⟨0, 0, 0, []⟩] := by
        rw [← dbl_take b (by omega : i ≤ n), List.take_add_one, dbl_get b (by omega : i ≤ n)]; rfl
      rw [h4, deps, List.foldl_append] at h3
      have h5 : (deps ((dbl b n).take i) ++ [dep (deps ((dbl b n).take i)) (((dbl b n)[i]?).getD ⟨0, 0, 0, []⟩)]) = (List.range (i + 1)).map (fun i : Nat => (i : Int) + 1) := h3
      rw [List.range_succ, List.map_append] at h5
      have h6 := List.append_inj_right' h5 rfl
      exact List.head_eq_of_cons_eq h6
    rw [tooDeep, hd]
    simp; omega
  unfold checkF
  rw [h1]
  simp only [deepF, h2]
  rfl
theorem dbl_sizes (b : Bool) (n : Nat) (h : n ≤ 63) : sizesF (dbl b n) [] = ((List.range (n + 1)).map (dblE b), 0) := by
  rw [sizesF, dbl_check b n h, if_neg (by decide), dbl_exts b n h]
end Go.Proofs.Ytfgacgpicfknpaa
end
section
namespace Go.Proofs.Ytfgacgpicfknpaa
open Go.RowKit
set_option maxRecDepth 100000
set_option maxHeartbeats 8000000
theorem UpLL.rfl' : ∀ l : List (List AV), UpLL l l
  | [] => .nil
  | x :: l => .cons (go x) (UpLL.rfl' l)
where go : ∀ x : List AV, UpL x x
  | [] => .nil
  | a :: x => .cons (.rfl a) (go x)
theorem num_any (e : Int) : PCall Try.prog 31 [vI e] (fun r => r = vI e) := by
  refine go_fn (tyOf_ok _) Try.func31 rfl rfl (by rw [Try.results31]) Try.ntmps31 rfl fun E => ?_
  (repeat' (first
    | exact trivial
    | (with_reducible first | refine awA ?_ | refine awB ?_ | refine awC ?_ | refine awD ?_ | refine awE ?_ | refine awF ?_ | refine awG ?_ | refine awH ?_ | refine awI ?_ | refine awJ ?_ | refine awK ?_ | refine awL ?_ | refine awM (by decide) ?_)
    | ((with_reducible first | refine awN (tyOf_ok _) [] ?_ | refine awO (tyOf_ok _) [] ?_ | refine awP (tyOf_ok _) [] ?_ | refine awQ ?_ | refine awR ?_ | refine awS ?_); intro r hr; simp only [go_sem, Nat.reduceBEq, Nat.reduceBneDiff, Nat.reduceLT, Nat.reduceLeDiff, Nat.reduceAdd, Nat.reduceMul, Nat.reduceSub, Nat.reduceEqDiff, reduceCtorEq] at hr; subst hr; (first | refine awV ?_ ?_ | refine awW ?_ ?_ | refine endK ?_ ?_ | (refine condK (fun h => ?_) (fun h => ?_) <;> (try simp only [go_sem, reduceCtorEq] at h) <;> (try (exfalso; omega))))) | fail)) <;> (try omega)
  exact rfl
theorem sameInts_any (xs ys : List Int) (hx : xs.length ≤ 4611686018427387904) : PCall Try.prog 32 [.lst 1 (v8 xs), .lst 1 (v8 ys)] (fun r => r = .v (.bool (decide (xs = ys)))) := by
  refine go_fn (tyOf_ok _) Try.func32 rfl rfl (by rw [Try.results32]) Try.ntmps32 rfl fun E => ?_
  (repeat' (first
    | exact trivial
    | (with_reducible first | refine awA ?_ | refine awB ?_ | refine awC ?_ | refine awD ?_ | refine awE ?_ | refine awF ?_ | refine awG ?_ | refine awH ?_ | refine awI ?_ | refine awJ ?_ | refine awK ?_ | refine awL ?_ | refine awM (by decide) ?_)
    | (refine aw_draw (id := 6) (t := (.node [0, 1, 2, 3, 4, 5, 6, 7, 8] [])) (drR [] [20, 24] []) mixed (by kernel_rfl) (by kernel_rfl) (fun _ _ h => h) ?_)
    | (refine at_done (by simp only [List.filterMap_cons, List.filterMap_nil, List.getElem?_toArray, List.getElem?_cons_zero, List.getElem?_cons_succ]; exact rfl) ?_) | (refine at_alt (by simp only [List.filterMap_cons, List.filterMap_nil, List.getElem?_toArray, List.getElem?_cons_zero, List.getElem?_cons_succ]; exact rfl) ?_) | refine qalt_normal ?_ | refine ats_cons ?_ ?_ | exact ats_nil
    | ((with_reducible first | refine awN (tyOf_ok _) [] ?_ | refine awO (tyOf_ok _) [] ?_ | refine awP (tyOf_ok _) [] ?_ | refine awQ ?_ | refine awR ?_ | refine awS ?_); intro r hr; simp only [go_sem, Nat.reduceBEq, Nat.reduceBneDiff, Nat.reduceLT, Nat.reduceLeDiff, Nat.reduceAdd, Nat.reduceMul, Nat.reduceSub, Nat.reduceEqDiff, reduceCtorEq, v8_len] at hr; subst hr; (first | refine awV ?_ ?_ | refine awW ?_ ?_ | refine endK ?_ ?_ | (refine condK (fun h => ?_) (fun h => ?_) <;> (try simp only [go_sem, reduceCtorEq] at h) <;> (try (exfalso; omega))))) | fail)) <;> (try omega)
  · show AV.v _ = AV.v _
    rw [decide_eq_false (fun e => h (by rw [e]))]
  refine go_loop [0, 1, 5] [] (fun k : Nat => ⟨[(0, true, .lst 1 (v8 xs)), (1, true, .lst 1 (v8 ys)), (5, true, .v (.int .i64 k))], []⟩) (fun k => k ≤ xs.length ∧ xs.take k = ys.take k) (fun k => xs.length - k) 0 (by simp only [go_sem, Nat.reduceBEq, Nat.reduceBneDiff, Nat.reduceLT, Nat.reduceLeDiff, Nat.reduceAdd, Nat.reduceMul, Nat.reduceSub, Nat.reduceEqDiff, reduceCtorEq]; exact rfl) ⟨Nat.zero_le _, rfl⟩ ?_
  intro k ⟨hk, heq⟩
  have hl : xs.length = ys.length := by omega
  have hw := wrap_i64 (n := (k : Int) + 1) (by omega)
  by_cases hlt : k < xs.length
  · have g1 := v8_get hlt
    have g2 := v8_get (zs := ys) (k := k) (by omega)
    (repeat' (first
    | exact trivial
    | (with_reducible first | refine awA ?_ | refine awB ?_ | refine awC ?_ | refine awD ?_ | refine awE ?_ | refine awF ?_ | refine awG ?_ | refine awH ?_ | refine awI ?_ | refine awJ ?_ | refine awK ?_ | refine awL ?_ | refine awM (by decide) ?_)
    | (refine aw_draw (id := 6) (t := (.node [0, 1, 2, 3, 4, 5, 6, 7, 8] [])) (drR [] [20, 24] []) mixed (by kernel_rfl) (by kernel_rfl) (fun _ _ h => h) ?_)
    | (refine at_done (by simp only [List.filterMap_cons, List.filterMap_nil, List.getElem?_toArray, List.getElem?_cons_zero, List.getElem?_cons_succ]; exact rfl) ?_) | (refine at_alt (by simp only [List.filterMap_cons, List.filterMap_nil, List.getElem?_toArray, List.getElem?_cons_zero, List.getElem?_cons_succ]; exact rfl) ?_) | refine qalt_normal ?_ | refine ats_cons ?_ ?_ | exact ats_nil
    | ((with_reducible first | refine awN (tyOf_ok _) [] ?_ | refine awO (tyOf_ok _) [] ?_ | refine awP (tyOf_ok _) [] ?_ | refine awQ ?_ | refine awR ?_ | refine awS ?_); intro r hr; simp only [go_sem, Nat.reduceBEq, Nat.reduceBneDiff, Nat.reduceLT, Nat.reduceLeDiff, Nat.reduceAdd, Nat.reduceMul, Nat.reduceSub, Nat.reduceEqDiff, reduceCtorEq, v8_len, g1, g2, hw] at hr; subst hr; (first | refine awV ?_ ?_ | refine awW ?_ ?_ | refine endK ?_ ?_ | (refine condK (fun h => ?_) (fun h => ?_) <;> (try simp only [go_sem, reduceCtorEq] at h) <;> (try (exfalso; omega))))) | fail)) <;> (try omega)
    · show AV.v _ = AV.v _
      rw [decide_eq_false (fun e => by subst e; exact h rfl)]
    · refine ⟨k + 1, by simp only [go_sem, Nat.reduceBEq, Nat.reduceBneDiff, Nat.reduceLT, Nat.reduceLeDiff, Nat.reduceAdd, Nat.reduceMul, Nat.reduceSub, Nat.reduceEqDiff, reduceCtorEq]; exact rfl, ⟨by omega, ?_⟩, by omega⟩
      rw [List.take_succ_eq_append_getElem hlt, List.take_succ_eq_append_getElem (by omega), heq]
      simp_all
  · (repeat' (first
    | exact trivial
    | (with_reducible first | refine awA ?_ | refine awB ?_ | refine awC ?_ | refine awD ?_ | refine awE ?_ | refine awF ?_ | refine awG ?_ | refine awH ?_ | refine awI ?_ | refine awJ ?_ | refine awK ?_ | refine awL ?_ | refine awM (by decide) ?_)
    | (refine aw_draw (id := 6) (t := (.node [0, 1, 2, 3, 4, 5, 6, 7, 8] [])) (drR [] [20, 24] []) mixed (by kernel_rfl) (by kernel_rfl) (fun _ _ h => h) ?_)
    | (refine at_done (by simp only [List.filterMap_cons, List.filterMap_nil, List.getElem?_toArray, List.getElem?_cons_zero, List.getElem?_cons_succ]; exact rfl) ?_) | (refine at_alt (by simp only [List.filterMap_cons, List.filterMap_nil, List.getElem?_toArray, List.getElem?_cons_zero, List.getElem?_cons_succ]; exact rfl) ?_) | refine qalt_normal ?_ | refine ats_cons ?_ ?_ | exact ats_nil
    | ((with_reducible first | refine awN (tyOf_ok _) [] ?_ | refine awO (tyOf_ok _) [] ?_ | refine awP (tyOf_ok _) [] ?_ | refine awQ ?_ | refine awR ?_ | refine awS ?_); intro r hr; simp only [go_sem, Nat.reduceBEq, Nat.reduceBneDiff, Nat.reduceLT, Nat.reduceLeDiff, Nat.reduceAdd, Nat.reduceMul, Nat.reduceSub, Nat.reduceEqDiff, reduceCtorEq, v8_len, hw] at hr; subst hr; (first | refine awV ?_ ?_ | refine awW ?_ ?_ | refine endK ?_ ?_ | (refine condK (fun h => ?_) (fun h => ?_) <;> (try simp only [go_sem, reduceCtorEq] at h) <;> (try (exfalso; omega))))) | fail)) <;> (try omega)
    show AV.v _ = AV.v _
    rw [take_len (by omega), take_len (by omega)] at heq
    rw [decide_eq_true heq]
def ts10 : List TypeM := [⟨1, 1, 0, []⟩, ⟨3, 0, 0, []⟩, ⟨5, 9, 1, []⟩, ⟨1, 2, 0, []⟩, ⟨6, 0, 3, []⟩, ⟨8, 0, 0, [⟨aS, 0, 0⟩, ⟨bS, 0, 2⟩, ⟨⟨#[99]⟩, 0, 4⟩]⟩]
def vs10 : List NodeM := [⟨4, 0, 3⟩, ⟨1, 7, 0⟩, ⟨3, 0, 2⟩, ⟨1, 5, 0⟩, ⟨1, 300, 0⟩, ⟨5, 0, 0⟩]
theorem sizes10 : sizesF ts10 [] = ([⟨true, 1, 1, 1⟩, ⟨false, 1, 10, 1⟩, ⟨false, 0, 126, 2⟩, ⟨true, 2, 2, 1⟩, ⟨false, 1, 3, 2⟩, ⟨false, 10, 138, 3⟩], 0) := by kernel_rfl
theorem lens10 : lensF ts10 [] 5 vs10 = ([21, 1, 11, 1, 2, 1], 0) := by kernel_rfl
theorem len10a : len1F ts10 [] 5 vs10 = (21, 0) := by kernel_rfl
theorem len10b : len1F ts10 [] 4 vs10 = (0, 40) := by kernel_rfl
theorem len10c : len1F ts10 [] 6 vs10 = (0, 3) := by kernel_rfl
abbrev nilS : AV := .v (.slice none 0 0)
def sch10 : AV := .agg [.lst 4 [[vI 1, vI 1, vI 0, nilS], [vI 3, vI 0, vI 0, nilS], [vI 5, vI 9, vI 1, nilS], [vI 1, vI 2, vI 0, nilS], [vI 6, vI 0, vI 3, nilS], [vI 8, vI 0, vI 0, .lst 3 [[vS aS, vI 0, vI 0], [vS bS, vI 0, vI 2], [vS ⟨#[99]⟩, vI 0, vI 4]]]], nilS]
def ns10 : AV := .lst 3 [[vI 4, vU 0, vI 3], [vI 1, vU 7, vI 0], [vI 3, vU 0, vI 2], [vI 1, vU 5, vI 0], [vI 1, vU 300, vI 0], [vI 5, vU 0, vI 0]]
theorem up10 : Up sch10 (vSch ts10 []) := by
  refine .agg (.cons (.lst ?_) (.cons (.nil _) .nil))
  repeat (first | exact .nil | refine .cons (.cons (.rfl _) (.cons (.rfl _) (.cons (.rfl _) (.cons (.nil _) .nil)))) ?_ | refine .cons (.cons (.rfl _) (.cons (.rfl _) (.cons (.rfl _) (.cons (.rfl _) .nil)))) ?_)
theorem h1 : ∀ t ∈ ts10, t.parts.length ≤ 1000000000 := by decide
theorem h2 : ∀ x ∈ vs10, nodeOK x := by unfold nodeOK; decide
theorem sz10_any : PCall Try.prog 22 [sch10] (fun r => r = .tup [.lst 4 [[vB true, vI 1, vI 1, vI 1], [vB false, vI 1, vI 10, vI 1], [vB false, vI 0, vI 126, vI 2], [vB true, vI 2, vI 2, vI 1], [vB false, vI 1, vI 3, vI 2], [vB false, vI 10, vI 138, vI 3]], vI 0]) := by
  have h := sizeOf_any ts10 [] (by decide) (by decide) h1
  rw [sizes10] at h
  exact PCall.args (.cons up10 .nil) h
theorem lens10_any : PCall Try.prog 28 [sch10, vI 5, ns10] (fun r => r = .tup [.lst 1 (v8 [21, 1, 11, 1, 2, 1]), vI 0]) := by
  have h := lens_any ts10 [] (by decide) (by decide) h1 5 (by decide) vs10 (by decide) h2
  rw [lens10] at h
  exact PCall.args (.cons up10 (.cons (.rfl _) (.cons (.rfl _) .nil))) h
theorem len10_any (t n e : Int) (ht : I64 t) (h : len1F ts10 [] t vs10 = (n, e)) : PCall Try.prog 29 [sch10, vI t, ns10] (fun r => r = .tup [vI n, vI e]) := by
  have h := len1_any ts10 [] (by decide) (by decide) h1 t ht vs10 (by decide) h2
  rw [‹len1F ts10 [] t vs10 = (n, e)›] at h
  exact PCall.args (.cons up10 (.cons (.rfl _) (.cons (.rfl _) .nil))) h
theorem awake10 : PCall Try.prog 23 [] (fun r => r = vB true) := by
  refine go_fn (tyOf_ok _) Try.func23 rfl rfl (by rw [Try.results23]) Try.ntmps23 rfl fun E => ?_
  have hs := sameInts_any [21, 1, 11, 1, 2, 1] [21, 1, 11, 1, 2, 1] (by decide)
  have hd : decide (([21, 1, 11, 1, 2, 1] : List Int) = [21, 1, 11, 1, 2, 1]) = true := by decide
  rw [hd] at hs
  (repeat' (first
    | exact trivial
    | (with_reducible first | refine awA ?_ | refine awB ?_ | refine awC ?_ | refine awD ?_ | refine awE ?_ | refine awF ?_ | refine awG ?_ | refine awH ?_ | refine awI ?_ | refine awJ ?_ | refine awK ?_ | refine awL ?_ | refine awM (by decide) ?_)
    | ((with_reducible first | refine awN (tyOf_ok _) [] ?_ | refine awO (tyOf_ok _) [] ?_ | refine awP (tyOf_ok _) [] ?_ | refine awQ ?_ | refine awR ?_ | refine awS ?_); intro r hr; simp only [go_sem, Nat.reduceBEq, Nat.reduceBneDiff, Nat.reduceLT, Nat.reduceLeDiff, Nat.reduceAdd, Nat.reduceMul, Nat.reduceSub, Nat.reduceEqDiff, reduceCtorEq, Int.cast_ofNat_Int, Int.reduceToNat, Int.reduceEq, Int.reduceLT, Int.reduceLE, Int.reduceNe] at hr; subst hr; (first | refine caC (sz10_any) rfl ?_ ?_ ?_ | refine caA (fun _ => num_any _) rfl ?_ ?_ ?_ | refine caC (lens10_any) rfl ?_ ?_ ?_ | refine caA (fun _ => len10_any 5 21 0 (by decide) len10a) rfl ?_ ?_ ?_ | refine caA (fun _ => len10_any 4 0 40 (by decide) len10b) rfl ?_ ?_ ?_ | refine caA (fun _ => len10_any 6 0 3 (by decide) len10c) rfl ?_ ?_ ?_ | refine caA (fun _ => hs) rfl ?_ ?_ ?_ | refine awV ?_ ?_ | refine awW ?_ ?_ | refine endK ?_ ?_ | (refine condK (fun h => ?_) (fun h => ?_) <;> (try simp only [go_sem, reduceCtorEq] at h) <;> (try (exfalso; omega))))) | fail)) <;> (try omega)
  exact rfl
theorem rest_eq (n m : Int) (hm : 1 ≤ m) : (n.tmod m + m).tmod m = n % m ∧ -m < n.tmod m ∧ n.tmod m < m := by
  have h1 := Int.tmod_lt_of_pos n (show 0 < m by omega)
  have h2 := Int.lt_tmod_of_pos n (show 0 < m by omega)
  refine ⟨?_, h2, h1⟩
  rw [Int.tmod_eq_emod_of_nonneg (by omega), Int.tmod_def]
  rw [Int.add_emod_right, Int.sub_mul_emod_self_left]
theorem rest_any (n m : Int) (hn : I64 n) (hm : 1 ≤ m ∧ m ≤ 4611686018427387904) : PCall Try.prog 37 [vI n, vI m] (fun r => r = vI (n % m)) := by
  refine go_fn (tyOf_ok _) Try.func37 rfl rfl (by rw [Try.results37]) Try.ntmps37 rfl fun E => ?_
  have e1 : (m = 0) = False := eq_false (by omega)
  obtain ⟨h1, h2, h3⟩ := rest_eq n m hm.1
  have hw := wrap_i64 (n := n.tmod m + m) (by omega)
  (repeat' (first
    | exact trivial
    | (with_reducible first | refine awA ?_ | refine awB ?_ | refine awC ?_ | refine awD ?_ | refine awE ?_ | refine awF ?_ | refine awG ?_ | refine awH ?_ | refine awI ?_ | refine awJ ?_ | refine awK ?_ | refine awL ?_ | refine awM (by decide) ?_)
    | ((with_reducible first | refine awN (tyOf_ok _) [] ?_ | refine awO (tyOf_ok _) [] ?_ | refine awP (tyOf_ok _) [] ?_ | refine awQ ?_ | refine awR ?_ | refine awS ?_); intro r hr; simp only [go_sem, Nat.reduceBEq, Nat.reduceBneDiff, Nat.reduceLT, Nat.reduceLeDiff, Nat.reduceAdd, Nat.reduceMul, Nat.reduceSub, Nat.reduceEqDiff, reduceCtorEq, e1, hw, h1] at hr; subst hr; (first | refine awV ?_ ?_ | refine awW ?_ ?_ | refine endK ?_ ?_ | (refine condK (fun h => ?_) (fun h => ?_) <;> (try simp only [go_sem, reduceCtorEq] at h) <;> (try (exfalso; omega))))) | fail)) <;> (try omega)
  exact rfl
end Go.Proofs.Ytfgacgpicfknpaa
end
section
namespace Go.Proofs.Ytfgacgpicfknpaa
open Go.RowKit
set_option maxRecDepth 100000
set_option maxHeartbeats 8000000
/-! A schema of its first types, parts and roots, in memory of the caller's own. -/
def cutP (t : TypeM) : TypeM := ⟨t.kind, t.n, t.elem, t.parts.take 70⟩
def cutT (ts : List TypeM) : List TypeM := (ts.take 120).map cutP
theorem cutT_len (ts : List TypeM) : (cutT ts).length = min 120 ts.length := by simp [cutT]
theorem cutT_mem {ts : List TypeM} {t : TypeM} (h : t ∈ cutT ts) : ∃ u ∈ ts, t = cutP u := by
  obtain ⟨u, hu, rfl⟩ := List.mem_map.1 h
  exact ⟨u, List.mem_of_mem_take hu, rfl⟩
theorem cutT_parts {ts : List TypeM} : ∀ t ∈ cutT ts, t.parts.length ≤ 70 := fun t h => by
  obtain ⟨u, _, rfl⟩ := cutT_mem h
  simp [cutP]; omega
theorem encPs_take (l : List PartM) (n : Nat) : (encPs l).take n = encPs (l.take n) := by simp [encPs]
theorem encRs_take (l : List RootM) (n : Nat) : (encRs l).take n = encRs (l.take n) := by simp [encRs]
theorem encTs_take (l : List TypeM) (n : Nat) : (encTs l).take n = encTs (l.take n) := by simp [encTs]
theorem encTs_app (l : List TypeM) (t : TypeM) : encTs l ++ [[vI t.kind, vI t.n, vI t.elem, .lst 3 (encPs t.parts)]] = encTs (l ++ [t]) := by simp [encTs, encT]
def cutV (d1 d2 : Nat) (ts : List TypeM) (rs : List RootM) : AV := .agg [.ref 55 4 d1 0 (cutT ts).length, .ref 90 2 d2 0 (rs.take 260).length]
def cutO (d1 d2 : Nat) (ts : List TypeM) (rs : List RootM) : List (Nat × AObj) := [(d1, .row 55 4 (encTs (cutT ts))), (d2, .row 90 2 (encRs (rs.take 260)))]
theorem cut10_G (ts : List TypeM) (rs : List RootM) (hts : ts.length ≤ 1000000000) (hrs : rs.length ≤ 1000000000) (hp : ∀ t ∈ ts, t.parts.length ≤ 1000000000) :
    GCall Try.prog 24 [vSch ts rs] [] (cutV 8000 8001 ts rs) (cutO 8000 8001 ts rs) := by
  refine go_fnG (tyOf_ok _) Try.func24 rfl rfl (by rw [Try.results24]) Try.ntmps24 rfl fun E => ?_
  (repeat' (first
    | exact trivial
    | (refine aw_nilvar 3 0 55 4 8000 (cs := [nilS, _]) (.inl (by decide)) (by decide) rfl rfl ?_)
    | (refine aw_nilvar 3 1 90 2 8001 (cs := [_, nilS]) (.inl (by decide)) (by decide) rfl rfl ?_)
    | (with_reducible first | refine awA ?_ | refine awB ?_ | refine awC ?_ | refine awD ?_ | refine awE ?_ | refine awF ?_ | refine awG ?_ | refine awH ?_ | refine awI ?_ | refine awJ ?_ | refine awK ?_ | refine awL ?_ | refine awM (by decide) ?_)
    | (refine aw_draw (id := 9) (t := (.node [0, 1, 2, 3, 4, 5, 6, 7, 8, 9, 10, 11] [])) (drR [1] [37] []) mixed (by kernel_rfl) (by kernel_rfl) (fun _ _ h => h) ?_)
    | (refine at_done (by simp only [List.filterMap_cons, List.filterMap_nil, List.getElem?_toArray, List.getElem?_cons_zero, List.getElem?_cons_succ]; exact rfl) ?_) | (refine at_alt (by simp only [List.filterMap_cons, List.filterMap_nil, List.getElem?_toArray, List.getElem?_cons_zero, List.getElem?_cons_succ]; exact rfl) ?_) | refine qalt_normal ?_ | refine ats_cons ?_ ?_ | exact ats_nil
    | ((with_reducible first | refine awN (tyOf_ok _) [] ?_ | refine awO (tyOf_ok _) [] ?_ | refine awP (tyOf_ok _) [] ?_ | refine awQ ?_ | refine awR ?_ | refine awS ?_ | refine awT ?_ | refine awU ?_); intro r hr; simp only [go_sem, Nat.reduceBEq, Nat.reduceBneDiff, Nat.reduceLT, Nat.reduceLeDiff, Nat.reduceAdd, Nat.reduceMul, Nat.reduceSub, Nat.reduceEqDiff, reduceCtorEq, AState.nilvar, List.set_cons_succ, List.set_cons_zero, vSch] at hr; subst hr; (first | refine awV ?_ ?_ | refine awW ?_ ?_ | refine endK ?_ ?_ | refine endGK ?_ ?_ ?_ | (refine condK (fun h => ?_) (fun h => ?_) <;> (try simp only [go_sem, reduceCtorEq] at h) <;> (try (exfalso; omega))))) | fail)) <;> (try omega)
  refine go_loop [1, 2, 3, 4] [1, 2, 3, 8000, 8001] (fun k : Nat => ⟨[(1, true, .ptr 1 1 0 0), (2, true, .ptr 1 2 0 0), (3, true, .ptr 1 3 0 0), (4, true, vI k)],
    [(1, .var [.lst 4 (encTs ts), .lst 2 (encRs rs)]), (2, .var [nilS, nilS]), (3, .var [.ref 55 4 8000 0 k, .ref 90 2 8001 0 0]), (8000, .row 55 4 (encTs ((ts.take k).map cutP))), (8001, .row 90 2 [])]⟩)
    (fun k => k ≤ ts.length ∧ k ≤ 120) (fun k => ts.length - k) 0 (by simp only [AState.nilvar, go_sem, Nat.reduceBEq, Nat.reduceBneDiff, Nat.reduceLT, Nat.reduceLeDiff, Nat.reduceAdd, Nat.reduceMul, Nat.reduceSub, Nat.reduceEqDiff, reduceCtorEq]; exact rfl) ⟨Nat.zero_le _, by decide⟩ ?_
  intro k ⟨hk, hk2⟩
  have hw1 := wrap_i64 (n := (k : Int) + 1) (by omega)
  have hlk : (encTs ((ts.take k).map cutP)).length = k := by rw [encTs_len]; simp; omega
  have htk : (encTs ((ts.take k).map cutP)).take k = encTs ((ts.take k).map cutP) := take_len (by omega)
  by_cases hlt : k < ts.length ∧ k < 120
  · obtain ⟨hlt, h120⟩ := hlt
    have e1 : ((k : Int) < ts.length) = True := eq_true (by omega)
    have e2 : ((k : Int) < 120) = True := eq_true (by omega)
    have g1 := encTs_get hlt
    have hlk1 : (encTs ((ts.take (k + 1)).map cutP)).length = k + 1 := by rw [encTs_len]; simp; omega
    have hnext : encTs ((ts.take k).map cutP) ++ [[vI ts[k].kind, vI ts[k].n, vI ts[k].elem, .lst 3 (encPs (ts[k].parts.take 70))]] = encTs ((ts.take (k + 1)).map cutP) := by
      rw [List.take_succ_eq_append_getElem hlt, List.map_append]
      exact encTs_app _ (cutP ts[k])
    by_cases h70 : 70 < ts[k].parts.length
    · have e3 : (70 < (ts[k].parts.length : Int)) = True := eq_true (by omega)
      (repeat' (first
    | exact trivial
    | (with_reducible first | refine awA ?_ | refine awB ?_ | refine awC ?_ | refine awD ?_ | refine awE ?_ | refine awF ?_ | refine awG ?_ | refine awH ?_ | refine awI ?_ | refine awJ ?_ | refine awK ?_ | refine awL ?_ | refine awM (by decide) ?_)
    | (refine aw_draw (id := 9) (t := (.node [0, 1, 2, 3, 4, 5, 6, 7, 8, 9, 10, 11] [])) (drR [1] [37] []) mixed (by kernel_rfl) (by kernel_rfl) (fun _ _ h => h) ?_)
    | (refine at_done (by simp only [List.filterMap_cons, List.filterMap_nil, List.getElem?_toArray, List.getElem?_cons_zero, List.getElem?_cons_succ]; exact rfl) ?_) | (refine at_alt (by simp only [List.filterMap_cons, List.filterMap_nil, List.getElem?_toArray, List.getElem?_cons_zero, List.getElem?_cons_succ]; exact rfl) ?_) | refine qalt_normal ?_ | refine ats_cons ?_ ?_ | exact ats_nil
    | ((with_reducible first | refine awN (tyOf_ok _) [] ?_ | refine awO (tyOf_ok _) [] ?_ | refine awP (tyOf_ok _) [] ?_ | refine awQ ?_ | refine awR ?_ | refine awS ?_ | refine awT ?_ | refine awU ?_); intro r hr; simp only [go_sem, Nat.reduceBEq, Nat.reduceBneDiff, Nat.reduceLT, Nat.reduceLeDiff, Nat.reduceAdd, Nat.reduceMul, Nat.reduceSub, Nat.reduceEqDiff, reduceCtorEq, encTs_len, hw1, hlk, htk, e1, e2, g1, e3, encPs_take, hnext, hlk1, Int.reduceToNat] at hr; subst hr; (first | refine awV ?_ ?_ | refine awW ?_ ?_ | refine endK ?_ ?_ | refine endGK ?_ ?_ ?_ | (refine condK (fun h => ?_) (fun h => ?_) <;> (try simp only [go_sem, reduceCtorEq] at h) <;> (try (exfalso; omega))))) | fail)) <;> (try omega)
      exact ⟨k + 1, by simp only [go_sem, Nat.reduceBEq, Nat.reduceBneDiff, Nat.reduceLT, Nat.reduceLeDiff, Nat.reduceAdd, Nat.reduceMul, Nat.reduceSub, Nat.reduceEqDiff, reduceCtorEq]; exact rfl, ⟨by omega, by omega⟩, by omega⟩
    · have e3 : (70 < (ts[k].parts.length : Int)) = False := eq_false (by omega)
      rw [take_len (by omega : ts[k].parts.length ≤ 70)] at hnext
      (repeat' (first
    | exact trivial
    | (with_reducible first | refine awA ?_ | refine awB ?_ | refine awC ?_ | refine awD ?_ | refine awE ?_ | refine awF ?_ | refine awG ?_ | refine awH ?_ | refine awI ?_ | refine awJ ?_ | refine awK ?_ | refine awL ?_ | refine awM (by decide) ?_)
    | (refine aw_draw (id := 9) (t := (.node [0, 1, 2, 3, 4, 5, 6, 7, 8, 9, 10, 11] [])) (drR [1] [37] []) mixed (by kernel_rfl) (by kernel_rfl) (fun _ _ h => h) ?_)
    | (refine at_done (by simp only [List.filterMap_cons, List.filterMap_nil, List.getElem?_toArray, List.getElem?_cons_zero, List.getElem?_cons_succ]; exact rfl) ?_) | (refine at_alt (by simp only [List.filterMap_cons, List.filterMap_nil, List.getElem?_toArray, List.getElem?_cons_zero, List.getElem?_cons_succ]; exact rfl) ?_) | refine qalt_normal ?_ | refine ats_cons ?_ ?_ | exact ats_nil
    | ((with_reducible first | refine awN (tyOf_ok _) [] ?_ | refine awO (tyOf_ok _) [] ?_ | refine awP (tyOf_ok _) [] ?_ | refine awQ ?_ | refine awR ?_ | refine awS ?_ | refine awT ?_ | refine awU ?_); intro r hr; simp only [go_sem, Nat.reduceBEq, Nat.reduceBneDiff, Nat.reduceLT, Nat.reduceLeDiff, Nat.reduceAdd, Nat.reduceMul, Nat.reduceSub, Nat.reduceEqDiff, reduceCtorEq, encTs_len, hw1, hlk, htk, e1, e2, g1, e3, encPs_take, hnext, hlk1, Int.reduceToNat] at hr; subst hr; (first | refine awV ?_ ?_ | refine awW ?_ ?_ | refine endK ?_ ?_ | refine endGK ?_ ?_ ?_ | (refine condK (fun h => ?_) (fun h => ?_) <;> (try simp only [go_sem, reduceCtorEq] at h) <;> (try (exfalso; omega))))) | fail)) <;> (try omega)
      exact ⟨k + 1, by simp only [go_sem, Nat.reduceBEq, Nat.reduceBneDiff, Nat.reduceLT, Nat.reduceLeDiff, Nat.reduceAdd, Nat.reduceMul, Nat.reduceSub, Nat.reduceEqDiff, reduceCtorEq]; exact rfl, ⟨by omega, by omega⟩, by omega⟩
  · have hmin : ((min (rs.length : Int) 260)).toNat = min 260 rs.length := by omega
    have hR : rs.take (min 260 rs.length) = rs.take 260 := List.take_eq_take_iff.2 (by omega)
    have hke : k = (cutT ts).length := by rw [cutT_len]; omega
    have hcu : (ts.take k).map cutP = cutT ts := by rw [cutT, List.take_eq_take_iff.2 (show min k ts.length = min 120 ts.length by omega)]
    rw [hcu] at hlk htk
    rw [hcu]
    by_cases h1 : k < ts.length
    · have e1 : ((k : Int) < ts.length) = True := eq_true (by omega)
      have e2 : ((k : Int) < 120) = False := eq_false (by omega)
      (repeat' (first
    | exact trivial
    | (with_reducible first | refine awA ?_ | refine awB ?_ | refine awC ?_ | refine awD ?_ | refine awE ?_ | refine awF ?_ | refine awG ?_ | refine awH ?_ | refine awI ?_ | refine awJ ?_ | refine awK ?_ | refine awL ?_ | refine awM (by decide) ?_)
    | (refine aw_draw (id := 9) (t := (.node [0, 1, 2, 3, 4, 5, 6, 7, 8, 9, 10, 11] [])) (drR [1] [37] []) mixed (by kernel_rfl) (by kernel_rfl) (fun _ _ h => h) ?_)
    | (refine at_done (by simp only [List.filterMap_cons, List.filterMap_nil, List.getElem?_toArray, List.getElem?_cons_zero, List.getElem?_cons_succ]; exact rfl) ?_) | (refine at_alt (by simp only [List.filterMap_cons, List.filterMap_nil, List.getElem?_toArray, List.getElem?_cons_zero, List.getElem?_cons_succ]; exact rfl) ?_) | refine qalt_normal ?_ | refine ats_cons ?_ ?_ | exact ats_nil
    | ((with_reducible first | refine awN (tyOf_ok _) [] ?_ | refine awO (tyOf_ok _) [] ?_ | refine awP (tyOf_ok _) [] ?_ | refine awQ ?_ | refine awR ?_ | refine awS ?_ | refine awT ?_ | refine awU ?_); intro r hr; simp only [go_sem, Nat.reduceBEq, Nat.reduceBneDiff, Nat.reduceLT, Nat.reduceLeDiff, Nat.reduceAdd, Nat.reduceMul, Nat.reduceSub, Nat.reduceEqDiff, reduceCtorEq, encTs_len, encRs_len, hw1, hlk, htk, e1, e2, encRs_take, hmin, hR, Int.toNat_zero, List.drop_zero] at hr; subst hr; (first | refine awV ?_ ?_ | refine awW ?_ ?_ | refine endK ?_ ?_ | refine endGK ?_ ?_ ?_ | (refine condK (fun h => ?_) (fun h => ?_) <;> (try simp only [go_sem, reduceCtorEq] at h) <;> (try (exfalso; omega))))) | fail)) <;> (try omega)
      · simp only [List.length_take]; omega
      · rw [cutV, ← hke]; exact AV.up_rfl _
      · exact obUp_cons rfl (obUp_cons rfl obUp_nil)
    · have e1 : ((k : Int) < ts.length) = False := eq_false (by omega)
      (repeat' (first
    | exact trivial
    | (with_reducible first | refine awA ?_ | refine awB ?_ | refine awC ?_ | refine awD ?_ | refine awE ?_ | refine awF ?_ | refine awG ?_ | refine awH ?_ | refine awI ?_ | refine awJ ?_ | refine awK ?_ | refine awL ?_ | refine awM (by decide) ?_)
    | (refine aw_draw (id := 9) (t := (.node [0, 1, 2, 3, 4, 5, 6, 7, 8, 9, 10, 11] [])) (drR [1] [37] []) mixed (by kernel_rfl) (by kernel_rfl) (fun _ _ h => h) ?_)
    | (refine at_done (by simp only [List.filterMap_cons, List.filterMap_nil, List.getElem?_toArray, List.getElem?_cons_zero, List.getElem?_cons_succ]; exact rfl) ?_) | (refine at_alt (by simp only [List.filterMap_cons, List.filterMap_nil, List.getElem?_toArray, List.getElem?_cons_zero, List.getElem?_cons_succ]; exact rfl) ?_) | refine qalt_normal ?_ | refine ats_cons ?_ ?_ | exact ats_nil
    | ((with_reducible first | refine awN (tyOf_ok _) [] ?_ | refine awO (tyOf_ok _) [] ?_ | refine awP (tyOf_ok _) [] ?_ | refine awQ ?_ | refine awR ?_ | refine awS ?_ | refine awT ?_ | refine awU ?_); intro r hr; simp only [go_sem, Nat.reduceBEq, Nat.reduceBneDiff, Nat.reduceLT, Nat.reduceLeDiff, Nat.reduceAdd, Nat.reduceMul, Nat.reduceSub, Nat.reduceEqDiff, reduceCtorEq, encTs_len, encRs_len, hw1, hlk, htk, e1, encRs_take, hmin, hR, Int.toNat_zero, List.drop_zero] at hr; subst hr; (first | refine awV ?_ ?_ | refine awW ?_ ?_ | refine endK ?_ ?_ | refine endGK ?_ ?_ ?_ | (refine condK (fun h => ?_) (fun h => ?_) <;> (try simp only [go_sem, reduceCtorEq] at h) <;> (try (exfalso; omega))))) | fail)) <;> (try omega)
      · simp only [List.length_take]; omega
      · rw [cutV, ← hke]; exact AV.up_rfl _
      · exact obUp_cons rfl (obUp_cons rfl obUp_nil)
end Go.Proofs.Ytfgacgpicfknpaa
end
