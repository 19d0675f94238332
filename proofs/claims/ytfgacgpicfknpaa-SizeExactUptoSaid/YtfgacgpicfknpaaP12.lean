import Derived.Test.YtfgacgpicfknpaaRows
import Derived.ProofKit
import Derived.OpenShut
import Derived.ShutString
import Derived.ChangeOld
import Derived.Deep.Slices
import Derived.JoinedCond
import Derived.Test.YtfgacgpicfknpaaP11
set_option linter.all false
section
namespace Go.Proofs.Ytfgacgpicfknpaa
open Go.RowKit
set_option maxRecDepth 100000
set_option maxHeartbeats 8000000
/-! mortiseref10.leaf, one, Of: the same extents. -/
theorem rleaf_any (t : TypeM) (L : List ExtM) (hk : t.kind = 1 ∨ t.kind = 2 ∨ t.kind = 3) : PCall Try.prog 90 [.agg [vI t.kind, vI t.n, vI t.elem, .lst 3 (encPs t.parts)]] (fun r => r = vE (extM t L)) := by
  refine go_fn (tyOf_ok _) Try.func90 rfl rfl (by rw [Try.results90]) Try.ntmps90 rfl fun E => ?_
  rcases hk with h | h | h
  · have k1 : (t.kind = 1) = True := eq_true h
    generalize hE : extM t L = e
    unfold extM at hE
    rw [if_pos h] at hE
    subst hE
    (repeat' (first
    | exact trivial
    | (with_reducible first | refine awA ?_ | refine awB ?_ | refine awC ?_ | refine awD ?_ | refine awE ?_ | refine awF ?_ | refine awG ?_ | refine awH ?_ | refine awI ?_ | refine awJ ?_ | refine awK ?_ | refine awL ?_ | refine awM (by decide) ?_)
    | ((with_reducible first | refine awN (tyOf_ok _) [] ?_ | refine awO (tyOf_ok _) [] ?_ | refine awP (tyOf_ok _) [] ?_ | refine awQ ?_ | refine awR ?_ | refine awS ?_); intro r hr; simp only [go_sem, Nat.reduceBEq, Nat.reduceBneDiff, Nat.reduceLT, Nat.reduceLeDiff, Nat.reduceAdd, Nat.reduceMul, Nat.reduceSub, Nat.reduceEqDiff, reduceCtorEq, k1] at hr; subst hr; (first | refine awV ?_ ?_ | refine awW ?_ ?_ | refine endK ?_ ?_ | (refine condK (fun h => ?_) (fun h => ?_) <;> (try simp only [go_sem, reduceCtorEq] at h) <;> (try (exfalso; omega))))) | fail)) <;> (try omega)
    exact rfl
  · have k1 : (t.kind = 1) = False := eq_false (by omega)
    have k2 : (t.kind = 2) = True := eq_true h
    generalize hE : extM t L = e
    unfold extM at hE
    rw [if_neg (by omega), if_pos h] at hE
    subst hE
    (repeat' (first
    | exact trivial
    | (with_reducible first | refine awA ?_ | refine awB ?_ | refine awC ?_ | refine awD ?_ | refine awE ?_ | refine awF ?_ | refine awG ?_ | refine awH ?_ | refine awI ?_ | refine awJ ?_ | refine awK ?_ | refine awL ?_ | refine awM (by decide) ?_)
    | ((with_reducible first | refine awN (tyOf_ok _) [] ?_ | refine awO (tyOf_ok _) [] ?_ | refine awP (tyOf_ok _) [] ?_ | refine awQ ?_ | refine awR ?_ | refine awS ?_); intro r hr; simp only [go_sem, Nat.reduceBEq, Nat.reduceBneDiff, Nat.reduceLT, Nat.reduceLeDiff, Nat.reduceAdd, Nat.reduceMul, Nat.reduceSub, Nat.reduceEqDiff, reduceCtorEq, k1, k2] at hr; subst hr; (first | refine awV ?_ ?_ | refine awW ?_ ?_ | refine endK ?_ ?_ | (refine condK (fun h => ?_) (fun h => ?_) <;> (try simp only [go_sem, reduceCtorEq] at h) <;> (try (exfalso; omega))))) | fail)) <;> (try omega)
    exact rfl
  · have k1 : (t.kind = 1) = False := eq_false (by omega)
    have k2 : (t.kind = 2) = False := eq_false (by omega)
    generalize hE : extM t L = e
    unfold extM at hE
    rw [if_neg (by omega), if_neg (by omega), if_pos h] at hE
    subst hE
    (repeat' (first
    | exact trivial
    | (with_reducible first | refine awA ?_ | refine awB ?_ | refine awC ?_ | refine awD ?_ | refine awE ?_ | refine awF ?_ | refine awG ?_ | refine awH ?_ | refine awI ?_ | refine awJ ?_ | refine awK ?_ | refine awL ?_ | refine awM (by decide) ?_)
    | ((with_reducible first | refine awN (tyOf_ok _) [] ?_ | refine awO (tyOf_ok _) [] ?_ | refine awP (tyOf_ok _) [] ?_ | refine awQ ?_ | refine awR ?_ | refine awS ?_); intro r hr; simp only [go_sem, Nat.reduceBEq, Nat.reduceBneDiff, Nat.reduceLT, Nat.reduceLeDiff, Nat.reduceAdd, Nat.reduceMul, Nat.reduceSub, Nat.reduceEqDiff, reduceCtorEq, k1, k2] at hr; subst hr; (first | refine awV ?_ ?_ | refine awW ?_ ?_ | refine endK ?_ ?_ | (refine condK (fun h => ?_) (fun h => ?_) <;> (try simp only [go_sem, reduceCtorEq] at h) <;> (try (exfalso; omega))))) | fail)) <;> (try omega)
    exact rfl
def extD (e : ExtM) : Prop := extG e ∧ e.depth ≤ 1000000000000
theorem plus_max {a b : Int} (ha : 0 ≤ a ∧ a ≤ 4611686018427387904) (hb : 0 ≤ b ∧ b ≤ 4611686018427387904) : max (plusL [1, a]) (plusL [1, b]) = plusL [1, max a b] := by
  rw [plus2 (by omega) ha, plus2 (by omega) hb, plus2 (by omega) (by omega)]; omega
theorem rone_any (t : TypeM) (L : List ExtM) (hr : rightOK t L.length = true) (hL : ∀ e ∈ L, extD e) :
    PCall Try.prog 67 [.agg [vI t.kind, vI t.n, vI t.elem, .lst 3 (encPs t.parts)], .lst 4 (encEs L)] (fun r => r = vE (extM t L)) := by
  have hty := rightOK_ty hr
  have hat : ∀ i : Int, 0 ≤ i → i < L.length → extD (atE L i) := fun i h0 h1 => by
    rw [atE_get (by omega)]; exact hL _ (List.getElem_mem _)
  refine go_fn (tyOf_ok _) Try.func67 rfl rfl (by rw [Try.results67]) Try.ntmps67 rfl fun E => ?_
  rcases rightOK_kind hr with hk | hk | hk
  · have hlf := rleaf_any t L hk
    have k4 : (t.kind = 4) = False := eq_false (by omega)
    have k5 : (t.kind = 5) = False := eq_false (by omega)
    have k6 : (t.kind = 6) = False := eq_false (by omega)
    have k7 : (t.kind = 7) = False := eq_false (by omega)
    have k8 : (t.kind = 8) = False := eq_false (by omega)
    unfold vE at hlf ⊢
    (repeat' (first
    | exact trivial
    | (with_reducible first | refine awA ?_ | refine awB ?_ | refine awC ?_ | refine awD ?_ | refine awE ?_ | refine awF ?_ | refine awG ?_ | refine awH ?_ | refine awI ?_ | refine awJ ?_ | refine awK ?_ | refine awL ?_ | refine awM (by decide) ?_)
    | (refine aw_draw (id := 4) (t := (.node [0, 1, 2, 3, 4, 5, 6, 7, 8, 10, 11, 12, 14, 15, 16, 17, 18, 19, 20, 9, 13, 21, 22] [])) (drR [2] [35, 49] []) mixed (by kernel_rfl) (by kernel_rfl) (fun _ _ h => h) ?_)
    | (refine aw_draw (id := 7) (t := (.node [0, 1, 2, 4, 5, 6, 7, 8, 9, 10, 3, 11, 12] [])) (drR [2] [72] []) mixed (by kernel_rfl) (by kernel_rfl) (fun _ _ h => h) ?_)
    | (refine aw_draw (id := 9) (t := (.node [0, 1, 2, 3, 4, 5, 7, 8, 9, 10, 11, 12, 13, 6, 14, 15] [])) (drR [2] [82, 89] []) mixed (by kernel_rfl) (by kernel_rfl) (fun _ _ h => h) ?_)
    | (refine aw_draw (id := 17) (t := (.node [0, 1, 3, 4, 6, 7, 8, 2, 5, 9, 10] [])) (drR [9] [] []) mixed (by kernel_rfl) (by kernel_rfl) (fun _ _ h => h) ?_)
    | (refine aw_draw (id := 25) (t := (.node [0, 1, 2, 3, 4, 5, 6, 7, 8, 10, 11, 12, 14, 15, 16, 17, 18, 9, 13, 19, 20] [])) (drR [14] [169, 175, 179, 183] []) mixed (by kernel_rfl) (by kernel_rfl) (fun _ _ h => h) ?_)
    | (refine at_done (by simp only [List.filterMap_cons, List.filterMap_nil, List.getElem?_toArray, List.getElem?_cons_zero, List.getElem?_cons_succ]; exact rfl) ?_) | (refine at_alt (by simp only [List.filterMap_cons, List.filterMap_nil, List.getElem?_toArray, List.getElem?_cons_zero, List.getElem?_cons_succ]; exact rfl) ?_) | refine qalt_normal ?_ | refine ats_cons ?_ ?_ | exact ats_nil
    | ((with_reducible first | refine awN (tyOf_ok _) [] ?_ | refine awO (tyOf_ok _) [] ?_ | refine awP (tyOf_ok _) [] ?_ | refine awQ ?_ | refine awR ?_ | refine awS ?_); intro r hr; simp only [go_sem, Nat.reduceBEq, Nat.reduceBneDiff, Nat.reduceLT, Nat.reduceLeDiff, Nat.reduceAdd, Nat.reduceMul, Nat.reduceSub, Nat.reduceEqDiff, reduceCtorEq, k4, k5, k6, k7, k8] at hr; subst hr; (first | refine caA (fun _ => hlf) rfl ?_ ?_ ?_ | refine awV ?_ ?_ | refine awW ?_ ?_ | refine endK ?_ ?_ | (refine condK (fun h => ?_) (fun h => ?_) <;> (try simp only [go_sem, reduceCtorEq] at h) <;> (try (exfalso; omega))))) | fail)) <;> (try omega)
    exact rfl
  · have he := hty.1 hk
    have hn := rightOK_n hr hk
    have g1 := encEs_atI (L := L) he.1 he.2
    obtain ⟨hG, hD⟩ := hat _ he.1 he.2
    unfold extG at hG
    have hpt := rpart_any (atE L t.elem) (by unfold I64; omega) (by unfold I64; omega)
    have w1 := withinM_bd (f := (atE L t.elem).fixed) (b := (atE L t.elem).least) (by omega)
    have w2 := withinM_bd (f := (atE L t.elem).fixed) (b := (atE L t.elem).most) (by omega)
    have hd := wrap_i64 (n := 1 + (atE L t.elem).depth) (by omega)
    have t1 := rtimes_any t.n (withinM (atE L t.elem).fixed (atE L t.elem).least) (by unfold I64; omega) (by unfold I64; omega)
    have t2 := rtimes_any t.n (withinM (atE L t.elem).fixed (atE L t.elem).most) (by unfold I64; omega) (by unfold I64; omega)
    have p1 := rplus_any 1 (atE L t.elem).most (by decide) (by unfold I64; omega)
    rcases hk with h | h | h
    · have k4 : (t.kind = 4) = True := eq_true h
      generalize hE : extM t L = e
      unfold extM at hE
      rw [if_neg (by omega), if_neg (by omega), if_neg (by omega), if_pos h] at hE
      subst hE
      (repeat' (first
    | exact trivial
    | (with_reducible first | refine awA ?_ | refine awB ?_ | refine awC ?_ | refine awD ?_ | refine awE ?_ | refine awF ?_ | refine awG ?_ | refine awH ?_ | refine awI ?_ | refine awJ ?_ | refine awK ?_ | refine awL ?_ | refine awM (by decide) ?_)
    | (refine aw_draw (id := 4) (t := (.node [0, 1, 2, 3, 4, 5, 6, 7, 8, 10, 11, 12, 14, 15, 16, 17, 18, 19, 20, 9, 13, 21, 22] [])) (drR [2] [35, 49] []) mixed (by kernel_rfl) (by kernel_rfl) (fun _ _ h => h) ?_)
    | (refine aw_draw (id := 7) (t := (.node [0, 1, 2, 4, 5, 6, 7, 8, 9, 10, 3, 11, 12] [])) (drR [2] [72] []) mixed (by kernel_rfl) (by kernel_rfl) (fun _ _ h => h) ?_)
    | (refine aw_draw (id := 9) (t := (.node [0, 1, 2, 3, 4, 5, 7, 8, 9, 10, 11, 12, 13, 6, 14, 15] [])) (drR [2] [82, 89] []) mixed (by kernel_rfl) (by kernel_rfl) (fun _ _ h => h) ?_)
    | (refine aw_draw (id := 17) (t := (.node [0, 1, 3, 4, 6, 7, 8, 2, 5, 9, 10] [])) (drR [9] [] []) mixed (by kernel_rfl) (by kernel_rfl) (fun _ _ h => h) ?_)
    | (refine aw_draw (id := 25) (t := (.node [0, 1, 2, 3, 4, 5, 6, 7, 8, 10, 11, 12, 14, 15, 16, 17, 18, 9, 13, 19, 20] [])) (drR [14] [169, 175, 179, 183] []) mixed (by kernel_rfl) (by kernel_rfl) (fun _ _ h => h) ?_)
    | (refine at_done (by simp only [List.filterMap_cons, List.filterMap_nil, List.getElem?_toArray, List.getElem?_cons_zero, List.getElem?_cons_succ]; exact rfl) ?_) | (refine at_alt (by simp only [List.filterMap_cons, List.filterMap_nil, List.getElem?_toArray, List.getElem?_cons_zero, List.getElem?_cons_succ]; exact rfl) ?_) | refine qalt_normal ?_ | refine ats_cons ?_ ?_ | exact ats_nil
    | ((with_reducible first | refine awN (tyOf_ok _) [] ?_ | refine awO (tyOf_ok _) [] ?_ | refine awP (tyOf_ok _) [] ?_ | refine awQ ?_ | refine awR ?_ | refine awS ?_); intro r hr; simp only [go_sem, Nat.reduceBEq, Nat.reduceBneDiff, Nat.reduceLT, Nat.reduceLeDiff, Nat.reduceAdd, Nat.reduceMul, Nat.reduceSub, Nat.reduceEqDiff, reduceCtorEq, encEs_len, g1, k4, hd] at hr; subst hr; (first | refine caA (fun _ => hpt) rfl ?_ ?_ ?_ | refine caA (fun _ => t1) rfl ?_ ?_ ?_ | refine caA (fun _ => t2) rfl ?_ ?_ ?_ | refine awV ?_ ?_ | refine awW ?_ ?_ | refine endK ?_ ?_ | (refine condK (fun h => ?_) (fun h => ?_) <;> (try simp only [go_sem, reduceCtorEq] at h) <;> (try (exfalso; omega))))) | fail)) <;> (try omega)
      exact rfl
    · have k4 : (t.kind = 4) = False := eq_false (by omega)
      have k5 : (t.kind = 5) = True := eq_true h
      generalize hE : extM t L = e
      unfold extM at hE
      rw [if_neg (by omega), if_neg (by omega), if_neg (by omega), if_neg (by omega), if_pos h] at hE
      subst hE
      (repeat' (first
    | exact trivial
    | (with_reducible first | refine awA ?_ | refine awB ?_ | refine awC ?_ | refine awD ?_ | refine awE ?_ | refine awF ?_ | refine awG ?_ | refine awH ?_ | refine awI ?_ | refine awJ ?_ | refine awK ?_ | refine awL ?_ | refine awM (by decide) ?_)
    | (refine aw_draw (id := 4) (t := (.node [0, 1, 2, 3, 4, 5, 6, 7, 8, 10, 11, 12, 14, 15, 16, 17, 18, 19, 20, 9, 13, 21, 22] [])) (drR [2] [35, 49] []) mixed (by kernel_rfl) (by kernel_rfl) (fun _ _ h => h) ?_)
    | (refine aw_draw (id := 7) (t := (.node [0, 1, 2, 4, 5, 6, 7, 8, 9, 10, 3, 11, 12] [])) (drR [2] [72] []) mixed (by kernel_rfl) (by kernel_rfl) (fun _ _ h => h) ?_)
    | (refine aw_draw (id := 9) (t := (.node [0, 1, 2, 3, 4, 5, 7, 8, 9, 10, 11, 12, 13, 6, 14, 15] [])) (drR [2] [82, 89] []) mixed (by kernel_rfl) (by kernel_rfl) (fun _ _ h => h) ?_)
    | (refine aw_draw (id := 17) (t := (.node [0, 1, 3, 4, 6, 7, 8, 2, 5, 9, 10] [])) (drR [9] [] []) mixed (by kernel_rfl) (by kernel_rfl) (fun _ _ h => h) ?_)
    | (refine aw_draw (id := 25) (t := (.node [0, 1, 2, 3, 4, 5, 6, 7, 8, 10, 11, 12, 14, 15, 16, 17, 18, 9, 13, 19, 20] [])) (drR [14] [169, 175, 179, 183] []) mixed (by kernel_rfl) (by kernel_rfl) (fun _ _ h => h) ?_)
    | (refine at_done (by simp only [List.filterMap_cons, List.filterMap_nil, List.getElem?_toArray, List.getElem?_cons_zero, List.getElem?_cons_succ]; exact rfl) ?_) | (refine at_alt (by simp only [List.filterMap_cons, List.filterMap_nil, List.getElem?_toArray, List.getElem?_cons_zero, List.getElem?_cons_succ]; exact rfl) ?_) | refine qalt_normal ?_ | refine ats_cons ?_ ?_ | exact ats_nil
    | ((with_reducible first | refine awN (tyOf_ok _) [] ?_ | refine awO (tyOf_ok _) [] ?_ | refine awP (tyOf_ok _) [] ?_ | refine awQ ?_ | refine awR ?_ | refine awS ?_); intro r hr; simp only [go_sem, Nat.reduceBEq, Nat.reduceBneDiff, Nat.reduceLT, Nat.reduceLeDiff, Nat.reduceAdd, Nat.reduceMul, Nat.reduceSub, Nat.reduceEqDiff, reduceCtorEq, encEs_len, g1, k4, k5, hd] at hr; subst hr; (first | refine caA (fun _ => hpt) rfl ?_ ?_ ?_ | refine caA (fun _ => t2) rfl ?_ ?_ ?_ | refine awV ?_ ?_ | refine awW ?_ ?_ | refine endK ?_ ?_ | (refine condK (fun h => ?_) (fun h => ?_) <;> (try simp only [go_sem, reduceCtorEq] at h) <;> (try (exfalso; omega))))) | fail)) <;> (try omega)
      exact rfl
    · have k4 : (t.kind = 4) = False := eq_false (by omega)
      have k5 : (t.kind = 5) = False := eq_false (by omega)
      have k6 : (t.kind = 6) = True := eq_true h
      generalize hE : extM t L = e
      unfold extM at hE
      rw [if_neg (by omega), if_neg (by omega), if_neg (by omega), if_neg (by omega), if_neg (by omega), if_pos h] at hE
      subst hE
      (repeat' (first
    | exact trivial
    | (with_reducible first | refine awA ?_ | refine awB ?_ | refine awC ?_ | refine awD ?_ | refine awE ?_ | refine awF ?_ | refine awG ?_ | refine awH ?_ | refine awI ?_ | refine awJ ?_ | refine awK ?_ | refine awL ?_ | refine awM (by decide) ?_)
    | (refine aw_draw (id := 4) (t := (.node [0, 1, 2, 3, 4, 5, 6, 7, 8, 10, 11, 12, 14, 15, 16, 17, 18, 19, 20, 9, 13, 21, 22] [])) (drR [2] [35, 49] []) mixed (by kernel_rfl) (by kernel_rfl) (fun _ _ h => h) ?_)
    | (refine aw_draw (id := 7) (t := (.node [0, 1, 2, 4, 5, 6, 7, 8, 9, 10, 3, 11, 12] [])) (drR [2] [72] []) mixed (by kernel_rfl) (by kernel_rfl) (fun _ _ h => h) ?_)
    | (refine aw_draw (id := 9) (t := (.node [0, 1, 2, 3, 4, 5, 7, 8, 9, 10, 11, 12, 13, 6, 14, 15] [])) (drR [2] [82, 89] []) mixed (by kernel_rfl) (by kernel_rfl) (fun _ _ h => h) ?_)
    | (refine aw_draw (id := 17) (t := (.node [0, 1, 3, 4, 6, 7, 8, 2, 5, 9, 10] [])) (drR [9] [] []) mixed (by kernel_rfl) (by kernel_rfl) (fun _ _ h => h) ?_)
    | (refine aw_draw (id := 25) (t := (.node [0, 1, 2, 3, 4, 5, 6, 7, 8, 10, 11, 12, 14, 15, 16, 17, 18, 9, 13, 19, 20] [])) (drR [14] [169, 175, 179, 183] []) mixed (by kernel_rfl) (by kernel_rfl) (fun _ _ h => h) ?_)
    | (refine at_done (by simp only [List.filterMap_cons, List.filterMap_nil, List.getElem?_toArray, List.getElem?_cons_zero, List.getElem?_cons_succ]; exact rfl) ?_) | (refine at_alt (by simp only [List.filterMap_cons, List.filterMap_nil, List.getElem?_toArray, List.getElem?_cons_zero, List.getElem?_cons_succ]; exact rfl) ?_) | refine qalt_normal ?_ | refine ats_cons ?_ ?_ | exact ats_nil
    | ((with_reducible first | refine awN (tyOf_ok _) [] ?_ | refine awO (tyOf_ok _) [] ?_ | refine awP (tyOf_ok _) [] ?_ | refine awQ ?_ | refine awR ?_ | refine awS ?_); intro r hr; simp only [go_sem, Nat.reduceBEq, Nat.reduceBneDiff, Nat.reduceLT, Nat.reduceLeDiff, Nat.reduceAdd, Nat.reduceMul, Nat.reduceSub, Nat.reduceEqDiff, reduceCtorEq, encEs_len, g1, k4, k5, k6, hd] at hr; subst hr; (first | refine caA (fun _ => p1) rfl ?_ ?_ ?_ | refine awV ?_ ?_ | refine awW ?_ ?_ | refine endK ?_ ?_ | (refine condK (fun h => ?_) (fun h => ?_) <;> (try simp only [go_sem, reduceCtorEq] at h) <;> (try (exfalso; omega))))) | fail)) <;> (try omega)
      exact rfl
  · have hpp := right_parts hr hk
    have hps : ∀ p ∈ t.parts, (0 ≤ p.ty ∧ p.ty < L.length) ∧ extD (atE L p.ty) := fun p hp => ⟨hty.2 p hp, hat _ (hty.2 p hp).1 (hty.2 p hp).2⟩
    have k4 : (t.kind = 4) = False := eq_false (by omega)
    have k5 : (t.kind = 5) = False := eq_false (by omega)
    have k6 : (t.kind = 6) = False := eq_false (by omega)
    rcases hk with h | h
    · have k7 : (t.kind = 7) = True := eq_true h
      have hx : extM t L = ⟨false, plusL [1, (uni L t.parts (4611686018427387904, 0, 1)).1], (uni L t.parts (4611686018427387904, 0, 1)).2.1, (uni L t.parts (4611686018427387904, 0, 1)).2.2⟩ := by
        unfold extM; rw [if_neg (by omega), if_neg (by omega), if_neg (by omega), if_neg (by omega), if_neg (by omega), if_neg (by omega), if_pos h]
      rw [hx]
      have hl0 : 0 < t.parts.length := by omega
      have g0 := encPs_get hl0
      obtain ⟨⟨q0, q1⟩, ⟨qG, qD⟩⟩ := hps _ (List.getElem_mem hl0)
      have g1 := encEs_atI (L := L) q0 q1
      unfold extG at qG
      (repeat' (first
    | exact trivial
    | (with_reducible first | refine awA ?_ | refine awB ?_ | refine awC ?_ | refine awD ?_ | refine awE ?_ | refine awF ?_ | refine awG ?_ | refine awH ?_ | refine awI ?_ | refine awJ ?_ | refine awK ?_ | refine awL ?_ | refine awM (by decide) ?_)
    | (refine aw_draw (id := 4) (t := (.node [0, 1, 2, 3, 4, 5, 6, 7, 8, 10, 11, 12, 14, 15, 16, 17, 18, 19, 20, 9, 13, 21, 22] [])) (drR [2] [35, 49] []) mixed (by kernel_rfl) (by kernel_rfl) (fun _ _ h => h) ?_)
    | (refine aw_draw (id := 7) (t := (.node [0, 1, 2, 4, 5, 6, 7, 8, 9, 10, 3, 11, 12] [])) (drR [2] [72] []) mixed (by kernel_rfl) (by kernel_rfl) (fun _ _ h => h) ?_)
    | (refine aw_draw (id := 9) (t := (.node [0, 1, 2, 3, 4, 5, 7, 8, 9, 10, 11, 12, 13, 6, 14, 15] [])) (drR [2] [82, 89] []) mixed (by kernel_rfl) (by kernel_rfl) (fun _ _ h => h) ?_)
    | (refine aw_draw (id := 17) (t := (.node [0, 1, 3, 4, 6, 7, 8, 2, 5, 9, 10] [])) (drR [9] [] []) mixed (by kernel_rfl) (by kernel_rfl) (fun _ _ h => h) ?_)
    | (refine aw_draw (id := 25) (t := (.node [0, 1, 2, 3, 4, 5, 6, 7, 8, 10, 11, 12, 14, 15, 16, 17, 18, 9, 13, 19, 20] [])) (drR [14] [169, 175, 179, 183] []) mixed (by kernel_rfl) (by kernel_rfl) (fun _ _ h => h) ?_)
    | (refine at_done (by simp only [List.filterMap_cons, List.filterMap_nil, List.getElem?_toArray, List.getElem?_cons_zero, List.getElem?_cons_succ]; exact rfl) ?_) | (refine at_alt (by simp only [List.filterMap_cons, List.filterMap_nil, List.getElem?_toArray, List.getElem?_cons_zero, List.getElem?_cons_succ]; exact rfl) ?_) | refine qalt_normal ?_ | refine ats_cons ?_ ?_ | exact ats_nil
    | ((with_reducible first | refine awN (tyOf_ok _) [] ?_ | refine awO (tyOf_ok _) [] ?_ | refine awP (tyOf_ok _) [] ?_ | refine awQ ?_ | refine awR ?_ | refine awS ?_); intro r hr; simp only [go_sem, Nat.reduceBEq, Nat.reduceBneDiff, Nat.reduceLT, Nat.reduceLeDiff, Nat.reduceAdd, Nat.reduceMul, Nat.reduceSub, Nat.reduceEqDiff, reduceCtorEq, encEs_len, encPs_len, g0, g1, k4, k5, k6, k7, Int.toNat_zero] at hr; subst hr; (first | refine awV ?_ ?_ | refine awW ?_ ?_ | refine endK ?_ ?_ | (refine condK (fun h => ?_) (fun h => ?_) <;> (try simp only [go_sem, reduceCtorEq] at h) <;> (try (exfalso; omega))))) | fail)) <;> (try omega)
      refine go_loop [1, 2, 4, 9, 10] [2, 4, 9] (fun q : Nat × ExtM => ⟨[(1, true, .lst 4 (encEs L)), (2, true, .ptr 1 2 0 0), (4, true, .ptr 1 4 0 0), (9, true, .ptr 1 9 0 0), (10, true, vI q.1)],
          [(2, .var [vI t.kind, vI t.n, vI t.elem, .lst 3 (encPs t.parts)]), (4, .var [vB false, vI 0, vI 0, vI 0]), (9, .var [vB q.2.fixed, vI q.2.least, vI q.2.most, vI q.2.depth])]⟩)
        (fun q => q.1 ≤ t.parts.length ∧ uni L (t.parts.take q.1) (4611686018427387904, 0, 1) = (q.2.least, plusL [1, q.2.most], 1 + q.2.depth) ∧ (0 ≤ q.2.least ∧ q.2.least ≤ 4611686018427387904) ∧ (0 ≤ q.2.most ∧ q.2.most ≤ 4611686018427387904) ∧ 0 ≤ q.2.depth ∧ q.2.depth ≤ 1000000000000)
        (fun q => t.parts.length - q.1) (1, atE L t.parts[0].ty) (by simp only [go_sem, Nat.reduceBEq, Nat.reduceBneDiff, Nat.reduceLT, Nat.reduceLeDiff, Nat.reduceAdd, Nat.reduceMul, Nat.reduceSub, Nat.reduceEqDiff, reduceCtorEq] <;> exact rfl) ⟨hl0, ?_, by simp only; omega, by simp only; omega, by simp only; omega, by simp only; omega⟩ ?_
      · rw [List.take_succ_eq_append_getElem hl0, List.take_zero, List.nil_append]
        show ((min (4611686018427387904 : Int) (atE L t.parts[0].ty).least, max (0 : Int) (plusL [1, (atE L t.parts[0].ty).most]), max (1 : Int) (1 + (atE L t.parts[0].ty).depth)) : Int × Int × Int) = _
        have hb := plusL_bd [1, (atE L t.parts[0].ty).most]
        rw [Int.max_eq_right hb.1, Int.max_eq_right (by omega), Int.min_eq_right (by omega)]
        rfl
      intro ⟨k, e⟩ ⟨hk, hu, hl, hm, hd0, hd1⟩
      simp only at hk hu hl hm hd0 hd1
      have hwk := wrap_i64 (n := (k : Int) + 1) (by omega)
      by_cases hlt : k < t.parts.length
      · have f1 : ((k : Int) < t.parts.length) = True := eq_true (by omega)
        have g3 := encPs_get hlt
        obtain ⟨⟨r0, r1⟩, ⟨rG, rD⟩⟩ := hps _ (List.getElem_mem hlt)
        have g4 := encEs_atI (L := L) r0 r1
        unfold extG at rG
        have hnx : uni L (t.parts.take (k + 1)) (4611686018427387904, 0, 1) = (min e.least (atE L t.parts[k].ty).least, plusL [1, max e.most (atE L t.parts[k].ty).most], 1 + max e.depth (atE L t.parts[k].ty).depth) := by
          rw [List.take_succ_eq_append_getElem hlt, uni, List.foldl_append]
          have hu' : (t.parts.take k).foldl (fun x p => (min x.1 (atE L p.ty).least, max x.2.1 (plusL [1, (atE L p.ty).most]), max x.2.2 (1 + (atE L p.ty).depth))) (4611686018427387904, 0, 1) = (e.least, plusL [1, e.most], 1 + e.depth) := hu
          rw [hu']
          show (min e.least (atE L t.parts[k].ty).least, max (plusL [1, e.most]) (plusL [1, (atE L t.parts[k].ty).most]), max (1 + e.depth) (1 + (atE L t.parts[k].ty).depth)) = _
          rw [plus_max hm (by omega)]
          congr 2
          omega
        generalize t.parts[k] = p at *
        (repeat' (first
    | exact trivial
    | (with_reducible first | refine awA ?_ | refine awB ?_ | refine awC ?_ | refine awD ?_ | refine awE ?_ | refine awF ?_ | refine awG ?_ | refine awH ?_ | refine awI ?_ | refine awJ ?_ | refine awK ?_ | refine awL ?_ | refine awM (by decide) ?_)
    | (refine aw_draw (id := 4) (t := (.node [0, 1, 2, 3, 4, 5, 6, 7, 8, 10, 11, 12, 14, 15, 16, 17, 18, 19, 20, 9, 13, 21, 22] [])) (drR [2] [35, 49] []) mixed (by kernel_rfl) (by kernel_rfl) (fun _ _ h => h) ?_)
    | (refine aw_draw (id := 7) (t := (.node [0, 1, 2, 4, 5, 6, 7, 8, 9, 10, 3, 11, 12] [])) (drR [2] [72] []) mixed (by kernel_rfl) (by kernel_rfl) (fun _ _ h => h) ?_)
    | (refine aw_draw (id := 9) (t := (.node [0, 1, 2, 3, 4, 5, 7, 8, 9, 10, 11, 12, 13, 6, 14, 15] [])) (drR [2] [82, 89] []) mixed (by kernel_rfl) (by kernel_rfl) (fun _ _ h => h) ?_)
    | (refine aw_draw (id := 17) (t := (.node [0, 1, 3, 4, 6, 7, 8, 2, 5, 9, 10] [])) (drR [9] [] []) mixed (by kernel_rfl) (by kernel_rfl) (fun _ _ h => h) ?_)
    | (refine aw_draw (id := 25) (t := (.node [0, 1, 2, 3, 4, 5, 6, 7, 8, 10, 11, 12, 14, 15, 16, 17, 18, 9, 13, 19, 20] [])) (drR [14] [169, 175, 179, 183] []) mixed (by kernel_rfl) (by kernel_rfl) (fun _ _ h => h) ?_)
    | (refine at_done (by simp only [List.filterMap_cons, List.filterMap_nil, List.getElem?_toArray, List.getElem?_cons_zero, List.getElem?_cons_succ]; exact rfl) ?_) | (refine at_alt (by simp only [List.filterMap_cons, List.filterMap_nil, List.getElem?_toArray, List.getElem?_cons_zero, List.getElem?_cons_succ]; exact rfl) ?_) | refine qalt_normal ?_ | refine ats_cons ?_ ?_ | exact ats_nil
    | ((with_reducible first | refine awN (tyOf_ok _) [] ?_ | refine awO (tyOf_ok _) [] ?_ | refine awP (tyOf_ok _) [] ?_ | refine awQ ?_ | refine awR ?_ | refine awS ?_); intro r hr; simp only [go_sem, Nat.reduceBEq, Nat.reduceBneDiff, Nat.reduceLT, Nat.reduceLeDiff, Nat.reduceAdd, Nat.reduceMul, Nat.reduceSub, Nat.reduceEqDiff, reduceCtorEq, encEs_len, encPs_len, hwk, f1, g3, g4] at hr; subst hr; (first | refine awV ?_ ?_ | refine awW ?_ ?_ | refine endK ?_ ?_ | (refine condK (fun h => ?_) (fun h => ?_) <;> (try simp only [go_sem, reduceCtorEq] at h) <;> (try (exfalso; omega))))) | fail)) <;> (try omega)
        exact ⟨(k + 1, ⟨false, min e.least (atE L p.ty).least, max e.most (atE L p.ty).most, max e.depth (atE L p.ty).depth⟩), by simp only [go_sem, Nat.reduceBEq, Nat.reduceBneDiff, Nat.reduceLT, Nat.reduceLeDiff, Nat.reduceAdd, Nat.reduceMul, Nat.reduceSub, Nat.reduceEqDiff, reduceCtorEq] <;> exact rfl, ⟨hlt, hnx, by simp only; omega, by simp only; omega, by simp only; omega, by simp only; omega⟩, by simp only; omega⟩
      · have f1 : ((k : Int) < t.parts.length) = False := eq_false (by omega)
        rw [take_len (by omega)] at hu
        rw [hu]
        have p1 := rplus_any 1 e.least (by decide) (by unfold I64; omega)
        have p2 := rplus_any 1 e.most (by decide) (by unfold I64; omega)
        have hwd := wrap_i64 (n := 1 + e.depth) (by omega)
        (repeat' (first
    | exact trivial
    | (with_reducible first | refine awA ?_ | refine awB ?_ | refine awC ?_ | refine awD ?_ | refine awE ?_ | refine awF ?_ | refine awG ?_ | refine awH ?_ | refine awI ?_ | refine awJ ?_ | refine awK ?_ | refine awL ?_ | refine awM (by decide) ?_)
    | (refine aw_draw (id := 4) (t := (.node [0, 1, 2, 3, 4, 5, 6, 7, 8, 10, 11, 12, 14, 15, 16, 17, 18, 19, 20, 9, 13, 21, 22] [])) (drR [2] [35, 49] []) mixed (by kernel_rfl) (by kernel_rfl) (fun _ _ h => h) ?_)
    | (refine aw_draw (id := 7) (t := (.node [0, 1, 2, 4, 5, 6, 7, 8, 9, 10, 3, 11, 12] [])) (drR [2] [72] []) mixed (by kernel_rfl) (by kernel_rfl) (fun _ _ h => h) ?_)
    | (refine aw_draw (id := 9) (t := (.node [0, 1, 2, 3, 4, 5, 7, 8, 9, 10, 11, 12, 13, 6, 14, 15] [])) (drR [2] [82, 89] []) mixed (by kernel_rfl) (by kernel_rfl) (fun _ _ h => h) ?_)
    | (refine aw_draw (id := 17) (t := (.node [0, 1, 3, 4, 6, 7, 8, 2, 5, 9, 10] [])) (drR [9] [] []) mixed (by kernel_rfl) (by kernel_rfl) (fun _ _ h => h) ?_)
    | (refine aw_draw (id := 25) (t := (.node [0, 1, 2, 3, 4, 5, 6, 7, 8, 10, 11, 12, 14, 15, 16, 17, 18, 9, 13, 19, 20] [])) (drR [14] [169, 175, 179, 183] []) mixed (by kernel_rfl) (by kernel_rfl) (fun _ _ h => h) ?_)
    | (refine at_done (by simp only [List.filterMap_cons, List.filterMap_nil, List.getElem?_toArray, List.getElem?_cons_zero, List.getElem?_cons_succ]; exact rfl) ?_) | (refine at_alt (by simp only [List.filterMap_cons, List.filterMap_nil, List.getElem?_toArray, List.getElem?_cons_zero, List.getElem?_cons_succ]; exact rfl) ?_) | refine qalt_normal ?_ | refine ats_cons ?_ ?_ | exact ats_nil
    | ((with_reducible first | refine awN (tyOf_ok _) [] ?_ | refine awO (tyOf_ok _) [] ?_ | refine awP (tyOf_ok _) [] ?_ | refine awQ ?_ | refine awR ?_ | refine awS ?_); intro r hr; simp only [go_sem, Nat.reduceBEq, Nat.reduceBneDiff, Nat.reduceLT, Nat.reduceLeDiff, Nat.reduceAdd, Nat.reduceMul, Nat.reduceSub, Nat.reduceEqDiff, reduceCtorEq, encPs_len, f1, hwd] at hr; subst hr; (first | refine caA (fun _ => p1) rfl ?_ ?_ ?_ | refine caA (fun _ => p2) rfl ?_ ?_ ?_ | refine awV ?_ ?_ | refine awW ?_ ?_ | refine endK ?_ ?_ | (refine condK (fun h => ?_) (fun h => ?_) <;> (try simp only [go_sem, reduceCtorEq] at h) <;> (try (exfalso; omega))))) | fail)) <;> (try omega)
        exact rfl
    · have k7 : (t.kind = 7) = False := eq_false (by omega)
      have k8 : (t.kind = 8) = True := eq_true h
      have hx : extM t L = str L t.parts ⟨true, 0, 0, 1⟩ := by
        unfold extM; rw [if_neg (by omega), if_neg (by omega), if_neg (by omega), if_neg (by omega), if_neg (by omega), if_neg (by omega), if_neg (by omega)]
      rw [hx]
      (repeat' (first
    | exact trivial
    | (with_reducible first | refine awA ?_ | refine awB ?_ | refine awC ?_ | refine awD ?_ | refine awE ?_ | refine awF ?_ | refine awG ?_ | refine awH ?_ | refine awI ?_ | refine awJ ?_ | refine awK ?_ | refine awL ?_ | refine awM (by decide) ?_)
    | (refine aw_draw (id := 4) (t := (.node [0, 1, 2, 3, 4, 5, 6, 7, 8, 10, 11, 12, 14, 15, 16, 17, 18, 19, 20, 9, 13, 21, 22] [])) (drR [2] [35, 49] []) mixed (by kernel_rfl) (by kernel_rfl) (fun _ _ h => h) ?_)
    | (refine aw_draw (id := 7) (t := (.node [0, 1, 2, 4, 5, 6, 7, 8, 9, 10, 3, 11, 12] [])) (drR [2] [72] []) mixed (by kernel_rfl) (by kernel_rfl) (fun _ _ h => h) ?_)
    | (refine aw_draw (id := 9) (t := (.node [0, 1, 2, 3, 4, 5, 7, 8, 9, 10, 11, 12, 13, 6, 14, 15] [])) (drR [2] [82, 89] []) mixed (by kernel_rfl) (by kernel_rfl) (fun _ _ h => h) ?_)
    | (refine aw_draw (id := 17) (t := (.node [0, 1, 3, 4, 6, 7, 8, 2, 5, 9, 10] [])) (drR [9] [] []) mixed (by kernel_rfl) (by kernel_rfl) (fun _ _ h => h) ?_)
    | (refine aw_draw (id := 25) (t := (.node [0, 1, 2, 3, 4, 5, 6, 7, 8, 10, 11, 12, 14, 15, 16, 17, 18, 9, 13, 19, 20] [])) (drR [14] [169, 175, 179, 183] []) mixed (by kernel_rfl) (by kernel_rfl) (fun _ _ h => h) ?_)
    | (refine at_done (by simp only [List.filterMap_cons, List.filterMap_nil, List.getElem?_toArray, List.getElem?_cons_zero, List.getElem?_cons_succ]; exact rfl) ?_) | (refine at_alt (by simp only [List.filterMap_cons, List.filterMap_nil, List.getElem?_toArray, List.getElem?_cons_zero, List.getElem?_cons_succ]; exact rfl) ?_) | refine qalt_normal ?_ | refine ats_cons ?_ ?_ | exact ats_nil
    | ((with_reducible first | refine awN (tyOf_ok _) [] ?_ | refine awO (tyOf_ok _) [] ?_ | refine awP (tyOf_ok _) [] ?_ | refine awQ ?_ | refine awR ?_ | refine awS ?_); intro r hr; simp only [go_sem, Nat.reduceBEq, Nat.reduceBneDiff, Nat.reduceLT, Nat.reduceLeDiff, Nat.reduceAdd, Nat.reduceMul, Nat.reduceSub, Nat.reduceEqDiff, reduceCtorEq, encEs_len, encPs_len, k4, k5, k6, k7, k8] at hr; subst hr; (first | refine awV ?_ ?_ | refine awW ?_ ?_ | refine endK ?_ ?_ | (refine condK (fun h => ?_) (fun h => ?_) <;> (try simp only [go_sem, reduceCtorEq] at h) <;> (try (exfalso; omega))))) | fail)) <;> (try omega)
      refine go_loop [1, 2, 4, 12, 13] [2, 4, 12] (fun q : Nat × ExtM => ⟨[(1, true, .lst 4 (encEs L)), (2, true, .ptr 1 2 0 0), (4, true, .ptr 1 4 0 0), (12, true, .ptr 1 12 0 0), (13, true, vI q.1)],
          [(2, .var [vI t.kind, vI t.n, vI t.elem, .lst 3 (encPs t.parts)]), (4, .var [vB false, vI 0, vI 0, vI 0]), (12, .var [vB q.2.fixed, vI q.2.least, vI q.2.most, vI q.2.depth])]⟩)
        (fun q => q.1 ≤ t.parts.length ∧ str L (t.parts.take q.1) ⟨true, 0, 0, 1⟩ = ⟨q.2.fixed, q.2.least, q.2.most, q.2.depth + 1⟩ ∧ (0 ≤ q.2.least ∧ q.2.least ≤ 4611686018427387904) ∧ (0 ≤ q.2.most ∧ q.2.most ≤ 4611686018427387904) ∧ 0 ≤ q.2.depth ∧ q.2.depth ≤ 1000000000000)
        (fun q => t.parts.length - q.1) (0, ⟨true, 0, 0, 0⟩) (by simp only [go_sem, Nat.reduceBEq, Nat.reduceBneDiff, Nat.reduceLT, Nat.reduceLeDiff, Nat.reduceAdd, Nat.reduceMul, Nat.reduceSub, Nat.reduceEqDiff, reduceCtorEq] <;> exact rfl) ⟨Nat.zero_le _, rfl, by decide, by decide, by decide, by decide⟩ ?_
      intro ⟨k, e⟩ ⟨hk, hu, hl, hm, hd0, hd1⟩
      simp only at hk hu hl hm hd0 hd1
      have hwk := wrap_i64 (n := (k : Int) + 1) (by omega)
      by_cases hlt : k < t.parts.length
      · have f1 : ((k : Int) < t.parts.length) = True := eq_true (by omega)
        have g3 := encPs_get hlt
        obtain ⟨⟨r0, r1⟩, ⟨rG, rD⟩⟩ := hps _ (List.getElem_mem hlt)
        have g4 := encEs_atI (L := L) r0 r1
        unfold extG at rG
        have hnx : str L (t.parts.take (k + 1)) ⟨true, 0, 0, 1⟩ = ⟨e.fixed && (atE L t.parts[k].ty).fixed, plusL [e.least, withinM (atE L t.parts[k].ty).fixed (atE L t.parts[k].ty).least], plusL [e.most, withinM (atE L t.parts[k].ty).fixed (atE L t.parts[k].ty).most], max e.depth (atE L t.parts[k].ty).depth + 1⟩ := by
          rw [List.take_succ_eq_append_getElem hlt, str_snoc, hu, stepS]
          simp only [ExtM.mk.injEq, true_and]
          omega
        generalize t.parts[k] = p at *
        have hpt := rpart_any (atE L p.ty) (by unfold I64; omega) (by unfold I64; omega)
        have w1 := withinM_bd (f := (atE L p.ty).fixed) (b := (atE L p.ty).least) (by omega)
        have w2 := withinM_bd (f := (atE L p.ty).fixed) (b := (atE L p.ty).most) (by omega)
        have p1 := rplus_any e.least (withinM (atE L p.ty).fixed (atE L p.ty).least) (by unfold I64; omega) (by unfold I64; omega)
        have p2 := rplus_any e.most (withinM (atE L p.ty).fixed (atE L p.ty).most) (by unfold I64; omega) (by unfold I64; omega)
        (repeat' (first
    | exact trivial
    | (with_reducible first | refine awA ?_ | refine awB ?_ | refine awC ?_ | refine awD ?_ | refine awE ?_ | refine awF ?_ | refine awG ?_ | refine awH ?_ | refine awI ?_ | refine awJ ?_ | refine awK ?_ | refine awL ?_ | refine awM (by decide) ?_)
    | (refine aw_draw (id := 4) (t := (.node [0, 1, 2, 3, 4, 5, 6, 7, 8, 10, 11, 12, 14, 15, 16, 17, 18, 19, 20, 9, 13, 21, 22] [])) (drR [2] [35, 49] []) mixed (by kernel_rfl) (by kernel_rfl) (fun _ _ h => h) ?_)
    | (refine aw_draw (id := 7) (t := (.node [0, 1, 2, 4, 5, 6, 7, 8, 9, 10, 3, 11, 12] [])) (drR [2] [72] []) mixed (by kernel_rfl) (by kernel_rfl) (fun _ _ h => h) ?_)
    | (refine aw_draw (id := 9) (t := (.node [0, 1, 2, 3, 4, 5, 7, 8, 9, 10, 11, 12, 13, 6, 14, 15] [])) (drR [2] [82, 89] []) mixed (by kernel_rfl) (by kernel_rfl) (fun _ _ h => h) ?_)
    | (refine aw_draw (id := 17) (t := (.node [0, 1, 3, 4, 6, 7, 8, 2, 5, 9, 10] [])) (drR [9] [] []) mixed (by kernel_rfl) (by kernel_rfl) (fun _ _ h => h) ?_)
    | (refine aw_draw (id := 25) (t := (.node [0, 1, 2, 3, 4, 5, 6, 7, 8, 10, 11, 12, 14, 15, 16, 17, 18, 9, 13, 19, 20] [])) (drR [14] [169, 175, 179, 183] []) mixed (by kernel_rfl) (by kernel_rfl) (fun _ _ h => h) ?_)
    | (refine at_done (by simp only [List.filterMap_cons, List.filterMap_nil, List.getElem?_toArray, List.getElem?_cons_zero, List.getElem?_cons_succ]; exact rfl) ?_) | (refine at_alt (by simp only [List.filterMap_cons, List.filterMap_nil, List.getElem?_toArray, List.getElem?_cons_zero, List.getElem?_cons_succ]; exact rfl) ?_) | refine qalt_normal ?_ | refine ats_cons ?_ ?_ | exact ats_nil
    | ((with_reducible first | refine awN (tyOf_ok _) [] ?_ | refine awO (tyOf_ok _) [] ?_ | refine awP (tyOf_ok _) [] ?_ | refine awQ ?_ | refine awR ?_ | refine awS ?_); intro r hr; simp only [go_sem, Nat.reduceBEq, Nat.reduceBneDiff, Nat.reduceLT, Nat.reduceLeDiff, Nat.reduceAdd, Nat.reduceMul, Nat.reduceSub, Nat.reduceEqDiff, reduceCtorEq, encEs_len, encPs_len, hwk, f1, g3, g4] at hr; subst hr; (first | refine caA (fun _ => hpt) rfl ?_ ?_ ?_ | refine caA (fun _ => p1) rfl ?_ ?_ ?_ | refine caA (fun _ => p2) rfl ?_ ?_ ?_ | refine awV ?_ ?_ | refine awW ?_ ?_ | refine endK ?_ ?_ | (refine condK (fun h => ?_) (fun h => ?_) <;> (try simp only [go_sem, reduceCtorEq] at h) <;> (try (exfalso; omega))))) | fail)) <;> (try omega)
        all_goals first | exact ⟨(k + 1, ⟨e.fixed && (atE L p.ty).fixed, plusL [e.least, withinM (atE L p.ty).fixed (atE L p.ty).least], plusL [e.most, withinM (atE L p.ty).fixed (atE L p.ty).most], max e.depth (atE L p.ty).depth⟩), by simp only [go_sem, Nat.reduceBEq, Nat.reduceBneDiff, Nat.reduceLT, Nat.reduceLeDiff, Nat.reduceAdd, Nat.reduceMul, Nat.reduceSub, Nat.reduceEqDiff, reduceCtorEq] <;> exact rfl, ⟨hlt, hnx, plusL_bd _, plusL_bd _, by simp only; omega, by simp only; omega⟩, by simp only; omega⟩
      · have f1 : ((k : Int) < t.parts.length) = False := eq_false (by omega)
        rw [take_len (by omega)] at hu
        rw [hu]
        have hwd := wrap_i64 (n := e.depth + 1) (by omega)
        (repeat' (first
    | exact trivial
    | (with_reducible first | refine awA ?_ | refine awB ?_ | refine awC ?_ | refine awD ?_ | refine awE ?_ | refine awF ?_ | refine awG ?_ | refine awH ?_ | refine awI ?_ | refine awJ ?_ | refine awK ?_ | refine awL ?_ | refine awM (by decide) ?_)
    | (refine aw_draw (id := 4) (t := (.node [0, 1, 2, 3, 4, 5, 6, 7, 8, 10, 11, 12, 14, 15, 16, 17, 18, 19, 20, 9, 13, 21, 22] [])) (drR [2] [35, 49] []) mixed (by kernel_rfl) (by kernel_rfl) (fun _ _ h => h) ?_)
    | (refine aw_draw (id := 7) (t := (.node [0, 1, 2, 4, 5, 6, 7, 8, 9, 10, 3, 11, 12] [])) (drR [2] [72] []) mixed (by kernel_rfl) (by kernel_rfl) (fun _ _ h => h) ?_)
    | (refine aw_draw (id := 9) (t := (.node [0, 1, 2, 3, 4, 5, 7, 8, 9, 10, 11, 12, 13, 6, 14, 15] [])) (drR [2] [82, 89] []) mixed (by kernel_rfl) (by kernel_rfl) (fun _ _ h => h) ?_)
    | (refine aw_draw (id := 17) (t := (.node [0, 1, 3, 4, 6, 7, 8, 2, 5, 9, 10] [])) (drR [9] [] []) mixed (by kernel_rfl) (by kernel_rfl) (fun _ _ h => h) ?_)
    | (refine aw_draw (id := 25) (t := (.node [0, 1, 2, 3, 4, 5, 6, 7, 8, 10, 11, 12, 14, 15, 16, 17, 18, 9, 13, 19, 20] [])) (drR [14] [169, 175, 179, 183] []) mixed (by kernel_rfl) (by kernel_rfl) (fun _ _ h => h) ?_)
    | (refine at_done (by simp only [List.filterMap_cons, List.filterMap_nil, List.getElem?_toArray, List.getElem?_cons_zero, List.getElem?_cons_succ]; exact rfl) ?_) | (refine at_alt (by simp only [List.filterMap_cons, List.filterMap_nil, List.getElem?_toArray, List.getElem?_cons_zero, List.getElem?_cons_succ]; exact rfl) ?_) | refine qalt_normal ?_ | refine ats_cons ?_ ?_ | exact ats_nil
    | ((with_reducible first | refine awN (tyOf_ok _) [] ?_ | refine awO (tyOf_ok _) [] ?_ | refine awP (tyOf_ok _) [] ?_ | refine awQ ?_ | refine awR ?_ | refine awS ?_); intro r hr; simp only [go_sem, Nat.reduceBEq, Nat.reduceBneDiff, Nat.reduceLT, Nat.reduceLeDiff, Nat.reduceAdd, Nat.reduceMul, Nat.reduceSub, Nat.reduceEqDiff, reduceCtorEq, encPs_len, f1, hwd] at hr; subst hr; (first | refine awV ?_ ?_ | refine awW ?_ ?_ | refine endK ?_ ?_ | (refine condK (fun h => ?_) (fun h => ?_) <;> (try simp only [go_sem, reduceCtorEq] at h) <;> (try (exfalso; omega))))) | fail)) <;> (try omega)
        exact rfl
end Go.Proofs.Ytfgacgpicfknpaa
end
section
namespace Go.Proofs.Ytfgacgpicfknpaa
open Go.RowKit
set_option maxRecDepth 100000
set_option maxHeartbeats 8000000
theorem checkF_ne' {ts : List TypeM} {rs : List RootM} (h : (checkF ts rs).1 ≠ 0) : sizesF ts rs = ([], (checkF ts rs).1) := by rw [sizesF, if_pos h]
theorem checkF_eq' {ts : List TypeM} {rs : List RootM} (h : (checkF ts rs).1 = 0) : sizesF ts rs = (exts ts, 0) := by rw [sizesF, if_neg (by rw [h]; decide)]
theorem exts_D {ts : List TypeM} {rs : List RootM} (h : (checkF ts rs).1 = 0) (hts : ts.length ≤ 1000000000) (k : Nat) (hk : k ≤ ts.length) : ∀ e ∈ exts (ts.take k), extD e := fun e he =>
  ⟨exts_good (check_right h) k hk e he, by have := (exts_ok h hts k hk e he).1.2.2; omega⟩
theorem rOf_any (ts : List TypeM) (rs : List RootM) (hts : ts.length ≤ 1000000000) (hrs : rs.length ≤ 1000000000) (hp : ∀ t ∈ ts, t.parts.length ≤ 1000000000) :
    PCall Try.prog 42 [vSch ts rs] (fun r => r = .tup [.lst 4 (encEs (sizesF ts rs).1), vI (sizesF ts rs).2]) := by
  refine go_fnU (tyOf_ok _) Try.func42 rfl rfl (by rw [Try.results42]) Try.ntmps42 rfl fun E => ?_
  have hck := rcheck_any ts rs hts hrs hp
  unfold vF at hck
  by_cases h0 : (checkF ts rs).1 = 0
  case neg =>
    rw [checkF_ne' h0]
    have e1 : ((checkF ts rs).1 = 0) = False := eq_false h0
    generalize checkF ts rs = C at *
    (repeat' (first
    | exact trivial
    | (with_reducible first | refine awA ?_ | refine awB ?_ | refine awC ?_ | refine awD ?_ | refine awE ?_ | refine awF ?_ | refine awG ?_ | refine awH ?_ | refine awI ?_ | refine awJ ?_ | refine awK ?_ | refine awL ?_ | refine awM (by decide) ?_)
    | (refine aw_draw (id := 3) (t := (.node [0, 1, 2, 3] [])) (drR [4] [] []) mixed (by kernel_rfl) (by kernel_rfl) (fun _ _ h => h) ?_)
    | (refine at_done (by simp only [List.filterMap_cons, List.filterMap_nil, List.getElem?_toArray, List.getElem?_cons_zero, List.getElem?_cons_succ]; exact rfl) ?_) | (refine at_alt (by simp only [List.filterMap_cons, List.filterMap_nil, List.getElem?_toArray, List.getElem?_cons_zero, List.getElem?_cons_succ]; exact rfl) ?_) | refine qalt_normal ?_ | refine ats_cons ?_ ?_ | exact ats_nil
    | ((with_reducible first | refine awN (tyOf_ok _) [] ?_ | refine awO (tyOf_ok _) [] ?_ | refine awP (tyOf_ok _) [] ?_ | refine awQ ?_ | refine awR ?_ | refine awS ?_); intro r hr; simp only [go_sem, Nat.reduceBEq, Nat.reduceBneDiff, Nat.reduceLT, Nat.reduceLeDiff, Nat.reduceAdd, Nat.reduceMul, Nat.reduceSub, Nat.reduceEqDiff, reduceCtorEq, vSch, e1] at hr; subst hr; (first | refine caA (fun _ => hck) rfl ?_ ?_ ?_ | refine awV ?_ ?_ | refine awW ?_ ?_ | refine endK ?_ ?_ | (refine condK (fun h => ?_) (fun h => ?_) <;> (try simp only [go_sem, reduceCtorEq] at h) <;> (try (exfalso; omega))))) | fail)) <;> (try omega)
    exact AV.up_nil2 _ _
  have hr := check_right h0
  have hD := exts_D h0 hts
  rw [checkF_eq' h0]
  rw [h0] at hck
  generalize (checkF ts rs).2 = C2 at *
  (repeat' (first
    | exact trivial
    | (with_reducible first | refine awA ?_ | refine awB ?_ | refine awC ?_ | refine awD ?_ | refine awE ?_ | refine awF ?_ | refine awG ?_ | refine awH ?_ | refine awI ?_ | refine awJ ?_ | refine awK ?_ | refine awL ?_ | refine awM (by decide) ?_)
    | (refine aw_draw (id := 3) (t := (.node [0, 1, 2, 3] [])) (drR [4] [] []) mixed (by kernel_rfl) (by kernel_rfl) (fun _ _ h => h) ?_)
    | (refine at_done (by simp only [List.filterMap_cons, List.filterMap_nil, List.getElem?_toArray, List.getElem?_cons_zero, List.getElem?_cons_succ]; exact rfl) ?_) | (refine at_alt (by simp only [List.filterMap_cons, List.filterMap_nil, List.getElem?_toArray, List.getElem?_cons_zero, List.getElem?_cons_succ]; exact rfl) ?_) | refine qalt_normal ?_ | refine ats_cons ?_ ?_ | exact ats_nil
    | ((with_reducible first | refine awN (tyOf_ok _) [] ?_ | refine awO (tyOf_ok _) [] ?_ | refine awP (tyOf_ok _) [] ?_ | refine awQ ?_ | refine awR ?_ | refine awS ?_); intro r hr; simp only [go_sem, Nat.reduceBEq, Nat.reduceBneDiff, Nat.reduceLT, Nat.reduceLeDiff, Nat.reduceAdd, Nat.reduceMul, Nat.reduceSub, Nat.reduceEqDiff, reduceCtorEq, vSch] at hr; subst hr; (first | refine caA (fun _ => hck) rfl ?_ ?_ ?_ | refine awV ?_ ?_ | refine awW ?_ ?_ | refine endK ?_ ?_ | (refine condK (fun h => ?_) (fun h => ?_) <;> (try simp only [go_sem, reduceCtorEq] at h) <;> (try (exfalso; omega))))) | fail)) <;> (try omega)
  refine aw_nilrow 5 57 4 8000 (.inl (by decide)) (by simp only [go_sem, Nat.reduceBEq, Nat.reduceBneDiff, Nat.reduceLT, Nat.reduceLeDiff, Nat.reduceAdd, Nat.reduceMul, Nat.reduceSub, Nat.reduceEqDiff, reduceCtorEq]) ?_
  refine go_loop [1, 5, 6] [1, 8000] (fun k : Nat => ⟨[(1, true, .ptr 1 1 0 0), (5, true, .ref 57 4 8000 0 k), (6, true, vI k)], [(1, .var [.lst 4 (encTs ts), .lst 2 (encRs rs)]), (8000, .row 57 4 (encEs (exts (ts.take k))))]⟩)
    (fun k => k ≤ ts.length) (fun k => ts.length - k) 0 (by simp only [AState.nilrow, go_sem, Nat.reduceBEq, Nat.reduceBneDiff, Nat.reduceLT, Nat.reduceLeDiff, Nat.reduceAdd, Nat.reduceMul, Nat.reduceSub, Nat.reduceEqDiff, reduceCtorEq] <;> exact rfl) (Nat.zero_le _) ?_
  intro k hk
  have hwk := wrap_i64 (n := (k : Int) + 1) (by omega)
  have hEl := exts_len ts k hk
  by_cases hlt : k < ts.length
  · have f1 : ((k : Int) < ts.length) = True := eq_true (by omega)
    have g1 := encTs_get hlt
    have hnext := exts_succ hlt
    have hc := rone_any ts[k] (exts (ts.take k)) (by rw [hEl]; exact hr k hlt) (hD k hk)
    unfold vE at hc
    generalize exts (ts.take k) = L at *
    have happ : encEs L ++ [[vB (extM ts[k] L).fixed, vI (extM ts[k] L).least, vI (extM ts[k] L).most, vI (extM ts[k] L).depth]] = encEs (exts (ts.take (k + 1))) := by rw [hnext]; simp [encEs, encE]
    have hlL : (exts (ts.take (k + 1))).length = k + 1 := by rw [hnext]; simp [hEl]
    have htk : (encEs L).take k = encEs L := take_len (by rw [encEs_len]; omega)
    (repeat' (first
    | exact trivial
    | (with_reducible first | refine awA ?_ | refine awB ?_ | refine awC ?_ | refine awD ?_ | refine awE ?_ | refine awF ?_ | refine awG ?_ | refine awH ?_ | refine awI ?_ | refine awJ ?_ | refine awK ?_ | refine awL ?_ | refine awM (by decide) ?_)
    | (refine aw_draw (id := 3) (t := (.node [0, 1, 2, 3] [])) (drR [4] [] []) mixed (by kernel_rfl) (by kernel_rfl) (fun _ _ h => h) ?_)
    | (refine at_done (by simp only [List.filterMap_cons, List.filterMap_nil, List.getElem?_toArray, List.getElem?_cons_zero, List.getElem?_cons_succ]; exact rfl) ?_) | (refine at_alt (by simp only [List.filterMap_cons, List.filterMap_nil, List.getElem?_toArray, List.getElem?_cons_zero, List.getElem?_cons_succ]; exact rfl) ?_) | refine qalt_normal ?_ | refine ats_cons ?_ ?_ | exact ats_nil
    | ((with_reducible first | refine awN (tyOf_ok _) [] ?_ | refine awO (tyOf_ok _) [] ?_ | refine awP (tyOf_ok _) [] ?_ | refine awQ ?_ | refine awR ?_ | refine awS ?_); intro r hr; simp only [go_sem, Nat.reduceBEq, Nat.reduceBneDiff, Nat.reduceLT, Nat.reduceLeDiff, Nat.reduceAdd, Nat.reduceMul, Nat.reduceSub, Nat.reduceEqDiff, reduceCtorEq, encTs_len, encEs_len, hwk, f1, g1, happ, htk, hlL] at hr; subst hr; (first | refine caA (fun _ => hc) rfl ?_ ?_ ?_ | refine awV ?_ ?_ | refine awW ?_ ?_ | refine endK ?_ ?_ | (refine condK (fun h => ?_) (fun h => ?_) <;> (try simp only [go_sem, reduceCtorEq] at h) <;> (try (exfalso; omega))))) | fail)) <;> (try omega)
    exact ⟨k + 1, by simp only [go_sem, Nat.reduceBEq, Nat.reduceBneDiff, Nat.reduceLT, Nat.reduceLeDiff, Nat.reduceAdd, Nat.reduceMul, Nat.reduceSub, Nat.reduceEqDiff, reduceCtorEq] <;> exact rfl, hlt, by omega⟩
  · have f1 : ((k : Int) < ts.length) = False := eq_false (by omega)
    have hke : ts.take k = ts := take_len (by omega)
    rw [hke] at hEl ⊢
    (repeat' (first
    | exact trivial
    | (with_reducible first | refine awA ?_ | refine awB ?_ | refine awC ?_ | refine awD ?_ | refine awE ?_ | refine awF ?_ | refine awG ?_ | refine awH ?_ | refine awI ?_ | refine awJ ?_ | refine awK ?_ | refine awL ?_ | refine awM (by decide) ?_)
    | (refine aw_draw (id := 3) (t := (.node [0, 1, 2, 3] [])) (drR [4] [] []) mixed (by kernel_rfl) (by kernel_rfl) (fun _ _ h => h) ?_)
    | (refine at_done (by simp only [List.filterMap_cons, List.filterMap_nil, List.getElem?_toArray, List.getElem?_cons_zero, List.getElem?_cons_succ]; exact rfl) ?_) | (refine at_alt (by simp only [List.filterMap_cons, List.filterMap_nil, List.getElem?_toArray, List.getElem?_cons_zero, List.getElem?_cons_succ]; exact rfl) ?_) | refine qalt_normal ?_ | refine ats_cons ?_ ?_ | exact ats_nil
    | ((with_reducible first | refine awN (tyOf_ok _) [] ?_ | refine awO (tyOf_ok _) [] ?_ | refine awP (tyOf_ok _) [] ?_ | refine awQ ?_ | refine awR ?_ | refine awS ?_); intro r hr; simp only [go_sem, Nat.reduceBEq, Nat.reduceBneDiff, Nat.reduceLT, Nat.reduceLeDiff, Nat.reduceAdd, Nat.reduceMul, Nat.reduceSub, Nat.reduceEqDiff, reduceCtorEq, encTs_len, f1] at hr; subst hr; (first | refine awV ?_ ?_ | refine awW ?_ ?_ | refine endK ?_ ?_ | (refine condK (fun h => ?_) (fun h => ?_) <;> (try simp only [go_sem, reduceCtorEq] at h) <;> (try (exfalso; omega))))) | fail)) <;> (try omega)
    rw [take_len (by rw [encEs_len]; omega)]
    exact AV.up_rfl _
end Go.Proofs.Ytfgacgpicfknpaa
end
section
namespace Go.Proofs.Ytfgacgpicfknpaa
open Go.RowKit
set_option maxRecDepth 100000
set_option maxHeartbeats 8000000
/-! The extents of a schema that is lent, asked twice. -/
/-- written over from the front -/
def ovr {α : Type} (z : α) (xs : List α) (i : Nat) : List α := List.replicate i z ++ xs.drop i
theorem ovr_0 {α : Type} (z : α) (xs : List α) : ovr z xs 0 = xs := by simp [ovr]
theorem ovr_end {α : Type} (z : α) (xs : List α) : ovr z xs xs.length = List.replicate xs.length z := by simp [ovr]
theorem ovr_len {α : Type} (z : α) {xs : List α} {i : Nat} (h : i ≤ xs.length) : (ovr z xs i).length = xs.length := by simp [ovr]; omega
theorem ovr_get {α : Type} (z : α) {xs : List α} {i : Nat} (h : i < xs.length) : (ovr z xs i)[i]? = some xs[i] := by
  rw [ovr, List.getElem?_append_right (by simp), List.length_replicate, Nat.sub_self, List.getElem?_drop]; simp [h]
theorem ovr_set {α : Type} (z : α) {xs : List α} {i : Nat} (h : i < xs.length) : (ovr z xs i).set i z = ovr z xs (i + 1) := by
  apply List.ext_getElem?
  intro j
  rw [List.getElem?_set, ovr_len z (by omega)]
  by_cases hj : i = j
  · subst hj
    rw [if_pos rfl, if_pos h, ovr, List.getElem?_append_left (by simp), List.getElem?_replicate, if_pos (by omega)]
  · rw [if_neg hj, ovr, ovr, List.getElem?_append, List.getElem?_append, List.length_replicate, List.length_replicate, List.getElem?_replicate, List.getElem?_replicate, List.getElem?_drop, List.getElem?_drop]
    by_cases h1 : j < i
    · rw [if_pos h1, if_pos h1, if_pos (by omega), if_pos (by omega)]
    · rw [if_neg h1, if_neg (by omega)]
      congr 1
      omega
def mE : List AV := [vB false, vI 0, vI 0, vI (-1)]
theorem encEs_nm (l : List ExtM) : ∀ cs ∈ encEs l, ∀ u ∈ cs, ∃ x, u = .v x := by
  intro cs hcs u hu
  obtain ⟨e, _, rfl⟩ := List.mem_map.1 hcs
  simp only [encE, List.mem_cons, List.not_mem_nil, or_false] at hu
  rcases hu with rfl | rfl | rfl | rfl <;> exact ⟨_, rfl⟩
theorem rOf_G (ts : List TypeM) (rs : List RootM) (hts : ts.length ≤ 1000000000) (hrs : rs.length ≤ 1000000000) (hp : ∀ t ∈ ts, t.parts.length ≤ 1000000000) :
    GCall Try.prog 42 [vSch ts rs] [] (.tup [.ref 57 4 8000 0 (sizesF ts rs).1.length, vI (sizesF ts rs).2]) [(8000, .row 57 4 (encEs (sizesF ts rs).1))] := by
  refine go_fnG (tyOf_ok _) Try.func42 rfl rfl (by rw [Try.results42]) Try.ntmps42 rfl fun E => ?_
  have hck := rcheck_any ts rs hts hrs hp
  unfold vF at hck
  by_cases h0 : (checkF ts rs).1 = 0
  case neg =>
    rw [checkF_ne' h0]
    have e1 : ((checkF ts rs).1 = 0) = False := eq_false h0
    generalize checkF ts rs = C at *
    (repeat' (first
    | exact trivial
    | (with_reducible first | refine awA ?_ | refine awB ?_ | refine awC ?_ | refine awD ?_ | refine awE ?_ | refine awF ?_ | refine awG ?_ | refine awH ?_ | refine awI ?_ | refine awJ ?_ | refine awK ?_ | refine awL ?_ | refine awM (by decide) ?_)
    | (refine aw_draw (id := 3) (t := (.node [0, 1, 2, 3] [])) (drR [4] [] []) mixed (by kernel_rfl) (by kernel_rfl) (fun _ _ h => h) ?_)
    | (refine at_done (by simp only [List.filterMap_cons, List.filterMap_nil, List.getElem?_toArray, List.getElem?_cons_zero, List.getElem?_cons_succ]; exact rfl) ?_) | (refine at_alt (by simp only [List.filterMap_cons, List.filterMap_nil, List.getElem?_toArray, List.getElem?_cons_zero, List.getElem?_cons_succ]; exact rfl) ?_) | refine qalt_normal ?_ | refine ats_cons ?_ ?_ | exact ats_nil
    | ((with_reducible first | refine awN (tyOf_ok _) [] ?_ | refine awO (tyOf_ok _) [] ?_ | refine awP (tyOf_ok _) [] ?_ | refine awQ ?_ | refine awR ?_ | refine awS ?_ | refine awT ?_ | refine awU ?_); intro r hr; simp only [go_sem, Nat.reduceBEq, Nat.reduceBneDiff, Nat.reduceLT, Nat.reduceLeDiff, Nat.reduceAdd, Nat.reduceMul, Nat.reduceSub, Nat.reduceEqDiff, reduceCtorEq, vSch, e1] at hr; subst hr; (first | refine caA (fun _ => hck) rfl ?_ ?_ ?_ | refine awV ?_ ?_ | refine awW ?_ ?_ | refine endK ?_ ?_ | refine endGK ?_ ?_ ?_ | (refine condK (fun h => ?_) (fun h => ?_) <;> (try simp only [go_sem, reduceCtorEq] at h) <;> (try (exfalso; omega))))) | fail)) <;> (try omega)
    · exact AV.up_tup (AV.up_cons (AV.up_nilref _ _ _ _) (AV.up_cons (AV.up_rfl _) AV.up_nilL))
    · exact obUp_row0 obUp_nil
  have hr := check_right h0
  have hD := exts_D h0 hts
  rw [checkF_eq' h0]
  rw [h0] at hck
  generalize (checkF ts rs).2 = C2 at *
  (repeat' (first
    | exact trivial
    | (with_reducible first | refine awA ?_ | refine awB ?_ | refine awC ?_ | refine awD ?_ | refine awE ?_ | refine awF ?_ | refine awG ?_ | refine awH ?_ | refine awI ?_ | refine awJ ?_ | refine awK ?_ | refine awL ?_ | refine awM (by decide) ?_)
    | (refine aw_draw (id := 3) (t := (.node [0, 1, 2, 3] [])) (drR [4] [] []) mixed (by kernel_rfl) (by kernel_rfl) (fun _ _ h => h) ?_)
    | (refine at_done (by simp only [List.filterMap_cons, List.filterMap_nil, List.getElem?_toArray, List.getElem?_cons_zero, List.getElem?_cons_succ]; exact rfl) ?_) | (refine at_alt (by simp only [List.filterMap_cons, List.filterMap_nil, List.getElem?_toArray, List.getElem?_cons_zero, List.getElem?_cons_succ]; exact rfl) ?_) | refine qalt_normal ?_ | refine ats_cons ?_ ?_ | exact ats_nil
    | ((with_reducible first | refine awN (tyOf_ok _) [] ?_ | refine awO (tyOf_ok _) [] ?_ | refine awP (tyOf_ok _) [] ?_ | refine awQ ?_ | refine awR ?_ | refine awS ?_ | refine awT ?_ | refine awU ?_); intro r hr; simp only [go_sem, Nat.reduceBEq, Nat.reduceBneDiff, Nat.reduceLT, Nat.reduceLeDiff, Nat.reduceAdd, Nat.reduceMul, Nat.reduceSub, Nat.reduceEqDiff, reduceCtorEq, vSch] at hr; subst hr; (first | refine caA (fun _ => hck) rfl ?_ ?_ ?_ | refine awV ?_ ?_ | refine awW ?_ ?_ | refine endK ?_ ?_ | refine endGK ?_ ?_ ?_ | (refine condK (fun h => ?_) (fun h => ?_) <;> (try simp only [go_sem, reduceCtorEq] at h) <;> (try (exfalso; omega))))) | fail)) <;> (try omega)
  refine aw_nilrow 5 57 4 8000 (.inl (by decide)) (by simp only [go_sem, Nat.reduceBEq, Nat.reduceBneDiff, Nat.reduceLT, Nat.reduceLeDiff, Nat.reduceAdd, Nat.reduceMul, Nat.reduceSub, Nat.reduceEqDiff, reduceCtorEq]) ?_
  refine go_loop [1, 5, 6] [1, 8000] (fun k : Nat => ⟨[(1, true, .ptr 1 1 0 0), (5, true, .ref 57 4 8000 0 k), (6, true, vI k)], [(1, .var [.lst 4 (encTs ts), .lst 2 (encRs rs)]), (8000, .row 57 4 (encEs (exts (ts.take k))))]⟩)
    (fun k => k ≤ ts.length) (fun k => ts.length - k) 0 (by simp only [AState.nilrow, go_sem, Nat.reduceBEq, Nat.reduceBneDiff, Nat.reduceLT, Nat.reduceLeDiff, Nat.reduceAdd, Nat.reduceMul, Nat.reduceSub, Nat.reduceEqDiff, reduceCtorEq] <;> exact rfl) (Nat.zero_le _) ?_
  intro k hk
  have hwk := wrap_i64 (n := (k : Int) + 1) (by omega)
  have hEl := exts_len ts k hk
  by_cases hlt : k < ts.length
  · have f1 : ((k : Int) < ts.length) = True := eq_true (by omega)
    have g1 := encTs_get hlt
    have hnext := exts_succ hlt
    have hc := rone_any ts[k] (exts (ts.take k)) (by rw [hEl]; exact hr k hlt) (hD k hk)
    unfold vE at hc
    generalize exts (ts.take k) = L at *
    have happ : encEs L ++ [[vB (extM ts[k] L).fixed, vI (extM ts[k] L).least, vI (extM ts[k] L).most, vI (extM ts[k] L).depth]] = encEs (exts (ts.take (k + 1))) := by rw [hnext]; simp [encEs, encE]
    have hlL : (exts (ts.take (k + 1))).length = k + 1 := by rw [hnext]; simp [hEl]
    have htk : (encEs L).take k = encEs L := take_len (by rw [encEs_len]; omega)
    (repeat' (first
    | exact trivial
    | (with_reducible first | refine awA ?_ | refine awB ?_ | refine awC ?_ | refine awD ?_ | refine awE ?_ | refine awF ?_ | refine awG ?_ | refine awH ?_ | refine awI ?_ | refine awJ ?_ | refine awK ?_ | refine awL ?_ | refine awM (by decide) ?_)
    | (refine aw_draw (id := 3) (t := (.node [0, 1, 2, 3] [])) (drR [4] [] []) mixed (by kernel_rfl) (by kernel_rfl) (fun _ _ h => h) ?_)
    | (refine at_done (by simp only [List.filterMap_cons, List.filterMap_nil, List.getElem?_toArray, List.getElem?_cons_zero, List.getElem?_cons_succ]; exact rfl) ?_) | (refine at_alt (by simp only [List.filterMap_cons, List.filterMap_nil, List.getElem?_toArray, List.getElem?_cons_zero, List.getElem?_cons_succ]; exact rfl) ?_) | refine qalt_normal ?_ | refine ats_cons ?_ ?_ | exact ats_nil
    | ((with_reducible first | refine awN (tyOf_ok _) [] ?_ | refine awO (tyOf_ok _) [] ?_ | refine awP (tyOf_ok _) [] ?_ | refine awQ ?_ | refine awR ?_ | refine awS ?_ | refine awT ?_ | refine awU ?_); intro r hr; simp only [go_sem, Nat.reduceBEq, Nat.reduceBneDiff, Nat.reduceLT, Nat.reduceLeDiff, Nat.reduceAdd, Nat.reduceMul, Nat.reduceSub, Nat.reduceEqDiff, reduceCtorEq, encTs_len, encEs_len, hwk, f1, g1, happ, htk, hlL] at hr; subst hr; (first | refine caA (fun _ => hc) rfl ?_ ?_ ?_ | refine awV ?_ ?_ | refine awW ?_ ?_ | refine endK ?_ ?_ | refine endGK ?_ ?_ ?_ | (refine condK (fun h => ?_) (fun h => ?_) <;> (try simp only [go_sem, reduceCtorEq] at h) <;> (try (exfalso; omega))))) | fail)) <;> (try omega)
    exact ⟨k + 1, by simp only [go_sem, Nat.reduceBEq, Nat.reduceBneDiff, Nat.reduceLT, Nat.reduceLeDiff, Nat.reduceAdd, Nat.reduceMul, Nat.reduceSub, Nat.reduceEqDiff, reduceCtorEq] <;> exact rfl, hlt, by omega⟩
  · have f1 : ((k : Int) < ts.length) = False := eq_false (by omega)
    have hke : ts.take k = ts := take_len (by omega)
    rw [hke] at hEl ⊢
    (repeat' (first
    | exact trivial
    | (with_reducible first | refine awA ?_ | refine awB ?_ | refine awC ?_ | refine awD ?_ | refine awE ?_ | refine awF ?_ | refine awG ?_ | refine awH ?_ | refine awI ?_ | refine awJ ?_ | refine awK ?_ | refine awL ?_ | refine awM (by decide) ?_)
    | (refine aw_draw (id := 3) (t := (.node [0, 1, 2, 3] [])) (drR [4] [] []) mixed (by kernel_rfl) (by kernel_rfl) (fun _ _ h => h) ?_)
    | (refine at_done (by simp only [List.filterMap_cons, List.filterMap_nil, List.getElem?_toArray, List.getElem?_cons_zero, List.getElem?_cons_succ]; exact rfl) ?_) | (refine at_alt (by simp only [List.filterMap_cons, List.filterMap_nil, List.getElem?_toArray, List.getElem?_cons_zero, List.getElem?_cons_succ]; exact rfl) ?_) | refine qalt_normal ?_ | refine ats_cons ?_ ?_ | exact ats_nil
    | ((with_reducible first | refine awN (tyOf_ok _) [] ?_ | refine awO (tyOf_ok _) [] ?_ | refine awP (tyOf_ok _) [] ?_ | refine awQ ?_ | refine awR ?_ | refine awS ?_ | refine awT ?_ | refine awU ?_); intro r hr; simp only [go_sem, Nat.reduceBEq, Nat.reduceBneDiff, Nat.reduceLT, Nat.reduceLeDiff, Nat.reduceAdd, Nat.reduceMul, Nat.reduceSub, Nat.reduceEqDiff, reduceCtorEq, encTs_len, f1] at hr; subst hr; (first | refine awV ?_ ?_ | refine awW ?_ ?_ | refine endK ?_ ?_ | refine endGK ?_ ?_ ?_ | (refine condK (fun h => ?_) (fun h => ?_) <;> (try simp only [go_sem, reduceCtorEq] at h) <;> (try (exfalso; omega))))) | fail)) <;> (try omega)
    · rw [hEl]; exact AV.up_rfl _
    · exact obUp_cons rfl obUp_nil
theorem extents10_G (ts : List TypeM) (rs : List RootM) (hts : ts.length ≤ 1000000000) (hrs : rs.length ≤ 1000000000) (hp : ∀ t ∈ ts, t.parts.length ≤ 1000000000) :
    GCall Try.prog 26 [lentV 10000 10001 ts rs, sV 10002 10003 ts rs] (lentO 10000 10001 ts rs ++ sO 10002 10003 ts rs) (vB true) (lentO 10000 10001 ts rs ++ sO 10002 10003 ts rs) := by
  refine go_fnG (tyOf_ok _) Try.func26 rfl rfl (by rw [Try.results26]) Try.ntmps26 rfl fun E => ?_
  have hO := GCall.weak (sizeOf_G ts rs hts hrs hp) (as' := [.agg [.lst 4 (encTxs ts), .lst 2 (encRs rs)]]) (ob' := []) (UpL.up (.cons (up_schx ts rs) .nil)) obUp_nil
  have hRO := rOf_G ts rs hts hrs hp
  have hrk : (encRs rs).take rs.length = encRs rs := take_len (by rw [encRs_len]; exact Nat.le_refl _)
  have htk : (encTs ts).take ts.length = encTs ts := take_len (by rw [encTs_len]; exact Nat.le_refl _)
  have hK := kept10_G ts rs hts hrs hp
  have hT : (encTxs ts ++ [mT]).take ts.length = encTxs ts := take_app _ _ (by rw [encTxs_len])
  have hR : (encRs rs ++ [mR]).take rs.length = encRs rs := take_app _ _ (by rw [encRs_len])
  have hXl : (sizesF ts rs).1.length ≤ 1000000000 := by
    unfold sizesF
    split
    · exact Nat.zero_le _
    · have := exts_len ts ts.length (Nat.le_refl _)
      rw [List.take_length] at this
      simp only [this]; exact hts
  generalize sizesF ts rs = O at *
  obtain ⟨X, e⟩ := O
  simp only at hO hRO hXl
  have hS := sameExt_refl X hXl
  have htX : (encEs X).take X.length = encEs X := take_len (by rw [encEs_len]; exact Nat.le_refl _)
  unfold lentV lentO sV sO at hK
  unfold vSch at hRO
  have hlT : ts.length ≤ (encTxs ts ++ [mT]).length ∧ rs.length ≤ (encRs rs ++ [mR]).length := by simp [encTxs, encRs]
  (repeat' (first
    | exact trivial
    | (with_reducible first | refine awA ?_ | refine awB ?_ | refine awC ?_ | refine awD ?_ | refine awE ?_ | refine awF ?_ | refine awG ?_ | refine awH ?_ | refine awI ?_ | refine awJ ?_ | refine awK ?_ | refine awL ?_ | refine awM (by decide) ?_)
    | ((with_reducible first | refine awN (tyOf_ok _) [] ?_ | refine awO (tyOf_ok _) [] ?_ | refine awP (tyOf_ok _) [] ?_ | refine awQ ?_ | refine awR ?_ | refine awS ?_ | refine awT ?_ | refine awU ?_); intro r hr; simp only [go_sem, Nat.reduceBEq, Nat.reduceBneDiff, Nat.reduceLT, Nat.reduceLeDiff, Nat.reduceAdd, Nat.reduceMul, Nat.reduceSub, Nat.reduceEqDiff, reduceCtorEq, lentV, lentO, sV, sO, hT, hR, htX, hrk, htk, Int.cast_ofNat_Int, Int.reduceToNat, Int.reduceEq, Int.reduceLT, Int.reduceLE, Int.reduceNe, ne_eq, not_true_eq_false, decide_false, Bool.not_true] at hr; subst hr; (first | refine caA (fun _ => num_any _) rfl ?_ ?_ ?_ | refine caA (fun _ => hS) rfl ?_ ?_ ?_ | refine awV ?_ ?_ | refine awW ?_ ?_ | refine endK ?_ ?_ | refine endGK ?_ ?_ ?_ | (refine condK (fun h => ?_) (fun h => ?_) <;> (try simp only [go_sem, reduceCtorEq] at h) <;> (try (exfalso; omega)))))
    | (refine go_callGd 15 rfl [] [(5, 15)] [15] [] (by simp only [go_sem, Nat.reduceBEq, Nat.reduceBneDiff, Nat.reduceLT, Nat.reduceLeDiff, Nat.reduceAdd, Nat.reduceMul, Nat.reduceSub, Nat.reduceEqDiff, reduceCtorEq, lentV, lentO, sV, sO, hT, hR, htX, hrk, htk, Int.cast_ofNat_Int, Int.reduceToNat, Int.reduceEq, Int.reduceLT, Int.reduceLE, Int.reduceNe, ne_eq, not_true_eq_false, decide_false, Bool.not_true]; exact rfl) ?_ rfl rfl (by first | exact .inl rfl | exact .inr rfl) (by simp only [go_sem, Nat.reduceBEq, Nat.reduceBneDiff, Nat.reduceLT, Nat.reduceLeDiff, Nat.reduceAdd, Nat.reduceMul, Nat.reduceSub, Nat.reduceEqDiff, reduceCtorEq, lentV, lentO, sV, sO, hT, hR, htX, hrk, htk, Int.cast_ofNat_Int, Int.reduceToNat, Int.reduceEq, Int.reduceLT, Int.reduceLE, Int.reduceNe, ne_eq, not_true_eq_false, decide_false, Bool.not_true] <;> exact rfl) (hO) (.inr ⟨rfl, ?_⟩) ?_)
    | (refine go_callGd 20 rfl [] [(5, 20)] [20] [] (by simp only [go_sem, Nat.reduceBEq, Nat.reduceBneDiff, Nat.reduceLT, Nat.reduceLeDiff, Nat.reduceAdd, Nat.reduceMul, Nat.reduceSub, Nat.reduceEqDiff, reduceCtorEq, lentV, lentO, sV, sO, hT, hR, htX, hrk, htk, Int.cast_ofNat_Int, Int.reduceToNat, Int.reduceEq, Int.reduceLT, Int.reduceLE, Int.reduceNe, ne_eq, not_true_eq_false, decide_false, Bool.not_true]; exact rfl) ?_ rfl rfl (by first | exact .inl rfl | exact .inr rfl) (by simp only [go_sem, Nat.reduceBEq, Nat.reduceBneDiff, Nat.reduceLT, Nat.reduceLeDiff, Nat.reduceAdd, Nat.reduceMul, Nat.reduceSub, Nat.reduceEqDiff, reduceCtorEq, lentV, lentO, sV, sO, hT, hR, htX, hrk, htk, Int.cast_ofNat_Int, Int.reduceToNat, Int.reduceEq, Int.reduceLT, Int.reduceLE, Int.reduceNe, ne_eq, not_true_eq_false, decide_false, Bool.not_true] <;> exact rfl) (hO) (.inr ⟨rfl, ?_⟩) ?_)
    | (refine go_callGd 25 rfl [] [(8000, 25)] [25] [] (by simp only [go_sem, Nat.reduceBEq, Nat.reduceBneDiff, Nat.reduceLT, Nat.reduceLeDiff, Nat.reduceAdd, Nat.reduceMul, Nat.reduceSub, Nat.reduceEqDiff, reduceCtorEq, lentV, lentO, sV, sO, hT, hR, htX, hrk, htk, Int.cast_ofNat_Int, Int.reduceToNat, Int.reduceEq, Int.reduceLT, Int.reduceLE, Int.reduceNe, ne_eq, not_true_eq_false, decide_false, Bool.not_true]; exact rfl) ?_ rfl rfl (by first | exact .inl rfl | exact .inr rfl) (by simp only [go_sem, Nat.reduceBEq, Nat.reduceBneDiff, Nat.reduceLT, Nat.reduceLeDiff, Nat.reduceAdd, Nat.reduceMul, Nat.reduceSub, Nat.reduceEqDiff, reduceCtorEq, lentV, lentO, sV, sO, hT, hR, htX, hrk, htk, Int.cast_ofNat_Int, Int.reduceToNat, Int.reduceEq, Int.reduceLT, Int.reduceLE, Int.reduceNe, ne_eq, not_true_eq_false, decide_false, Bool.not_true] <;> exact rfl) (hRO) (.inr ⟨rfl, ?_⟩) ?_)
    | (refine go_callGE [(10000, 10000), (10001, 10001), (10002, 10002), (10003, 10003)] [(10000, 10000), (10001, 10001), (10002, 10002), (10003, 10003)] [] [10000, 10001, 10002, 10003] ?_; intro r hr; simp only [go_sem, Nat.reduceBEq, Nat.reduceBneDiff, Nat.reduceLT, Nat.reduceLeDiff, Nat.reduceAdd, Nat.reduceMul, Nat.reduceSub, Nat.reduceEqDiff, reduceCtorEq, lentV, lentO, sV, sO, hT, hR, htX, hrk, htk, Int.cast_ofNat_Int, Int.reduceToNat, Int.reduceEq, Int.reduceLT, Int.reduceLE, Int.reduceNe, ne_eq, not_true_eq_false, decide_false, Bool.not_true] at hr; subst hr; refine callGK (hK) rfl rfl (by first | exact .inl rfl | exact .inr rfl) ?_ (.inl rfl) ?_)
    | (exact ⟨encEs_nm _, trivial⟩)
    | (exact hlT) | fail)) <;> (try omega)
  have hel : (encEs X).length = X.length := encEs_len X
  refine go_loop [5, 7, 9, 11] [15, 20, 25, 10000, 10001, 10002, 10003] (fun i : Nat => ⟨[(5, true, .ref 57 4 15 0 X.length), (7, true, .ref 57 4 20 0 X.length), (9, true, .ref 57 4 25 0 X.length), (11, true, vI i)],
    [(15, .row 57 4 (ovr mE (encEs X) i)), (20, .row 57 4 (encEs X)), (25, .row 57 4 (encEs X)), (10000, .row 55 4 (encTxs ts ++ [mT])), (10001, .row 90 2 (encRs rs ++ [mR])), (10002, .row 55 4 (encTs ts)), (10003, .row 90 2 (encRs rs))]⟩) (fun i => i ≤ X.length) (fun i => X.length - i) 0 (by simp only [go_sem, Nat.reduceBEq, Nat.reduceBneDiff, Nat.reduceLT, Nat.reduceLeDiff, Nat.reduceAdd, Nat.reduceMul, Nat.reduceSub, Nat.reduceEqDiff, reduceCtorEq, ovr_0]; exact rfl) (Nat.zero_le _) ?_
  intro i hi
  have hw1 := wrap_i64 (n := (i : Int) + 1) (by omega)
  by_cases hlt : i < X.length
  · have e1 : ((i : Int) < X.length) = True := eq_true (by omega)
    have g1 := ovr_get mE (xs := encEs X) (i := i) (by omega)
    have g2 := ovr_set mE (xs := encEs X) (i := i) (by omega)
    have g3 := ovr_len mE (xs := encEs X) (i := i) (by omega)
    have g4 : (encEs X)[i]'(by omega) = encE X[i] := by simp [encEs]
    rw [g4] at g1
    unfold encE at g1
    have g2' : (ovr mE (encEs X) i).set i [vB false, vI 0, vI 0, vI (-1)] = ovr mE (encEs X) (i + 1) := g2
    (repeat' (first
    | exact trivial
    | (with_reducible first | refine awA ?_ | refine awB ?_ | refine awC ?_ | refine awD ?_ | refine awE ?_ | refine awF ?_ | refine awG ?_ | refine awH ?_ | refine awI ?_ | refine awJ ?_ | refine awK ?_ | refine awL ?_ | refine awM (by decide) ?_)
    | ((with_reducible first | refine awN (tyOf_ok _) [] ?_ | refine awO (tyOf_ok _) [] ?_ | refine awP (tyOf_ok _) [] ?_ | refine awQ ?_ | refine awR ?_ | refine awS ?_ | refine awT ?_ | refine awU ?_); intro r hr; simp only [go_sem, Nat.reduceBEq, Nat.reduceBneDiff, Nat.reduceLT, Nat.reduceLeDiff, Nat.reduceAdd, Nat.reduceMul, Nat.reduceSub, Nat.reduceEqDiff, reduceCtorEq, hw1, e1, g1, g2', g3, hel] at hr; subst hr; (first | refine awV ?_ ?_ | refine awW ?_ ?_ | refine endK ?_ ?_ | refine endGK ?_ ?_ ?_ | (refine condK (fun h => ?_) (fun h => ?_) <;> (try simp only [go_sem, reduceCtorEq] at h) <;> (try (exfalso; omega))))) | fail)) <;> (try omega)
    exact ⟨i + 1, by simp only [go_sem, Nat.reduceBEq, Nat.reduceBneDiff, Nat.reduceLT, Nat.reduceLeDiff, Nat.reduceAdd, Nat.reduceMul, Nat.reduceSub, Nat.reduceEqDiff, reduceCtorEq]; exact rfl, hlt, by omega⟩
  · have e1 : ((i : Int) < X.length) = False := eq_false (by omega)
    have hiX : i = (encEs X).length := by omega
    subst hiX
    rw [hel] at hw1 hlt e1
    have hoe := ovr_end mE (encEs X)
    rw [hel] at hoe
    have hl1 : (List.replicate X.length mE).length = X.length := by simp
    have hl2 : (List.replicate X.length mE ++ [mE]).length = X.length + 1 := by simp
    have htr : (List.replicate X.length mE).take X.length = List.replicate X.length mE := take_len (by simp)
    have hgl : (List.replicate X.length mE ++ [mE])[X.length]? = some [vB false, vI 0, vI 0, vI (-1)] := by rw [List.getElem?_append_right (by simp)]; simp [mE]
    have hw2 : IntKind.i64.wrap (((X.length + 1 : Nat) : Int) - 1) = X.length := by rw [wrap_i64 (by omega)]; omega
    have hz : ((X.length : Int)).toNat = X.length := by omega
    have hm : [[vB false, vI 0, vI 0, vI (-1)]] = [mE] := rfl
    (repeat' (first
    | exact trivial
    | (with_reducible first | refine awA ?_ | refine awB ?_ | refine awC ?_ | refine awD ?_ | refine awE ?_ | refine awF ?_ | refine awG ?_ | refine awH ?_ | refine awI ?_ | refine awJ ?_ | refine awK ?_ | refine awL ?_ | refine awM (by decide) ?_)
    | ((with_reducible first | refine awN (tyOf_ok _) [] ?_ | refine awO (tyOf_ok _) [] ?_ | refine awP (tyOf_ok _) [] ?_ | refine awQ ?_ | refine awR ?_ | refine awS ?_ | refine awT ?_ | refine awU ?_); intro r hr; simp only [go_sem, Nat.reduceBEq, Nat.reduceBneDiff, Nat.reduceLT, Nat.reduceLeDiff, Nat.reduceAdd, Nat.reduceMul, Nat.reduceSub, Nat.reduceEqDiff, reduceCtorEq, hw1, e1, hel, hoe, hl1, hl2, htr, hgl, hw2, hz, hm, htX, Int.cast_ofNat_Int, Int.reduceToNat, Int.reduceEq, Int.reduceLT, Int.reduceLE, Int.reduceNe, Nat.zero_add, decide_true] at hr; subst hr; (first | refine caA (fun _ => hS) rfl ?_ ?_ ?_ | refine awV ?_ ?_ | refine awW ?_ ?_ | refine endK ?_ ?_ | refine endGK ?_ ?_ ?_ | (refine condK (fun h => ?_) (fun h => ?_) <;> (try simp only [go_sem, reduceCtorEq] at h) <;> (try (exfalso; omega))))) | fail)) <;> (try omega)
    all_goals (first | exact AV.up_rfl _ | (repeat first | exact obUp_nil | refine obUp_cons rfl ?_))
end Go.Proofs.Ytfgacgpicfknpaa
end
section
namespace Go.Proofs.Ytfgacgpicfknpaa
open Go.RowKit
set_option maxRecDepth 100000
set_option maxHeartbeats 8000000
/-! The extents of any schema, and again where it lies, when a number of it is another one. -/
theorem encTs_set (l : List TypeM) (k : Nat) (t : TypeM) : (encTs l).set k [vI t.kind, vI t.n, vI t.elem, .lst 3 (encPs t.parts)] = encTs (l.set k t) := by simp [encTs, encT, List.map_set]
theorem encTxs_set (l : List TypeM) (k : Nat) (hk : k < l.length) (t : TypeM) (zs : List (List AV)) : (encTxs l ++ zs).set k [vI t.kind, vI t.n, vI t.elem, .lsx 3 (encPs t.parts) [mP]] = encTxs (l.set k t) ++ zs := by
  rw [List.set_append_left _ _ (by rw [encTxs_len]; exact hk)]
  simp [encTxs, encTx, List.map_set]
theorem exact10_any (ts : List TypeM) (rs : List RootM) (hts : ts.length ≤ 1048576) (hrs : rs.length ≤ 1048576) (hp : ∀ t ∈ ts, t.parts.length ≤ 1000000000) (at_ : Int) (hat : I64 at_) (n : Int) (hn : I64 n) :
    PCall Try.prog 7 [vSch ts rs, vI at_, vI n] (fun r => r = vB true) := by
  refine go_fn (tyOf_ok _) Try.func7 rfl rfl (by rw [Try.results7]) Try.ntmps7 rfl fun E => ?_
  have hcut := cut10_G ts rs (by omega) (by omega) hp
  unfold cutV cutO at hcut
  have hcl := cutT_len ts
  have hcp := cutT_parts (ts := ts)
  have hrl : (rs.take 260).length ≤ 260 := by rw [List.length_take]; omega
  generalize cutT ts = S at *
  generalize rs.take 260 = R at *
  have hlent := lent10_G S R (by omega) (by omega) (fun t ht => by have := hcp t ht; omega)
  have hext := extents10_G S R (by omega) (by omega) (fun t ht => by have := hcp t ht; omega)
  unfold sV lentV at hlent hext
  unfold vSch
  by_cases h0 : S.length = 0
  · have e1 : ((S.length : Int) = 0) = True := eq_true (by omega)
    (repeat' (first
    | exact trivial
    | (with_reducible first | refine awA ?_ | refine awB ?_ | refine awC ?_ | refine awD ?_ | refine awE ?_ | refine awF ?_ | refine awG ?_ | refine awH ?_ | refine awI ?_ | refine awJ ?_ | refine awK ?_ | refine awL ?_ | refine awM (by decide) ?_)
    | (refine aw_draw (id := 9) (t := (.node [0, 1, 2, 3, 4, 5, 6, 7, 8, 9, 10, 11, 12, 13] [])) (drR [7] [] []) mixed (by kernel_rfl) (by kernel_rfl) (fun _ _ h => h) ?_)
    | (refine at_done (by simp only [List.filterMap_cons, List.filterMap_nil, List.getElem?_toArray, List.getElem?_cons_zero, List.getElem?_cons_succ]; exact rfl) ?_) | (refine at_alt (by simp only [List.filterMap_cons, List.filterMap_nil, List.getElem?_toArray, List.getElem?_cons_zero, List.getElem?_cons_succ]; exact rfl) ?_) | refine qalt_normal ?_ | refine ats_cons ?_ ?_ | exact ats_nil
    | ((with_reducible first | refine awN (tyOf_ok _) [] ?_ | refine awO (tyOf_ok _) [] ?_ | refine awP (tyOf_ok _) [] ?_ | refine awQ ?_ | refine awR ?_ | refine awS ?_); intro r hr; simp only [go_sem, Nat.reduceBEq, Nat.reduceBneDiff, Nat.reduceLT, Nat.reduceLeDiff, Nat.reduceAdd, Nat.reduceMul, Nat.reduceSub, Nat.reduceEqDiff, reduceCtorEq, sO, lentO, encTs_len, encRs_len, e1, List.cons_append, List.nil_append, Bool.not_true] at hr; subst hr; (first | refine caA (fun _ => awake10) rfl ?_ ?_ ?_ | refine awV ?_ ?_ | refine awW ?_ ?_ | refine endK ?_ ?_ | (refine condK (fun h => ?_) (fun h => ?_) <;> (try simp only [go_sem, reduceCtorEq] at h) <;> (try (exfalso; omega)))))
    | (refine go_callGd 13 rfl [] [(8000, 8013), (8001, 8014)] [8013, 8014] [] (by simp only [go_sem, Nat.reduceBEq, Nat.reduceBneDiff, Nat.reduceLT, Nat.reduceLeDiff, Nat.reduceAdd, Nat.reduceMul, Nat.reduceSub, Nat.reduceEqDiff, reduceCtorEq, sO, lentO, encTs_len, encRs_len, e1, List.cons_append, List.nil_append, Bool.not_true]; exact rfl) ?_ rfl rfl (by first | exact .inl rfl | exact .inr rfl) (by simp only [go_sem, Nat.reduceBEq, Nat.reduceBneDiff, Nat.reduceLT, Nat.reduceLeDiff, Nat.reduceAdd, Nat.reduceMul, Nat.reduceSub, Nat.reduceEqDiff, reduceCtorEq, sO, lentO, encTs_len, encRs_len, e1, List.cons_append, List.nil_append, Bool.not_true] <;> exact rfl) (hcut) (.inl rfl) ?_)
    | (refine go_callGd 15 rfl [(8013, 10000), (8014, 10001)] [(8000, 8021), (47, 8022), (10000, 8013), (10001, 8014)] [8021, 8022] [8013, 8014] (by simp only [go_sem, Nat.reduceBEq, Nat.reduceBneDiff, Nat.reduceLT, Nat.reduceLeDiff, Nat.reduceAdd, Nat.reduceMul, Nat.reduceSub, Nat.reduceEqDiff, reduceCtorEq, sO, lentO, encTs_len, encRs_len, e1, List.cons_append, List.nil_append, Bool.not_true]; exact rfl) ?_ rfl rfl (by first | exact .inl rfl | exact .inr rfl) (by simp only [go_sem, Nat.reduceBEq, Nat.reduceBneDiff, Nat.reduceLT, Nat.reduceLeDiff, Nat.reduceAdd, Nat.reduceMul, Nat.reduceSub, Nat.reduceEqDiff, reduceCtorEq, sO, lentO, encTs_len, encRs_len, e1, List.cons_append, List.nil_append, Bool.not_true] <;> exact rfl) (hlent) (.inl rfl) ?_)
    | (refine go_callGd 18 rfl [(8021, 10000), (8022, 10001), (8013, 10002), (8014, 10003)] [(10000, 8021), (10001, 8022), (10002, 8013), (10003, 8014)] [] [8021, 8022, 8013, 8014] (by simp only [go_sem, Nat.reduceBEq, Nat.reduceBneDiff, Nat.reduceLT, Nat.reduceLeDiff, Nat.reduceAdd, Nat.reduceMul, Nat.reduceSub, Nat.reduceEqDiff, reduceCtorEq, sO, lentO, encTs_len, encRs_len, e1, List.cons_append, List.nil_append, Bool.not_true]; exact rfl) ?_ rfl rfl (by first | exact .inl rfl | exact .inr rfl) (by simp only [go_sem, Nat.reduceBEq, Nat.reduceBneDiff, Nat.reduceLT, Nat.reduceLeDiff, Nat.reduceAdd, Nat.reduceMul, Nat.reduceSub, Nat.reduceEqDiff, reduceCtorEq, sO, lentO, encTs_len, encRs_len, e1, List.cons_append, List.nil_append, Bool.not_true] <;> exact rfl) (hext) (.inl rfl) ?_) | fail)) <;> (try omega)
    exact rfl
  · have e1 : ((S.length : Int) = 0) = False := eq_false (by omega)
    obtain ⟨r1, r2, r3⟩ := rest_eq at_ S.length (by omega)
    have r4 := Int.emod_nonneg at_ (show (S.length : Int) ≠ 0 by omega)
    have r5 := Int.emod_lt_of_pos at_ (show (0 : Int) < S.length by omega)
    have hw := wrap_i64 (n := at_.tmod S.length + S.length) (by omega)
    obtain ⟨k, hk⟩ : ∃ k : Nat, at_ % (S.length : Int) = k := ⟨(at_ % (S.length : Int)).toNat, by omega⟩
    rw [hk] at r1 r4 r5
    have hlt : k < S.length := by omega
    have z0 : ((k : Int)).toNat = k := by omega
    have g1 := encTs_get hlt
    have g2 := encTxs_get hlt [mT]
    have hs1 := encTs_set S k ⟨S[k].kind, n, S[k].elem, S[k].parts⟩
    have hs2 := encTxs_set S k hlt ⟨S[k].kind, n, S[k].elem, S[k].parts⟩ [mT]
    have hpk := hcp _ (List.getElem_mem hlt)
    have hl2 : (S.set k ⟨S[k].kind, n, S[k].elem, S[k].parts⟩).length = S.length := by simp
    have hp2 : ∀ t ∈ S.set k ⟨S[k].kind, n, S[k].elem, S[k].parts⟩, t.parts.length ≤ 1000000000 := fun t ht => by
      rcases List.mem_or_eq_of_mem_set ht with h | h
      · have := hcp t h; omega
      · subst h; simp only; omega
    have hext2 := extents10_G (S.set k ⟨S[k].kind, n, S[k].elem, S[k].parts⟩) R (by rw [hl2]; omega) (by omega) hp2
    unfold sV lentV at hext2
    rw [hl2] at hext2
    have hlx : (encTxs S ++ [mT]).length = S.length + 1 := by simp [encTxs]
    generalize S[k] = t at *
    generalize S.set k ⟨t.kind, n, t.elem, t.parts⟩ = S2 at *
    (repeat' (first
    | exact trivial
    | (with_reducible first | refine awA ?_ | refine awB ?_ | refine awC ?_ | refine awD ?_ | refine awE ?_ | refine awF ?_ | refine awG ?_ | refine awH ?_ | refine awI ?_ | refine awJ ?_ | refine awK ?_ | refine awL ?_ | refine awM (by decide) ?_)
    | (refine aw_draw (id := 9) (t := (.node [0, 1, 2, 3, 4, 5, 6, 7, 8, 9, 10, 11, 12, 13] [])) (drR [7] [] []) mixed (by kernel_rfl) (by kernel_rfl) (fun _ _ h => h) ?_)
    | (refine at_done (by simp only [List.filterMap_cons, List.filterMap_nil, List.getElem?_toArray, List.getElem?_cons_zero, List.getElem?_cons_succ]; exact rfl) ?_) | (refine at_alt (by simp only [List.filterMap_cons, List.filterMap_nil, List.getElem?_toArray, List.getElem?_cons_zero, List.getElem?_cons_succ]; exact rfl) ?_) | refine qalt_normal ?_ | refine ats_cons ?_ ?_ | exact ats_nil
    | ((with_reducible first | refine awN (tyOf_ok _) [] ?_ | refine awO (tyOf_ok _) [] ?_ | refine awP (tyOf_ok _) [] ?_ | refine awQ ?_ | refine awR ?_ | refine awS ?_); intro r hr; simp only [go_sem, Nat.reduceBEq, Nat.reduceBneDiff, Nat.reduceLT, Nat.reduceLeDiff, Nat.reduceAdd, Nat.reduceMul, Nat.reduceSub, Nat.reduceEqDiff, reduceCtorEq, sO, lentO, encTs_len, encRs_len, e1, List.cons_append, List.nil_append, Bool.not_true, r1, hw, z0, g1, g2, hs1, hs2, Nat.zero_add] at hr; subst hr; (first | refine caA (fun _ => awake10) rfl ?_ ?_ ?_ | refine awV ?_ ?_ | refine awW ?_ ?_ | refine endK ?_ ?_ | (refine condK (fun h => ?_) (fun h => ?_) <;> (try simp only [go_sem, reduceCtorEq] at h) <;> (try (exfalso; omega)))))
    | (refine go_callGd 13 rfl [] [(8000, 8013), (8001, 8014)] [8013, 8014] [] (by simp only [go_sem, Nat.reduceBEq, Nat.reduceBneDiff, Nat.reduceLT, Nat.reduceLeDiff, Nat.reduceAdd, Nat.reduceMul, Nat.reduceSub, Nat.reduceEqDiff, reduceCtorEq, sO, lentO, encTs_len, encRs_len, e1, List.cons_append, List.nil_append, Bool.not_true, r1, hw, z0, g1, g2, hs1, hs2, Nat.zero_add]; exact rfl) ?_ rfl rfl (by first | exact .inl rfl | exact .inr rfl) (by simp only [go_sem, Nat.reduceBEq, Nat.reduceBneDiff, Nat.reduceLT, Nat.reduceLeDiff, Nat.reduceAdd, Nat.reduceMul, Nat.reduceSub, Nat.reduceEqDiff, reduceCtorEq, sO, lentO, encTs_len, encRs_len, e1, List.cons_append, List.nil_append, Bool.not_true, r1, hw, z0, g1, g2, hs1, hs2, Nat.zero_add] <;> exact rfl) (hcut) (.inl rfl) ?_)
    | (refine go_callGd 15 rfl [(8013, 10000), (8014, 10001)] [(8000, 8021), (47, 8022), (10000, 8013), (10001, 8014)] [8021, 8022] [8013, 8014] (by simp only [go_sem, Nat.reduceBEq, Nat.reduceBneDiff, Nat.reduceLT, Nat.reduceLeDiff, Nat.reduceAdd, Nat.reduceMul, Nat.reduceSub, Nat.reduceEqDiff, reduceCtorEq, sO, lentO, encTs_len, encRs_len, e1, List.cons_append, List.nil_append, Bool.not_true, r1, hw, z0, g1, g2, hs1, hs2, Nat.zero_add]; exact rfl) ?_ rfl rfl (by first | exact .inl rfl | exact .inr rfl) (by simp only [go_sem, Nat.reduceBEq, Nat.reduceBneDiff, Nat.reduceLT, Nat.reduceLeDiff, Nat.reduceAdd, Nat.reduceMul, Nat.reduceSub, Nat.reduceEqDiff, reduceCtorEq, sO, lentO, encTs_len, encRs_len, e1, List.cons_append, List.nil_append, Bool.not_true, r1, hw, z0, g1, g2, hs1, hs2, Nat.zero_add] <;> exact rfl) (hlent) (.inl rfl) ?_)
    | (refine go_callGd 18 rfl [(8021, 10000), (8022, 10001), (8013, 10002), (8014, 10003)] [(10000, 8021), (10001, 8022), (10002, 8013), (10003, 8014)] [] [8021, 8022, 8013, 8014] (by simp only [go_sem, Nat.reduceBEq, Nat.reduceBneDiff, Nat.reduceLT, Nat.reduceLeDiff, Nat.reduceAdd, Nat.reduceMul, Nat.reduceSub, Nat.reduceEqDiff, reduceCtorEq, sO, lentO, encTs_len, encRs_len, e1, List.cons_append, List.nil_append, Bool.not_true, r1, hw, z0, g1, g2, hs1, hs2, Nat.zero_add]; exact rfl) ?_ rfl rfl (by first | exact .inl rfl | exact .inr rfl) (by simp only [go_sem, Nat.reduceBEq, Nat.reduceBneDiff, Nat.reduceLT, Nat.reduceLeDiff, Nat.reduceAdd, Nat.reduceMul, Nat.reduceSub, Nat.reduceEqDiff, reduceCtorEq, sO, lentO, encTs_len, encRs_len, e1, List.cons_append, List.nil_append, Bool.not_true, r1, hw, z0, g1, g2, hs1, hs2, Nat.zero_add] <;> exact rfl) (hext) (.inl rfl) ?_)
    | (refine go_callGd 51 rfl [(8021, 10000), (8022, 10001), (8013, 10002), (8014, 10003)] [(10000, 8021), (10001, 8022), (10002, 8013), (10003, 8014)] [] [8021, 8022, 8013, 8014] (by simp only [go_sem, Nat.reduceBEq, Nat.reduceBneDiff, Nat.reduceLT, Nat.reduceLeDiff, Nat.reduceAdd, Nat.reduceMul, Nat.reduceSub, Nat.reduceEqDiff, reduceCtorEq, sO, lentO, encTs_len, encRs_len, e1, List.cons_append, List.nil_append, Bool.not_true, r1, hw, z0, g1, g2, hs1, hs2, Nat.zero_add]; exact rfl) ?_ rfl rfl (by first | exact .inl rfl | exact .inr rfl) (by simp only [go_sem, Nat.reduceBEq, Nat.reduceBneDiff, Nat.reduceLT, Nat.reduceLeDiff, Nat.reduceAdd, Nat.reduceMul, Nat.reduceSub, Nat.reduceEqDiff, reduceCtorEq, sO, lentO, encTs_len, encRs_len, e1, List.cons_append, List.nil_append, Bool.not_true, r1, hw, z0, g1, g2, hs1, hs2, Nat.zero_add] <;> exact rfl) (hext2) (.inl rfl) ?_) | fail)) <;> (try omega)
    exact rfl
end Go.Proofs.Ytfgacgpicfknpaa
end
section
namespace Go.Proofs.Ytfgacgpicfknpaa
open Go.ChangeShapes Go.WideShapes Go.ChangeAt Go.RowKit

theorem own : ownKnob Try.prog.godebug = none := by kernel_rfl
theorem laidOut : laidOutB Try.prog = true := by kernel_rfl

/-- a slice of integers that came in: nil, or a row of 'cap' cells, the numbers 'zs' -/
def IsRow (k : IntKind) (w : World) (a : Option Addr) (len cap : Nat) (zs : List Int) : Prop :=
  (a = none ∧ len = 0 ∧ cap = 0 ∧ zs = []) ∨
  ∃ x, a = some x ∧ len ≤ cap ∧ cap ≤ maxLen ∧ zs.length = cap ∧ (∀ i, i < zs.length → w.cell? (x.add i) = some (.int k (zs.getD i 0))) ∧ ∀ n ∈ zs, (Lit.int k n).wf = true

theorem I64.of_wf {n : Int} (h : (Lit.int .i64 n).wf = true) : I64 n := bounds_i64 h
theorem U64.of_wf {n : Int} (h : (Lit.int .u64 n).wf = true) : U64 n := bounds_u64 h
theorem U8.of_wf {n : Int} (h : (Lit.int .u8 n).wf = true) : U8 n := bounds_u8 h

theorem IsRow.row {k : IntKind} {w : World} {a : Option Addr} {len cap : Nat} {zs : List Int} (h : IsRow k w a len cap zs) :
    Row w w.heap.size a ((zs.take len).map (Value.int k)) ∧ len = (zs.take len).length ∧ len ≤ cap ∧ cap ≤ maxLen ∧ ∀ z ∈ zs.take len, (Lit.int k z).wf = true := by
  rcases h with ⟨rfl, rfl, rfl, rfl⟩ | ⟨x, rfl, hl, hm, hz, hcell, hwz⟩
  · exact ⟨fun h => by simp at h, rfl, Nat.le_refl _, by decide, fun z hz => by simp at hz⟩
  · refine ⟨fun hn => ?_, by rw [List.length_take]; omega, hl, hm, fun z hz' => hwz z (List.mem_of_mem_take hz')⟩
    have hn' : 0 < len := by simp at hn; omega
    obtain ⟨b, off, spot⟩ := x
    have hc := hcell 0 (by omega)
    have hspot : spot = none := by simpa [Addr.add] using World.cell?_spot hc
    subst hspot
    refine ⟨b, off, rfl, World.block_lt_of_cell? w _ (by simpa [Addr.add] using hc), fun j u hu => ?_⟩
    have hj : j < len := by
      rcases Nat.lt_or_ge j ((zs.take len).map (Value.int k)).length with h | h
      · simp at h; omega
      · rw [List.getElem?_eq_none h] at hu; cases hu
    have hcj := hcell j (by omega)
    have hplain : (⟨b, off, none⟩ : Addr).add j = ⟨b, off + j, none⟩ := by unfold Addr.add; split <;> simp_all
    rw [hplain] at hcj
    rw [hcj]
    rw [List.getElem?_map, List.getElem?_take_of_lt hj, List.getElem?_eq_getElem (by omega : j < zs.length)] at hu
    simpa [List.getD_eq_getElem?_getD, List.getElem?_eq_getElem (by omega : j < zs.length)] using hu

end Go.Proofs.Ytfgacgpicfknpaa
end
section
namespace Go.Proofs.Ytfgacgpicfknpaa
open Go.ChangeShapes Go.WideShapes Go.ChangeAt Go.RowKit Go.Deep

theorem addr_plain (b off j : Nat) : (⟨b, off, none⟩ : Addr).add j = ⟨b, off + j, none⟩ := by
  unfold Addr.add; by_cases h : j = 0 <;> simp [h]
theorem flat_get {α : Type} {cells : α → List Value} {k : Nat} (hk : ∀ a, (cells a).length = k) : ∀ (L : List α) (i j : Nat), j < k → (L.flatMap cells)[i * k + j]? = (L[i]?).bind fun a => (cells a)[j]? := by
  intro L
  induction L with
  | nil => intro i j _; simp
  | cons a L ih =>
    intro i j hj
    rw [List.flatMap_cons]
    cases i with
    | zero => rw [Nat.zero_mul, Nat.zero_add, List.getElem?_append_left (by rw [hk]; exact hj)]; simp
    | succ i =>
      rw [Nat.add_mul, Nat.one_mul, List.getElem?_append_right (by rw [hk]; omega), hk]
      rw [show i * k + k + j - k = i * k + j by omega, ih i j hj]
      simp
theorem flat_length {α : Type} {cells : α → List Value} {k : Nat} (hk : ∀ a, (cells a).length = k) (L : List α) : (L.flatMap cells).length = L.length * k := by
  induction L with
  | nil => simp
  | cons a L ih => rw [List.flatMap_cons, List.length_append, hk, ih, List.length_cons, Nat.add_mul]; omega
theorem Row.flat {α : Type} {cells : α → List Value} {k : Nat} (hk : ∀ a, (cells a).length = k) {w : World} {B : Nat} {A : Option Addr} {L : List α} (h : Row w B A (L.flatMap cells)) (hk0 : 0 < k) (hL : 0 < L.length) :
    ∃ b off, A = some ⟨b, off, none⟩ ∧ b < B ∧ ∀ i a j u, L[i]? = some a → (cells a)[j]? = some u → w.cell? ⟨b, off + i * k + j, none⟩ = some u := by
  obtain ⟨b, off, e, hb, hc⟩ := h (by rw [flat_length hk]; exact Nat.mul_pos hL hk0)
  refine ⟨b, off, e, hb, fun i a j u hi hj => ?_⟩
  rw [Nat.add_assoc]
  refine hc _ u ?_
  have hjk : j < k := by
    rcases Nat.lt_or_ge j (cells a).length with h | h
    · rwa [hk] at h
    · rw [List.getElem?_eq_none h] at hj; cases hj
  rw [flat_get hk L i j hjk, hi]
  exact hj

section
variable {H : Type} {enc : TypeId × Value → H} {P : Program} {w : World} {base : Nat} {spare : Nat → Bool} {held : Bool}
/-- a slice that came in, read as a list -/
theorem open_view {α : Type} [Inhabited α] (cells : α → List Value) (ok : α → Prop) (k : Nat) (hk : ∀ a, (cells a).length = k) (hk0 : 0 < k) {t e : TypeId} (ht : P.underlying t = some (.slice e)) (hc : P.cellsOf e = k)
    (elem : ∀ n cs' x, DataW.trod enc P w base spare held n e cs' = some x → ∃ a, cs' = cells a ∧ ok a)
    {fuel : Nat} {v : Value} {x : DataW H × List MemPlace} (h : DataW.trod enc P w base spare held fuel t [v] = some x) :
    ∃ (A : Option Addr) (len cap : Nat) (L : List α), v = .slice A len cap ∧ len = L.length ∧ len ≤ cap ∧ cap ≤ maxLen ∧ Row w w.heap.size A (L.flatMap cells) ∧ ∀ a ∈ L, ok a := by
  rcases open_slice ht h with ⟨h0, _⟩ | ⟨a, len, cap, m, n, D, Pl, hv, hb, hl, hm, hmm, _, hx⟩
  · injection h0 with h0
    exact ⟨none, 0, 0, [], h0, rfl, Nat.le_refl _, by decide, fun h => by simp at h, fun a ha => by simp at ha⟩
  · injection hv with hv
    have hlm : len ≤ m := by rw [hmm]; split <;> omega
    obtain ⟨f, hf⟩ := choose_lt (n := len) (p := fun i (a' : α) => w.cells? base (a.add (i * k)) k = some (cells a') ∧ ok a') (fun i hi => by
      obtain ⟨cs', h1, h2⟩ := hx i (by omega)
      obtain ⟨a', rfl, h3⟩ := elem _ _ _ h2
      rw [hc] at h1
      exact ⟨a', h1, h3⟩)
    refine ⟨some a, len, cap, (List.range len).map f, hv, by simp, hl, hm, ?_, fun y hy => ?_⟩
    · intro h0
      rw [flat_length hk] at h0
      have hlen : 0 < len := by
        rcases Nat.eq_zero_or_pos len with h | h
        · subst h; simp at h0
        · exact h
      have hcell : ∀ i j, i < len → j < k → w.cell? ((a.add (i * k)).add j) = (cells (f i))[j]? := fun i j hi hj => (World.cells?_some (hf i hi).1).2.2 j hj
      obtain ⟨b, off, spot⟩ := a
      have h00 := hcell 0 0 hlen hk0
      rw [Nat.zero_mul] at h00
      have hz : ((⟨b, off, spot⟩ : Addr).add 0).add 0 = ⟨b, off, spot⟩ := by simp [Addr.add]
      rw [hz, List.getElem?_eq_getElem (by rw [hk]; exact hk0)] at h00
      have hspot : spot = none := World.cell?_spot h00
      subst hspot
      refine ⟨b, off, rfl, World.block_lt_of_cell? w _ h00, fun q u hu => ?_⟩
      have hq : q < len * k := by
        rcases Nat.lt_or_ge q (((List.range len).map f).flatMap cells).length with h | h
        · rw [flat_length hk] at h; simpa using h
        · rw [List.getElem?_eq_none h] at hu; cases hu
      have hqi : q / k < len := Nat.div_lt_of_lt_mul (by rw [Nat.mul_comm]; exact hq)
      have hqj : q % k < k := Nat.mod_lt _ hk0
      have hqe : q = q / k * k + q % k := by rw [Nat.mul_comm]; exact (Nat.div_add_mod q k).symm
      rw [hqe, flat_get hk _ _ _ hqj] at hu
      simp only [List.getElem?_map, List.getElem?_range hqi, Option.map_some, Option.bind_some] at hu
      have := hcell (q / k) (q % k) hqi hqj
      rw [hu, add_add] at this
      rw [addr_plain, ← hqe] at this
      exact this
    · obtain ⟨i, hi, rfl⟩ := List.mem_map.1 hy
      exact (hf i (by simpa using hi)).2

/-- a field of one cell of a struct that came in -/
theorem fld {n : Nat} {fs : Array Field} {xs : List (DataW H × List MemPlace)} {cs : List Value} (hxl : xs.length = fs.size)
    (hf : ∀ (i : Nat) (f : Field), fs[i]? = some f → DataW.trod enc P w base spare held n f.type ((cs.drop f.offset).take (P.cellsOf f.type)) = xs[i]?)
    (i T o : Nat) (hi : (fs[i]?).map (fun f => (f.type, f.offset)) = some (T, o)) (hc : P.cellsOf T = 1) (v : Value) (hv : cs[o]? = some v) : ∃ y, DataW.trod enc P w base spare held n T [v] = some y := by
  rw [Option.map_eq_some_iff] at hi
  obtain ⟨f, hfi, he⟩ := hi
  injection he with h1 h2
  have h3 := hf i f hfi
  rw [h1, h2, hc] at h3
  have ho : o < cs.length := by
    rcases Nat.lt_or_ge o cs.length with h | h
    · exact h
    · rw [List.getElem?_eq_none h] at hv; cases hv
  have h4 : (cs.drop o).take 1 = [v] := by
    rw [List.drop_eq_getElem_cons ho]
    rw [List.getElem?_eq_getElem ho] at hv
    injection hv with hv
    simp [hv]
  rw [h4] at h3
  have hix : i < xs.length := by
    rw [hxl]
    rcases Nat.lt_or_ge i fs.size with h | h
    · exact h
    · rw [Array.getElem?_eq_none h] at hfi; cases hfi
  exact ⟨xs[i], by rw [h3, List.getElem?_eq_getElem hix]⟩

/-- a slice of integers inside data that came in -/
def IntsIn (w : World) (k : IntKind) (A : Option Addr) (len cap : Nat) (zs : List Int) : Prop :=
  len = zs.length ∧ len ≤ cap ∧ cap ≤ maxLen ∧ Row w w.heap.size A (zs.map (Value.int k)) ∧ ∀ z ∈ zs, (Lit.int k z).wf = true
theorem open_ints_in {t e : TypeId} {k : IntKind} (ht : P.underlying t = some (.slice e)) (he : P.underlying e = some (.int k)) (hc : P.cellsOf e = 1) {fuel : Nat} {v : Value} {x : DataW H × List MemPlace}
    (h : DataW.trod enc P w base spare held fuel t [v] = some x) : ∃ A len cap zs, v = .slice A len cap ∧ IntsIn w k A len cap zs := by
  obtain ⟨A, len, cap, L, hv, h1, h2, h3, h4, h5⟩ := open_view (α := Int) (fun z => [Value.int k z]) (fun z => (Lit.int k z).wf = true) 1 (fun _ => rfl) (by decide) ht hc
    (fun n cs' x h => by obtain ⟨z, h1, _, h2⟩ := DataW.trod_int he h; exact ⟨z, h1, h2⟩) h
  refine ⟨A, len, cap, L, hv, h1, h2, h3, ?_, h5⟩
  have e : L.flatMap (fun z => [Value.int k z]) = L.map (Value.int k) := by
    clear h1 h2 h3 h4 h5
    induction L with
    | nil => rfl
    | cons a L ih => simp [List.flatMap_cons, ih]
  rwa [e] at h4
end
end Go.Proofs.Ytfgacgpicfknpaa
end
section
namespace Go.Proofs.Ytfgacgpicfknpaa
open Go.RowKit

/-! From what came in to abstract values. -/
section
variable {P : Program} {w : World}
theorem PCall.row {f : Nat} {args : List AV} (h : PCall P f args (fun r => r = .v (.bool true))) (vs : Array Value) (hl : vs.size = args.length)
    (ha : ∀ (i : Nat) (x : AV) (v : Value), args[i]? = some x → vs[i]? = some v → AVR (fun b => b < w.heap.size) (fun _ => none) w x v) (hg : FOK (fun b => b < w.heap.size) w) :
    Calls P f vs w fun e w' => e = .returned (.bool true) ∧ Below w.heap.size w w' :=
  (h.2 w _ vs hg hl ha).mono fun e w' ⟨v, r, h1, h2, h3, h4⟩ => by
    subst h2
    cases h4 with
    | s h4 =>
    cases h4 with
    | v _ => exact ⟨h1, h3⟩

theorem args_nil : ∀ (i : Nat) (x : AV) (v : Value), ([] : List AV)[i]? = some x → ((#[] : Array Value))[i]? = some v → AVR (fun b => b < w.heap.size) (fun _ => none) w x v := fun i x v h => by simp at h
theorem args_ok {as' : List AV} {vs : List Value} (h : ∀ (i : Nat) (x : AV) (v : Value), as'[i]? = some x → vs[i]? = some v → AVR (fun b => b < w.heap.size) (fun _ => none) w x v) :
    ∀ (i : Nat) (x : AV) (v : Value), as'[i]? = some x → vs.toArray[i]? = some v → AVR (fun b => b < w.heap.size) (fun _ => none) w x v := fun i x v h1 h2 => h i x v h1 (by simpa using h2)
theorem args_cons {F : Nat → Prop} {a : AV} {u : Value} {as' : List AV} {vs : List Value} (h : AVR F (fun _ => none) w a u) (hr : ∀ (i : Nat) (x : AV) (v : Value), as'[i]? = some x → vs[i]? = some v → AVR F (fun _ => none) w x v) :
    ∀ (i : Nat) (x : AV) (v : Value), (a :: as')[i]? = some x → (u :: vs)[i]? = some v → AVR F (fun _ => none) w x v := fun i x v h1 h2 => by
  cases i with
  | zero => simp only [List.getElem?_cons_zero, Option.some.injEq] at h1 h2; subst h1; subst h2; exact h
  | succ i => exact hr i x v (by simpa using h1) (by simpa using h2)
theorem avr_int {F : Nat → Prop} {β : Nat → Option Nat} (k : IntKind) (z : Int) : AVR F β w (.v (.int k z)) (.int k z) := .s (.v rfl)
theorem avr_bool {F : Nat → Prop} {β : Nat → Option Nat} (b : Bool) : AVR F β w (.v (.bool b)) (.bool b) := .s (.v rfl)

/-- a slice read as a list -/
theorem svr_row {α : Type} (enc : α → List AV) (cells : α → List Value) (k : Nat) (hk : ∀ a, (cells a).length = k) (hke : ∀ a, (enc a).length = k) (hk0 : 0 < k) {F : Nat → Prop} (hF : ∀ b, b < w.heap.size → F b)
    {A : Option Addr} {len cap : Nat} {L : List α} (hl : len = L.length) (hlc : len ≤ cap) (hcm : cap ≤ maxLen) (hr : Row w w.heap.size A (L.flatMap cells))
    (hone : ∀ a ∈ L, ∀ (j : Nat) (v : Value), (cells a)[j]? = some v → v.oneCell' = true) (hs : ∀ a ∈ L, ∀ (j : Nat) (x : AV) (v : Value), (enc a)[j]? = some x → (cells a)[j]? = some v → SVR F w x v) :
    SVR F w (.lst k (L.map enc)) (.slice A len cap) := by
  refine .lst (fun i j => ((L[i]?).bind fun a => (cells a)[j]?).getD undef) (by rw [hl, List.length_map]) hlc hcm (fun cs hcs => ?_) (fun hn => ?_) (fun i j hi hj => ?_) (fun i j cs u hc hu => ?_)
  · obtain ⟨a, _, rfl⟩ := List.mem_map.1 hcs
    exact hke a
  · obtain ⟨b, off, hA, hb, hc⟩ := Row.flat hk hr hk0 (by omega)
    refine ⟨b, off, hA, hF b hb, fun i j hi hj => ?_⟩
    have hi' : i < L.length := by omega
    have h2 : j < (cells L[i]).length := by rw [hk]; exact hj
    rw [List.getElem?_eq_getElem hi', Option.bind_some, List.getElem?_eq_getElem h2, Option.getD_some, ← Nat.add_assoc]
    exact hc i _ j _ (List.getElem?_eq_getElem hi') (List.getElem?_eq_getElem h2)
  · have hi' : i < L.length := by omega
    have h2 : j < (cells L[i]).length := by rw [hk]; exact hj
    rw [List.getElem?_eq_getElem hi', Option.bind_some, List.getElem?_eq_getElem h2, Option.getD_some]
    exact hone _ (List.getElem_mem hi') j _ (List.getElem?_eq_getElem h2)
  · rw [List.getElem?_map] at hc
    cases hci : L[i]? with
    | none => rw [hci] at hc; cases hc
    | some a =>
      rw [hci] at hc
      injection hc with hc
      subst hc
      have hj : j < (cells a).length := by
        rw [hk, ← hke a]
        rcases Nat.lt_or_ge j (enc a).length with h | h
        · exact h
        · rw [List.getElem?_eq_none h] at hu; cases hu
      rw [Option.bind_some, List.getElem?_eq_getElem hj, Option.getD_some]
      exact hs a (List.mem_of_getElem? hci) j u _ hu (List.getElem?_eq_getElem hj)
theorem flat_one {α : Type} (f : α → Value) (L : List α) : L.flatMap (fun z => [f z]) = L.map f := by
  induction L with
  | nil => rfl
  | cons a L ih => simp [List.flatMap_cons, ih]
/-- a slice of integers that came in -/
theorem avr_ints {β : Nat → Option Nat} {k : IntKind} {a : Option Addr} {len cap : Nat} {zs : List Int} (h : IsRow k w a len cap zs) :
    AVR (fun b => b < w.heap.size) β w (.lst 1 ((zs.take len).map fun z => [.v (.int k z)])) (.slice a len cap) := by
  obtain ⟨h1, h2, h3, h4, _⟩ := h.row
  refine .s (svr_row (fun z => [.v (.int k z)]) (fun z => [.int k z]) 1 (fun _ => rfl) (fun _ => rfl) (by decide) (fun _ h => h) h2 h3 h4 (by rw [flat_one]; exact h1) (fun a _ j v hv => ?_) (fun a _ j x v hx hv => ?_))
  · cases j with
    | zero => simp at hv; subst hv; rfl
    | succ j => simp at hv
  · cases j with
    | zero => simp at hx hv; subst hx; subst hv; exact .v rfl
    | succ j => simp at hx
end
end Go.Proofs.Ytfgacgpicfknpaa
end
section
namespace Go.Proofs.Ytfgacgpicfknpaa.bulks
open Go.ChangeShapes Go.WideShapes Go.ChangeAt Go.RowKit

theorem one_le {H : Type} (d : DataW H) : 1 ≤ Rows.uptoBulk d := by
  cases d with
  | lit l => cases l <;> simp [Rows.uptoBulk]
  | nil => simp [Rows.uptoBulk]
  | ptr d => simp [Rows.uptoBulk]
  | slice elems spare => simp [Rows.uptoBulk]
  | agg parts => simp [Rows.uptoBulk]
  | iface t d => simp [Rows.uptoBulk]
  | map entries => simp [Rows.uptoBulk]
  | held h => simp [Rows.uptoBulk]
theorem part_le {H : Type} {d : DataW H} {l : List (DataW H)} (h : d ∈ l) : Rows.uptoBulk d ≤ Rows.uptoBulkAll l := by
  induction l with
  | nil => cases h
  | cons x r ih =>
    simp only [Rows.uptoBulkAll]
    cases List.mem_cons.1 h with
    | inl e => subst e; omega
    | inr e => have := ih e; omega
theorem length_le {H : Type} (l : List (DataW H)) : l.length ≤ Rows.uptoBulkAll l := by
  induction l with
  | nil => simp [Rows.uptoBulkAll]
  | cons x r ih => have := one_le x; simp only [Rows.uptoBulkAll, List.length_cons]; omega
theorem slice_le {H : Type} (elems spare : List (DataW H)) : elems.length + spare.length + 1 ≤ Rows.uptoBulk (.slice elems spare) := by
  have h1 := length_le elems
  have h2 := length_le spare
  simp only [Rows.uptoBulk]
  omega
theorem take_le {H : Type} {k : IntKind} {len cap : Nat} {zs : List Int} (hz : zs.length = cap) (hl : len ≤ cap) : len ≤ Rows.uptoBulk (H := H) (.slice (lits k (zs.take len)) (lits k (zs.drop len))) := by
  refine Nat.le_trans ?_ (slice_le _ _)
  simp [lits]
  omega
theorem bound {H : Type} {l : List (DataW H)} (hk : Rows.uptoSmall H l = true) : Rows.uptoBulkAll l ≤ 1048576 := of_decide_eq_true hk
end Go.Proofs.Ytfgacgpicfknpaa.bulks
end
section
namespace Go.Proofs.Ytfgacgpicfknpaa
open Go.ChangeShapes Go.WideShapes Go.ChangeAt Go.RowKit Go.Deep

/-! What came in, of any plain type, as abstract values; a law's frame for any plain parameters. -/

def tileB (P : Program) : List Field → Nat → Nat → Bool
  | [], o, n => o == n
  | f :: l, o, n => (f.offset == o) && tileB P l (o + P.cellsOf f.type) n
/-- types of integers, truth values, strings, slices and structs alone -/
def plainTy (P : Program) : Nat → TypeId → Bool
  | 0, _ => false
  | n + 1, t =>
    match P.underlying t with
    | some .bool | some .string => P.cellsOf t == 1
    | some (.int _) => P.cellsOf t == 1
    | some (.slice e) => P.cellsOf t == 1 && Nat.blt 0 (P.cellsOf e) && plainTy P n e
    | some (.struct fs) => tileB P fs.toList 0 (P.cellsOf t) && fs.toList.all fun f => plainTy P n f.type
    | _ => false
/-- what the cells of a value of a type are; no list, no string longer than B -/
def Typed (P : Program) (B : Nat) : Nat → TypeId → List AV → Prop
  | 0, _, _ => False
  | n + 1, t, us =>
    match P.underlying t with
    | some .bool => ∃ b, us = [.v (.bool b)]
    | some (.int k) => ∃ z, us = [.v (.int k z)] ∧ (Lit.int k z).wf = true
    | some .string => ∃ s : ByteArray, us = [.v (.string s)] ∧ s.size ≤ B
    | some (.slice e) => ∃ xs, us = [.lst (P.cellsOf e) xs] ∧ xs.length ≤ B ∧ ∀ cs ∈ xs, cs.length = P.cellsOf e ∧ Typed P B n e cs
    | some (.struct fs) => us.length = P.cellsOf t ∧ ∀ (i : Nat) (f : Field), fs[i]? = some f → Typed P B n f.type ((us.drop f.offset).take (P.cellsOf f.type))
    | _ => False
def TypedA (P : Program) (B n : Nat) (t : TypeId) (x : AV) : Prop :=
  match P.underlying t with
  | some (.struct _) => ∃ us, x = .agg us ∧ Typed P B n t us
  | _ => Typed P B n t [x]
def TypedL (P : Program) (B n : Nat) : List TypeId → List AV → Prop
  | [], [] => True
  | t :: ts, x :: xs => TypedA P B n t x ∧ TypedL P B n ts xs
  | _, _ => False

theorem bulk_slice {H : Type} {elems spare : List (DataW H)} {B : Nat} (h : Rows.uptoBulk (.slice elems spare) ≤ B) : elems.length ≤ B ∧ ∀ d ∈ elems, Rows.uptoBulk d ≤ B := by
  simp only [Rows.uptoBulk] at h
  have h1 := bulks.length_le elems
  exact ⟨by omega, fun d hd => by have := bulks.part_le hd; omega⟩
theorem bulk_agg {H : Type} {parts : List (DataW H)} {B : Nat} (h : Rows.uptoBulk (.agg parts) ≤ B) : ∀ d ∈ parts, Rows.uptoBulk d ≤ B := fun d hd => by
  simp only [Rows.uptoBulk] at h
  have := bulks.part_le hd; omega

section
variable {H : Type} {enc : TypeId × Value → H} {P : Program} {w : World} {base : Nat} {spare : Nat → Bool} {held : Bool}
theorem tile_cover : ∀ (l : List Field) (o n : Nat), tileB P l o n = true → ∀ (us : Nat → List AV), (∀ (i : Nat) (f : Field), l[i]? = some f → (us i).length = P.cellsOf f.type) →
    ∃ r : List AV, r.length = n - o ∧ o ≤ n ∧ (∀ (i : Nat) (f : Field), l[i]? = some f → o ≤ f.offset ∧ (r.drop (f.offset - o)).take (P.cellsOf f.type) = us i) ∧
      ∀ j, j < n - o → ∃ i f q, l[i]? = some f ∧ q < P.cellsOf f.type ∧ o + j = f.offset + q ∧ r[j]? = (us i)[q]? := by
  intro l
  induction l with
  | nil =>
    intro o n h us _
    simp only [tileB, beq_iff_eq] at h
    subst h
    exact ⟨[], by simp, Nat.le_refl _, fun i f h => by simp at h, fun j hj => by omega⟩
  | cons g l ih =>
    intro o n h us hus
    simp only [tileB, Bool.and_eq_true, beq_iff_eq] at h
    obtain ⟨rfl, h⟩ := h
    obtain ⟨r, h1, h2, h3, h4⟩ := ih _ _ h (fun i => us (i + 1)) fun i f hf => hus (i + 1) f (by simpa using hf)
    have hl0 := hus 0 g rfl
    refine ⟨us 0 ++ r, by rw [List.length_append]; omega, by omega, fun i f hf => ?_, fun j hj => ?_⟩
    · cases i with
      | zero =>
        simp only [List.getElem?_cons_zero, Option.some.injEq] at hf
        subst hf
        refine ⟨Nat.le_refl _, ?_⟩
        rw [Nat.sub_self, List.drop_zero, ← hl0, List.take_left]
      | succ i =>
        obtain ⟨g1, g2⟩ := h3 i f (by simpa using hf)
        refine ⟨by omega, ?_⟩
        rw [show f.offset - g.offset = (us 0).length + (f.offset - (g.offset + P.cellsOf g.type)) by omega, List.drop_append, List.drop_of_length_le (by omega), List.nil_append]
        rw [show (us 0).length + (f.offset - (g.offset + P.cellsOf g.type)) - (us 0).length = f.offset - (g.offset + P.cellsOf g.type) by omega]
        exact g2
    · rcases Nat.lt_or_ge j (us 0).length with hlt | hge
      · exact ⟨0, g, j, rfl, by omega, rfl, by rw [List.getElem?_append_left hlt]⟩
      · obtain ⟨i, f, q, g1, g2, g3, g4⟩ := h4 (j - (us 0).length) (by omega)
        exact ⟨i + 1, f, q, by simpa using g1, g2, by omega, by rw [List.getElem?_append_right hge]; exact g4⟩

theorem open_gen (B : Nat) : ∀ (n : Nat) (t : TypeId), plainTy P n t = true → ∀ (fuel : Nat) (cs : List Value) (x : DataW H × List MemPlace), DataW.trod enc P w base spare held fuel t cs = some x → (Rows.uptoBulk x.1 ≤ B ∨ maxLen ≤ B) →
    ∃ us : List AV, us.length = cs.length ∧ cs.length = P.cellsOf t ∧ (∀ (j : Nat) (u : AV) (v : Value), us[j]? = some u → cs[j]? = some v → SVR (fun b => b < w.heap.size) w u v) ∧ Typed P B n t us := by
  intro n
  induction n with
  | zero => intro t h; cases h
  | succ n ih =>
    intro t hp fuel cs x h hB
    have one : ∀ (u : AV) (v : Value), SVR (fun b => b < w.heap.size) w u v → ∀ (j : Nat) (u' : AV) (v' : Value), [u][j]? = some u' → [v][j]? = some v' → SVR (fun b => b < w.heap.size) w u' v' := fun u v hs j u' v' h1 h2 => by
      cases j with
      | zero => simp only [List.getElem?_cons_zero, Option.some.injEq] at h1 h2; subst h1; subst h2; exact hs
      | succ j => simp at h1
    unfold plainTy at hp
    split at hp
    · rename_i ht
      obtain ⟨b, rfl, rfl⟩ := DataW.trod_bool ht h
      simp only [beq_iff_eq] at hp
      exact ⟨[.v (.bool b)], rfl, hp.symm, one _ _ (.v rfl), by unfold Typed; rw [ht]; exact ⟨b, rfl⟩⟩
    · rename_i ht
      obtain ⟨s, rfl, rfl, hs⟩ := DataW.trod_string ht h
      simp only [beq_iff_eq] at hp
      have hsB : s.size ≤ B := by
        rcases hB with hB | hB
        · simp only [Rows.uptoBulk] at hB
          have h1 : s.data.toList.length = s.size := by rw [Array.length_toList]; rfl
          omega
        · exact Nat.le_trans hs hB
      refine ⟨[.v (.string s)], rfl, hp.symm, one _ _ (.v rfl), ?_⟩
      unfold Typed
      rw [ht]
      exact ⟨s, rfl, hsB⟩
    · rename_i k ht
      obtain ⟨z, rfl, rfl, hz⟩ := DataW.trod_int ht h
      simp only [beq_iff_eq] at hp
      exact ⟨[.v (.int k z)], rfl, hp.symm, one _ _ (.v rfl), by unfold Typed; rw [ht]; exact ⟨z, rfl, hz⟩⟩
    · rename_i e ht
      simp only [Bool.and_eq_true, beq_iff_eq] at hp
      obtain ⟨⟨hp1, hp2⟩, hp3⟩ := hp
      have hk0 : 0 < P.cellsOf e := Nat.le_of_ble_eq_true hp2
      rcases open_slice ht h with ⟨h0, _⟩ | ⟨a, len, cap, m, f', D, Pl, rfl, hb, hl, hm, hmm, hx0, hx⟩
      · subst h0
        refine ⟨[.lst (P.cellsOf e) []], rfl, hp1.symm, one _ _ (.lst (fun _ _ => .nilFunc) rfl (Nat.le_refl _) (by decide) (fun cs h => by cases h) (fun h => absurd h (Nat.lt_irrefl _)) (fun i j hi => absurd hi (Nat.not_lt_zero _)) (fun i j cs u h => by simp at h)), ?_⟩
        unfold Typed
        rw [ht]
        exact ⟨[], rfl, Nat.zero_le _, fun cs h => by cases h⟩
      · have hlm : len ≤ m := by rw [hmm]; split <;> omega
        have hBe : ∀ i, i < len → Rows.uptoBulk (D i) ≤ B ∨ maxLen ≤ B := fun i hi => by
          rcases hB with hB | hB
          · rw [hx0] at hB
            exact .inl ((bulk_slice hB).2 _ (List.mem_map.2 ⟨i, List.mem_range.2 hi, rfl⟩))
          · exact .inr hB
        have hBl : len ≤ B := by
          rcases hB with hB | hB
          · rw [hx0] at hB
            have := (bulk_slice hB).1
            simpa using this
          · omega
        obtain ⟨f, hf⟩ := choose_lt (n := len) (p := fun i (y : List AV × List Value) => w.cells? base (a.add (i * P.cellsOf e)) (P.cellsOf e) = some y.2 ∧ y.1.length = y.2.length ∧ y.2.length = P.cellsOf e ∧
            (∀ (j : Nat) (u : AV) (v : Value), y.1[j]? = some u → y.2[j]? = some v → SVR (fun b => b < w.heap.size) w u v) ∧ Typed P B n e y.1) (fun i hi => by
          obtain ⟨cs', h1, h2⟩ := hx i (by omega)
          obtain ⟨us, g1, g2, g3, g4⟩ := ih e hp3 _ _ _ h2 (hBe i hi)
          exact ⟨(us, cs'), h1, g1, g2, g3, g4⟩)
        refine ⟨[.lst (P.cellsOf e) ((List.range len).map fun i => (f i).1)], rfl, hp1.symm, one _ _ ?_, ?_⟩
        · refine .lst (fun i j => ((f i).2[j]?).getD undef) (by simp) hl hm (fun cs hcs => ?_) (fun hn => ?_) (fun i j hi hj => ?_) (fun i j cs u hc hu => ?_)
          · obtain ⟨i, hi, rfl⟩ := List.mem_map.1 hcs
            have := hf i (List.mem_range.1 hi)
            omega
          · have hcell : ∀ i j, i < len → j < P.cellsOf e → w.cell? ((a.add (i * P.cellsOf e)).add j) = (f i).2[j]? := fun i j hi hj => (World.cells?_some (hf i hi).1).2.2 j hj
            obtain ⟨b, off, spot⟩ := a
            have h00 := hcell 0 0 hn hk0
            rw [Nat.zero_mul] at h00
            have hz : ((⟨b, off, spot⟩ : Addr).add 0).add 0 = ⟨b, off, spot⟩ := by simp [Addr.add]
            rw [hz, List.getElem?_eq_getElem (by have := hf 0 hn; omega)] at h00
            have hspot : spot = none := World.cell?_spot h00
            subst hspot
            refine ⟨b, off, rfl, World.block_lt_of_cell? w _ h00, fun i j hi hj => ?_⟩
            have h5 := hcell i j hi hj
            rw [add_add, addr_plain] at h5
            rw [h5, List.getElem?_eq_getElem (by have := hf i hi; omega)]
            rfl
          · have h5 := hf i hi
            have hj1 : j < (f i).1.length := by omega
            have hj2 : j < (f i).2.length := by omega
            rw [List.getElem?_eq_getElem hj2, Option.getD_some]
            exact (h5.2.2.2.1 j _ _ (List.getElem?_eq_getElem hj1) (List.getElem?_eq_getElem hj2)).one
          · rw [List.getElem?_map] at hc
            rcases Nat.lt_or_ge i len with hi | hi
            · rw [List.getElem?_range hi] at hc
              simp only [Option.map_some, Option.some.injEq] at hc
              subst hc
              have h5 := hf i hi
              have hj1 : j < (f i).1.length := lt_of_get hu
              have hj2 : j < (f i).2.length := by omega
              rw [List.getElem?_eq_getElem hj2, Option.getD_some]
              exact h5.2.2.2.1 j _ _ hu (List.getElem?_eq_getElem hj2)
            · rw [List.getElem?_eq_none (by simpa using hi)] at hc; cases hc
        · unfold Typed
          rw [ht]
          refine ⟨_, rfl, by simpa using hBl, fun cs hcs => ?_⟩
          obtain ⟨i, hi, rfl⟩ := List.mem_map.1 hcs
          have := hf i (List.mem_range.1 hi)
          exact ⟨by omega, this.2.2.2.2⟩
    · rename_i fs ht
      simp only [Bool.and_eq_true, List.all_eq_true] at hp
      obtain ⟨hp1, hp2⟩ := hp
      obtain ⟨xs, n', rfl, hx0, hlen, hxl, hf⟩ := DataW.trod_struct ht h
      have hBe : ∀ (i : Nat) (y : DataW H × List MemPlace), xs[i]? = some y → Rows.uptoBulk y.1 ≤ B ∨ maxLen ≤ B := fun i y hy => by
        rcases hB with hB | hB
        · rw [hx0] at hB
          exact .inl (bulk_agg hB _ (List.mem_map.2 ⟨y, List.mem_of_getElem? hy, rfl⟩))
        · exact .inr hB
      obtain ⟨us, hus⟩ := choose_lt (n := fs.size) (p := fun i (u : List AV) => ∀ f, fs[i]? = some f → u.length = P.cellsOf f.type ∧ ((cs.drop f.offset).take (P.cellsOf f.type)).length = P.cellsOf f.type ∧
          (∀ (j : Nat) (a : AV) (v : Value), u[j]? = some a → ((cs.drop f.offset).take (P.cellsOf f.type))[j]? = some v → SVR (fun b => b < w.heap.size) w a v) ∧ Typed P B n f.type u) (fun i hi => by
        have hix : i < xs.length := by omega
        have hfi := hf i fs[i] (Array.getElem?_eq_getElem hi)
        rw [List.getElem?_eq_getElem hix] at hfi
        obtain ⟨u, g1, g2, g3, g4⟩ := ih (fs[i]).type (hp2 _ (by simp)) _ _ _ hfi (hBe i _ (List.getElem?_eq_getElem hix))
        refine ⟨u, fun f hf' => ?_⟩
        rw [Array.getElem?_eq_getElem hi] at hf'
        injection hf' with hf'
        subst hf'
        exact ⟨by omega, g2, g3, g4⟩)
      have lt_of : ∀ (i : Nat) (f : Field), fs[i]? = some f → i < fs.size := fun i f h => by
        rcases Nat.lt_or_ge i fs.size with h' | h'
        · exact h'
        · rw [Array.getElem?_eq_none h'] at h; cases h
      obtain ⟨r, r1, r2, r3, r4⟩ := tile_cover fs.toList 0 (P.cellsOf t) hp1 us fun i f hf' => by
        have hf'' : fs[i]? = some f := by simpa using hf'
        exact (hus i (lt_of i f hf'') f hf'').1
      refine ⟨r, by omega, hlen, fun j u v hu hv => ?_, ?_⟩
      · obtain ⟨i, f, q, g1, g2, g3, g4⟩ := r4 j (by have := lt_of_get hu; omega)
        have g1' : fs[i]? = some f := by simpa using g1
        rw [hu] at g4
        refine (hus i (lt_of i f g1') f g1').2.2.1 q u v g4.symm ?_
        rw [List.getElem?_take_of_lt g2, List.getElem?_drop, ← g3, Nat.zero_add]
        exact hv
      · unfold Typed
        rw [ht]
        refine ⟨by omega, fun i f hf' => ?_⟩
        have := (r3 i f (by simpa using hf')).2
        rw [Nat.sub_zero] at this
        rw [this]
        exact (hus i (lt_of i f hf') f hf').2.2.2
    · cases hp

theorem open_arg {B n : Nat} {t : TypeId} (hp : plainTy P n t = true) {v : Value} {d : DataW H} {p : List MemPlace} (h : DataW.Trod enc P w base spare held t v d p) {r : Reach} {b0 : Nat} (ho : Value.okWide P w r b0 t v) (hB : Rows.uptoBulk d ≤ B ∨ maxLen ≤ B) :
    ∃ x, AVR (fun b => b < w.heap.size) (fun _ => none) w x v ∧ TypedA P B n t x := by
  obtain ⟨fuel, hf⟩ := h
  obtain ⟨us, h1, h2, h3, h4⟩ := open_gen B n t hp fuel _ _ hf hB
  have leaf : v.cells = #[v] → (∀ fs, P.underlying t ≠ some (.struct fs)) → ∃ x, AVR (fun b => b < w.heap.size) (fun _ => none) w x v ∧ TypedA P B n t x := fun hv hns => by
    rw [hv] at h1 h3
    obtain ⟨u, rfl⟩ := List.length_eq_one_iff.1 (show us.length = 1 by simpa using h1)
    refine ⟨u, .s (h3 0 u v rfl rfl), ?_⟩
    unfold TypedA
    split
    · rename_i fs ht; exact absurd ht (hns fs)
    · exact h4
  have hp' := hp
  cases n with
  | zero => cases hp
  | succ n =>
  unfold plainTy at hp'
  split at hp'
  · rename_i ht
    obtain ⟨b, rfl⟩ := okWide_bool ht ho
    exact leaf rfl fun fs h => by rw [ht] at h; cases h
  · rename_i ht
    obtain ⟨b, rfl⟩ := okWide_string ht ho
    exact leaf rfl fun fs h => by rw [ht] at h; cases h
  · rename_i k ht
    obtain ⟨b, rfl⟩ := okWide_int ht ho
    exact leaf rfl fun fs h => by rw [ht] at h; cases h
  · rename_i e ht
    obtain ⟨a, l, c, rfl⟩ := okWide_slice ht ho
    exact leaf rfl fun fs h => by rw [ht] at h; cases h
  · rename_i fs ht
    obtain ⟨cs, rfl, hcs⟩ := okWide_struct ht ho
    have hc : (Value.agg cs).cells = cs := rfl
    rw [hc] at h1 h3
    refine ⟨.agg us, .agg (by simpa using h1.symm) (fun i u hu => ?_) (fun i c u hc hu => .s (h3 i c u hc (by simpa using hu))), ?_⟩
    · have hi : i < us.length := by
        rw [h1]
        have := lt_of_get (l := cs.toList) (i := i) (x := u) (by simpa using hu)
        exact this
      exact (h3 i _ u (List.getElem?_eq_getElem hi) (by simpa using hu)).one
    · unfold TypedA
      rw [ht]
      exact ⟨us, rfl, h4⟩
  · cases hp'

theorem open_args {B n : Nat} {r : Reach} {b0 : Nat} : ∀ (ts : List TypeId) (vs : List Value) (ds : List (DataW H)) (p : List MemPlace), DataW.TrodAll enc P w base spare held ts vs ds p → (∀ t ∈ ts, plainTy P n t = true) →
    (∀ (j : Nat) t v, ts[j]? = some t → vs[j]? = some v → Value.okWide P w r b0 t v) → (Rows.uptoBulkAll ds ≤ B ∨ maxLen ≤ B) →
    ds.length = ts.length ∧ vs.length = ts.length ∧ ∃ as' : List AV, as'.length = vs.length ∧ (∀ (i : Nat) (x : AV) (v : Value), as'[i]? = some x → vs[i]? = some v → AVR (fun b => b < w.heap.size) (fun _ => none) w x v) ∧ TypedL P B n ts as' := by
  intro ts
  induction ts with
  | nil =>
    intro vs ds p h _ _ _
    obtain ⟨rfl, rfl, rfl⟩ := trodAll_nil h
    exact ⟨rfl, rfl, [], rfl, fun i x v h => by simp at h, trivial⟩
  | cons t ts ih =>
    intro vs ds p h hp ho hB
    obtain ⟨v, vs', d, ds', p1, q, rfl, rfl, rfl, h1, h2⟩ := trodAll_cons h
    have hB1 : Rows.uptoBulk d ≤ B ∨ maxLen ≤ B := hB.imp (fun h => by simp only [Rows.uptoBulkAll] at h; omega) id
    have hB2 : Rows.uptoBulkAll ds' ≤ B ∨ maxLen ≤ B := hB.imp (fun h => by simp only [Rows.uptoBulkAll] at h; omega) id
    obtain ⟨x, g1, g2⟩ := open_arg (hp t (.head _)) h1 (ho 0 t v rfl rfl) hB1
    obtain ⟨e1, e2, as', g3, g4, g5⟩ := ih vs' ds' q h2 (fun t ht => hp t (.tail _ ht)) (fun j t v h1 h2 => ho (j + 1) t v (by simpa using h1) (by simpa using h2)) hB2
    refine ⟨by simp [e1], by simp [e2], x :: as', by simp [g3], fun i y u hy hu => ?_, g2, g5⟩
    cases i with
    | zero => simp only [List.getElem?_cons_zero, Option.some.injEq] at hy hu; subst hy; subst hu; exact g1
    | succ i => exact g4 i y u (by simpa using hy) (by simpa using hu)
end

theorem trodAll_stays {H : Type} {enc : TypeId × Value → H} {P : Program} (hl : laidOutB P = true) {W W' : World} (hb : Below W.heap.size W W') : ∀ (ts : List TypeId) (vs : List Value) (ds : List (DataW H)) (p : List MemPlace),
    (∀ t ∈ ts, P.readableRec t = true ∧ t < P.types.size) → DataW.TrodAll enc P W 0 (fun _ => true) true ts vs ds p → DataW.TrodAll enc P W' 0 (fun b => decide (b < W.heap.size)) true ts vs ds p := by
  intro ts
  induction ts with
  | nil =>
    intro vs ds p _ h
    obtain ⟨rfl, rfl, rfl⟩ := trodAll_nil h
    exact trodAll_mk0
  | cons t ts ih =>
    intro vs ds p hr h
    obtain ⟨v, vs', d, ds', p1, q, rfl, rfl, rfl, h1, h2⟩ := trodAll_cons h
    have hlt : ∀ x ∈ p1, x.block < W.heap.size := by obtain ⟨m, hm⟩ := h1; exact DataW.trod_lt m _ _ _ hm
    exact trodAll_cons_mk (Below.trod hl (hr t (.head _)).1 (hr t (.head _)).2 h1 hb hlt) (ih vs' ds' q (fun t ht => hr t (.tail _ ht)) h2)

/-- a law's contract, of inputs of bulk at most B -/
theorem law_contract {P : Program} (hl : laidOutB P = true) {f : FuncId} {fn : Func} {spec : ChangeSpec} {tb B n : Nat} (hvars : spec.vars = []) (hres : fn.resultTypes = #[tb]) (htb : P.underlying tb = some .bool)
    (hfn : ∀ (H : Type) (ds : List (DataW H)), ds.length = fn.params.toList.length → spec.fn H ds = { results := [.lit (.bool true)], args := ds, vars := [] })
    (hplain : (fn.params.toList.all fun t => plainTy P n t && P.readableRec t && decide (t < P.types.size)) = true)
    (walk : ∀ as', TypedL P B n fn.params.toList as' → PCall P f as' (fun r => r = .v (.bool true)))
    (H : Type) (enc : TypeId × Value → H) (W : World) (base : Nat) (args : Array Value) (ds gs : List (DataW H)) (before : List MemPlace)
    (hval : ∀ (j : Nat) t v, fn.params[j]? = some t → args[j]? = some v → Value.okWide P W .any base t v)
    (hW : DataW.Whole enc P fn.params.toList spec.vars false W args.toList ds gs before) (hk : Rows.uptoBulkAll (ds ++ gs) ≤ B ∨ maxLen ≤ B) :
    Calls P f args W fun e W' => ∃ v, e = .returned v ∧ spec.post enc P fn false true false false W args v W' := by
  have hW' := hW
  obtain ⟨p, q, hA, hV, rfl, hfz, hnd⟩ := hW
  rw [hvars] at hV
  obtain ⟨rfl, rfl⟩ := trodVars_none hV
  rw [List.append_nil] at hk
  simp only [List.all_eq_true, Bool.and_eq_true, decide_eq_true_eq] at hplain
  obtain ⟨e1, e2, as', g1, g2, g3⟩ := open_args _ _ _ _ hA (fun t ht => (hplain t ht).1.1) (fun j t v h1 h2 => hval j t v (by simpa using h1) (by simpa using h2)) hk
  refine (PCall.row (walk as' g3) args (by simpa using g1.symm) (fun i x v hx hv => g2 i x v hx (by simpa using hv)) (fok_top W)).mono fun e W' ⟨he, bel⟩ => ?_
  subst he
  have hs : spec.fn H (ds ++ []) = { results := [.lit (.bool true)], args := ds, vars := [] } := by rw [List.append_nil]; exact hfn H ds e1
  refine ⟨_, rfl, ds, [], _, [], p, [], hW', ?_, ?_, ?_, bel.frame _, fun h => by cases h⟩
  · rw [hs, hres]
    exact trodAll_mk1 (shut_bool htb _)
  · rw [hs]
    exact trodAll_stays hl bel _ _ _ _ (fun t ht => ⟨(hplain t ht).1.2, (hplain t ht).2⟩) hA
  · rw [hs, hvars]; rfl
end Go.Proofs.Ytfgacgpicfknpaa
end
