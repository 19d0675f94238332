import Derived.Laws.BitsLemmas
import Derived.Test.YtfgacgpicfknpaaDoorP9
set_option linter.all false
section
namespace Go.Proofs.YtfgacgpicfknpaaDoor
open Go.RowKit
set_option maxRecDepth 100000
set_option maxHeartbeats 8000000
/-! Answers apart. -/
theorem apart11_G (L : List Int) (hL : L.length ≤ 1000000000) :
    GCall Tryd.prog 16 [.ref 3 1 15000 0 L.length, .ref 3 1 15001 0 L.length] [(15000, .row 3 1 (v8 L)), (15001, .row 3 1 (v8 L))] (vB true) [] := by
  refine go_fnG (tyOf_ok _) Tryd.func16 rfl rfl (by rw [Tryd.results16]) Tryd.ntmps16 rfl fun E => ?_
  have hS := sameInts11_any L L (by omega)
  rw [decide_eq_true rfl] at hS
  have htL : (v8 L).take L.length = v8 L := take_len (by rw [v8_len]; exact Nat.le_refl _)
  (repeat' (first
    | exact trivial
    | (with_reducible first | refine awA ?_ | refine awB ?_ | refine awC ?_ | refine awD ?_ | refine awE ?_ | refine awF ?_ | refine awG ?_ | refine awH ?_ | refine awI ?_ | refine awJ ?_ | refine awK ?_ | refine awL ?_ | refine awM (by decide) ?_)
    | ((with_reducible first | refine awN (tyOf_ok _) [] ?_ | refine awO (tyOf_ok _) [] ?_ | refine awP (tyOf_ok _) [] ?_ | refine awQ ?_ | refine awR ?_ | refine awS ?_ | refine awT ?_ | refine awU ?_); intro r hr; simp only [go_sem, Nat.reduceBEq, Nat.reduceBneDiff, Nat.reduceLT, Nat.reduceLeDiff, Nat.reduceAdd, Nat.reduceMul, Nat.reduceSub, Nat.reduceEqDiff, reduceCtorEq, v8_len, htL] at hr; subst hr; (first | refine awV ?_ ?_ | refine awW ?_ ?_ | refine endK ?_ ?_ | refine endGK ?_ ?_ ?_ | (refine condK (fun h => ?_) (fun h => ?_) <;> (try simp only [go_sem, reduceCtorEq] at h) <;> (try (exfalso; omega))))) | fail)) <;> (try omega)
  refine go_loop [0, 1, 5, 6] [12, 15000, 15001] (fun i : Nat => ⟨[(0, true, .ref 3 1 15000 0 L.length), (1, true, .ref 3 1 15001 0 L.length), (5, true, .ref 3 1 12 0 L.length), (6, true, vI i)],
    [(12, .row 3 1 (v8 L)), (15000, .row 3 1 (ovr [vI (-7)] (v8 L) i)), (15001, .row 3 1 (v8 L))]⟩) (fun i => i ≤ L.length) (fun i => L.length - i) 0 (by simp only [go_sem, Nat.reduceBEq, Nat.reduceBneDiff, Nat.reduceLT, Nat.reduceLeDiff, Nat.reduceAdd, Nat.reduceMul, Nat.reduceSub, Nat.reduceEqDiff, reduceCtorEq, ovr_0]; exact rfl) (Nat.zero_le _) ?_
  intro i hi
  have hw1 := wrap_i64 (n := (i : Int) + 1) (by omega)
  by_cases hlt : i < L.length
  · have e1 : ((i : Int) < L.length) = True := eq_true (by omega)
    have g1 := ovr_get [vI (-7)] (xs := v8 L) (i := i) (by rw [v8_len]; exact hlt)
    have g2 := ovr_set [vI (-7)] (xs := v8 L) (i := i) (by rw [v8_len]; exact hlt)
    have g3 := ovr_len [vI (-7)] (xs := v8 L) (i := i) (by rw [v8_len]; omega)
    have g4 : (v8 L)[i]'(by rw [v8_len]; exact hlt) = [vI L[i]] := by simp [v8]
    rw [g4] at g1
    (repeat' (first
    | exact trivial
    | (with_reducible first | refine awA ?_ | refine awB ?_ | refine awC ?_ | refine awD ?_ | refine awE ?_ | refine awF ?_ | refine awG ?_ | refine awH ?_ | refine awI ?_ | refine awJ ?_ | refine awK ?_ | refine awL ?_ | refine awM (by decide) ?_)
    | ((with_reducible first | refine awN (tyOf_ok _) [] ?_ | refine awO (tyOf_ok _) [] ?_ | refine awP (tyOf_ok _) [] ?_ | refine awQ ?_ | refine awR ?_ | refine awS ?_ | refine awT ?_ | refine awU ?_); intro r hr; simp only [go_sem, Nat.reduceBEq, Nat.reduceBneDiff, Nat.reduceLT, Nat.reduceLeDiff, Nat.reduceAdd, Nat.reduceMul, Nat.reduceSub, Nat.reduceEqDiff, reduceCtorEq, hw1, e1, g1, g2, g3, v8_len] at hr; subst hr; (first | refine awV ?_ ?_ | refine awW ?_ ?_ | refine endK ?_ ?_ | refine endGK ?_ ?_ ?_ | (refine condK (fun h => ?_) (fun h => ?_) <;> (try simp only [go_sem, reduceCtorEq] at h) <;> (try (exfalso; omega))))) | fail)) <;> (try omega)
    exact ⟨i + 1, by simp only [go_sem, Nat.reduceBEq, Nat.reduceBneDiff, Nat.reduceLT, Nat.reduceLeDiff, Nat.reduceAdd, Nat.reduceMul, Nat.reduceSub, Nat.reduceEqDiff, reduceCtorEq]; exact rfl, hlt, by omega⟩
  have e1 : ((i : Int) < L.length) = False := eq_false (by omega)
  obtain rfl : i = L.length := by omega
  have hf : ovr [vI (-7)] (v8 L) L.length = v8 (List.replicate L.length (-7)) := by
    have := ovr_end [vI (-7)] (v8 L)
    rw [v8_len] at this
    rw [this]; simp [v8]
  have hl1 : (List.replicate L.length (-7 : Int)).length = L.length := by simp
  have ht1 : (v8 (List.replicate L.length (-7))).take L.length = v8 (List.replicate L.length (-7)) := take_len (by rw [v8_len, hl1]; exact Nat.le_refl _)
  have hl2 : (List.replicate L.length (-7 : Int) ++ [-7]).length = L.length + 1 := by simp
  (repeat' (first
    | exact trivial
    | (with_reducible first | refine awA ?_ | refine awB ?_ | refine awC ?_ | refine awD ?_ | refine awE ?_ | refine awF ?_ | refine awG ?_ | refine awH ?_ | refine awI ?_ | refine awJ ?_ | refine awK ?_ | refine awL ?_ | refine awM (by decide) ?_)
    | ((with_reducible first | refine awN (tyOf_ok _) [] ?_ | refine awO (tyOf_ok _) [] ?_ | refine awP (tyOf_ok _) [] ?_ | refine awQ ?_ | refine awR ?_ | refine awS ?_ | refine awT ?_ | refine awU ?_); intro r hr; simp only [go_sem, Nat.reduceBEq, Nat.reduceBneDiff, Nat.reduceLT, Nat.reduceLeDiff, Nat.reduceAdd, Nat.reduceMul, Nat.reduceSub, Nat.reduceEqDiff, reduceCtorEq, hw1, e1, hf, v8_len, hl1, ht1, hl2, htL, v8_app] at hr; subst hr; (first | refine caA (fun _ => hS) rfl ?_ ?_ ?_ | refine awV ?_ ?_ | refine awW ?_ ?_ | refine endK ?_ ?_ | refine endGK ?_ ?_ ?_ | (refine condK (fun h => ?_) (fun h => ?_) <;> (try simp only [go_sem, reduceCtorEq] at h) <;> (try (exfalso; omega))))) | fail)) <;> (try omega)
  refine go_loop [1, 7, 8] [15000, 15001] (fun i : Nat => ⟨[(1, true, .ref 3 1 15001 0 L.length), (7, true, .ref 3 1 15000 0 (L.length + 1)), (8, true, vI i)],
    [(15000, .row 3 1 (v8 (List.replicate L.length (-7) ++ [-7]))), (15001, .row 3 1 (ovr [vI (-8)] (v8 L) i))]⟩) (fun i => i ≤ L.length) (fun i => L.length - i) 0 (by simp only [go_sem, Nat.reduceBEq, Nat.reduceBneDiff, Nat.reduceLT, Nat.reduceLeDiff, Nat.reduceAdd, Nat.reduceMul, Nat.reduceSub, Nat.reduceEqDiff, reduceCtorEq, ovr_0]; exact rfl) (Nat.zero_le _) ?_
  clear hw1 e1 hlt hi
  intro i hi
  have hw1 := wrap_i64 (n := (i : Int) + 1) (by omega)
  by_cases hlt : i < L.length
  · have e1 : ((i : Int) < L.length) = True := eq_true (by omega)
    have g1 := ovr_get [vI (-8)] (xs := v8 L) (i := i) (by rw [v8_len]; exact hlt)
    have g2 := ovr_set [vI (-8)] (xs := v8 L) (i := i) (by rw [v8_len]; exact hlt)
    have g3 := ovr_len [vI (-8)] (xs := v8 L) (i := i) (by rw [v8_len]; omega)
    have g4 : (v8 L)[i]'(by rw [v8_len]; exact hlt) = [vI L[i]] := by simp [v8]
    rw [g4] at g1
    (repeat' (first
    | exact trivial
    | (with_reducible first | refine awA ?_ | refine awB ?_ | refine awC ?_ | refine awD ?_ | refine awE ?_ | refine awF ?_ | refine awG ?_ | refine awH ?_ | refine awI ?_ | refine awJ ?_ | refine awK ?_ | refine awL ?_ | refine awM (by decide) ?_)
    | ((with_reducible first | refine awN (tyOf_ok _) [] ?_ | refine awO (tyOf_ok _) [] ?_ | refine awP (tyOf_ok _) [] ?_ | refine awQ ?_ | refine awR ?_ | refine awS ?_ | refine awT ?_ | refine awU ?_); intro r hr; simp only [go_sem, Nat.reduceBEq, Nat.reduceBneDiff, Nat.reduceLT, Nat.reduceLeDiff, Nat.reduceAdd, Nat.reduceMul, Nat.reduceSub, Nat.reduceEqDiff, reduceCtorEq, hw1, e1, g1, g2, g3, v8_len] at hr; subst hr; (first | refine awV ?_ ?_ | refine awW ?_ ?_ | refine endK ?_ ?_ | refine endGK ?_ ?_ ?_ | (refine condK (fun h => ?_) (fun h => ?_) <;> (try simp only [go_sem, reduceCtorEq] at h) <;> (try (exfalso; omega))))) | fail)) <;> (try omega)
    exact ⟨i + 1, by simp only [go_sem, Nat.reduceBEq, Nat.reduceBneDiff, Nat.reduceLT, Nat.reduceLeDiff, Nat.reduceAdd, Nat.reduceMul, Nat.reduceSub, Nat.reduceEqDiff, reduceCtorEq]; exact rfl, hlt, by omega⟩
  have e1 : ((i : Int) < L.length) = False := eq_false (by omega)
  obtain rfl : i = L.length := by omega
  have hf8 : ovr [vI (-8)] (v8 L) L.length = v8 (List.replicate L.length (-8)) := by
    have := ovr_end [vI (-8)] (v8 L)
    rw [v8_len] at this
    rw [this]; simp [v8]
  have hl3 : (List.replicate L.length (-8 : Int)).length = L.length := by simp
  have ht3 : (v8 (List.replicate L.length (-8))).take L.length = v8 (List.replicate L.length (-8)) := take_len (by rw [v8_len, hl3]; exact Nat.le_refl _)
  have hl4 : (List.replicate L.length (-8 : Int) ++ [-8]).length = L.length + 1 := by simp
  (repeat' (first
    | exact trivial
    | (with_reducible first | refine awA ?_ | refine awB ?_ | refine awC ?_ | refine awD ?_ | refine awE ?_ | refine awF ?_ | refine awG ?_ | refine awH ?_ | refine awI ?_ | refine awJ ?_ | refine awK ?_ | refine awL ?_ | refine awM (by decide) ?_)
    | ((with_reducible first | refine awN (tyOf_ok _) [] ?_ | refine awO (tyOf_ok _) [] ?_ | refine awP (tyOf_ok _) [] ?_ | refine awQ ?_ | refine awR ?_ | refine awS ?_ | refine awT ?_ | refine awU ?_); intro r hr; simp only [go_sem, Nat.reduceBEq, Nat.reduceBneDiff, Nat.reduceLT, Nat.reduceLeDiff, Nat.reduceAdd, Nat.reduceMul, Nat.reduceSub, Nat.reduceEqDiff, reduceCtorEq, hw1, e1, hf8, v8_len, hl3, ht3, hl4, v8_app] at hr; subst hr; (first | refine awV ?_ ?_ | refine awW ?_ ?_ | refine endK ?_ ?_ | refine endGK ?_ ?_ ?_ | (refine condK (fun h => ?_) (fun h => ?_) <;> (try simp only [go_sem, reduceCtorEq] at h) <;> (try (exfalso; omega))))) | fail)) <;> (try omega)
  refine go_loop [7, 9, 10] [15000, 15001] (fun i : Nat => ⟨[(7, true, .ref 3 1 15000 0 (L.length + 1)), (9, true, .ref 3 1 15001 0 (L.length + 1)), (10, true, vI i)],
    [(15000, .row 3 1 (v8 (List.replicate L.length (-7) ++ [-7]))), (15001, .row 3 1 (v8 (List.replicate L.length (-8) ++ [-8])))]⟩) (fun i => i ≤ L.length + 1) (fun i => L.length + 1 - i) 0 (by simp only [go_sem, Nat.reduceBEq, Nat.reduceBneDiff, Nat.reduceLT, Nat.reduceLeDiff, Nat.reduceAdd, Nat.reduceMul, Nat.reduceSub, Nat.reduceEqDiff, reduceCtorEq]; exact rfl) (Nat.zero_le _) ?_
  clear hw1 e1 hlt hi
  intro i hi
  have hw1 := wrap_i64 (n := (i : Int) + 1) (by omega)
  by_cases hlt : i < L.length + 1
  · have e1 : ((i : Int) < ((L.length + 1 : Nat) : Int)) = True := eq_true (by omega)
    have gA : (v8 (List.replicate L.length (-7 : Int) ++ [-7]))[i]? = some [vI (-7)] := by
      rw [show List.replicate L.length (-7 : Int) ++ [-7] = List.replicate (L.length + 1) (-7) by rw [List.replicate_succ']]
      simp [v8, List.getElem?_replicate]; omega
    have gB : (v8 (List.replicate L.length (-8 : Int) ++ [-8]))[i]? = some [vI (-8)] := by
      rw [show List.replicate L.length (-8 : Int) ++ [-8] = List.replicate (L.length + 1) (-8) by rw [List.replicate_succ']]
      simp [v8, List.getElem?_replicate]; omega
    (repeat' (first
    | exact trivial
    | (with_reducible first | refine awA ?_ | refine awB ?_ | refine awC ?_ | refine awD ?_ | refine awE ?_ | refine awF ?_ | refine awG ?_ | refine awH ?_ | refine awI ?_ | refine awJ ?_ | refine awK ?_ | refine awL ?_ | refine awM (by decide) ?_)
    | ((with_reducible first | refine awN (tyOf_ok _) [] ?_ | refine awO (tyOf_ok _) [] ?_ | refine awP (tyOf_ok _) [] ?_ | refine awQ ?_ | refine awR ?_ | refine awS ?_ | refine awT ?_ | refine awU ?_); intro r hr; simp only [go_sem, Nat.reduceBEq, Nat.reduceBneDiff, Nat.reduceLT, Nat.reduceLeDiff, Nat.reduceAdd, Nat.reduceMul, Nat.reduceSub, Nat.reduceEqDiff, reduceCtorEq, hw1, e1, gA, gB, hl2, hl4, v8_len, Int.cast_ofNat_Int, Int.reduceToNat, Int.reduceEq, Int.reduceLT, Int.reduceLE, Int.reduceNe, ne_eq, not_true_eq_false, decide_false] at hr; subst hr; (first | refine awV ?_ ?_ | refine awW ?_ ?_ | refine endK ?_ ?_ | refine endGK ?_ ?_ ?_ | (refine condK (fun h => ?_) (fun h => ?_) <;> (try simp only [go_sem, reduceCtorEq] at h) <;> (try (exfalso; omega))))) | fail)) <;> (try omega)
    exact ⟨i + 1, by simp only [go_sem, Nat.reduceBEq, Nat.reduceBneDiff, Nat.reduceLT, Nat.reduceLeDiff, Nat.reduceAdd, Nat.reduceMul, Nat.reduceSub, Nat.reduceEqDiff, reduceCtorEq]; exact rfl, hlt, by omega⟩
  · have e1 : ((i : Int) < ((L.length + 1 : Nat) : Int)) = False := eq_false (by omega)
    (repeat' (first
    | exact trivial
    | (with_reducible first | refine awA ?_ | refine awB ?_ | refine awC ?_ | refine awD ?_ | refine awE ?_ | refine awF ?_ | refine awG ?_ | refine awH ?_ | refine awI ?_ | refine awJ ?_ | refine awK ?_ | refine awL ?_ | refine awM (by decide) ?_)
    | ((with_reducible first | refine awN (tyOf_ok _) [] ?_ | refine awO (tyOf_ok _) [] ?_ | refine awP (tyOf_ok _) [] ?_ | refine awQ ?_ | refine awR ?_ | refine awS ?_ | refine awT ?_ | refine awU ?_); intro r hr; simp only [go_sem, Nat.reduceBEq, Nat.reduceBneDiff, Nat.reduceLT, Nat.reduceLeDiff, Nat.reduceAdd, Nat.reduceMul, Nat.reduceSub, Nat.reduceEqDiff, reduceCtorEq, hw1, e1, v8_len] at hr; subst hr; (first | refine awV ?_ ?_ | refine awW ?_ ?_ | refine endK ?_ ?_ | refine endGK ?_ ?_ ?_ | (refine condK (fun h => ?_) (fun h => ?_) <;> (try simp only [go_sem, reduceCtorEq] at h) <;> (try (exfalso; omega))))) | fail)) <;> (try omega)
    all_goals (first | exact AV.up_rfl _ | (repeat first | exact obUp_nil | refine obUp_cons rfl ?_))
end Go.Proofs.YtfgacgpicfknpaaDoor
end
section
namespace Go.Proofs.YtfgacgpicfknpaaDoor
open Go.RowKit
set_option maxRecDepth 100000
set_option maxHeartbeats 8000000
/-! mortiselaw11.lent, kept. -/
def mI : List AV := [vI 23130]
def lentV11 (d1 d2 d3 d4 : Nat) (ts : List TypeM) (rs : List RootM) (V : List NodeM) (P : List Int) : AV := .agg [.rfx 66 4 d1 0 ts.length 1, .rfx 70 2 d2 0 rs.length 1, .rfx 43 3 d3 0 V.length 1, .rfx 3 1 d4 0 P.length 1]
def lentO11 (d1 d2 d3 d4 : Nat) (ts : List TypeM) (rs : List RootM) (V : List NodeM) (P : List Int) : List (Nat × AObj) := [(d1, .row 66 4 (encTxs ts ++ [mT])), (d2, .row 70 2 (encRs rs ++ [mR])), (d3, .row 43 3 (encNs V ++ [mN])), (d4, .row 3 1 (v8 P ++ [mI]))]
def sO11 (d1 d2 d3 d4 : Nat) (ts : List TypeM) (rs : List RootM) (V : List NodeM) (P : List Int) : List (Nat × AObj) := [(d1, .row 66 4 (encTs ts)), (d2, .row 70 2 (encRs rs)), (d3, .row 43 3 (encNs V)), (d4, .row 3 1 (v8 P))]
theorem lent11_G (ts : List TypeM) (rs : List RootM) (hts : ts.length ≤ 1000000000) (hrs : rs.length ≤ 1000000000) (hp : ∀ t ∈ ts, t.parts.length ≤ 1000000000) (V : List NodeM) (hV : V.length ≤ 1000000000) (P : List Int) (hP : P.length ≤ 1000000000) :
    GCall Tryd.prog 10 [sV 10000 10001 ts rs, .ref 43 3 10002 0 V.length, .ref 3 1 10003 0 P.length] (sO11 10000 10001 10002 10003 ts rs V P) (lentV11 8000 51 62 70 ts rs V P) (lentO11 8000 51 62 70 ts rs V P ++ sO11 10000 10001 10002 10003 ts rs V P) := by
  refine go_fnG (tyOf_ok _) Tryd.func10 rfl rfl (by rw [Tryd.results10]) Tryd.ntmps10 rfl fun E => ?_
  (repeat' (first
    | exact trivial
    | (refine aw_nilvar 7 0 66 4 8000 (cs := [nilS, _]) (.inl (by decide)) (by decide) rfl rfl ?_)
    | (with_reducible first | refine awA ?_ | refine awB ?_ | refine awC ?_ | refine awD ?_ | refine awE ?_ | refine awF ?_ | refine awG ?_ | refine awH ?_ | refine awI ?_ | refine awJ ?_ | refine awK ?_ | refine awL ?_ | refine awM (by decide) ?_)
    | (refine aw_draw (id := 6) (t := (.node [0, 1, 3, 6] [(.node [2] [(.node [4] [(.node [5, 7, 8, 9, 10, 11] []), (.node [7, 8, 5, 9, 10, 11] [])]), (.node [7, 8, 4, 5, 9, 10, 11] [])]), (.node [4] [(.node [2] [(.node [5, 7, 8, 9, 10, 11] []), (.node [7, 8, 5, 9, 10, 11] [])]), (.node [7, 8, 2, 5, 9, 10, 11] [])]), (.node [7, 8] [(.node [2, 4, 5, 9, 10, 11] []), (.node [4, 2, 5, 9, 10, 11] [])])])) (drR [] [23, 29] []) mixed (by kernel_rfl) (by kernel_rfl) (fun _ _ h => h) ?_)
    | (refine aw_draw (id := 8) (t := (.node [0, 1, 2, 5, 6, 7, 3, 4, 8, 9, 10] [])) (drR [3] [40] []) mixed (by kernel_rfl) (by kernel_rfl) (fun _ _ h => h) ?_)
    | (refine aw_draw (id := 9) (t := (.node [0, 1, 3, 6, 7, 8] [(.node [2, 4, 5, 9, 10, 11] []), (.node [4, 2, 5, 9, 10, 11] [])])) (drR [3] [] []) mixed (by kernel_rfl) (by kernel_rfl) (fun _ _ h => h) ?_)
    | (refine aw_draw (id := 10) (t := (.node [0, 1, 3, 6, 7, 9, 13, 14] [(.node [2] [(.node [4] [(.node [5, 8] [(.node [10, 11, 12, 15, 16, 17] []), (.node [11, 10, 12, 15, 16, 17] [])]), (.node [11, 5, 8, 10, 12, 15, 16, 17] [])]), (.node [11, 4, 5, 8, 10, 12, 15, 16, 17] [])]), (.node [4] [(.node [2] [(.node [5, 8] [(.node [10, 11, 12, 15, 16, 17] []), (.node [11, 10, 12, 15, 16, 17] [])]), (.node [11, 5, 8, 10, 12, 15, 16, 17] [])]), (.node [11, 2, 5, 8, 10, 12, 15, 16, 17] [])]), (.node [11] [(.node [2, 4, 5, 8, 10, 12, 15, 16, 17] []), (.node [4, 2, 5, 8, 10, 12, 15, 16, 17] [])])])) (drR [7] [] []) mixed (by kernel_rfl) (by kernel_rfl) (fun _ _ h => h) ?_)
    | (refine at_done (by simp only [List.filterMap_cons, List.filterMap_nil, List.getElem?_toArray, List.getElem?_cons_zero, List.getElem?_cons_succ]; exact rfl) ?_) | (refine at_alt (by simp only [List.filterMap_cons, List.filterMap_nil, List.getElem?_toArray, List.getElem?_cons_zero, List.getElem?_cons_succ]; exact rfl) ?_) | refine qalt_normal ?_ | refine ats_cons ?_ ?_ | exact ats_nil
    | ((with_reducible first | refine awN (tyOf_ok _) [] ?_ | refine awO (tyOf_ok _) [] ?_ | refine awP (tyOf_ok _) [] ?_ | refine awQ ?_ | refine awR ?_ | refine awS ?_ | refine awT ?_ | refine awU ?_); intro r hr; simp only [go_sem, Nat.reduceBEq, Nat.reduceBneDiff, Nat.reduceLT, Nat.reduceLeDiff, Nat.reduceAdd, Nat.reduceMul, Nat.reduceSub, Nat.reduceEqDiff, reduceCtorEq, AState.nilvar, List.set_cons_succ, List.set_cons_zero, sV, sO11] at hr; subst hr; (first | refine awV ?_ ?_ | refine awW ?_ ?_ | refine endK ?_ ?_ | refine endGK ?_ ?_ ?_ | (refine condK (fun h => ?_) (fun h => ?_) <;> (try simp only [go_sem, reduceCtorEq] at h) <;> (try (exfalso; omega))))) | fail)) <;> (try omega)
  refine go_loop [1, 2, 3, 6, 7, 8] [3, 6, 7, 8000, 10000, 10001, 10002, 10003] (fun k : Nat => ⟨[(1, true, .ref 43 3 10002 0 V.length), (2, true, .ref 3 1 10003 0 P.length), (3, true, .ptr 1 3 0 0), (6, true, .ptr 1 6 0 0), (7, true, .ptr 1 7 0 0), (8, true, vI k)],
    [(3, .var [.ref 66 4 10000 0 ts.length, .ref 70 2 10001 0 rs.length]), (6, .var [nilS, nilS, nilS, nilS]), (7, .var [.ref 66 4 8000 0 k, nilS]), (8000, .row 66 4 (encTxs (ts.take k))), (10000, .row 66 4 (encTs ts)), (10001, .row 70 2 (encRs rs)), (10002, .row 43 3 (encNs V)), (10003, .row 3 1 (v8 P))]⟩)
    (fun k => k ≤ ts.length) (fun k => ts.length - k) 0 (by simp only [AState.nilvar, go_sem, Nat.reduceBEq, Nat.reduceBneDiff, Nat.reduceLT, Nat.reduceLeDiff, Nat.reduceAdd, Nat.reduceMul, Nat.reduceSub, Nat.reduceEqDiff, reduceCtorEq]; exact rfl) (Nat.zero_le _) ?_
  intro k hk
  have hw1 := wrap_i64 (n := (k : Int) + 1) (by omega)
  have hlk : (encTxs (ts.take k)).length = k := by rw [encTxs_len, List.length_take]; omega
  have htk : (encTxs (ts.take k)).take k = encTxs (ts.take k) := take_len (by omega)
  by_cases hlt : k < ts.length
  · have e1 : ((k : Int) < ts.length) = True := eq_true (by omega)
    have g1 := encTs_get hlt
    have hpl := hp _ (List.getElem_mem hlt)
    have hnext : encTxs (ts.take k) ++ [[vI ts[k].kind, vI ts[k].n, vI ts[k].elem, .lsx 3 (encPs ts[k].parts) [mP]]] = encTxs (ts.take (k + 1)) := by
      rw [List.take_succ_eq_append_getElem hlt]
      exact encTxs_app _ _
    have hlk1 : (encTxs (ts.take (k + 1))).length = k + 1 := by rw [encTxs_len, List.length_take]; omega
    have hm : [[AV.v (.string ByteArray.empty), vI 23130, vI 0]] = [mP] := rfl
    generalize ts[k] = t at *
    have hz : ((t.parts.length : Int)).toNat = t.parts.length := by omega
    have h1 : (encPs t.parts ++ [mP]).take t.parts.length = encPs t.parts := take_app _ _ (by rw [encPs_len])
    have h2 : (encPs t.parts ++ [mP]).drop t.parts.length = [mP] := drop_app _ _ (by rw [encPs_len])
    have hpk : (encPs t.parts).take t.parts.length = encPs t.parts := take_len (by rw [encPs_len]; exact Nat.le_refl _)
    have hl5 : (encPs t.parts ++ [mP]).length = t.parts.length + 1 := by simp [encPs]
    have htl : (encPs t.parts ++ [mP]).take (t.parts.length + 1) = encPs t.parts ++ [mP] := take_len (by rw [hl5]; exact Nat.le_refl _)
    (repeat' (first
    | exact trivial
    | (with_reducible first | refine awA ?_ | refine awB ?_ | refine awC ?_ | refine awD ?_ | refine awE ?_ | refine awF ?_ | refine awG ?_ | refine awH ?_ | refine awI ?_ | refine awJ ?_ | refine awK ?_ | refine awL ?_ | refine awM (by decide) ?_)
    | (refine aw_draw (id := 6) (t := (.node [0, 1, 3, 6] [(.node [2] [(.node [4] [(.node [5, 7, 8, 9, 10, 11] []), (.node [7, 8, 5, 9, 10, 11] [])]), (.node [7, 8, 4, 5, 9, 10, 11] [])]), (.node [4] [(.node [2] [(.node [5, 7, 8, 9, 10, 11] []), (.node [7, 8, 5, 9, 10, 11] [])]), (.node [7, 8, 2, 5, 9, 10, 11] [])]), (.node [7, 8] [(.node [2, 4, 5, 9, 10, 11] []), (.node [4, 2, 5, 9, 10, 11] [])])])) (drR [] [23, 29] []) mixed (by kernel_rfl) (by kernel_rfl) (fun _ _ h => h) ?_)
    | (refine aw_draw (id := 8) (t := (.node [0, 1, 2, 5, 6, 7, 3, 4, 8, 9, 10] [])) (drR [3] [40] []) mixed (by kernel_rfl) (by kernel_rfl) (fun _ _ h => h) ?_)
    | (refine aw_draw (id := 9) (t := (.node [0, 1, 3, 6, 7, 8] [(.node [2, 4, 5, 9, 10, 11] []), (.node [4, 2, 5, 9, 10, 11] [])])) (drR [3] [] []) mixed (by kernel_rfl) (by kernel_rfl) (fun _ _ h => h) ?_)
    | (refine aw_draw (id := 10) (t := (.node [0, 1, 3, 6, 7, 9, 13, 14] [(.node [2] [(.node [4] [(.node [5, 8] [(.node [10, 11, 12, 15, 16, 17] []), (.node [11, 10, 12, 15, 16, 17] [])]), (.node [11, 5, 8, 10, 12, 15, 16, 17] [])]), (.node [11, 4, 5, 8, 10, 12, 15, 16, 17] [])]), (.node [4] [(.node [2] [(.node [5, 8] [(.node [10, 11, 12, 15, 16, 17] []), (.node [11, 10, 12, 15, 16, 17] [])]), (.node [11, 5, 8, 10, 12, 15, 16, 17] [])]), (.node [11, 2, 5, 8, 10, 12, 15, 16, 17] [])]), (.node [11] [(.node [2, 4, 5, 8, 10, 12, 15, 16, 17] []), (.node [4, 2, 5, 8, 10, 12, 15, 16, 17] [])])])) (drR [7] [] []) mixed (by kernel_rfl) (by kernel_rfl) (fun _ _ h => h) ?_)
    | (refine at_done (by simp only [List.filterMap_cons, List.filterMap_nil, List.getElem?_toArray, List.getElem?_cons_zero, List.getElem?_cons_succ]; exact rfl) ?_) | (refine at_alt (by simp only [List.filterMap_cons, List.filterMap_nil, List.getElem?_toArray, List.getElem?_cons_zero, List.getElem?_cons_succ]; exact rfl) ?_) | refine qalt_normal ?_ | refine ats_cons ?_ ?_ | exact ats_nil
    | ((with_reducible first | refine awN (tyOf_ok _) [27] ?_ | refine awO (tyOf_ok _) [27] ?_ | refine awP (tyOf_ok _) [27] ?_ | refine awQ ?_ | refine awR ?_ | refine awS ?_ | refine awT ?_ | refine awU ?_); intro r hr; simp only [go_sem, Nat.reduceBEq, Nat.reduceBneDiff, Nat.reduceLT, Nat.reduceLeDiff, Nat.reduceAdd, Nat.reduceMul, Nat.reduceSub, Nat.reduceEqDiff, reduceCtorEq, encTs_len, encPs_len, Nat.zero_add, Int.toNat_natCast, hw1, hlk, htk, e1, g1, hnext, hlk1, hm, hz, h1, h2, hpk, hl5, htl, Int.toNat_zero, Nat.sub_zero, Nat.le_refl, if_true] at hr; subst hr; (first | refine awV ?_ ?_ | refine awW ?_ ?_ | refine endK ?_ ?_ | refine endGK ?_ ?_ ?_ | (refine condK (fun h => ?_) (fun h => ?_) <;> (try simp only [go_sem, reduceCtorEq] at h) <;> (try (exfalso; omega))))) | fail)) <;> (try omega)
    all_goals exact ⟨k + 1, by simp only [go_sem, Nat.reduceBEq, Nat.reduceBneDiff, Nat.reduceLT, Nat.reduceLeDiff, Nat.reduceAdd, Nat.reduceMul, Nat.reduceSub, Nat.reduceEqDiff, reduceCtorEq]; exact rfl, hlt, by omega⟩
  · have e1 : ((k : Int) < ts.length) = False := eq_false (by omega)
    have hke : ts.take k = ts := take_len (by omega)
    have hkl : k = ts.length := by omega
    rw [hke] at hlk htk ⊢
    subst hkl
    have hz1 : ((ts.length : Int)).toNat = ts.length := by omega
    have hz2 : ((rs.length : Int)).toNat = rs.length := by omega
    have hmT : [[vI 23130, vI 0, vI 0, nilS]] = [mT] := rfl
    have hmR : [[AV.v (.string ByteArray.empty), vI 23130]] = [mR] := rfl
    have hl1 : (encTxs ts ++ [mT]).length = ts.length + 1 := by simp [encTxs]
    have hl2 : (encRs rs ++ [mR]).length = rs.length + 1 := by simp [encRs]
    have hrk : (encRs rs).take rs.length = encRs rs := take_len (by rw [encRs_len]; exact Nat.le_refl _)
    have hz3 : ((V.length : Int)).toNat = V.length := by omega
    have hz4 : ((P.length : Int)).toNat = P.length := by omega
    have hmN : [[vI 23130, .v (.int .u64 0), vI 0]] = [mN] := rfl
    have hmI : [[vI 23130]] = [mI] := rfl
    have hl3 : (encNs V ++ [mN]).length = V.length + 1 := by simp [encNs]
    have hl4 : (v8 P ++ [mI]).length = P.length + 1 := by simp [v8]
    have hnk := encNs_take' V
    have hik : (v8 P).take P.length = v8 P := take_len (by rw [v8_len]; exact Nat.le_refl _)
    (repeat' (first
    | exact trivial
    | (with_reducible first | refine awA ?_ | refine awB ?_ | refine awC ?_ | refine awD ?_ | refine awE ?_ | refine awF ?_ | refine awG ?_ | refine awH ?_ | refine awI ?_ | refine awJ ?_ | refine awK ?_ | refine awL ?_ | refine awM (by decide) ?_)
    | (refine aw_draw (id := 6) (t := (.node [0, 1, 3, 6] [(.node [2] [(.node [4] [(.node [5, 7, 8, 9, 10, 11] []), (.node [7, 8, 5, 9, 10, 11] [])]), (.node [7, 8, 4, 5, 9, 10, 11] [])]), (.node [4] [(.node [2] [(.node [5, 7, 8, 9, 10, 11] []), (.node [7, 8, 5, 9, 10, 11] [])]), (.node [7, 8, 2, 5, 9, 10, 11] [])]), (.node [7, 8] [(.node [2, 4, 5, 9, 10, 11] []), (.node [4, 2, 5, 9, 10, 11] [])])])) (drR [] [23, 29] []) mixed (by kernel_rfl) (by kernel_rfl) (fun _ _ h => h) ?_)
    | (refine aw_draw (id := 8) (t := (.node [0, 1, 2, 5, 6, 7, 3, 4, 8, 9, 10] [])) (drR [3] [40] []) mixed (by kernel_rfl) (by kernel_rfl) (fun _ _ h => h) ?_)
    | (refine aw_draw (id := 9) (t := (.node [0, 1, 3, 6, 7, 8] [(.node [2, 4, 5, 9, 10, 11] []), (.node [4, 2, 5, 9, 10, 11] [])])) (drR [3] [] []) mixed (by kernel_rfl) (by kernel_rfl) (fun _ _ h => h) ?_)
    | (refine aw_draw (id := 10) (t := (.node [0, 1, 3, 6, 7, 9, 13, 14] [(.node [2] [(.node [4] [(.node [5, 8] [(.node [10, 11, 12, 15, 16, 17] []), (.node [11, 10, 12, 15, 16, 17] [])]), (.node [11, 5, 8, 10, 12, 15, 16, 17] [])]), (.node [11, 4, 5, 8, 10, 12, 15, 16, 17] [])]), (.node [4] [(.node [2] [(.node [5, 8] [(.node [10, 11, 12, 15, 16, 17] []), (.node [11, 10, 12, 15, 16, 17] [])]), (.node [11, 5, 8, 10, 12, 15, 16, 17] [])]), (.node [11, 2, 5, 8, 10, 12, 15, 16, 17] [])]), (.node [11] [(.node [2, 4, 5, 8, 10, 12, 15, 16, 17] []), (.node [4, 2, 5, 8, 10, 12, 15, 16, 17] [])])])) (drR [7] [] []) mixed (by kernel_rfl) (by kernel_rfl) (fun _ _ h => h) ?_)
    | (refine at_done (by simp only [List.filterMap_cons, List.filterMap_nil, List.getElem?_toArray, List.getElem?_cons_zero, List.getElem?_cons_succ]; exact rfl) ?_) | (refine at_alt (by simp only [List.filterMap_cons, List.filterMap_nil, List.getElem?_toArray, List.getElem?_cons_zero, List.getElem?_cons_succ]; exact rfl) ?_) | refine qalt_normal ?_ | refine ats_cons ?_ ?_ | exact ats_nil
    | ((with_reducible first | refine awN (tyOf_ok _) [1000043, 1000054, 1000065, 1000072] ?_ | refine awO (tyOf_ok _) [1000043, 1000054, 1000065, 1000072] ?_ | refine awP (tyOf_ok _) [1000043, 1000054, 1000065, 1000072] ?_ | refine awQ ?_ | refine awR ?_ | refine awS ?_ | refine awT ?_ | refine awU ?_); intro r hr; simp only [go_sem, Nat.reduceBEq, Nat.reduceBneDiff, Nat.reduceLT, Nat.reduceLeDiff, Nat.reduceAdd, Nat.reduceMul, Nat.reduceSub, Nat.reduceEqDiff, reduceCtorEq, encTs_len, encRs_len, encNs_len, v8_len, hz3, hz4, hmN, hmI, hl3, hl4, hnk, hik, hw1, hlk, htk, e1, hz1, hz2, hmT, hmR, hl1, hl2, hrk, Nat.zero_add, List.drop_zero, Nat.le_refl, Nat.add_zero, Nat.add_sub_cancel_left, Int.toNat_zero, Nat.sub_zero] at hr; subst hr; (first | refine awV ?_ ?_ | refine awW ?_ ?_ | refine endK ?_ ?_ | refine endGK ?_ ?_ ?_ | (refine condK (fun h => ?_) (fun h => ?_) <;> (try simp only [go_sem, reduceCtorEq] at h) <;> (try (exfalso; omega))))) | fail)) <;> (try omega)
    all_goals (first | exact AV.up_rfl _ | (repeat first | exact obUp_nil | refine obUp_cons rfl ?_))
end Go.Proofs.YtfgacgpicfknpaaDoor
end
section
namespace Go.Proofs.YtfgacgpicfknpaaDoor
open Go.RowKit
set_option maxRecDepth 100000
set_option maxHeartbeats 8000000
theorem kept11_G (ts : List TypeM) (rs : List RootM) (hts : ts.length ≤ 1000000000) (hrs : rs.length ≤ 1000000000) (hp : ∀ t ∈ ts, t.parts.length ≤ 1000000000) (V : List NodeM) (hV : V.length ≤ 1000000000) (P : List Int) (hP : P.length ≤ 1000000000) :
    GCall Tryd.prog 15 [lentV11 10000 10001 10002 10003 ts rs V P, sV 10004 10005 ts rs, .ref 43 3 10006 0 V.length, .ref 3 1 10007 0 P.length] (lentO11 10000 10001 10002 10003 ts rs V P ++ sO11 10004 10005 10006 10007 ts rs V P) (vB true) (lentO11 10000 10001 10002 10003 ts rs V P ++ sO11 10004 10005 10006 10007 ts rs V P) := by
  refine go_fnG (tyOf_ok _) Tryd.func15 rfl rfl (by rw [Tryd.results15]) Tryd.ntmps15 rfl fun E => ?_
  have hS := PCall.args (.cons (up_schx ts rs) (.cons (.rfl _) .nil)) (same09_refl ts rs hts hrs hp)
  unfold vSch at hS
  have hT : (encTxs ts ++ [mT]).take ts.length = encTxs ts := take_app _ _ (by rw [encTxs_len])
  have hR : (encRs rs ++ [mR]).take rs.length = encRs rs := take_app _ _ (by rw [encRs_len])
  have hgT : (encTxs ts ++ [mT])[ts.length]? = some mT := by rw [List.getElem?_append_right (by rw [encTxs_len]; exact Nat.le_refl _), encTxs_len, Nat.sub_self]; rfl
  have hgR : (encRs rs ++ [mR])[rs.length]? = some mR := by rw [List.getElem?_append_right (by rw [encRs_len]; exact Nat.le_refl _), encRs_len, Nat.sub_self]; rfl
  have hl1 : (encTxs ts ++ [mT]).length = ts.length + 1 := by simp [encTxs]
  have hl2 : (encRs rs ++ [mR]).length = rs.length + 1 := by simp [encRs]
  have hwT := wrap_i64 (n := (ts.length : Int) + 1) (by omega)
  have hwR := wrap_i64 (n := (rs.length : Int) + 1) (by omega)
  have hzT : ((ts.length : Int) + 1).toNat = ts.length + 1 := by omega
  have hzR : ((rs.length : Int) + 1).toNat = rs.length + 1 := by omega
  have hz1 : ((ts.length : Int)).toNat = ts.length := by omega
  have hz2 : ((rs.length : Int)).toNat = rs.length := by omega
  simp only [mT, mR] at hT hR hgT hgR hl1 hl2
  have hrk : (encRs rs).take rs.length = encRs rs := take_len (by rw [encRs_len]; exact Nat.le_refl _)
  have htk : (encTs ts).take ts.length = encTs ts := take_len (by rw [encTs_len]; exact Nat.le_refl _)
  (repeat' (first
    | exact trivial
    | (with_reducible first | refine awA ?_ | refine awB ?_ | refine awC ?_ | refine awD ?_ | refine awE ?_ | refine awF ?_ | refine awG ?_ | refine awH ?_ | refine awI ?_ | refine awJ ?_ | refine awK ?_ | refine awL ?_ | refine awM (by decide) ?_)
    | (refine aw_draw (id := 1) (t := (.node [0, 1, 2, 3, 4, 5, 6, 7, 8, 9, 10, 11, 12, 13, 14, 15, 16, 17, 18, 19, 20, 21, 22, 23, 24, 25, 26, 27, 28, 29, 30, 31, 32, 33, 34, 35, 36, 37, 38] [])) (drR [4, 5] [31, 48] []) mixed (by kernel_rfl) (by kernel_rfl) (fun _ _ h => h) ?_)
    | (refine at_done (by simp only [List.filterMap_cons, List.filterMap_nil, List.getElem?_toArray, List.getElem?_cons_zero, List.getElem?_cons_succ]; exact rfl) ?_) | (refine at_alt (by simp only [List.filterMap_cons, List.filterMap_nil, List.getElem?_toArray, List.getElem?_cons_zero, List.getElem?_cons_succ]; exact rfl) ?_) | refine qalt_normal ?_ | refine ats_cons ?_ ?_ | exact ats_nil
    | ((with_reducible first | refine awN (tyOf_ok _) [] ?_ | refine awO (tyOf_ok _) [] ?_ | refine awP (tyOf_ok _) [] ?_ | refine awQ ?_ | refine awR ?_ | refine awS ?_ | refine awT ?_ | refine awU ?_); intro r hr; simp only [go_sem, Nat.reduceBEq, Nat.reduceBneDiff, Nat.reduceLT, Nat.reduceLeDiff, Nat.reduceAdd, Nat.reduceMul, Nat.reduceSub, Nat.reduceEqDiff, reduceCtorEq, lentV11, lentO11, sV, sO11, hrk, htk, encTs_len, encRs_len, hT, hR, hgT, hgR, hl1, hl2, hwT, hwR, hzT, hzR, hz1, hz2, mT, mR, Int.cast_ofNat_Int, Int.reduceToNat, Int.reduceEq, Int.reduceLT, Int.reduceLE, Int.reduceNe, ne_eq, not_true_eq_false, decide_false, Int.toNat_zero, Nat.sub_zero, Nat.add_zero, Nat.zero_add] at hr; subst hr; (first | refine caA (fun _ => hS) rfl ?_ ?_ ?_ | refine awV ?_ ?_ | refine awW ?_ ?_ | refine endK ?_ ?_ | refine endGK ?_ ?_ ?_ | (refine condK (fun h => ?_) (fun h => ?_) <;> (try simp only [go_sem, reduceCtorEq] at h) <;> (try (exfalso; omega))))) | fail)) <;> (try omega)
  refine go_loop [2, 3, 4, 5, 9] [4, 5, 10000, 10001, 10002, 10003, 10004, 10005, 10006, 10007] (fun k : Nat => ⟨[(2, true, .ref 43 3 10006 0 V.length), (3, true, .ref 3 1 10007 0 P.length), (4, true, .ptr 1 4 0 0), (5, true, .ptr 1 5 0 0), (9, true, vI k)],
    [(4, .var [.rfx 66 4 10000 0 ts.length 1, .rfx 70 2 10001 0 rs.length 1, .rfx 43 3 10002 0 V.length 1, .rfx 3 1 10003 0 P.length 1]), (5, .var [.ref 66 4 10004 0 ts.length, .ref 70 2 10005 0 rs.length])] ++ lentO11 10000 10001 10002 10003 ts rs V P ++ sO11 10004 10005 10006 10007 ts rs V P⟩) (fun k => k ≤ ts.length) (fun k => ts.length - k) 0 (by simp only [go_sem, Nat.reduceBEq, Nat.reduceBneDiff, Nat.reduceLT, Nat.reduceLeDiff, Nat.reduceAdd, Nat.reduceMul, Nat.reduceSub, Nat.reduceEqDiff, reduceCtorEq, lentO11, sO11, mT, mR, List.cons_append, List.nil_append]; exact rfl) (Nat.zero_le _) ?_
  intro k hk
  have hw := wrap_i64 (n := (k : Int) + 1) (by omega)
  by_cases hlt : k < ts.length
  · have e1 : ((k : Int) < ts.length) = True := eq_true (by omega)
    have g1 := encTs_get hlt
    have g2 := encTxs_get hlt [mT]
    have hpl := hp _ (List.getElem_mem hlt)
    generalize ts[k] = t at *
    have hw2 := wrap_i64 (n := (t.parts.length : Int) + 1) (by omega)
    have hz3 : ((t.parts.length : Int) + 1).toNat = t.parts.length + 1 := by omega
    have hz4 : ((t.parts.length : Int)).toNat = t.parts.length := by omega
    have hl5 : (encPs t.parts ++ [mP]).length = t.parts.length + 1 := by simp [encPs]
    have htl : (encPs t.parts ++ [mP]).take (t.parts.length + 1) = encPs t.parts ++ [mP] := take_len (by rw [hl5]; exact Nat.le_refl _)
    have hgP : (encPs t.parts ++ [mP])[t.parts.length]? = some [.v (.string ByteArray.empty), vI 23130, vI 0] := by rw [List.getElem?_append_right (by rw [encPs_len]; exact Nat.le_refl _), encPs_len, Nat.sub_self]; rfl
    (repeat' (first
    | exact trivial
    | (with_reducible first | refine awA ?_ | refine awB ?_ | refine awC ?_ | refine awD ?_ | refine awE ?_ | refine awF ?_ | refine awG ?_ | refine awH ?_ | refine awI ?_ | refine awJ ?_ | refine awK ?_ | refine awL ?_ | refine awM (by decide) ?_)
    | (refine aw_draw (id := 1) (t := (.node [0, 1, 2, 3, 4, 5, 6, 7, 8, 9, 10, 11, 12, 13, 14, 15, 16, 17, 18, 19, 20, 21, 22, 23, 24, 25, 26, 27, 28, 29, 30, 31, 32, 33, 34, 35, 36, 37, 38] [])) (drR [4, 5] [31, 48] []) mixed (by kernel_rfl) (by kernel_rfl) (fun _ _ h => h) ?_)
    | (refine at_done (by simp only [List.filterMap_cons, List.filterMap_nil, List.getElem?_toArray, List.getElem?_cons_zero, List.getElem?_cons_succ]; exact rfl) ?_) | (refine at_alt (by simp only [List.filterMap_cons, List.filterMap_nil, List.getElem?_toArray, List.getElem?_cons_zero, List.getElem?_cons_succ]; exact rfl) ?_) | refine qalt_normal ?_ | refine ats_cons ?_ ?_ | exact ats_nil
    | ((with_reducible first | refine awN (tyOf_ok _) [] ?_ | refine awO (tyOf_ok _) [] ?_ | refine awP (tyOf_ok _) [] ?_ | refine awQ ?_ | refine awR ?_ | refine awS ?_ | refine awT ?_ | refine awU ?_); intro r hr; simp only [go_sem, Nat.reduceBEq, Nat.reduceBneDiff, Nat.reduceLT, Nat.reduceLeDiff, Nat.reduceAdd, Nat.reduceMul, Nat.reduceSub, Nat.reduceEqDiff, reduceCtorEq, lentO11, sO11, List.cons_append, List.nil_append, Int.toNat_natCast, encTs_len, encPs_len, hw, e1, g1, g2, hw2, hz3, hz4, hl5, htl, hgP, Int.cast_ofNat_Int, Int.reduceToNat, Int.reduceEq, Int.reduceLT, Int.reduceLE, Int.reduceNe, ne_eq, not_true_eq_false, decide_false, Int.toNat_zero, Nat.sub_zero, Nat.add_zero, Nat.zero_add] at hr; subst hr; (first | refine awV ?_ ?_ | refine awW ?_ ?_ | refine endK ?_ ?_ | refine endGK ?_ ?_ ?_ | (refine condK (fun h => ?_) (fun h => ?_) <;> (try simp only [go_sem, reduceCtorEq] at h) <;> (try (exfalso; omega))))) | fail)) <;> (try omega)
    exact ⟨k + 1, by simp only [go_sem, Nat.reduceBEq, Nat.reduceBneDiff, Nat.reduceLT, Nat.reduceLeDiff, Nat.reduceAdd, Nat.reduceMul, Nat.reduceSub, Nat.reduceEqDiff, reduceCtorEq, lentO11, sO11, List.cons_append, List.nil_append]; exact rfl, hlt, by omega⟩
  · have e1 : ((k : Int) < ts.length) = False := eq_false (by omega)
    have hE := equal04_refl V hV
    have hI := sameInts11_any P P (by omega)
    rw [decide_eq_true rfl] at hI
    have ht := encNs_take' V
    have ht2 : (encNs V ++ [mN]).take V.length = encNs V := take_app _ _ (by rw [encNs_len])
    have hi1 : (v8 P).take P.length = v8 P := take_len (by rw [v8_len]; exact Nat.le_refl _)
    have hi2 : (v8 P ++ [mI]).take P.length = v8 P := take_app _ _ (by rw [v8_len])
    have hwV := wrap_i64 (n := (V.length : Int) + 1) (by omega)
    have hwP := wrap_i64 (n := (P.length : Int) + 1) (by omega)
    have hzV : ((V.length : Int) + 1).toNat = V.length + 1 := by omega
    have hzV1 : ((V.length : Int)).toNat = V.length := by omega
    have hzP : ((P.length : Int) + 1).toNat = P.length + 1 := by omega
    have hzP1 : ((P.length : Int)).toNat = P.length := by omega
    have hgV : (encNs V ++ [mN])[V.length]? = some [vI 23130, .v (.int .u64 0), vI 0] := by rw [List.getElem?_append_right (by rw [encNs_len]; exact Nat.le_refl _), encNs_len, Nat.sub_self]; rfl
    have hgP : (v8 P ++ [mI])[P.length]? = some [vI 23130] := by rw [List.getElem?_append_right (by rw [v8_len]; exact Nat.le_refl _), v8_len, Nat.sub_self]; rfl
    have hlV : (encNs V ++ [mN]).length = V.length + 1 := by simp [encNs]
    have hlP : (v8 P ++ [mI]).length = P.length + 1 := by simp [v8]
    (repeat' (first
    | exact trivial
    | (with_reducible first | refine awA ?_ | refine awB ?_ | refine awC ?_ | refine awD ?_ | refine awE ?_ | refine awF ?_ | refine awG ?_ | refine awH ?_ | refine awI ?_ | refine awJ ?_ | refine awK ?_ | refine awL ?_ | refine awM (by decide) ?_)
    | (refine aw_draw (id := 1) (t := (.node [0, 1, 2, 3, 4, 5, 6, 7, 8, 9, 10, 11, 12, 13, 14, 15, 16, 17, 18, 19, 20, 21, 22, 23, 24, 25, 26, 27, 28, 29, 30, 31, 32, 33, 34, 35, 36, 37, 38] [])) (drR [4, 5] [31, 48] []) mixed (by kernel_rfl) (by kernel_rfl) (fun _ _ h => h) ?_)
    | (refine at_done (by simp only [List.filterMap_cons, List.filterMap_nil, List.getElem?_toArray, List.getElem?_cons_zero, List.getElem?_cons_succ]; exact rfl) ?_) | (refine at_alt (by simp only [List.filterMap_cons, List.filterMap_nil, List.getElem?_toArray, List.getElem?_cons_zero, List.getElem?_cons_succ]; exact rfl) ?_) | refine qalt_normal ?_ | refine ats_cons ?_ ?_ | exact ats_nil
    | ((with_reducible first | refine awN (tyOf_ok _) [] ?_ | refine awO (tyOf_ok _) [] ?_ | refine awP (tyOf_ok _) [] ?_ | refine awQ ?_ | refine awR ?_ | refine awS ?_ | refine awT ?_ | refine awU ?_); intro r hr; simp only [go_sem, Nat.reduceBEq, Nat.reduceBneDiff, Nat.reduceLT, Nat.reduceLeDiff, Nat.reduceAdd, Nat.reduceMul, Nat.reduceSub, Nat.reduceEqDiff, reduceCtorEq, lentO11, sO11, List.cons_append, List.nil_append, encTs_len, encNs_len, v8_len, e1, ht, ht2, hi1, hi2, hwV, hwP, hzV, hzV1, hzP, hzP1, hgV, hgP, hlV, hlP, Nat.zero_add, List.drop_zero, Int.cast_ofNat_Int, Int.reduceToNat, Int.reduceEq, Int.reduceLT, Int.reduceLE, Int.reduceNe, decide_true, Int.toNat_zero, Nat.sub_zero, Nat.add_zero] at hr; subst hr; (first | refine caA (fun _ => hE) rfl ?_ ?_ ?_ | refine caA (fun _ => hI) rfl ?_ ?_ ?_ | refine awV ?_ ?_ | refine awW ?_ ?_ | refine endK ?_ ?_ | refine endGK ?_ ?_ ?_ | (refine condK (fun h => ?_) (fun h => ?_) <;> (try simp only [go_sem, reduceCtorEq] at h) <;> (try (exfalso; omega))))) | fail)) <;> (try omega)
    all_goals (first | exact AV.up_rfl _ | (repeat first | exact obUp_nil | refine obUp_cons rfl ?_))
end Go.Proofs.YtfgacgpicfknpaaDoor
end
section
namespace Go.Proofs.YtfgacgpicfknpaaDoor
open Go.RowKit
set_option maxRecDepth 100000
set_option maxHeartbeats 4000000
/-! The picks that stand in a value. -/
def tagP (n : Int) (p : PartM) : Bool := decide (p.tag % 18446744073709551616 = n)
def pickOf (T : TypeM) (x : NodeM) : Int :=
  if T.kind = 1 ∨ T.kind = 3 ∨ T.kind = 2 then IntKind.i64.wrap x.n
  else if T.kind = 5 ∨ T.kind = 6 then x.kids
  else if T.kind = 7 then ((T.parts.findIdx (tagP x.n) : Nat) : Int) else 0
theorem arm_idx {l : List PartM} {n : Int} (h : armOf l n ≠ none) : l.findIdx (tagP n) < l.length ∧ ∀ (g : l.findIdx (tagP n) < l.length), u64 (l[l.findIdx (tagP n)]).tag = n := by
  have h1 : l.findIdx (tagP n) < l.length := by
    rw [List.findIdx_lt_length]
    cases hf : armOf l n with
    | none => exact absurd hf h
    | some p => exact ⟨p, List.mem_of_find?_eq_some hf, List.find?_some hf⟩
  refine ⟨h1, fun g => ?_⟩
  have := List.findIdx_getElem (w := h1)
  unfold tagP at this
  rw [decide_eq_true_eq] at this
  exact this
theorem u64_id {n : Int} (h : 0 ≤ n) (h' : n < 18446744073709551616) : u64 n = n := by unfold u64; omega
/-- it leads to the node again -/
theorem pick_back {T : TypeM} {k : Nat} (hr : rightOK T k = true) {x : NodeM} (hx : nodeOK x) (hxr : rightN x = true) (hf : fitsF T x = 0) : pickN T (u64 (pickOf T x)) = x := by
  obtain ⟨f1, f2, f3, f4, f5, f6⟩ := fits_parts hf
  have hb := hx.2.2
  have hw : u64 (IntKind.i64.wrap x.n) = x.n := by rw [IntKind.wrap_i64]; unfold u64; omega
  have hkc : T.kind = 1 ∨ T.kind = 2 ∨ T.kind = 3 ∨ T.kind = 4 ∨ T.kind = 5 ∨ T.kind = 6 ∨ T.kind = 7 ∨ T.kind = 8 := by rcases rightOK_kind hr with h | h | h <;> omega
  obtain ⟨xk, xn, xm⟩ := x
  simp only at *
  rcases hkc with h | h | h | h | h | h | h | h
  · have hk : xk = 1 := by rw [f1, h]; rfl
    subst hk
    have h0 := (right_zero hxr (.inl rfl)).1
    simp only at h0
    have hP : pickOf T ⟨1, xn, xm⟩ = IntKind.i64.wrap xn := by rw [pickOf, if_pos (.inl h)]
    rw [hP, hw, pickN, if_pos h]
    have hfb := f2 h
    simp only [fitsB, Bool.and_eq_true, decide_eq_true_eq] at hfb
    have hm0 := Int.emod_eq_of_lt hb.1 hfb.2
    by_cases h8 : T.n < 8
    · rw [if_pos h8, hm0, h0]
    · rw [if_neg h8, h0]
  · have hk : xk = 2 := by rw [f1, h]; rfl
    subst hk
    have h0 := right_zero hxr (.inr rfl)
    have h2 := h0.2 rfl
    have hP : pickOf T ⟨2, xn, xm⟩ = IntKind.i64.wrap xn := by rw [pickOf, if_pos (.inr (.inr h))]
    rw [hP, hw, pickN, if_neg (by omega), if_neg (by omega), if_pos h]
    simp only at h0 h2
    rw [Int.emod_eq_of_lt hb.1 (by omega), h0.1]
  · have hk : xk = 1 := by rw [f1, h]; rfl
    subst hk
    have h0 := (right_zero hxr (.inl rfl)).1
    simp only at h0
    have hP : pickOf T ⟨1, xn, xm⟩ = IntKind.i64.wrap xn := by rw [pickOf, if_pos (.inr (.inl h))]
    rw [hP, hw, pickN, if_neg (by omega), if_pos h, h0]
  · have hk : xk = 3 := by rw [f1, h]; rfl
    subst hk
    have h0 := right_seq hxr (.inl rfl)
    simp only at h0
    rw [pickN, if_neg (by omega), if_neg (by omega), if_neg (by omega), if_pos h, h0, ← f3 h]
  · have hk : xk = 3 := by rw [f1, h]; rfl
    subst hk
    have h0 := right_seq hxr (.inl rfl)
    have hkk := rightN_kids hxr
    have h4 := f4 h
    simp only at h0 hkk
    have hP : pickOf T ⟨3, xn, xm⟩ = xm := by rw [pickOf, if_neg (by omega), if_pos (.inl h)]
    rw [hP, u64_id hkk.1 (by omega), pickN, if_neg (by omega), if_neg (by omega), if_neg (by omega), if_neg (by omega), if_pos h, Int.emod_eq_of_lt hkk.1 (by omega), h0]
  · have hk : xk = 5 := by rw [f1, h]; rfl
    subst hk
    have h0 := right_seq hxr (.inr (.inr rfl))
    have h4 := right_opt hxr rfl
    simp only at h0 h4
    have hP : pickOf T ⟨5, xn, xm⟩ = xm := by rw [pickOf, if_neg (by omega), if_pos (.inr h)]
    rw [hP, u64_id (by omega) (by omega), pickN, if_neg (by omega), if_neg (by omega), if_neg (by omega), if_neg (by omega), if_neg (by omega), if_pos h, Int.emod_eq_of_lt (by omega) (by omega), h0]
  · have hk : xk = 6 := by rw [f1, h]; rfl
    subst hk
    have h4 := right_uni hxr rfl
    simp only at h4
    obtain ⟨g1, g2⟩ := arm_idx (f6 h)
    have hpl := right_parts hr (.inl h)
    have hP : pickOf T ⟨6, xn, xm⟩ = ((T.parts.findIdx (tagP xn) : Nat) : Int) := by rw [pickOf, if_neg (by omega), if_neg (by omega), if_pos h]
    have g3 := g2 g1
    rw [hP, u64_id (by omega) (by omega), pickN, if_neg (by omega), if_neg (by omega), if_neg (by omega), if_neg (by omega), if_neg (by omega), if_neg (by omega), if_pos h, Int.emod_eq_of_lt (by omega) (by omega), Int.toNat_natCast, List.getElem?_eq_getElem g1, Option.getD_some, g3, h4]
  · have hk : xk = 4 := by rw [f1, h]; rfl
    subst hk
    have h0 := right_seq hxr (.inr (.inl rfl))
    simp only at h0
    rw [pickN, if_neg (by omega), if_neg (by omega), if_neg (by omega), if_neg (by omega), if_neg (by omega), if_neg (by omega), if_neg (by omega), h0, ← f5 h]
/-- the picks of a list of nodes, by their types -/
def picksL (ts : List TypeM) : List NodeM → List Int → List Int
  | x :: V, t :: l => pickOf (tyA ts t.toNat) x :: picksL ts V l
  | _, _ => []
theorem picksL_app (ts : List TypeM) : ∀ (V : List NodeM) (l : List Int) (V' : List NodeM) (l' : List Int), V.length = l.length → picksL ts (V ++ V') (l ++ l') = picksL ts V l ++ picksL ts V' l'
  | [], [], _, _, _ => rfl
  | [], _ :: _, _, _, h => by cases h
  | _ :: _, [], _, _, h => by cases h
  | x :: V, t :: l, V', l', h => by
    simp only [List.cons_append, picksL, picksL_app ts V l V' l' (by simpa using h)]
theorem picksL_len (ts : List TypeM) : ∀ (V : List NodeM) (l : List Int), V.length = l.length → (picksL ts V l).length = V.length
  | [], [], _ => rfl
  | [], _ :: _, h => by cases h
  | _ :: _, [], h => by cases h
  | x :: V, t :: l, h => by simp only [picksL, List.length_cons, picksL_len ts V l (by simpa using h)]
theorem picksL_get (ts : List TypeM) : ∀ (V : List NodeM) (l : List Int) (h : V.length = l.length) (i : Nat) (hi : i < V.length), (picksL ts V l)[i]'(by rw [picksL_len ts V l h]; exact hi) = pickOf (tyA ts (l[i]'(by omega)).toNat) V[i]
  | [], _, _, _, hi => absurd hi (Nat.not_lt_zero _)
  | _ :: _, [], h, _, _ => by cases h
  | x :: V, t :: l, h, 0, _ => rfl
  | x :: V, t :: l, h, i + 1, hi => by
    simp only [picksL, List.getElem_cons_succ]
    exact picksL_get ts V l (by simpa using h) i (by simpa using hi)
theorem typesL_len (ts : List TypeM) (T : TypeM) (m : Int) : ∀ (l : List Tr) (k : Nat), (Tr.types.typesL ts T m l k).length = (Tr.flat.flatL l).length
  | [], _ => rfl
  | c :: cs, k => by simp only [Tr.types.typesL, Tr.flat.flatL, List.length_append, types_len _ c (Nat.le_refl _), typesL_len ts T m cs (k + 1)]
/-- picks that lead to a tree of the type lead to it -/
theorem mkT_back {ts : List TypeM} {ps : List Int} (hr : ∀ (k : Nat) (h : k < ts.length), rightOK ts[k] k = true) : ∀ (f t : Nat), t < f → t < ts.length → ∀ (c : Tr), c.typed ts t → (∀ x ∈ c.flat, nodeOK x) → ∀ pos : Nat, (∀ i (hi : i < c.flat.length), pickAt ps (pos + i) = u64 ((picksL ts c.flat (c.types ts t))[i]'(by rw [picksL_len _ _ _ (types_len _ c (Nat.le_refl _) t).symm]; exact hi))) → mkT ts ps f t pos = c
  | 0, _, h, _ => absurd h (Nat.not_lt_zero _)
  | f + 1, t, hf, ht => fun c hc hn pos hp => by
    obtain ⟨x, ks⟩ := c
    obtain ⟨hc1, hc2, hc3, hc4, hc5⟩ := hc
    have hrt := hr t ht
    have h0 := hp 0 (by simp [Tr.flat])
    simp only [Tr.flat, Tr.types, picksL, Int.toNat_natCast, List.getElem_cons_zero, Nat.add_zero] at h0
    rw [tyA_lt ht] at hc2 hc5 h0
    have hxn : nodeOK x := hn x (by simp [Tr.flat])
    have hpk : pickN ts[t] (pickAt ps pos) = x := by rw [h0]; exact pick_back hrt hxn hc3 hc2
    rw [mkT, tyA_lt ht, hpk]
    congr 1
    have hkn : x.kids.toNat = ks.length := by omega
    rw [hkn]
    have hp' : ∀ i (hi : i < (Tr.flat.flatL ks).length), pickAt ps (pos + 1 + i) = u64 ((picksL ts (Tr.flat.flatL ks) (Tr.types.typesL ts ts[t] x.n ks 0))[i]'(by rw [picksL_len _ _ _ (typesL_len ts _ _ ks 0).symm]; exact hi)) := fun i hi => by
      have := hp (i + 1) (by simp only [Tr.flat, List.length_cons]; omega)
      simp only [Tr.flat, Tr.types, picksL, List.getElem_cons_succ, tyA_lt ht] at this
      rw [← this]; congr 1; omega
    have hn' : ∀ y ∈ Tr.flat.flatL ks, nodeOK y := fun y hy => hn y (by simp only [Tr.flat, List.mem_cons]; exact .inr hy)
    have hL : ∀ (l : List Tr) (k pos : Nat), (k : Int) + l.length ≤ x.kids → Tr.typed.typedL ts ts[t] x.n l k → (∀ y ∈ Tr.flat.flatL l, nodeOK y) →
        (∀ i (hi : i < (Tr.flat.flatL l).length), pickAt ps (pos + i) = u64 ((picksL ts (Tr.flat.flatL l) (Tr.types.typesL ts ts[t] x.n l k))[i]'(by rw [picksL_len _ _ _ (typesL_len ts _ _ l k).symm]; exact hi))) → mkL ts[t] x (mkT ts ps f) l.length k pos = l := by
      intro l
      induction l with
      | nil => intro _ _ _ _ _ _; rfl
      | cons c cs ih =>
        intro k pos hk ⟨g1, g2⟩ hny hpi
        simp only [List.length_cons] at hk
        obtain ⟨he, _⟩ := elem_ok hrt hc3 hc2 (i := k) (by omega)
        have hlen := types_len _ c (Nat.le_refl _) (ts := ts) (elemF ts[t] x.n k).toNat
        have hx1 : picksL ts (Tr.flat.flatL (c :: cs)) (Tr.types.typesL ts ts[t] x.n (c :: cs) k) = picksL ts c.flat (c.types ts (elemF ts[t] x.n k).toNat) ++ picksL ts (Tr.flat.flatL cs) (Tr.types.typesL ts ts[t] x.n cs (k + 1)) := picksL_app ts _ _ _ _ hlen.symm
        have hl1 := picksL_len ts c.flat (c.types ts (elemF ts[t] x.n k).toNat) hlen.symm
        have hmc := mkT_back hr f _ (by omega) (by omega) c g1 (fun y hy => hny y (by simp only [Tr.flat.flatL, List.mem_append]; exact .inl hy)) pos fun i hi => by
          rw [hpi i (by simp only [Tr.flat.flatL, List.length_append]; omega)]
          congr 1
          simp only [hx1]
          rw [List.getElem_append_left]
        have hmr := ih (k + 1) (pos + c.flat.length) (by omega) g2 (fun y hy => hny y (by simp only [Tr.flat.flatL, List.mem_append]; exact .inr hy)) fun i hi => by
          have := hpi (c.flat.length + i) (by simp only [Tr.flat.flatL, List.length_append]; omega)
          rw [Nat.add_assoc, this]
          congr 1
          simp only [hx1]
          rw [List.getElem_append_right (by omega)]
          congr 1
          omega
        rw [List.length_cons, mkL, hmc, hmr]
    exact hL ks 0 (pos + 1) (by omega) hc5 hn' hp'
theorem types_rng {ts : List TypeM} : ∀ (n : Nat) (c : Tr), c.flat.length ≤ n → ∀ t, c.typed ts t → ∀ z ∈ c.types ts t, 0 ≤ z ∧ z < ts.length
  | 0, c, h => absurd (flat_pos c) (by omega)
  | n + 1, .node x ks, h => fun t ⟨h1, _, _, _, h5⟩ z hz => by
    simp only [Tr.flat, List.length_cons] at h
    have hL : ∀ (l : List Tr), (∀ c ∈ l, c.flat.length ≤ n) → ∀ (T : TypeM) (m : Int) (k : Nat), Tr.typed.typedL ts T m l k → ∀ z ∈ Tr.types.typesL ts T m l k, 0 ≤ z ∧ z < ts.length := by
      intro l
      induction l with
      | nil => intro _ _ _ _ _ z hz; cases hz
      | cons c cs ih =>
        intro hc T m k ⟨g1, g2⟩ z hz
        simp only [Tr.types.typesL, List.mem_append] at hz
        rcases hz with hz | hz
        · exact types_rng n c (hc c (.head _)) _ g1 z hz
        · exact ih (fun d hd => hc d (.tail _ hd)) T m (k + 1) g2 z hz
    simp only [Tr.types, List.mem_cons] at hz
    rcases hz with rfl | hz
    · omega
    · exact hL ks (fun c hc => by have := flatL_mem hc; omega) _ _ _ h5 z hz
/-- each node of a tree of the type fits its type -/
theorem typed_fits {ts : List TypeM} : ∀ (n : Nat) (c : Tr), c.flat.length ≤ n → ∀ t, c.typed ts t → ∀ (i : Nat) (x : NodeM) (z : Int), c.flat[i]? = some x → (c.types ts t)[i]? = some z → fitsF (tyA ts z.toNat) x = 0 ∧ rightN x = true
  | 0, c, h => absurd (flat_pos c) (by omega)
  | n + 1, .node y ks, h => fun t ⟨h1, h2, h3, _, h5⟩ i x z hx hz => by
    simp only [Tr.flat, List.length_cons] at h
    have hL : ∀ (l : List Tr), (∀ c ∈ l, c.flat.length ≤ n) → ∀ (T : TypeM) (m : Int) (k : Nat), Tr.typed.typedL ts T m l k → ∀ (i : Nat) (x : NodeM) (z : Int), (Tr.flat.flatL l)[i]? = some x → (Tr.types.typesL ts T m l k)[i]? = some z → fitsF (tyA ts z.toNat) x = 0 ∧ rightN x = true := by
      intro l
      induction l with
      | nil => intro _ _ _ _ _ i x z hx; simp [Tr.flat.flatL] at hx
      | cons c cs ih =>
        intro hc T m k ⟨g1, g2⟩ i x z hx hz
        have hlen := types_len _ c (Nat.le_refl _) (ts := ts) (elemF T m k).toNat
        simp only [Tr.types.typesL, Tr.flat.flatL, List.getElem?_append, hlen] at hx hz
        split at hx
        · rename_i hlt
          rw [if_pos hlt] at hz
          exact typed_fits n c (hc c (.head _)) _ g1 i x z hx hz
        · rename_i hlt
          rw [if_neg hlt] at hz
          exact ih (fun d hd => hc d (.tail _ hd)) T m (k + 1) g2 _ x z hx hz
    cases i with
    | zero =>
      simp only [Tr.flat, Tr.types, List.getElem?_cons_zero, Option.some.injEq] at hx hz
      subst hx; subst hz
      exact ⟨by rw [Int.toNat_natCast]; exact h2, h3⟩
    | succ i =>
      simp only [Tr.flat, Tr.types, List.getElem?_cons_succ] at hx hz
      exact hL ks (fun c hc => by have := flatL_mem hc; omega) _ _ _ h5 i x z hx hz
theorem chk_flat11 {c : Tr} (h : c.ok) : (chkN c.flat).1 = 0 := by
  have main : ∀ (n : Nat) (c : Tr), c.flat.length ≤ n → c.ok → ∀ (l : List NodeM) (w i : Int), 0 ≤ w → ∃ j, chkL (c.flat ++ l) (w + 1) i = chkL l w j := by
    intro n
    induction n with
    | zero => intro c hc; exact absurd (flat_pos c) (by omega)
    | succ n ih =>
      intro c hc hok l w i hw
      obtain ⟨x, ks⟩ := c
      obtain ⟨h1, h2, h3⟩ := hok
      simp only [Tr.flat, List.length_cons] at hc
      have hL : ∀ (ks : List Tr), (∀ c ∈ ks, c.flat.length ≤ n) → Tr.ok.okL ks → ∀ (l : List NodeM) (w i : Int), 0 ≤ w → ∃ j, chkL (Tr.flat.flatL ks ++ l) (w + ks.length) i = chkL l w j := by
        intro ks
        induction ks with
        | nil => intro _ _ l w i _; exact ⟨i, by simp [Tr.flat.flatL]⟩
        | cons c cs ih2 =>
          intro hcs hok l w i hw
          obtain ⟨j1, e1⟩ := ih c (hcs c (.head _)) hok.1 (Tr.flat.flatL cs ++ l) (w + cs.length) i (by omega)
          obtain ⟨j2, e2⟩ := ih2 (fun d hd => hcs d (.tail _ hd)) hok.2 l w j1 hw
          refine ⟨j2, ?_⟩
          rw [← e2, ← e1]
          simp only [Tr.flat.flatL, List.append_assoc, List.length_cons]
          congr 1
          omega
      obtain ⟨j, e⟩ := hL ks (fun d hd => by have := flatL_mem hd; omega) h3 l w (i + 1) hw
      refine ⟨j, ?_⟩
      rw [← e]
      simp only [Tr.flat, List.cons_append]
      rw [chkL, if_neg (by rw [h1]; simp; omega)]
      congr 1
      omega
  obtain ⟨j, e⟩ := main _ c (Nat.le_refl _) h [] 0 0 (by omega)
  rw [List.append_nil] at e
  unfold chkN
  rw [show (1 : Int) = 0 + 1 by omega, e]
  rfl
end Go.Proofs.YtfgacgpicfknpaaDoor
end
section
namespace Go.Proofs.YtfgacgpicfknpaaDoor
open Go.RowKit
set_option maxRecDepth 100000
set_option maxHeartbeats 8000000
/-! mortiseref11.Types, Picks. -/
theorem rTypes11_any (ts : List TypeM) (rs : List RootM) (hts : ts.length ≤ 1000000000) (hrs : rs.length ≤ 1000000000) (hp : ∀ t ∈ ts, t.parts.length ≤ 1000000000) (hg : ∀ t ∈ ts, ∀ p ∈ t.parts, I64 p.tag) (t : Int) (ht : I64 t) (V : List NodeM) (hV : V.length ≤ 1000000000) (hv : ∀ x ∈ V, nodeOK x)
    (c : Tr) (hc : (chkN V).1 = 0 → c.flat = V ∧ c.ok) :
    PCall Tryd.prog 13 [vSch ts rs, vI t, .lst 3 (encNs V)] (fun r => r = .tup [.lst 1 (v8 (typesF ts rs t V c).1), .agg [vI (typesF ts rs t V c).2.1, vI (typesF ts rs t V c).2.2]]) := by
  refine go_fn (tyOf_ok _) Tryd.func13 rfl rfl (by rw [Tryd.results13]) Tryd.ntmps13 rfl fun E => ?_
  have h := Types_any ts rs hts hrs hp hg t ht V hV hv c hc
  generalize typesF ts rs t V c = q at *
  unfold vSch at h
  (repeat' (first
    | exact trivial
    | (with_reducible first | refine awA ?_ | refine awB ?_ | refine awC ?_ | refine awD ?_ | refine awE ?_ | refine awF ?_ | refine awG ?_ | refine awH ?_ | refine awI ?_ | refine awJ ?_ | refine awK ?_ | refine awL ?_ | refine awM (by decide) ?_)
    | ((with_reducible first | refine awN (tyOf_ok _) [] ?_ | refine awO (tyOf_ok _) [] ?_ | refine awP (tyOf_ok _) [] ?_ | refine awQ ?_ | refine awR ?_ | refine awS ?_); intro r hr; simp only [go_sem, Nat.reduceBEq, Nat.reduceBneDiff, Nat.reduceLT, Nat.reduceLeDiff, Nat.reduceAdd, Nat.reduceMul, Nat.reduceSub, Nat.reduceEqDiff, reduceCtorEq, vSch] at hr; subst hr; (first | refine caC (h) rfl ?_ ?_ ?_ | refine awV ?_ ?_ | refine awW ?_ ?_ | refine endK ?_ ?_ | (refine condK (fun h => ?_) (fun h => ?_) <;> (try simp only [go_sem, reduceCtorEq] at h) <;> (try (exfalso; omega))))) | fail)) <;> (try omega)
  exact rfl
theorem typesF_typed {ts : List TypeM} {rs : List RootM} (h0 : (checkF ts rs).1 = 0) {t : Nat} {c : Tr} (hc : c.typed ts t) : typesF ts rs t c.flat c = (c.types ts t, 0, 0) := by
  have hok := typed_ok _ c (Nat.le_refl _) t hc
  have htl : t < ts.length := by cases c; exact hc.1
  unfold typesF
  rw [if_neg (by omega), if_neg (by omega), if_neg (by have := chk_flat11 hok; omega), Int.toNat_natCast, typed_walk _ c (Nat.le_refl _) t hc]
  rfl
theorem picks11_any (ts : List TypeM) (rs : List RootM) (hts : ts.length ≤ 1000000) (hrs : rs.length ≤ 1000000000) (hp : ∀ t ∈ ts, t.parts.length ≤ 1000000000) (hg : ∀ t ∈ ts, ∀ p ∈ t.parts, I64 p.tag) (h0 : (checkF ts rs).1 = 0) (t : Nat)
    (V : List NodeM) (hV : V.length ≤ 1000000000) (hv : ∀ x ∈ V, nodeOK x) (c : Tr) (hcV : c.flat = V) (hc : c.typed ts t) :
    PCall Tryd.prog 25 [vSch ts rs, vI t, .lst 3 (encNs V)] (fun r => r = .lst 1 (v8 (picksL ts V (c.types ts t)))) := by
  refine go_fnU (tyOf_ok _) Tryd.func25 rfl rfl (by rw [Tryd.results25]) Tryd.ntmps25 rfl fun E => ?_
  have htl : t < ts.length := by cases c; exact hc.1
  have hT := rTypes11_any ts rs (by omega) hrs hp hg t (by unfold I64; omega) V hV hv c fun _ => ⟨hcV, typed_ok _ c (Nat.le_refl _) t hc⟩
  have htF := typesF_typed h0 hc
  rw [hcV] at htF
  rw [htF] at hT
  have hr := check_right h0
  have hlen := types_len _ c (Nat.le_refl _) (ts := ts) t
  rw [hcV] at hlen
  have hrng := types_rng _ c (Nat.le_refl _) t hc
  have hfit := typed_fits _ c (Nat.le_refl _) t hc
  rw [hcV] at hfit
  clear htF
  generalize c.types ts t = l at *
  unfold vSch at hT
  simp only at hT
  (repeat' (first
    | exact trivial
    | (with_reducible first | refine awA ?_ | refine awB ?_ | refine awC ?_ | refine awD ?_ | refine awE ?_ | refine awF ?_ | refine awG ?_ | refine awH ?_ | refine awI ?_ | refine awJ ?_ | refine awK ?_ | refine awL ?_ | refine awM (by decide) ?_)
    | (refine aw_draw (id := 6) (t := (.node [0, 1, 2, 3, 4, 5, 6, 7, 8, 9] [])) (drR [3] [31, 33] []) mixed (by kernel_rfl) (by kernel_rfl) (fun _ _ h => h) ?_)
    | (refine aw_draw (id := 17) (t := (.node [0, 1, 2, 3, 4, 5, 6, 7, 8, 9, 10, 11, 12] [])) (drR [11] [61, 67] []) mixed (by kernel_rfl) (by kernel_rfl) (fun _ _ h => h) ?_)
    | (refine at_done (by simp only [List.filterMap_cons, List.filterMap_nil, List.getElem?_toArray, List.getElem?_cons_zero, List.getElem?_cons_succ]; exact rfl) ?_) | (refine at_alt (by simp only [List.filterMap_cons, List.filterMap_nil, List.getElem?_toArray, List.getElem?_cons_zero, List.getElem?_cons_succ]; exact rfl) ?_) | refine qalt_normal ?_ | refine ats_cons ?_ ?_ | exact ats_nil
    | ((with_reducible first | refine awN (tyOf_ok _) [] ?_ | refine awO (tyOf_ok _) [] ?_ | refine awP (tyOf_ok _) [] ?_ | refine awQ ?_ | refine awR ?_ | refine awS ?_); intro r hr; simp only [go_sem, Nat.reduceBEq, Nat.reduceBneDiff, Nat.reduceLT, Nat.reduceLeDiff, Nat.reduceAdd, Nat.reduceMul, Nat.reduceSub, Nat.reduceEqDiff, reduceCtorEq, vSch] at hr; subst hr; (first | refine caC (hT) rfl ?_ ?_ ?_ | refine awV ?_ ?_ | refine awW ?_ ?_ | refine endK ?_ ?_ | (refine condK (fun h => ?_) (fun h => ?_) <;> (try simp only [go_sem, reduceCtorEq] at h) <;> (try (exfalso; omega))))) | fail)) <;> (try omega)
  refine aw_nilrow 9 3 1 8000 (.inl (by decide)) (by simp only [go_sem, Nat.reduceBEq, Nat.reduceBneDiff, Nat.reduceLT, Nat.reduceLeDiff, Nat.reduceAdd, Nat.reduceMul, Nat.reduceSub, Nat.reduceEqDiff, reduceCtorEq]) ?_
  have hPl := picksL_len ts V l hlen.symm
  have hPg : ∀ (i : Nat) (hi : i < V.length) (z : Int), l[i]? = some z → (picksL ts V l)[i]? = some (pickOf (tyA ts z.toNat) V[i]) := fun i hi z hz => by
    rw [List.getElem?_eq_getElem (by omega)] at hz
    injection hz with hz
    rw [List.getElem?_eq_getElem (by omega), picksL_get ts V l hlen.symm i hi, hz]
  generalize picksL ts V l = P at *
  refine go_loop [2, 3, 6, 7, 9, 10] [3, 8000] (fun k : Nat => ⟨[(2, true, .lst 3 (encNs V)), (3, true, .ptr 1 3 0 0), (6, true, .v (.slice none 0 0)), (7, true, .lst 1 (v8 l)), (9, true, .ref 3 1 8000 0 k), (10, true, vI k)], [(3, .var [.lst 4 (encTs ts), .lst 2 (encRs rs)]), (8000, .row 3 1 (v8 (P.take k)))]⟩)
    (fun k => k ≤ V.length) (fun k => V.length - k) 0 (by simp only [AState.nilrow, go_sem, Nat.reduceBEq, Nat.reduceBneDiff, Nat.reduceLT, Nat.reduceLeDiff, Nat.reduceAdd, Nat.reduceMul, Nat.reduceSub, Nat.reduceEqDiff, reduceCtorEq] <;> exact rfl) (Nat.zero_le _) ?_
  intro k hk
  have hw1 := wrap_i64 (n := (k : Int) + 1) (by omega)
  have hkl : (v8 (P.take k)).length = k := by rw [v8_len, List.length_take]; omega
  have htk : (v8 (P.take k)).take k = v8 (P.take k) := take_len (by omega)
  by_cases hlt : k < V.length
  case neg =>
    have f1 : ((k : Int) < V.length) = False := eq_false (by omega)
    have hke : P.take k = P := List.take_of_length_le (by omega)
    rw [hke] at htk ⊢
    (repeat' (first
    | exact trivial
    | (with_reducible first | refine awA ?_ | refine awB ?_ | refine awC ?_ | refine awD ?_ | refine awE ?_ | refine awF ?_ | refine awG ?_ | refine awH ?_ | refine awI ?_ | refine awJ ?_ | refine awK ?_ | refine awL ?_ | refine awM (by decide) ?_)
    | (refine aw_draw (id := 6) (t := (.node [0, 1, 2, 3, 4, 5, 6, 7, 8, 9] [])) (drR [3] [31, 33] []) mixed (by kernel_rfl) (by kernel_rfl) (fun _ _ h => h) ?_)
    | (refine aw_draw (id := 17) (t := (.node [0, 1, 2, 3, 4, 5, 6, 7, 8, 9, 10, 11, 12] [])) (drR [11] [61, 67] []) mixed (by kernel_rfl) (by kernel_rfl) (fun _ _ h => h) ?_)
    | (refine at_done (by simp only [List.filterMap_cons, List.filterMap_nil, List.getElem?_toArray, List.getElem?_cons_zero, List.getElem?_cons_succ]; exact rfl) ?_) | (refine at_alt (by simp only [List.filterMap_cons, List.filterMap_nil, List.getElem?_toArray, List.getElem?_cons_zero, List.getElem?_cons_succ]; exact rfl) ?_) | refine qalt_normal ?_ | refine ats_cons ?_ ?_ | exact ats_nil
    | ((with_reducible first | refine awN (tyOf_ok _) [] ?_ | refine awO (tyOf_ok _) [] ?_ | refine awP (tyOf_ok _) [] ?_ | refine awQ ?_ | refine awR ?_ | refine awS ?_); intro r hr; simp only [go_sem, Nat.reduceBEq, Nat.reduceBneDiff, Nat.reduceLT, Nat.reduceLeDiff, Nat.reduceAdd, Nat.reduceMul, Nat.reduceSub, Nat.reduceEqDiff, reduceCtorEq, f1, htk] at hr; subst hr; (first | refine awV ?_ ?_ | refine awW ?_ ?_ | refine endK ?_ ?_ | (refine condK (fun h => ?_) (fun h => ?_) <;> (try simp only [go_sem, reduceCtorEq] at h) <;> (try (exfalso; omega))))) | fail)) <;> (try omega)
    exact AV.up_rfl _
  have f1 : ((k : Int) < V.length) = True := eq_true (by omega)
  have hkl2 : k < l.length := by omega
  have g1 := v8_get hkl2
  have g3 := encNs_get hlt
  have hb := hrng _ (List.getElem_mem hkl2)
  have hft := hfit k V[k] l[k] (List.getElem?_eq_getElem hlt) (List.getElem?_eq_getElem hkl2)
  have hxo := hv _ (List.getElem_mem hlt)
  have hPk := hPg k hlt l[k] (List.getElem?_eq_getElem hkl2)
  obtain ⟨tn, htn⟩ : ∃ tn : Nat, l[k] = tn := ⟨l[k].toNat, by omega⟩
  rw [htn] at g1 hft hPk hb
  rw [Int.toNat_natCast] at hft hPk
  have htn2 : tn < ts.length := by omega
  have g2 := encTs_get htn2
  have hrt := hr tn htn2
  rw [tyA_lt htn2] at hft hPk
  have hppl := hp _ (List.getElem_mem htn2)
  have zt : ((tn : Int)).toNat = tn := by omega
  have hnext : v8 (P.take k) ++ [[vI (pickOf ts[tn] V[k])]] = v8 (P.take (k + 1)) := by rw [List.take_succ, hPk]; simp [v8]
  have hkl1 : (v8 (P.take (k + 1))).length = k + 1 := by rw [v8_len, List.length_take]; omega
  generalize V[k] = x at *
  generalize ts[tn] = T at *
  clear hPk hPg hrng hfit
  (repeat' (first
    | exact trivial
    | (refine go_cutK 2 [2, 3, 6, 7, 9, 10, 12] [3, 8000] (fun y : Int => ⟨[(2, true, .lst 3 (encNs V)), (3, true, .ptr 1 3 0 0), (6, true, .v (.slice none 0 0)), (7, true, .lst 1 (v8 l)), (9, true, .ref 3 1 8000 0 k), (10, true, vI k), (12, true, vI y)], [(3, .var [.lst 4 (encTs ts), .lst 2 (encRs rs)]), (8000, .row 3 1 (v8 (P.take k)))]⟩) (fun y => y = pickOf T x) (hold ?_) ?_)
    | (with_reducible first | refine awA ?_ | refine awB ?_ | refine awC ?_ | refine awD ?_ | refine awE ?_ | refine awF ?_ | refine awG ?_ | refine awH ?_ | refine awI ?_ | refine awJ ?_ | refine awK ?_ | refine awL ?_ | refine awM (by decide) ?_)
    | (refine aw_draw (id := 6) (t := (.node [0, 1, 2, 3, 4, 5, 6, 7, 8, 9] [])) (drR [3] [31, 33] []) mixed (by kernel_rfl) (by kernel_rfl) (fun _ _ h => h) ?_)
    | (refine aw_draw (id := 17) (t := (.node [0, 1, 2, 3, 4, 5, 6, 7, 8, 9, 10, 11, 12] [])) (drR [11] [61, 67] []) mixed (by kernel_rfl) (by kernel_rfl) (fun _ _ h => h) ?_)
    | (refine at_done (by simp only [List.filterMap_cons, List.filterMap_nil, List.getElem?_toArray, List.getElem?_cons_zero, List.getElem?_cons_succ]; exact rfl) ?_) | (refine at_alt (by simp only [List.filterMap_cons, List.filterMap_nil, List.getElem?_toArray, List.getElem?_cons_zero, List.getElem?_cons_succ]; exact rfl) ?_) | refine qalt_normal ?_ | refine ats_cons ?_ ?_ | exact ats_nil
    | ((with_reducible first | refine awN (tyOf_ok _) [] ?_ | refine awO (tyOf_ok _) [] ?_ | refine awP (tyOf_ok _) [] ?_ | refine awQ ?_ | refine awR ?_ | refine awS ?_); intro r hr; simp only [go_sem, Nat.reduceBEq, Nat.reduceBneDiff, Nat.reduceLT, Nat.reduceLeDiff, Nat.reduceAdd, Nat.reduceMul, Nat.reduceSub, Nat.reduceEqDiff, reduceCtorEq, f1, g1, g2, zt] at hr; subst hr; (first | refine awV ?_ ?_ | refine awW ?_ ?_ | refine endK ?_ ?_ | (refine condK (fun h => ?_) (fun h => ?_) <;> (try simp only [go_sem, reduceCtorEq] at h) <;> (try (exfalso; omega))))) | fail)) <;> (try omega)
  · refine ⟨?_⟩
    have zk : ((k : Int)).toNat = k := by omega
    by_cases h1 : T.kind = 1
    · have e1 : (T.kind = 1) = True := eq_true h1
      (repeat' (first
    | exact trivial
    | (with_reducible first | refine awA ?_ | refine awB ?_ | refine awC ?_ | refine awD ?_ | refine awE ?_ | refine awF ?_ | refine awG ?_ | refine awH ?_ | refine awI ?_ | refine awJ ?_ | refine awK ?_ | refine awL ?_ | refine awM (by decide) ?_)
    | (refine aw_draw (id := 6) (t := (.node [0, 1, 2, 3, 4, 5, 6, 7, 8, 9] [])) (drR [3] [31, 33] []) mixed (by kernel_rfl) (by kernel_rfl) (fun _ _ h => h) ?_)
    | (refine aw_draw (id := 17) (t := (.node [0, 1, 2, 3, 4, 5, 6, 7, 8, 9, 10, 11, 12] [])) (drR [11] [61, 67] []) mixed (by kernel_rfl) (by kernel_rfl) (fun _ _ h => h) ?_)
    | (refine at_done (by simp only [List.filterMap_cons, List.filterMap_nil, List.getElem?_toArray, List.getElem?_cons_zero, List.getElem?_cons_succ]; exact rfl) ?_) | (refine at_alt (by simp only [List.filterMap_cons, List.filterMap_nil, List.getElem?_toArray, List.getElem?_cons_zero, List.getElem?_cons_succ]; exact rfl) ?_) | refine qalt_normal ?_ | refine ats_cons ?_ ?_ | exact ats_nil
    | ((with_reducible first | refine awN (tyOf_ok _) [] ?_ | refine awO (tyOf_ok _) [] ?_ | refine awP (tyOf_ok _) [] ?_ | refine awQ ?_ | refine awR ?_ | refine awS ?_); intro r hr; simp only [go_sem, Nat.reduceBEq, Nat.reduceBneDiff, Nat.reduceLT, Nat.reduceLeDiff, Nat.reduceAdd, Nat.reduceMul, Nat.reduceSub, Nat.reduceEqDiff, reduceCtorEq, e1, g3, zk] at hr; subst hr; (first | refine awV ?_ ?_ | refine awW ?_ ?_ | refine endK ?_ ?_ | (refine condK (fun h => ?_) (fun h => ?_) <;> (try simp only [go_sem, reduceCtorEq] at h) <;> (try (exfalso; omega))))) | fail)) <;> (try omega)
      exact ⟨_, by simp only [go_sem, Nat.reduceBEq, Nat.reduceBneDiff, Nat.reduceLT, Nat.reduceLeDiff, Nat.reduceAdd, Nat.reduceMul, Nat.reduceSub, Nat.reduceEqDiff, reduceCtorEq] <;> exact rfl, by rw [pickOf, if_pos (.inl h1)]⟩
    have e1 : (T.kind = 1) = False := eq_false h1
    by_cases h3 : T.kind = 3
    · have e3 : (T.kind = 3) = True := eq_true h3
      (repeat' (first
    | exact trivial
    | (with_reducible first | refine awA ?_ | refine awB ?_ | refine awC ?_ | refine awD ?_ | refine awE ?_ | refine awF ?_ | refine awG ?_ | refine awH ?_ | refine awI ?_ | refine awJ ?_ | refine awK ?_ | refine awL ?_ | refine awM (by decide) ?_)
    | (refine aw_draw (id := 6) (t := (.node [0, 1, 2, 3, 4, 5, 6, 7, 8, 9] [])) (drR [3] [31, 33] []) mixed (by kernel_rfl) (by kernel_rfl) (fun _ _ h => h) ?_)
    | (refine aw_draw (id := 17) (t := (.node [0, 1, 2, 3, 4, 5, 6, 7, 8, 9, 10, 11, 12] [])) (drR [11] [61, 67] []) mixed (by kernel_rfl) (by kernel_rfl) (fun _ _ h => h) ?_)
    | (refine at_done (by simp only [List.filterMap_cons, List.filterMap_nil, List.getElem?_toArray, List.getElem?_cons_zero, List.getElem?_cons_succ]; exact rfl) ?_) | (refine at_alt (by simp only [List.filterMap_cons, List.filterMap_nil, List.getElem?_toArray, List.getElem?_cons_zero, List.getElem?_cons_succ]; exact rfl) ?_) | refine qalt_normal ?_ | refine ats_cons ?_ ?_ | exact ats_nil
    | ((with_reducible first | refine awN (tyOf_ok _) [] ?_ | refine awO (tyOf_ok _) [] ?_ | refine awP (tyOf_ok _) [] ?_ | refine awQ ?_ | refine awR ?_ | refine awS ?_); intro r hr; simp only [go_sem, Nat.reduceBEq, Nat.reduceBneDiff, Nat.reduceLT, Nat.reduceLeDiff, Nat.reduceAdd, Nat.reduceMul, Nat.reduceSub, Nat.reduceEqDiff, reduceCtorEq, e1, e3, g3, zk] at hr; subst hr; (first | refine awV ?_ ?_ | refine awW ?_ ?_ | refine endK ?_ ?_ | (refine condK (fun h => ?_) (fun h => ?_) <;> (try simp only [go_sem, reduceCtorEq] at h) <;> (try (exfalso; omega))))) | fail)) <;> (try omega)
      exact ⟨_, by simp only [go_sem, Nat.reduceBEq, Nat.reduceBneDiff, Nat.reduceLT, Nat.reduceLeDiff, Nat.reduceAdd, Nat.reduceMul, Nat.reduceSub, Nat.reduceEqDiff, reduceCtorEq] <;> exact rfl, by rw [pickOf, if_pos (.inr (.inl h3))]⟩
    have e3 : (T.kind = 3) = False := eq_false h3
    by_cases h2 : T.kind = 2
    · have e2 : (T.kind = 2) = True := eq_true h2
      (repeat' (first
    | exact trivial
    | (with_reducible first | refine awA ?_ | refine awB ?_ | refine awC ?_ | refine awD ?_ | refine awE ?_ | refine awF ?_ | refine awG ?_ | refine awH ?_ | refine awI ?_ | refine awJ ?_ | refine awK ?_ | refine awL ?_ | refine awM (by decide) ?_)
    | (refine aw_draw (id := 6) (t := (.node [0, 1, 2, 3, 4, 5, 6, 7, 8, 9] [])) (drR [3] [31, 33] []) mixed (by kernel_rfl) (by kernel_rfl) (fun _ _ h => h) ?_)
    | (refine aw_draw (id := 17) (t := (.node [0, 1, 2, 3, 4, 5, 6, 7, 8, 9, 10, 11, 12] [])) (drR [11] [61, 67] []) mixed (by kernel_rfl) (by kernel_rfl) (fun _ _ h => h) ?_)
    | (refine at_done (by simp only [List.filterMap_cons, List.filterMap_nil, List.getElem?_toArray, List.getElem?_cons_zero, List.getElem?_cons_succ]; exact rfl) ?_) | (refine at_alt (by simp only [List.filterMap_cons, List.filterMap_nil, List.getElem?_toArray, List.getElem?_cons_zero, List.getElem?_cons_succ]; exact rfl) ?_) | refine qalt_normal ?_ | refine ats_cons ?_ ?_ | exact ats_nil
    | ((with_reducible first | refine awN (tyOf_ok _) [] ?_ | refine awO (tyOf_ok _) [] ?_ | refine awP (tyOf_ok _) [] ?_ | refine awQ ?_ | refine awR ?_ | refine awS ?_); intro r hr; simp only [go_sem, Nat.reduceBEq, Nat.reduceBneDiff, Nat.reduceLT, Nat.reduceLeDiff, Nat.reduceAdd, Nat.reduceMul, Nat.reduceSub, Nat.reduceEqDiff, reduceCtorEq, e1, e3, e2, g3, zk] at hr; subst hr; (first | refine awV ?_ ?_ | refine awW ?_ ?_ | refine endK ?_ ?_ | (refine condK (fun h => ?_) (fun h => ?_) <;> (try simp only [go_sem, reduceCtorEq] at h) <;> (try (exfalso; omega))))) | fail)) <;> (try omega)
      exact ⟨_, by simp only [go_sem, Nat.reduceBEq, Nat.reduceBneDiff, Nat.reduceLT, Nat.reduceLeDiff, Nat.reduceAdd, Nat.reduceMul, Nat.reduceSub, Nat.reduceEqDiff, reduceCtorEq] <;> exact rfl, by rw [pickOf, if_pos (.inr (.inr h2))]⟩
    have e2 : (T.kind = 2) = False := eq_false h2
    by_cases h5 : T.kind = 5
    · have e5 : (T.kind = 5) = True := eq_true h5
      (repeat' (first
    | exact trivial
    | (with_reducible first | refine awA ?_ | refine awB ?_ | refine awC ?_ | refine awD ?_ | refine awE ?_ | refine awF ?_ | refine awG ?_ | refine awH ?_ | refine awI ?_ | refine awJ ?_ | refine awK ?_ | refine awL ?_ | refine awM (by decide) ?_)
    | (refine aw_draw (id := 6) (t := (.node [0, 1, 2, 3, 4, 5, 6, 7, 8, 9] [])) (drR [3] [31, 33] []) mixed (by kernel_rfl) (by kernel_rfl) (fun _ _ h => h) ?_)
    | (refine aw_draw (id := 17) (t := (.node [0, 1, 2, 3, 4, 5, 6, 7, 8, 9, 10, 11, 12] [])) (drR [11] [61, 67] []) mixed (by kernel_rfl) (by kernel_rfl) (fun _ _ h => h) ?_)
    | (refine at_done (by simp only [List.filterMap_cons, List.filterMap_nil, List.getElem?_toArray, List.getElem?_cons_zero, List.getElem?_cons_succ]; exact rfl) ?_) | (refine at_alt (by simp only [List.filterMap_cons, List.filterMap_nil, List.getElem?_toArray, List.getElem?_cons_zero, List.getElem?_cons_succ]; exact rfl) ?_) | refine qalt_normal ?_ | refine ats_cons ?_ ?_ | exact ats_nil
    | ((with_reducible first | refine awN (tyOf_ok _) [] ?_ | refine awO (tyOf_ok _) [] ?_ | refine awP (tyOf_ok _) [] ?_ | refine awQ ?_ | refine awR ?_ | refine awS ?_); intro r hr; simp only [go_sem, Nat.reduceBEq, Nat.reduceBneDiff, Nat.reduceLT, Nat.reduceLeDiff, Nat.reduceAdd, Nat.reduceMul, Nat.reduceSub, Nat.reduceEqDiff, reduceCtorEq, e1, e3, e2, e5, g3, zk] at hr; subst hr; (first | refine awV ?_ ?_ | refine awW ?_ ?_ | refine endK ?_ ?_ | (refine condK (fun h => ?_) (fun h => ?_) <;> (try simp only [go_sem, reduceCtorEq] at h) <;> (try (exfalso; omega))))) | fail)) <;> (try omega)
      exact ⟨_, by simp only [go_sem, Nat.reduceBEq, Nat.reduceBneDiff, Nat.reduceLT, Nat.reduceLeDiff, Nat.reduceAdd, Nat.reduceMul, Nat.reduceSub, Nat.reduceEqDiff, reduceCtorEq] <;> exact rfl, by rw [pickOf, if_neg (by omega), if_pos (.inl h5)]⟩
    have e5 : (T.kind = 5) = False := eq_false h5
    by_cases h6 : T.kind = 6
    · have e6 : (T.kind = 6) = True := eq_true h6
      (repeat' (first
    | exact trivial
    | (with_reducible first | refine awA ?_ | refine awB ?_ | refine awC ?_ | refine awD ?_ | refine awE ?_ | refine awF ?_ | refine awG ?_ | refine awH ?_ | refine awI ?_ | refine awJ ?_ | refine awK ?_ | refine awL ?_ | refine awM (by decide) ?_)
    | (refine aw_draw (id := 6) (t := (.node [0, 1, 2, 3, 4, 5, 6, 7, 8, 9] [])) (drR [3] [31, 33] []) mixed (by kernel_rfl) (by kernel_rfl) (fun _ _ h => h) ?_)
    | (refine aw_draw (id := 17) (t := (.node [0, 1, 2, 3, 4, 5, 6, 7, 8, 9, 10, 11, 12] [])) (drR [11] [61, 67] []) mixed (by kernel_rfl) (by kernel_rfl) (fun _ _ h => h) ?_)
    | (refine at_done (by simp only [List.filterMap_cons, List.filterMap_nil, List.getElem?_toArray, List.getElem?_cons_zero, List.getElem?_cons_succ]; exact rfl) ?_) | (refine at_alt (by simp only [List.filterMap_cons, List.filterMap_nil, List.getElem?_toArray, List.getElem?_cons_zero, List.getElem?_cons_succ]; exact rfl) ?_) | refine qalt_normal ?_ | refine ats_cons ?_ ?_ | exact ats_nil
    | ((with_reducible first | refine awN (tyOf_ok _) [] ?_ | refine awO (tyOf_ok _) [] ?_ | refine awP (tyOf_ok _) [] ?_ | refine awQ ?_ | refine awR ?_ | refine awS ?_); intro r hr; simp only [go_sem, Nat.reduceBEq, Nat.reduceBneDiff, Nat.reduceLT, Nat.reduceLeDiff, Nat.reduceAdd, Nat.reduceMul, Nat.reduceSub, Nat.reduceEqDiff, reduceCtorEq, e1, e3, e2, e5, e6, g3, zk] at hr; subst hr; (first | refine awV ?_ ?_ | refine awW ?_ ?_ | refine endK ?_ ?_ | (refine condK (fun h => ?_) (fun h => ?_) <;> (try simp only [go_sem, reduceCtorEq] at h) <;> (try (exfalso; omega))))) | fail)) <;> (try omega)
      exact ⟨_, by simp only [go_sem, Nat.reduceBEq, Nat.reduceBneDiff, Nat.reduceLT, Nat.reduceLeDiff, Nat.reduceAdd, Nat.reduceMul, Nat.reduceSub, Nat.reduceEqDiff, reduceCtorEq] <;> exact rfl, by rw [pickOf, if_neg (by omega), if_pos (.inr h6)]⟩
    have e6 : (T.kind = 6) = False := eq_false h6
    by_cases h7 : T.kind = 7
    · have e7 : (T.kind = 7) = True := eq_true h7
      obtain ⟨a1, a2⟩ := arm_idx ((fits_parts hft.1).2.2.2.2.2 h7)
      have hP : pickOf T x = ((T.parts.findIdx (tagP x.n) : Nat) : Int) := by rw [pickOf, if_neg (by omega), if_neg (by omega), if_pos h7]
      rw [hP]
      have hnot : ∀ j, j < T.parts.findIdx (tagP x.n) → (h : j < T.parts.length) → tagP x.n T.parts[j] = false := fun j hj h => by
        have := List.not_of_lt_findIdx hj
        simpa using this
      have hyes : ∀ j, j = T.parts.findIdx (tagP x.n) → (h : j < T.parts.length) → tagP x.n T.parts[j] = true := fun j hj h => by
        subst hj
        exact List.findIdx_getElem (w := h)
      generalize T.parts.findIdx (tagP x.n) = ix at *
      (repeat' (first
    | exact trivial
    | (with_reducible first | refine awA ?_ | refine awB ?_ | refine awC ?_ | refine awD ?_ | refine awE ?_ | refine awF ?_ | refine awG ?_ | refine awH ?_ | refine awI ?_ | refine awJ ?_ | refine awK ?_ | refine awL ?_ | refine awM (by decide) ?_)
    | (refine aw_draw (id := 6) (t := (.node [0, 1, 2, 3, 4, 5, 6, 7, 8, 9] [])) (drR [3] [31, 33] []) mixed (by kernel_rfl) (by kernel_rfl) (fun _ _ h => h) ?_)
    | (refine aw_draw (id := 17) (t := (.node [0, 1, 2, 3, 4, 5, 6, 7, 8, 9, 10, 11, 12] [])) (drR [11] [61, 67] []) mixed (by kernel_rfl) (by kernel_rfl) (fun _ _ h => h) ?_)
    | (refine at_done (by simp only [List.filterMap_cons, List.filterMap_nil, List.getElem?_toArray, List.getElem?_cons_zero, List.getElem?_cons_succ]; exact rfl) ?_) | (refine at_alt (by simp only [List.filterMap_cons, List.filterMap_nil, List.getElem?_toArray, List.getElem?_cons_zero, List.getElem?_cons_succ]; exact rfl) ?_) | refine qalt_normal ?_ | refine ats_cons ?_ ?_ | exact ats_nil
    | ((with_reducible first | refine awN (tyOf_ok _) [] ?_ | refine awO (tyOf_ok _) [] ?_ | refine awP (tyOf_ok _) [] ?_ | refine awQ ?_ | refine awR ?_ | refine awS ?_); intro r hr; simp only [go_sem, Nat.reduceBEq, Nat.reduceBneDiff, Nat.reduceLT, Nat.reduceLeDiff, Nat.reduceAdd, Nat.reduceMul, Nat.reduceSub, Nat.reduceEqDiff, reduceCtorEq, e1, e3, e2, e5, e6, e7] at hr; subst hr; (first | refine awV ?_ ?_ | refine awW ?_ ?_ | refine endK ?_ ?_ | (refine condK (fun h => ?_) (fun h => ?_) <;> (try simp only [go_sem, reduceCtorEq] at h) <;> (try (exfalso; omega))))) | fail)) <;> (try omega)
      refine go_loop [2, 3, 6, 7, 9, 10, 11, 12] [3, 11, 8000] (fun j : Nat => ⟨[(2, true, .lst 3 (encNs V)), (3, true, .ptr 1 3 0 0), (6, true, .v (.slice none 0 0)), (7, true, .lst 1 (v8 l)), (9, true, .ref 3 1 8000 0 k), (10, true, vI k), (11, true, .ptr 1 11 0 0), (12, true, vI j)], [(3, .var [.lst 4 (encTs ts), .lst 2 (encRs rs)]), (11, .var [vI T.kind, vI T.n, vI T.elem, .lst 3 (encPs T.parts)]), (8000, .row 3 1 (v8 (P.take k)))]⟩)
        (fun j => j ≤ ix) (fun j => ix - j) 0 (by simp only [go_sem, Nat.reduceBEq, Nat.reduceBneDiff, Nat.reduceLT, Nat.reduceLeDiff, Nat.reduceAdd, Nat.reduceMul, Nat.reduceSub, Nat.reduceEqDiff, reduceCtorEq, h7] <;> exact rfl) (Nat.zero_le _) ?_
      intro j hj
      have hwj := wrap_i64 (n := (j : Int) + 1) (by omega)
      have g4 := encPs_get (show j < T.parts.length by omega)
      have hcv : IntKind.u64.wrap (T.parts[j]'(by omega)).tag = (T.parts[j]'(by omega)).tag % 18446744073709551616 := IntKind.wrap_u64 _
      have zj : ((j : Int)).toNat = j := by omega
      have hjl : j < T.parts.length := by omega
      by_cases hje : j = ix
      · have hy := hyes j hje hjl
        rw [tagP, decide_eq_true_eq] at hy
        generalize T.parts[j] = pp at *
        have f2 : (pp.tag % 18446744073709551616 = x.n) = True := eq_true hy
        (repeat' (first
    | exact trivial
    | (with_reducible first | refine awA ?_ | refine awB ?_ | refine awC ?_ | refine awD ?_ | refine awE ?_ | refine awF ?_ | refine awG ?_ | refine awH ?_ | refine awI ?_ | refine awJ ?_ | refine awK ?_ | refine awL ?_ | refine awM (by decide) ?_)
    | (refine aw_draw (id := 6) (t := (.node [0, 1, 2, 3, 4, 5, 6, 7, 8, 9] [])) (drR [3] [31, 33] []) mixed (by kernel_rfl) (by kernel_rfl) (fun _ _ h => h) ?_)
    | (refine aw_draw (id := 17) (t := (.node [0, 1, 2, 3, 4, 5, 6, 7, 8, 9, 10, 11, 12] [])) (drR [11] [61, 67] []) mixed (by kernel_rfl) (by kernel_rfl) (fun _ _ h => h) ?_)
    | (refine at_done (by simp only [List.filterMap_cons, List.filterMap_nil, List.getElem?_toArray, List.getElem?_cons_zero, List.getElem?_cons_succ]; exact rfl) ?_) | (refine at_alt (by simp only [List.filterMap_cons, List.filterMap_nil, List.getElem?_toArray, List.getElem?_cons_zero, List.getElem?_cons_succ]; exact rfl) ?_) | refine qalt_normal ?_ | refine ats_cons ?_ ?_ | exact ats_nil
    | ((with_reducible first | refine awN (tyOf_ok _) [] ?_ | refine awO (tyOf_ok _) [] ?_ | refine awP (tyOf_ok _) [] ?_ | refine awQ ?_ | refine awR ?_ | refine awS ?_); intro r hr; simp only [go_sem, Nat.reduceBEq, Nat.reduceBneDiff, Nat.reduceLT, Nat.reduceLeDiff, Nat.reduceAdd, Nat.reduceMul, Nat.reduceSub, Nat.reduceEqDiff, reduceCtorEq, encPs_len, g3, g4, zk, zj, hcv, f2] at hr; subst hr; (first | refine awV ?_ ?_ | refine awW ?_ ?_ | refine endK ?_ ?_ | (refine condK (fun h => ?_) (fun h => ?_) <;> (try simp only [go_sem, reduceCtorEq] at h) <;> (try (exfalso; omega))))) | fail)) <;> (try omega)
        all_goals first | exact ⟨_, by simp only [go_sem, Nat.reduceBEq, Nat.reduceBneDiff, Nat.reduceLT, Nat.reduceLeDiff, Nat.reduceAdd, Nat.reduceMul, Nat.reduceSub, Nat.reduceEqDiff, reduceCtorEq] <;> exact rfl, by rw [hje]⟩ | omega
      · have hy := hnot j (by omega) hjl
        rw [tagP, decide_eq_false_iff_not] at hy
        generalize T.parts[j] = pp at *
        have f2 : (pp.tag % 18446744073709551616 = x.n) = False := eq_false hy
        (repeat' (first
    | exact trivial
    | (with_reducible first | refine awA ?_ | refine awB ?_ | refine awC ?_ | refine awD ?_ | refine awE ?_ | refine awF ?_ | refine awG ?_ | refine awH ?_ | refine awI ?_ | refine awJ ?_ | refine awK ?_ | refine awL ?_ | refine awM (by decide) ?_)
    | (refine aw_draw (id := 6) (t := (.node [0, 1, 2, 3, 4, 5, 6, 7, 8, 9] [])) (drR [3] [31, 33] []) mixed (by kernel_rfl) (by kernel_rfl) (fun _ _ h => h) ?_)
    | (refine aw_draw (id := 17) (t := (.node [0, 1, 2, 3, 4, 5, 6, 7, 8, 9, 10, 11, 12] [])) (drR [11] [61, 67] []) mixed (by kernel_rfl) (by kernel_rfl) (fun _ _ h => h) ?_)
    | (refine at_done (by simp only [List.filterMap_cons, List.filterMap_nil, List.getElem?_toArray, List.getElem?_cons_zero, List.getElem?_cons_succ]; exact rfl) ?_) | (refine at_alt (by simp only [List.filterMap_cons, List.filterMap_nil, List.getElem?_toArray, List.getElem?_cons_zero, List.getElem?_cons_succ]; exact rfl) ?_) | refine qalt_normal ?_ | refine ats_cons ?_ ?_ | exact ats_nil
    | ((with_reducible first | refine awN (tyOf_ok _) [] ?_ | refine awO (tyOf_ok _) [] ?_ | refine awP (tyOf_ok _) [] ?_ | refine awQ ?_ | refine awR ?_ | refine awS ?_); intro r hr; simp only [go_sem, Nat.reduceBEq, Nat.reduceBneDiff, Nat.reduceLT, Nat.reduceLeDiff, Nat.reduceAdd, Nat.reduceMul, Nat.reduceSub, Nat.reduceEqDiff, reduceCtorEq, encPs_len, g3, g4, zk, zj, hcv, f2, hwj] at hr; subst hr; (first | refine awV ?_ ?_ | refine awW ?_ ?_ | refine endK ?_ ?_ | (refine condK (fun h => ?_) (fun h => ?_) <;> (try simp only [go_sem, reduceCtorEq] at h) <;> (try (exfalso; omega))))) | fail)) <;> (try omega)
        all_goals first | exact ⟨j + 1, by simp only [go_sem, Nat.reduceBEq, Nat.reduceBneDiff, Nat.reduceLT, Nat.reduceLeDiff, Nat.reduceAdd, Nat.reduceMul, Nat.reduceSub, Nat.reduceEqDiff, reduceCtorEq] <;> exact rfl, by omega, by omega⟩ | omega
    have e7 : (T.kind = 7) = False := eq_false h7
    (repeat' (first
    | exact trivial
    | (with_reducible first | refine awA ?_ | refine awB ?_ | refine awC ?_ | refine awD ?_ | refine awE ?_ | refine awF ?_ | refine awG ?_ | refine awH ?_ | refine awI ?_ | refine awJ ?_ | refine awK ?_ | refine awL ?_ | refine awM (by decide) ?_)
    | (refine aw_draw (id := 6) (t := (.node [0, 1, 2, 3, 4, 5, 6, 7, 8, 9] [])) (drR [3] [31, 33] []) mixed (by kernel_rfl) (by kernel_rfl) (fun _ _ h => h) ?_)
    | (refine aw_draw (id := 17) (t := (.node [0, 1, 2, 3, 4, 5, 6, 7, 8, 9, 10, 11, 12] [])) (drR [11] [61, 67] []) mixed (by kernel_rfl) (by kernel_rfl) (fun _ _ h => h) ?_)
    | (refine at_done (by simp only [List.filterMap_cons, List.filterMap_nil, List.getElem?_toArray, List.getElem?_cons_zero, List.getElem?_cons_succ]; exact rfl) ?_) | (refine at_alt (by simp only [List.filterMap_cons, List.filterMap_nil, List.getElem?_toArray, List.getElem?_cons_zero, List.getElem?_cons_succ]; exact rfl) ?_) | refine qalt_normal ?_ | refine ats_cons ?_ ?_ | exact ats_nil
    | ((with_reducible first | refine awN (tyOf_ok _) [] ?_ | refine awO (tyOf_ok _) [] ?_ | refine awP (tyOf_ok _) [] ?_ | refine awQ ?_ | refine awR ?_ | refine awS ?_); intro r hr; simp only [go_sem, Nat.reduceBEq, Nat.reduceBneDiff, Nat.reduceLT, Nat.reduceLeDiff, Nat.reduceAdd, Nat.reduceMul, Nat.reduceSub, Nat.reduceEqDiff, reduceCtorEq, e1, e3, e2, e5, e6, e7] at hr; subst hr; (first | refine awV ?_ ?_ | refine awW ?_ ?_ | refine endK ?_ ?_ | (refine condK (fun h => ?_) (fun h => ?_) <;> (try simp only [go_sem, reduceCtorEq] at h) <;> (try (exfalso; omega))))) | fail)) <;> (try omega)
    exact ⟨_, by simp only [go_sem, Nat.reduceBEq, Nat.reduceBneDiff, Nat.reduceLT, Nat.reduceLeDiff, Nat.reduceAdd, Nat.reduceMul, Nat.reduceSub, Nat.reduceEqDiff, reduceCtorEq] <;> exact rfl, by rw [pickOf, if_neg (by omega), if_neg (by omega), if_neg h7]⟩
  intro y hy
  subst hy
  (repeat' (first
    | exact trivial
    | (with_reducible first | refine awA ?_ | refine awB ?_ | refine awC ?_ | refine awD ?_ | refine awE ?_ | refine awF ?_ | refine awG ?_ | refine awH ?_ | refine awI ?_ | refine awJ ?_ | refine awK ?_ | refine awL ?_ | refine awM (by decide) ?_)
    | (refine aw_draw (id := 6) (t := (.node [0, 1, 2, 3, 4, 5, 6, 7, 8, 9] [])) (drR [3] [31, 33] []) mixed (by kernel_rfl) (by kernel_rfl) (fun _ _ h => h) ?_)
    | (refine aw_draw (id := 17) (t := (.node [0, 1, 2, 3, 4, 5, 6, 7, 8, 9, 10, 11, 12] [])) (drR [11] [61, 67] []) mixed (by kernel_rfl) (by kernel_rfl) (fun _ _ h => h) ?_)
    | (refine at_done (by simp only [List.filterMap_cons, List.filterMap_nil, List.getElem?_toArray, List.getElem?_cons_zero, List.getElem?_cons_succ]; exact rfl) ?_) | (refine at_alt (by simp only [List.filterMap_cons, List.filterMap_nil, List.getElem?_toArray, List.getElem?_cons_zero, List.getElem?_cons_succ]; exact rfl) ?_) | refine qalt_normal ?_ | refine ats_cons ?_ ?_ | exact ats_nil
    | ((with_reducible first | refine awN (tyOf_ok _) [] ?_ | refine awO (tyOf_ok _) [] ?_ | refine awP (tyOf_ok _) [] ?_ | refine awQ ?_ | refine awR ?_ | refine awS ?_); intro r hr; simp only [go_sem, Nat.reduceBEq, Nat.reduceBneDiff, Nat.reduceLT, Nat.reduceLeDiff, Nat.reduceAdd, Nat.reduceMul, Nat.reduceSub, Nat.reduceEqDiff, reduceCtorEq, hkl, htk, hnext, hkl1, hw1] at hr; subst hr; (first | refine awV ?_ ?_ | refine awW ?_ ?_ | refine endK ?_ ?_ | (refine condK (fun h => ?_) (fun h => ?_) <;> (try simp only [go_sem, reduceCtorEq] at h) <;> (try (exfalso; omega))))) | fail)) <;> (try omega)
  all_goals exact ⟨k + 1, by simp only [go_sem, Nat.reduceBEq, Nat.reduceBneDiff, Nat.reduceLT, Nat.reduceLeDiff, Nat.reduceAdd, Nat.reduceMul, Nat.reduceSub, Nat.reduceEqDiff, reduceCtorEq] <;> exact rfl, hlt, by omega⟩
end Go.Proofs.YtfgacgpicfknpaaDoor
end
section
namespace Go.Proofs.YtfgacgpicfknpaaDoor
open Go.RowKit
set_option maxRecDepth 100000
set_option maxHeartbeats 8000000
/-! The document's types, in memory of the caller's own; what is lent, without picks, without nodes. -/
theorem up_nT43 (e a : Int) : (AV.tup [.v (.slice none 0 0), .agg [vI e, vI a]]).up (.tup [.ref 3 1 43 0 0, .agg [vI e, vI a]]) := AV.up_tup (AV.up_cons (AV.up_nilref _ _ _ _) (AV.up_cons (AV.up_rfl _) AV.up_nilL))
theorem Types10_G (ts : List TypeM) (rs : List RootM) (hts : ts.length ≤ 1000000000) (hrs : rs.length ≤ 1000000000) (hp : ∀ t ∈ ts, t.parts.length ≤ 1000000000) (hg : ∀ t ∈ ts, ∀ p ∈ t.parts, I64 p.tag) (t : Int) (ht : I64 t) (V : List NodeM) (hV : V.length ≤ 1000000000) (hv : ∀ x ∈ V, nodeOK x)
    (c : Tr) (hc : (chkN V).1 = 0 → c.flat = V ∧ c.ok) :
    GCall Tryd.prog 36 [vSch ts rs, vI t, .lst 3 (encNs V)] [] (.tup [.ref 3 1 43 0 (typesF ts rs t V c).1.length, .agg [vI (typesF ts rs t V c).2.1, vI (typesF ts rs t V c).2.2]]) [(43, .row 3 1 (v8 (typesF ts rs t V c).1))] := by
  refine go_fnG (tyOf_ok _) Tryd.func36 rfl rfl (by rw [Tryd.results36]) Tryd.ntmps36 rfl fun E => ?_
  have hck := rcheck_any ts rs hts hrs hp
  have h4 := check04_any V hV
  unfold vF at hck
  by_cases h0 : (checkF ts rs).1 = 0
  case neg =>
    rw [typesF, if_pos h0]
    have e1 : ((checkF ts rs).1 = 0) = False := eq_false h0
    generalize checkF ts rs = C at *
    (repeat' (first
    | exact trivial
    | (with_reducible first | refine awA ?_ | refine awB ?_ | refine awC ?_ | refine awD ?_ | refine awE ?_ | refine awF ?_ | refine awG ?_ | refine awH ?_ | refine awI ?_ | refine awJ ?_ | refine awK ?_ | refine awL ?_ | refine awM (by decide) ?_)
    | (refine aw_draw (id := 3) (t := (.node [0, 1, 2] [])) (drR [8] [] []) mixed (by kernel_rfl) (by kernel_rfl) (fun _ _ h => h) ?_)
    | (refine aw_draw (id := 10) (t := (.node [0, 1, 2, 3] [])) (drR [8] [] []) mixed (by kernel_rfl) (by kernel_rfl) (fun _ _ h => h) ?_)
    | (refine at_done (by simp only [List.filterMap_cons, List.filterMap_nil, List.getElem?_toArray, List.getElem?_cons_zero, List.getElem?_cons_succ]; exact rfl) ?_) | (refine at_alt (by simp only [List.filterMap_cons, List.filterMap_nil, List.getElem?_toArray, List.getElem?_cons_zero, List.getElem?_cons_succ]; exact rfl) ?_) | refine qalt_normal ?_ | refine ats_cons ?_ ?_ | exact ats_nil
    | ((with_reducible first | refine awN (tyOf_ok _) [] ?_ | refine awO (tyOf_ok _) [] ?_ | refine awP (tyOf_ok _) [] ?_ | refine awQ ?_ | refine awR ?_ | refine awS ?_ | refine awT ?_ | refine awU ?_); intro r hr; simp only [go_sem, Nat.reduceBEq, Nat.reduceBneDiff, Nat.reduceLT, Nat.reduceLeDiff, Nat.reduceAdd, Nat.reduceMul, Nat.reduceSub, Nat.reduceEqDiff, reduceCtorEq, vSch, e1] at hr; subst hr; (first | refine caA (fun _ => hck) rfl ?_ ?_ ?_ | refine awV ?_ ?_ | refine awW ?_ ?_ | refine endK ?_ ?_ | refine endGK ?_ ?_ ?_ | (refine condK (fun h => ?_) (fun h => ?_) <;> (try simp only [go_sem, reduceCtorEq] at h) <;> (try (exfalso; omega))))) | fail)) <;> (try omega)
    all_goals first | exact up_nT43 _ _ | exact obUp_row0 obUp_nil
  have W : TOK' ts V := ⟨hts, hV, check_right h0, hp, hv, hg⟩
  rw [h0] at hck
  rw [typesF, if_neg (by omega)]
  generalize (checkF ts rs).2 = C2 at *
  by_cases h1 : t < 0
  · have e1 : (t < 0) = True := eq_true h1
    rw [if_pos (.inl h1)]
    (repeat' (first
    | exact trivial
    | (with_reducible first | refine awA ?_ | refine awB ?_ | refine awC ?_ | refine awD ?_ | refine awE ?_ | refine awF ?_ | refine awG ?_ | refine awH ?_ | refine awI ?_ | refine awJ ?_ | refine awK ?_ | refine awL ?_ | refine awM (by decide) ?_)
    | (refine aw_draw (id := 3) (t := (.node [0, 1, 2] [])) (drR [8] [] []) mixed (by kernel_rfl) (by kernel_rfl) (fun _ _ h => h) ?_)
    | (refine aw_draw (id := 10) (t := (.node [0, 1, 2, 3] [])) (drR [8] [] []) mixed (by kernel_rfl) (by kernel_rfl) (fun _ _ h => h) ?_)
    | (refine at_done (by simp only [List.filterMap_cons, List.filterMap_nil, List.getElem?_toArray, List.getElem?_cons_zero, List.getElem?_cons_succ]; exact rfl) ?_) | (refine at_alt (by simp only [List.filterMap_cons, List.filterMap_nil, List.getElem?_toArray, List.getElem?_cons_zero, List.getElem?_cons_succ]; exact rfl) ?_) | refine qalt_normal ?_ | refine ats_cons ?_ ?_ | exact ats_nil
    | ((with_reducible first | refine awN (tyOf_ok _) [] ?_ | refine awO (tyOf_ok _) [] ?_ | refine awP (tyOf_ok _) [] ?_ | refine awQ ?_ | refine awR ?_ | refine awS ?_ | refine awT ?_ | refine awU ?_); intro r hr; simp only [go_sem, Nat.reduceBEq, Nat.reduceBneDiff, Nat.reduceLT, Nat.reduceLeDiff, Nat.reduceAdd, Nat.reduceMul, Nat.reduceSub, Nat.reduceEqDiff, reduceCtorEq, vSch, encTs_len, e1] at hr; subst hr; (first | refine caA (fun _ => hck) rfl ?_ ?_ ?_ | refine awV ?_ ?_ | refine awW ?_ ?_ | refine endK ?_ ?_ | refine endGK ?_ ?_ ?_ | (refine condK (fun h => ?_) (fun h => ?_) <;> (try simp only [go_sem, reduceCtorEq] at h) <;> (try (exfalso; omega))))) | fail)) <;> (try omega)
    all_goals first | exact up_nT43 _ _ | exact obUp_row0 obUp_nil
  have e1 : (t < 0) = False := eq_false h1
  by_cases h2 : (ts.length : Int) ≤ t
  · have e2 : ((ts.length : Int) ≤ t) = True := eq_true h2
    rw [if_pos (.inr h2)]
    (repeat' (first
    | exact trivial
    | (with_reducible first | refine awA ?_ | refine awB ?_ | refine awC ?_ | refine awD ?_ | refine awE ?_ | refine awF ?_ | refine awG ?_ | refine awH ?_ | refine awI ?_ | refine awJ ?_ | refine awK ?_ | refine awL ?_ | refine awM (by decide) ?_)
    | (refine aw_draw (id := 3) (t := (.node [0, 1, 2] [])) (drR [8] [] []) mixed (by kernel_rfl) (by kernel_rfl) (fun _ _ h => h) ?_)
    | (refine aw_draw (id := 10) (t := (.node [0, 1, 2, 3] [])) (drR [8] [] []) mixed (by kernel_rfl) (by kernel_rfl) (fun _ _ h => h) ?_)
    | (refine at_done (by simp only [List.filterMap_cons, List.filterMap_nil, List.getElem?_toArray, List.getElem?_cons_zero, List.getElem?_cons_succ]; exact rfl) ?_) | (refine at_alt (by simp only [List.filterMap_cons, List.filterMap_nil, List.getElem?_toArray, List.getElem?_cons_zero, List.getElem?_cons_succ]; exact rfl) ?_) | refine qalt_normal ?_ | refine ats_cons ?_ ?_ | exact ats_nil
    | ((with_reducible first | refine awN (tyOf_ok _) [] ?_ | refine awO (tyOf_ok _) [] ?_ | refine awP (tyOf_ok _) [] ?_ | refine awQ ?_ | refine awR ?_ | refine awS ?_ | refine awT ?_ | refine awU ?_); intro r hr; simp only [go_sem, Nat.reduceBEq, Nat.reduceBneDiff, Nat.reduceLT, Nat.reduceLeDiff, Nat.reduceAdd, Nat.reduceMul, Nat.reduceSub, Nat.reduceEqDiff, reduceCtorEq, vSch, encTs_len, e1, e2] at hr; subst hr; (first | refine caA (fun _ => hck) rfl ?_ ?_ ?_ | refine awV ?_ ?_ | refine awW ?_ ?_ | refine endK ?_ ?_ | refine endGK ?_ ?_ ?_ | (refine condK (fun h => ?_) (fun h => ?_) <;> (try simp only [go_sem, reduceCtorEq] at h) <;> (try (exfalso; omega))))) | fail)) <;> (try omega)
    all_goals first | exact up_nT43 _ _ | exact obUp_row0 obUp_nil
  have e2 : ((ts.length : Int) ≤ t) = False := eq_false h2
  rw [if_neg (by omega)]
  by_cases h3 : (chkN V).1 = 0
  case neg =>
    have e3 : ((chkN V).1 = 0) = False := eq_false h3
    rw [if_pos h3]
    generalize chkN V = D at *
    (repeat' (first
    | exact trivial
    | (with_reducible first | refine awA ?_ | refine awB ?_ | refine awC ?_ | refine awD ?_ | refine awE ?_ | refine awF ?_ | refine awG ?_ | refine awH ?_ | refine awI ?_ | refine awJ ?_ | refine awK ?_ | refine awL ?_ | refine awM (by decide) ?_)
    | (refine aw_draw (id := 3) (t := (.node [0, 1, 2] [])) (drR [8] [] []) mixed (by kernel_rfl) (by kernel_rfl) (fun _ _ h => h) ?_)
    | (refine aw_draw (id := 10) (t := (.node [0, 1, 2, 3] [])) (drR [8] [] []) mixed (by kernel_rfl) (by kernel_rfl) (fun _ _ h => h) ?_)
    | (refine at_done (by simp only [List.filterMap_cons, List.filterMap_nil, List.getElem?_toArray, List.getElem?_cons_zero, List.getElem?_cons_succ]; exact rfl) ?_) | (refine at_alt (by simp only [List.filterMap_cons, List.filterMap_nil, List.getElem?_toArray, List.getElem?_cons_zero, List.getElem?_cons_succ]; exact rfl) ?_) | refine qalt_normal ?_ | refine ats_cons ?_ ?_ | exact ats_nil
    | ((with_reducible first | refine awN (tyOf_ok _) [] ?_ | refine awO (tyOf_ok _) [] ?_ | refine awP (tyOf_ok _) [] ?_ | refine awQ ?_ | refine awR ?_ | refine awS ?_ | refine awT ?_ | refine awU ?_); intro r hr; simp only [go_sem, Nat.reduceBEq, Nat.reduceBneDiff, Nat.reduceLT, Nat.reduceLeDiff, Nat.reduceAdd, Nat.reduceMul, Nat.reduceSub, Nat.reduceEqDiff, reduceCtorEq, vSch, encTs_len, e1, e2, e3] at hr; subst hr; (first | refine caA (fun _ => hck) rfl ?_ ?_ ?_ | refine caA (fun _ => h4) rfl ?_ ?_ ?_ | refine awV ?_ ?_ | refine awW ?_ ?_ | refine endK ?_ ?_ | refine endGK ?_ ?_ ?_ | (refine condK (fun h => ?_) (fun h => ?_) <;> (try simp only [go_sem, reduceCtorEq] at h) <;> (try (exfalso; omega))))) | fail)) <;> (try omega)
    all_goals first | exact up_nT43 _ _ | exact obUp_row0 obUp_nil
  obtain ⟨hc1, hc2⟩ := hc h3
  rw [h3] at h4
  rw [if_neg (by omega)]
  generalize (chkN V).2 = D2 at *
  have hw := walk0_any (rs := rs) W c hc1 hc2 t.toNat (by omega)
  rw [Int.toNat_of_nonneg (by omega)] at hw
  generalize c.walk ts t.toNat 0 [] = r at *
  obtain ⟨o, p, e, a⟩ := r
  (repeat' (first
    | exact trivial
    | (with_reducible first | refine awA ?_ | refine awB ?_ | refine awC ?_ | refine awD ?_ | refine awE ?_ | refine awF ?_ | refine awG ?_ | refine awH ?_ | refine awI ?_ | refine awJ ?_ | refine awK ?_ | refine awL ?_ | refine awM (by decide) ?_)
    | (refine aw_draw (id := 3) (t := (.node [0, 1, 2] [])) (drR [8] [] []) mixed (by kernel_rfl) (by kernel_rfl) (fun _ _ h => h) ?_)
    | (refine aw_draw (id := 10) (t := (.node [0, 1, 2, 3] [])) (drR [8] [] []) mixed (by kernel_rfl) (by kernel_rfl) (fun _ _ h => h) ?_)
    | (refine at_done (by simp only [List.filterMap_cons, List.filterMap_nil, List.getElem?_toArray, List.getElem?_cons_zero, List.getElem?_cons_succ]; exact rfl) ?_) | (refine at_alt (by simp only [List.filterMap_cons, List.filterMap_nil, List.getElem?_toArray, List.getElem?_cons_zero, List.getElem?_cons_succ]; exact rfl) ?_) | refine qalt_normal ?_ | refine ats_cons ?_ ?_ | exact ats_nil
    | ((with_reducible first | refine awN (tyOf_ok _) [] ?_ | refine awO (tyOf_ok _) [] ?_ | refine awP (tyOf_ok _) [] ?_ | refine awQ ?_ | refine awR ?_ | refine awS ?_ | refine awT ?_ | refine awU ?_); intro r hr; simp only [go_sem, Nat.reduceBEq, Nat.reduceBneDiff, Nat.reduceLT, Nat.reduceLeDiff, Nat.reduceAdd, Nat.reduceMul, Nat.reduceSub, Nat.reduceEqDiff, reduceCtorEq, vSch, encTs_len, e1, e2, take_len (Nat.le_refl _)] at hr; subst hr; (first | refine caA (fun _ => hck) rfl ?_ ?_ ?_ | refine caA (fun _ => h4) rfl ?_ ?_ ?_ | refine awV ?_ ?_ | refine awW ?_ ?_ | refine endK ?_ ?_ | refine endGK ?_ ?_ ?_ | (refine condK (fun h => ?_) (fun h => ?_) <;> (try simp only [go_sem, reduceCtorEq] at h) <;> (try (exfalso; omega)))))
    | (refine go_callGE [] [(15000, 43)] [43] [] ?_; intro r hr; simp only [go_sem, Nat.reduceBEq, Nat.reduceBneDiff, Nat.reduceLT, Nat.reduceLeDiff, Nat.reduceAdd, Nat.reduceMul, Nat.reduceSub, Nat.reduceEqDiff, reduceCtorEq, vSch, encTs_len, e1, e2, take_len (Nat.le_refl _)] at hr; subst hr; refine callGK (hw) rfl rfl (by first | exact .inl rfl | exact .inr rfl) ?_ (.inl rfl) ?_) | fail)) <;> (try omega)
  all_goals (first | exact AV.up_rfl _ | (repeat first | exact obUp_nil | refine obUp_cons rfl ?_))
theorem rTypes11_G (ts : List TypeM) (rs : List RootM) (hts : ts.length ≤ 1000000000) (hrs : rs.length ≤ 1000000000) (hp : ∀ t ∈ ts, t.parts.length ≤ 1000000000) (hg : ∀ t ∈ ts, ∀ p ∈ t.parts, I64 p.tag) (t : Int) (ht : I64 t) (V : List NodeM) (hV : V.length ≤ 1000000000) (hv : ∀ x ∈ V, nodeOK x)
    (c : Tr) (hc : (chkN V).1 = 0 → c.flat = V ∧ c.ok) :
    GCall Tryd.prog 13 [vSch ts rs, vI t, .lst 3 (encNs V)] [] (.tup [.ref 3 1 43 0 (typesF ts rs t V c).1.length, .agg [vI (typesF ts rs t V c).2.1, vI (typesF ts rs t V c).2.2]]) [(43, .row 3 1 (v8 (typesF ts rs t V c).1))] := by
  refine go_fnG (tyOf_ok _) Tryd.func13 rfl rfl (by rw [Tryd.results13]) Tryd.ntmps13 rfl fun E => ?_
  have h := Types10_G ts rs hts hrs hp hg t ht V hV hv c hc
  generalize typesF ts rs t V c = q at *
  unfold vSch at h
  (repeat' (first
    | exact trivial
    | (with_reducible first | refine awA ?_ | refine awB ?_ | refine awC ?_ | refine awD ?_ | refine awE ?_ | refine awF ?_ | refine awG ?_ | refine awH ?_ | refine awI ?_ | refine awJ ?_ | refine awK ?_ | refine awL ?_ | refine awM (by decide) ?_)
    | ((with_reducible first | refine awN (tyOf_ok _) [] ?_ | refine awO (tyOf_ok _) [] ?_ | refine awP (tyOf_ok _) [] ?_ | refine awQ ?_ | refine awR ?_ | refine awS ?_ | refine awT ?_ | refine awU ?_); intro r hr; simp only [go_sem, Nat.reduceBEq, Nat.reduceBneDiff, Nat.reduceLT, Nat.reduceLeDiff, Nat.reduceAdd, Nat.reduceMul, Nat.reduceSub, Nat.reduceEqDiff, reduceCtorEq, vSch] at hr; subst hr; (first | refine awV ?_ ?_ | refine awW ?_ ?_ | refine endK ?_ ?_ | refine endGK ?_ ?_ ?_ | (refine condK (fun h => ?_) (fun h => ?_) <;> (try simp only [go_sem, reduceCtorEq] at h) <;> (try (exfalso; omega)))))
    | (refine go_callGE [] [(43, 43)] [43] [] ?_; intro r hr; simp only [go_sem, Nat.reduceBEq, Nat.reduceBneDiff, Nat.reduceLT, Nat.reduceLeDiff, Nat.reduceAdd, Nat.reduceMul, Nat.reduceSub, Nat.reduceEqDiff, reduceCtorEq, vSch] at hr; subst hr; refine callGK (h) rfl rfl (by first | exact .inl rfl | exact .inr rfl) ?_ (.inl rfl) ?_) | fail)) <;> (try omega)
  all_goals (first | exact AV.up_rfl _ | (repeat first | exact obUp_nil | refine obUp_cons rfl ?_))
/-- the tree of nodes, if they are one's -/
theorem a_tree (V : List NodeM) : ∃ c : Tr, (chkN V).1 = 0 → c.flat = V ∧ c.ok := by
  by_cases h : (chkN V).1 = 0
  · obtain ⟨c, h1, h2⟩ := chk_tree h
    exact ⟨c, fun _ => ⟨h1, h2⟩⟩
  · exact ⟨.node ⟨0, 0, 0⟩ [], fun h' => absurd h' h⟩
theorem typesF_len {ts : List TypeM} {rs : List RootM} {t : Int} {V : List NodeM} {c : Tr} (hc : (chkN V).1 = 0 → c.flat = V ∧ c.ok) : (typesF ts rs t V c).1.length ≤ V.length := by
  unfold typesF
  split
  · exact Nat.zero_le _
  · split
    · exact Nat.zero_le _
    · split
      · exact Nat.zero_le _
      · rename_i h
        by_cases he : (c.walk ts t.toNat 0 []).2.2.1 = 0
        · have := (walk_len ts _ c (Nat.le_refl _) _ _ _ he).2.1
          rw [this, (hc (by omega)).1]; simp
        · rw [walk_nil _ c (Nat.le_refl _) _ _ _ he]; exact Nat.zero_le _
theorem lentV_G (ts : List TypeM) (rs : List RootM) (hts : ts.length ≤ 1000000000) (hrs : rs.length ≤ 1000000000) (hp : ∀ t ∈ ts, t.parts.length ≤ 1000000000) (V : List NodeM) (hV : V.length ≤ 1000000000) (P : List Int) (hP : P = []) :
    GCall Tryd.prog 10 [sV 10000 10001 ts rs, .ref 43 3 10002 0 V.length, nilS] [(10000, .row 66 4 (encTs ts)), (10001, .row 70 2 (encRs rs)), (10002, .row 43 3 (encNs V))] (lentV11 8000 51 62 70 ts rs V P) (lentO11 8000 51 62 70 ts rs V P ++ sO11 10000 10001 10002 10003 ts rs V P) := by
  subst hP
  exact GCall.weak (lent11_G ts rs hts hrs hp V hV [] (by simp)) (AV.up_cons (AV.up_rfl _) (AV.up_cons (AV.up_rfl _) (AV.up_cons (AV.up_nilref _ _ _ _) AV.up_nilL))) (obUp_cons rfl (obUp_cons rfl (obUp_cons rfl (obUp_row0 obUp_nil))))
theorem lentP_G (ts : List TypeM) (rs : List RootM) (hts : ts.length ≤ 1000000000) (hrs : rs.length ≤ 1000000000) (hp : ∀ t ∈ ts, t.parts.length ≤ 1000000000) (V : List NodeM) (hV : V = []) (P : List Int) (hP : P.length ≤ 1000000000) :
    GCall Tryd.prog 10 [sV 10000 10001 ts rs, nilS, .ref 3 1 10003 0 P.length] [(10000, .row 66 4 (encTs ts)), (10001, .row 70 2 (encRs rs)), (10003, .row 3 1 (v8 P))] (lentV11 8000 51 62 70 ts rs V P) (lentO11 8000 51 62 70 ts rs V P ++ sO11 10000 10001 10002 10003 ts rs V P) := by
  subst hV
  exact GCall.weak (lent11_G ts rs hts hrs hp [] (by simp) P hP) (AV.up_cons (AV.up_rfl _) (AV.up_cons (AV.up_nilref _ _ _ _) (AV.up_cons (AV.up_rfl _) AV.up_nilL))) (obUp_cons rfl (obUp_cons rfl (obUp_row0 (obUp_cons rfl obUp_nil))))
theorem keptV_G (ts : List TypeM) (rs : List RootM) (hts : ts.length ≤ 1000000000) (hrs : rs.length ≤ 1000000000) (hp : ∀ t ∈ ts, t.parts.length ≤ 1000000000) (V : List NodeM) (hV : V.length ≤ 1000000000) (P : List Int) (hP : P = []) :
    GCall Tryd.prog 15 [lentV11 10000 10001 10002 10003 ts rs V P, sV 10004 10005 ts rs, .ref 43 3 10006 0 V.length, nilS] (lentO11 10000 10001 10002 10003 ts rs V P ++ [(10004, .row 66 4 (encTs ts)), (10005, .row 70 2 (encRs rs)), (10006, .row 43 3 (encNs V))]) (vB true) (lentO11 10000 10001 10002 10003 ts rs V P ++ sO11 10004 10005 10006 10007 ts rs V P) := by
  subst hP
  exact GCall.weak (kept11_G ts rs hts hrs hp V hV [] (by simp)) (AV.up_cons (AV.up_rfl _) (AV.up_cons (AV.up_rfl _) (AV.up_cons (AV.up_rfl _) (AV.up_cons (AV.up_nilref _ _ _ _) AV.up_nilL)))) (obUp_cons rfl (obUp_cons rfl (obUp_cons rfl (obUp_cons rfl (obUp_cons rfl (obUp_cons rfl (obUp_cons rfl (obUp_row0 obUp_nil))))))))
theorem keptP_G (ts : List TypeM) (rs : List RootM) (hts : ts.length ≤ 1000000000) (hrs : rs.length ≤ 1000000000) (hp : ∀ t ∈ ts, t.parts.length ≤ 1000000000) (V : List NodeM) (hV : V = []) (P : List Int) (hP : P.length ≤ 1000000000) :
    GCall Tryd.prog 15 [lentV11 10000 10001 10002 10003 ts rs V P, sV 10004 10005 ts rs, nilS, .ref 3 1 10007 0 P.length] (lentO11 10000 10001 10002 10003 ts rs V P ++ [(10004, .row 66 4 (encTs ts)), (10005, .row 70 2 (encRs rs)), (10007, .row 3 1 (v8 P))]) (vB true) (lentO11 10000 10001 10002 10003 ts rs V P ++ sO11 10004 10005 10006 10007 ts rs V P) := by
  subst hV
  exact GCall.weak (kept11_G ts rs hts hrs hp [] (by simp) P hP) (AV.up_cons (AV.up_rfl _) (AV.up_cons (AV.up_rfl _) (AV.up_cons (AV.up_nilref _ _ _ _) (AV.up_cons (AV.up_rfl _) AV.up_nilL)))) (obUp_cons rfl (obUp_cons rfl (obUp_cons rfl (obUp_cons rfl (obUp_cons rfl (obUp_cons rfl (obUp_row0 (obUp_cons rfl obUp_nil))))))))
end Go.Proofs.YtfgacgpicfknpaaDoor
end
section
namespace Go.Proofs.YtfgacgpicfknpaaDoor
open Go.RowKit
set_option maxRecDepth 100000
set_option maxHeartbeats 8000000
/-! mortiselaw11.tame: small picks. -/
/-- changed from the front -/
def mpf {α : Type} (f : α → α) (xs : List α) (i : Nat) : List α := (xs.take i).map f ++ xs.drop i
section
variable {α : Type} (f : α → α) {xs : List α}
theorem mpf_0 : mpf f xs 0 = xs := by simp [mpf]
theorem mpf_len (i : Nat) : (mpf f xs i).length = xs.length := by simp [mpf]; omega
theorem mpf_get {i : Nat} (h : i < xs.length) : (mpf f xs i)[i]? = some xs[i] := by
  rw [mpf, List.getElem?_append_right (by simp; omega), List.length_map, List.length_take, Nat.min_eq_left (by omega), Nat.sub_self, List.getElem?_drop]; simp [h]
theorem mpf_set {i : Nat} (h : i < xs.length) : (mpf f xs i).set i (f xs[i]) = mpf f xs (i + 1) := by
  apply List.ext_getElem?
  intro j
  rw [List.getElem?_set, mpf_len]
  by_cases hj : i = j
  · subst hj
    rw [if_pos rfl, if_pos h, mpf, List.getElem?_append_left (by simp; omega)]; simp [h]
  · rw [if_neg hj, mpf, mpf, List.getElem?_append, List.getElem?_append]
    simp only [List.length_map, List.length_take, List.getElem?_map, List.getElem?_take, List.getElem?_drop]
    by_cases h1 : j < i
    · rw [if_pos (by omega), if_pos (by omega), if_pos (by omega), if_pos (by omega)]
    · rw [if_neg (by omega), if_neg (by omega)]
      congr 1
      omega
theorem mpf_end {i : Nat} (h : xs.length ≤ i) : mpf f xs i = xs.map f := by simp [mpf, List.take_of_length_le h, List.drop_of_length_le h]
end
def mostF : List TypeM → Int → Int
  | [], m => m
  | T :: l, m => mostF l (if T.kind = 5 then max m T.n else m)
def tameF (ts : List TypeM) (ps : List Int) : List Int := if mostF ts 0 ≤ 40 then ps else ps.map (· % 40)
theorem tameF_len (ts : List TypeM) (ps : List Int) : (tameF ts ps).length = ps.length := by unfold tameF; split <;> simp
theorem v8_set (l : List Int) (k : Nat) (z : Int) : (v8 l).set k [vI z] = v8 (l.set k z) := by simp [v8, List.map_set]
theorem tame_G (ts : List TypeM) (rs : List RootM) (hts : ts.length ≤ 1000000000) (ps : List Int) (hps : ps.length ≤ 1000000000) :
    GCall Tryd.prog 18 [vSch ts rs, .ref 3 1 10000 0 ps.length] [(10000, .row 3 1 (v8 ps))] (.ref 3 1 10000 0 ps.length) [(10000, .row 3 1 (v8 (tameF ts ps)))] := by
  refine go_fnG (tyOf_ok _) Tryd.func18 rfl rfl (by rw [Tryd.results18]) Tryd.ntmps18 rfl fun E => ?_
  (repeat' (first
    | exact trivial
    | (with_reducible first | refine awA ?_ | refine awB ?_ | refine awC ?_ | refine awD ?_ | refine awE ?_ | refine awF ?_ | refine awG ?_ | refine awH ?_ | refine awI ?_ | refine awJ ?_ | refine awK ?_ | refine awL ?_ | refine awM (by decide) ?_)
    | ((with_reducible first | refine awN (tyOf_ok _) [] ?_ | refine awO (tyOf_ok _) [] ?_ | refine awP (tyOf_ok _) [] ?_ | refine awQ ?_ | refine awR ?_ | refine awS ?_ | refine awT ?_ | refine awU ?_); intro r hr; simp only [go_sem, Nat.reduceBEq, Nat.reduceBneDiff, Nat.reduceLT, Nat.reduceLeDiff, Nat.reduceAdd, Nat.reduceMul, Nat.reduceSub, Nat.reduceEqDiff, reduceCtorEq, vSch] at hr; subst hr; (first | refine awV ?_ ?_ | refine awW ?_ ?_ | refine endK ?_ ?_ | refine endGK ?_ ?_ ?_ | (refine condK (fun h => ?_) (fun h => ?_) <;> (try simp only [go_sem, reduceCtorEq] at h) <;> (try (exfalso; omega))))) | fail)) <;> (try omega)
  refine go_loop [1, 2, 4, 5, 6] [2, 10000] (fun q : Nat × Int => ⟨[(1, true, .ref 3 1 10000 0 ps.length), (2, true, .ptr 1 2 0 0), (4, true, nilS0), (5, true, vI q.2), (6, true, vI q.1)], [(2, .var [.lst 4 (encTs ts), .lst 2 (encRs rs)]), (10000, .row 3 1 (v8 ps))]⟩)
    (fun q => q.1 ≤ ts.length ∧ mostF (ts.drop q.1) q.2 = mostF ts 0) (fun q => ts.length - q.1) (0, 0) (by simp only [go_sem, Nat.reduceBEq, Nat.reduceBneDiff, Nat.reduceLT, Nat.reduceLeDiff, Nat.reduceAdd, Nat.reduceMul, Nat.reduceSub, Nat.reduceEqDiff, reduceCtorEq]; exact rfl) ⟨Nat.zero_le _, rfl⟩ ?_
  intro ⟨k, m⟩ ⟨hk, hm⟩
  simp only at hk hm
  have hw1 := wrap_i64 (n := (k : Int) + 1) (by omega)
  by_cases hlt : k < ts.length
  · have e1 : ((k : Int) < ts.length) = True := eq_true (by omega)
    have g1 := encTs_get hlt
    rw [List.drop_eq_getElem_cons hlt, mostF] at hm
    generalize ts[k] = T at *
    by_cases h5 : T.kind = 5
    · rw [if_pos h5] at hm
      (repeat' (first
    | exact trivial
    | (with_reducible first | refine awA ?_ | refine awB ?_ | refine awC ?_ | refine awD ?_ | refine awE ?_ | refine awF ?_ | refine awG ?_ | refine awH ?_ | refine awI ?_ | refine awJ ?_ | refine awK ?_ | refine awL ?_ | refine awM (by decide) ?_)
    | ((with_reducible first | refine awN (tyOf_ok _) [] ?_ | refine awO (tyOf_ok _) [] ?_ | refine awP (tyOf_ok _) [] ?_ | refine awQ ?_ | refine awR ?_ | refine awS ?_ | refine awT ?_ | refine awU ?_); intro r hr; simp only [go_sem, Nat.reduceBEq, Nat.reduceBneDiff, Nat.reduceLT, Nat.reduceLeDiff, Nat.reduceAdd, Nat.reduceMul, Nat.reduceSub, Nat.reduceEqDiff, reduceCtorEq, encTs_len, hw1, e1, g1, h5] at hr; subst hr; (first | refine awV ?_ ?_ | refine awW ?_ ?_ | refine endK ?_ ?_ | refine endGK ?_ ?_ ?_ | (refine condK (fun h => ?_) (fun h => ?_) <;> (try simp only [go_sem, reduceCtorEq] at h) <;> (try (exfalso; omega))))) | fail)) <;> (try omega)
      exact ⟨(k + 1, max m T.n), by simp only [go_sem, Nat.reduceBEq, Nat.reduceBneDiff, Nat.reduceLT, Nat.reduceLeDiff, Nat.reduceAdd, Nat.reduceMul, Nat.reduceSub, Nat.reduceEqDiff, reduceCtorEq] <;> exact rfl, ⟨hlt, hm⟩, by simp only; omega⟩
    · rw [if_neg h5] at hm
      have e5 : (T.kind = 5) = False := eq_false h5
      (repeat' (first
    | exact trivial
    | (with_reducible first | refine awA ?_ | refine awB ?_ | refine awC ?_ | refine awD ?_ | refine awE ?_ | refine awF ?_ | refine awG ?_ | refine awH ?_ | refine awI ?_ | refine awJ ?_ | refine awK ?_ | refine awL ?_ | refine awM (by decide) ?_)
    | ((with_reducible first | refine awN (tyOf_ok _) [] ?_ | refine awO (tyOf_ok _) [] ?_ | refine awP (tyOf_ok _) [] ?_ | refine awQ ?_ | refine awR ?_ | refine awS ?_ | refine awT ?_ | refine awU ?_); intro r hr; simp only [go_sem, Nat.reduceBEq, Nat.reduceBneDiff, Nat.reduceLT, Nat.reduceLeDiff, Nat.reduceAdd, Nat.reduceMul, Nat.reduceSub, Nat.reduceEqDiff, reduceCtorEq, encTs_len, hw1, e1, g1, e5] at hr; subst hr; (first | refine awV ?_ ?_ | refine awW ?_ ?_ | refine endK ?_ ?_ | refine endGK ?_ ?_ ?_ | (refine condK (fun h => ?_) (fun h => ?_) <;> (try simp only [go_sem, reduceCtorEq] at h) <;> (try (exfalso; omega))))) | fail)) <;> (try omega)
      exact ⟨(k + 1, m), by simp only [go_sem, Nat.reduceBEq, Nat.reduceBneDiff, Nat.reduceLT, Nat.reduceLeDiff, Nat.reduceAdd, Nat.reduceMul, Nat.reduceSub, Nat.reduceEqDiff, reduceCtorEq] <;> exact rfl, ⟨hlt, hm⟩, by simp only; omega⟩
  have e1 : ((k : Int) < ts.length) = False := eq_false (by omega)
  rw [List.drop_of_length_le (by omega), mostF] at hm
  unfold tameF
  rw [← hm]
  by_cases h40 : m ≤ 40
  · have e2 : (m ≤ 40) = True := eq_true h40
    rw [if_pos h40]
    (repeat' (first
    | exact trivial
    | (with_reducible first | refine awA ?_ | refine awB ?_ | refine awC ?_ | refine awD ?_ | refine awE ?_ | refine awF ?_ | refine awG ?_ | refine awH ?_ | refine awI ?_ | refine awJ ?_ | refine awK ?_ | refine awL ?_ | refine awM (by decide) ?_)
    | ((with_reducible first | refine awN (tyOf_ok _) [] ?_ | refine awO (tyOf_ok _) [] ?_ | refine awP (tyOf_ok _) [] ?_ | refine awQ ?_ | refine awR ?_ | refine awS ?_ | refine awT ?_ | refine awU ?_); intro r hr; simp only [go_sem, Nat.reduceBEq, Nat.reduceBneDiff, Nat.reduceLT, Nat.reduceLeDiff, Nat.reduceAdd, Nat.reduceMul, Nat.reduceSub, Nat.reduceEqDiff, reduceCtorEq, encTs_len, e1, e2, nilS0] at hr; subst hr; (first | refine awV ?_ ?_ | refine awW ?_ ?_ | refine endK ?_ ?_ | refine endGK ?_ ?_ ?_ | (refine condK (fun h => ?_) (fun h => ?_) <;> (try simp only [go_sem, reduceCtorEq] at h) <;> (try (exfalso; omega))))) | fail)) <;> (try omega)
    all_goals (first | exact AV.up_rfl _ | (repeat first | exact obUp_nil | refine obUp_cons rfl ?_))
  have e2 : (m ≤ 40) = False := eq_false h40
  rw [if_neg h40]
  (repeat' (first
    | exact trivial
    | (with_reducible first | refine awA ?_ | refine awB ?_ | refine awC ?_ | refine awD ?_ | refine awE ?_ | refine awF ?_ | refine awG ?_ | refine awH ?_ | refine awI ?_ | refine awJ ?_ | refine awK ?_ | refine awL ?_ | refine awM (by decide) ?_)
    | ((with_reducible first | refine awN (tyOf_ok _) [] ?_ | refine awO (tyOf_ok _) [] ?_ | refine awP (tyOf_ok _) [] ?_ | refine awQ ?_ | refine awR ?_ | refine awS ?_ | refine awT ?_ | refine awU ?_); intro r hr; simp only [go_sem, Nat.reduceBEq, Nat.reduceBneDiff, Nat.reduceLT, Nat.reduceLeDiff, Nat.reduceAdd, Nat.reduceMul, Nat.reduceSub, Nat.reduceEqDiff, reduceCtorEq, encTs_len, e1, e2, nilS0] at hr; subst hr; (first | refine awV ?_ ?_ | refine awW ?_ ?_ | refine endK ?_ ?_ | refine endGK ?_ ?_ ?_ | (refine condK (fun h => ?_) (fun h => ?_) <;> (try simp only [go_sem, reduceCtorEq] at h) <;> (try (exfalso; omega))))) | fail)) <;> (try omega)
  refine go_loop [1, 4, 7] [10000] (fun k : Nat => ⟨[(1, true, .ref 3 1 10000 0 ps.length), (4, true, nilS0), (7, true, vI k)], [(10000, .row 3 1 (v8 (mpf (· % 40) ps k)))]⟩)
    (fun k => k ≤ ps.length) (fun k => ps.length - k) 0 (by simp only [go_sem, Nat.reduceBEq, Nat.reduceBneDiff, Nat.reduceLT, Nat.reduceLeDiff, Nat.reduceAdd, Nat.reduceMul, Nat.reduceSub, Nat.reduceEqDiff, reduceCtorEq, mpf_0]; exact rfl) (Nat.zero_le _) ?_
  clear hk hm hw1 hlt
  intro k hk
  have hw1 := wrap_i64 (n := (k : Int) + 1) (by omega)
  by_cases hlt : k < ps.length
  · have e1 : ((k : Int) < ps.length) = True := eq_true (by omega)
    have hml := mpf_len (· % 40) (xs := ps) k
    have g1 : (v8 (mpf (· % 40) ps k))[k]? = some [vI ps[k]] := by
      have := v8_get (zs := mpf (· % 40) ps k) (k := k) (by omega)
      rw [this]
      have h2 := mpf_get (· % 40) hlt
      rw [List.getElem?_eq_getElem (by omega)] at h2
      injection h2 with h2
      rw [h2]
    have g2 : (v8 (mpf (· % 40) ps k)).set k [vI (ps[k] % 40)] = v8 (mpf (· % 40) ps (k + 1)) := by rw [v8_set, mpf_set (· % 40) hlt]
    obtain ⟨h1, h2, h3⟩ := rest_eq ps[k] 40 (by decide)
    have hw := wrap_i64 (n := ps[k].tmod 40 + 40) (by omega)
    have hw2 := wrap_i64 (n := ps[k].tmod 40) (by omega)
    generalize ps[k] = z at *
    (repeat' (first
    | exact trivial
    | (with_reducible first | refine awA ?_ | refine awB ?_ | refine awC ?_ | refine awD ?_ | refine awE ?_ | refine awF ?_ | refine awG ?_ | refine awH ?_ | refine awI ?_ | refine awJ ?_ | refine awK ?_ | refine awL ?_ | refine awM (by decide) ?_)
    | ((with_reducible first | refine awN (tyOf_ok _) [] ?_ | refine awO (tyOf_ok _) [] ?_ | refine awP (tyOf_ok _) [] ?_ | refine awQ ?_ | refine awR ?_ | refine awS ?_ | refine awT ?_ | refine awU ?_); intro r hr; simp only [go_sem, Nat.reduceBEq, Nat.reduceBneDiff, Nat.reduceLT, Nat.reduceLeDiff, Nat.reduceAdd, Nat.reduceMul, Nat.reduceSub, Nat.reduceEqDiff, reduceCtorEq, v8_len, hml, hw1, e1, g1, g2, hw, hw2, h1, nilS0] at hr; subst hr; (first | refine awV ?_ ?_ | refine awW ?_ ?_ | refine endK ?_ ?_ | refine endGK ?_ ?_ ?_ | (refine condK (fun h => ?_) (fun h => ?_) <;> (try simp only [go_sem, reduceCtorEq] at h) <;> (try (exfalso; omega))))) | fail)) <;> (try omega)
    exact ⟨k + 1, by simp only [go_sem, Nat.reduceBEq, Nat.reduceBneDiff, Nat.reduceLT, Nat.reduceLeDiff, Nat.reduceAdd, Nat.reduceMul, Nat.reduceSub, Nat.reduceEqDiff, reduceCtorEq] <;> exact rfl, hlt, by omega⟩
  · have e1 : ((k : Int) < ps.length) = False := eq_false (by omega)
    rw [mpf_end _ (by omega)]
    (repeat' (first
    | exact trivial
    | (with_reducible first | refine awA ?_ | refine awB ?_ | refine awC ?_ | refine awD ?_ | refine awE ?_ | refine awF ?_ | refine awG ?_ | refine awH ?_ | refine awI ?_ | refine awJ ?_ | refine awK ?_ | refine awL ?_ | refine awM (by decide) ?_)
    | ((with_reducible first | refine awN (tyOf_ok _) [] ?_ | refine awO (tyOf_ok _) [] ?_ | refine awP (tyOf_ok _) [] ?_ | refine awQ ?_ | refine awR ?_ | refine awS ?_ | refine awT ?_ | refine awU ?_); intro r hr; simp only [go_sem, Nat.reduceBEq, Nat.reduceBneDiff, Nat.reduceLT, Nat.reduceLeDiff, Nat.reduceAdd, Nat.reduceMul, Nat.reduceSub, Nat.reduceEqDiff, reduceCtorEq, v8_len, hw1, e1, nilS0] at hr; subst hr; (first | refine awV ?_ ?_ | refine awW ?_ ?_ | refine endK ?_ ?_ | refine endGK ?_ ?_ ?_ | (refine condK (fun h => ?_) (fun h => ?_) <;> (try simp only [go_sem, reduceCtorEq] at h) <;> (try (exfalso; omega))))) | fail)) <;> (try omega)
    all_goals (first | exact AV.up_rfl _ | (repeat first | exact obUp_nil | refine obUp_cons rfl ?_))
end Go.Proofs.YtfgacgpicfknpaaDoor
end
