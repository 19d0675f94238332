import Derived.Test.YtljfgohecmhchaaRows
import Derived.ProofKit
import Derived.OpenShut
import Derived.ShutString
import Derived.ChangeOld
import Derived.Test.YtljfgohecmhchaaP6
set_option linter.all false
section
namespace Go.Proofs.Ytljfgohecmhchaa
open Go.RowKit
set_option maxRecDepth 100000
set_option maxHeartbeats 4000000
def vE (e : ExtM) : AV := .agg [vB e.fixed, vI e.least, vI e.most, vI e.depth]
def atE (L : List ExtM) (i : Int) : ExtM := (L[i.toNat]?).getD ⟨false, 0, 0, 0⟩
def uni (L : List ExtM) (l : List PartM) (x : Int × Int × Int) : Int × Int × Int := l.foldl (fun x p => (min x.1 (atE L p.ty).least, max x.2.1 (plusL [1, (atE L p.ty).most]), max x.2.2 (1 + (atE L p.ty).depth))) x
def str (L : List ExtM) (l : List PartM) (x : ExtM) : ExtM := l.foldl (fun x p => ⟨x.fixed && (atE L p.ty).fixed, plusL [x.least, withinM (atE L p.ty).fixed (atE L p.ty).least], plusL [x.most, withinM (atE L p.ty).fixed (atE L p.ty).most], max x.depth (1 + (atE L p.ty).depth)⟩) x
def extM (t : TypeM) (L : List ExtM) : ExtM :=
  if t.kind = 1 then ⟨true, t.n, t.n, 1⟩ else if t.kind = 2 then ⟨true, 1, 1, 1⟩ else if t.kind = 3 then ⟨false, 1, 10, 1⟩
  else if t.kind = 4 then ⟨(atE L t.elem).fixed, timesS t.n (withinM (atE L t.elem).fixed (atE L t.elem).least), timesS t.n (withinM (atE L t.elem).fixed (atE L t.elem).most), 1 + (atE L t.elem).depth⟩
  else if t.kind = 5 then ⟨false, 0, timesS t.n (withinM (atE L t.elem).fixed (atE L t.elem).most), 1 + (atE L t.elem).depth⟩
  else if t.kind = 6 then ⟨false, 1, plusL [1, (atE L t.elem).most], 1 + (atE L t.elem).depth⟩
  else if t.kind = 7 then let x := uni L t.parts (4611686018427387904, 0, 1); ⟨false, plusL [1, x.1], x.2.1, x.2.2⟩
  else str L t.parts ⟨true, 0, 0, 1⟩
def extOK (e : ExtM) : Prop := (0 ≤ e.least ∧ e.least ≤ 4611686018427387904) ∧ (0 ≤ e.most ∧ e.most ≤ 4611686018427387904) ∧ 0 ≤ e.depth ∧ e.depth ≤ 1000000000000
theorem withinM_bd {f : Bool} {b : Int} (h : 0 ≤ b ∧ b ≤ 4611686018427387904) : 0 ≤ withinM f b ∧ withinM f b ≤ 4611686018427387904 := by
  unfold withinM
  split
  · exact h
  · exact plusL_bd _
theorem leaf_any (t : TypeM) (L : List ExtM) (hk : t.kind = 1 ∨ t.kind = 2 ∨ t.kind = 3) : PCall Try.prog 31 [.agg [vI t.kind, vI t.n, vI t.elem, .lst 3 (encPs t.parts)], .lst 4 (encEs L)] (fun r => r = vE (extM t L)) := by
  refine go_fn (tyOf_ok _) Try.func31 rfl rfl (by rw [Try.results31]) Try.ntmps31 rfl fun E => ?_
  rcases hk with hk | hk | hk
  · have k1 : (t.kind = 1) = True := eq_true hk
    (repeat' (first
    | exact trivial
    | (with_reducible first | refine awA ?_ | refine awB ?_ | refine awC ?_ | refine awD ?_ | refine awE ?_ | refine awF ?_ | refine awG ?_ | refine awH ?_ | refine awI ?_ | refine awJ ?_ | refine awK ?_ | refine awL ?_ | refine awM (by decide) ?_)
    | (refine aw_draw (id := 11) (t := (.node [0, 1, 2, 3, 4, 5, 6, 7, 8, 9] [])) (drR [2] [] []) mixed (by kernel_rfl) (by kernel_rfl) (fun _ _ h => h) ?_)
    | (refine aw_draw (id := 15) (t := (.node [0, 1, 2, 3, 4, 5, 6, 9, 7, 8, 10, 11, 12] [])) (drR [6, 2] [] []) mixed (by kernel_rfl) (by kernel_rfl) (fun _ _ h => h) ?_)
    | (refine aw_draw (id := 17) (t := (.node [0, 1, 2, 3, 4, 7, 8, 9, 5, 6, 10, 11, 12, 13] [])) (drR [2, 7] [] []) mixed (by kernel_rfl) (by kernel_rfl) (fun _ _ h => h) ?_)
    | (refine aw_draw (id := 19) (t := (.node [0, 1, 4, 5, 6, 7, 2, 3, 8, 9, 10, 11, 12] [])) (drR [8] [] []) mixed (by kernel_rfl) (by kernel_rfl) (fun _ _ h => h) ?_)
    | (refine aw_draw (id := 26) (t := (.node [0, 1, 2, 3, 7, 8, 9, 10, 11, 12, 4, 5, 6, 13, 14, 15, 16] [])) (drR [12] [112, 119] []) mixed (by kernel_rfl) (by kernel_rfl) (fun _ _ h => h) ?_)
    | (refine aw_draw (id := 35) (t := (.node [0, 1, 2, 3, 4, 8, 9, 10, 11, 12, 5, 6, 7, 16, 13, 14, 15, 17, 18, 19] [])) (drR [15] [152, 160] []) mixed (by kernel_rfl) (by kernel_rfl) (fun _ _ h => h) ?_)
    | (refine at_done (by simp only [List.filterMap_cons, List.filterMap_nil, List.getElem?_toArray, List.getElem?_cons_zero, List.getElem?_cons_succ]; exact rfl) ?_) | (refine at_alt (by simp only [List.filterMap_cons, List.filterMap_nil, List.getElem?_toArray, List.getElem?_cons_zero, List.getElem?_cons_succ]; exact rfl) ?_) | refine qalt_normal ?_ | refine ats_cons ?_ ?_ | exact ats_nil
    | ((with_reducible first | refine awN (tyOf_ok _) [] ?_ | refine awO (tyOf_ok _) [] ?_ | refine awP (tyOf_ok _) [] ?_ | refine awQ ?_ | refine awR ?_ | refine awS ?_); intro r hr; simp only [go_sem, Nat.reduceBEq, Nat.reduceBneDiff, Nat.reduceLT, Nat.reduceLeDiff, Nat.reduceAdd, Nat.reduceMul, Nat.reduceSub, Nat.reduceEqDiff, reduceCtorEq, encPs_len, encEs_len, k1] at hr; subst hr; (first | refine awV ?_ ?_ | refine awW ?_ ?_ | refine endK ?_ ?_ | (refine condK (fun h => ?_) (fun h => ?_) <;> (try simp only [go_sem, reduceCtorEq] at h) <;> (try (exfalso; omega))))) | fail)) <;> (try omega)
    rw [extM, if_pos hk]; exact rfl
  · have k1 : (t.kind = 1) = False := eq_false (by omega)
    have k2 : (t.kind = 2) = True := eq_true hk
    (repeat' (first
    | exact trivial
    | (with_reducible first | refine awA ?_ | refine awB ?_ | refine awC ?_ | refine awD ?_ | refine awE ?_ | refine awF ?_ | refine awG ?_ | refine awH ?_ | refine awI ?_ | refine awJ ?_ | refine awK ?_ | refine awL ?_ | refine awM (by decide) ?_)
    | (refine aw_draw (id := 11) (t := (.node [0, 1, 2, 3, 4, 5, 6, 7, 8, 9] [])) (drR [2] [] []) mixed (by kernel_rfl) (by kernel_rfl) (fun _ _ h => h) ?_)
    | (refine aw_draw (id := 15) (t := (.node [0, 1, 2, 3, 4, 5, 6, 9, 7, 8, 10, 11, 12] [])) (drR [6, 2] [] []) mixed (by kernel_rfl) (by kernel_rfl) (fun _ _ h => h) ?_)
    | (refine aw_draw (id := 17) (t := (.node [0, 1, 2, 3, 4, 7, 8, 9, 5, 6, 10, 11, 12, 13] [])) (drR [2, 7] [] []) mixed (by kernel_rfl) (by kernel_rfl) (fun _ _ h => h) ?_)
    | (refine aw_draw (id := 19) (t := (.node [0, 1, 4, 5, 6, 7, 2, 3, 8, 9, 10, 11, 12] [])) (drR [8] [] []) mixed (by kernel_rfl) (by kernel_rfl) (fun _ _ h => h) ?_)
    | (refine aw_draw (id := 26) (t := (.node [0, 1, 2, 3, 7, 8, 9, 10, 11, 12, 4, 5, 6, 13, 14, 15, 16] [])) (drR [12] [112, 119] []) mixed (by kernel_rfl) (by kernel_rfl) (fun _ _ h => h) ?_)
    | (refine aw_draw (id := 35) (t := (.node [0, 1, 2, 3, 4, 8, 9, 10, 11, 12, 5, 6, 7, 16, 13, 14, 15, 17, 18, 19] [])) (drR [15] [152, 160] []) mixed (by kernel_rfl) (by kernel_rfl) (fun _ _ h => h) ?_)
    | (refine at_done (by simp only [List.filterMap_cons, List.filterMap_nil, List.getElem?_toArray, List.getElem?_cons_zero, List.getElem?_cons_succ]; exact rfl) ?_) | (refine at_alt (by simp only [List.filterMap_cons, List.filterMap_nil, List.getElem?_toArray, List.getElem?_cons_zero, List.getElem?_cons_succ]; exact rfl) ?_) | refine qalt_normal ?_ | refine ats_cons ?_ ?_ | exact ats_nil
    | ((with_reducible first | refine awN (tyOf_ok _) [] ?_ | refine awO (tyOf_ok _) [] ?_ | refine awP (tyOf_ok _) [] ?_ | refine awQ ?_ | refine awR ?_ | refine awS ?_); intro r hr; simp only [go_sem, Nat.reduceBEq, Nat.reduceBneDiff, Nat.reduceLT, Nat.reduceLeDiff, Nat.reduceAdd, Nat.reduceMul, Nat.reduceSub, Nat.reduceEqDiff, reduceCtorEq, encPs_len, encEs_len, k1, k2] at hr; subst hr; (first | refine awV ?_ ?_ | refine awW ?_ ?_ | refine endK ?_ ?_ | (refine condK (fun h => ?_) (fun h => ?_) <;> (try simp only [go_sem, reduceCtorEq] at h) <;> (try (exfalso; omega))))) | fail)) <;> (try omega)
    rw [extM, if_neg (by omega), if_pos hk]; exact rfl
  · have k1 : (t.kind = 1) = False := eq_false (by omega)
    have k2 : (t.kind = 2) = False := eq_false (by omega)
    have k3 : (t.kind = 3) = True := eq_true hk
    (repeat' (first
    | exact trivial
    | (with_reducible first | refine awA ?_ | refine awB ?_ | refine awC ?_ | refine awD ?_ | refine awE ?_ | refine awF ?_ | refine awG ?_ | refine awH ?_ | refine awI ?_ | refine awJ ?_ | refine awK ?_ | refine awL ?_ | refine awM (by decide) ?_)
    | (refine aw_draw (id := 11) (t := (.node [0, 1, 2, 3, 4, 5, 6, 7, 8, 9] [])) (drR [2] [] []) mixed (by kernel_rfl) (by kernel_rfl) (fun _ _ h => h) ?_)
    | (refine aw_draw (id := 15) (t := (.node [0, 1, 2, 3, 4, 5, 6, 9, 7, 8, 10, 11, 12] [])) (drR [6, 2] [] []) mixed (by kernel_rfl) (by kernel_rfl) (fun _ _ h => h) ?_)
    | (refine aw_draw (id := 17) (t := (.node [0, 1, 2, 3, 4, 7, 8, 9, 5, 6, 10, 11, 12, 13] [])) (drR [2, 7] [] []) mixed (by kernel_rfl) (by kernel_rfl) (fun _ _ h => h) ?_)
    | (refine aw_draw (id := 19) (t := (.node [0, 1, 4, 5, 6, 7, 2, 3, 8, 9, 10, 11, 12] [])) (drR [8] [] []) mixed (by kernel_rfl) (by kernel_rfl) (fun _ _ h => h) ?_)
    | (refine aw_draw (id := 26) (t := (.node [0, 1, 2, 3, 7, 8, 9, 10, 11, 12, 4, 5, 6, 13, 14, 15, 16] [])) (drR [12] [112, 119] []) mixed (by kernel_rfl) (by kernel_rfl) (fun _ _ h => h) ?_)
    | (refine aw_draw (id := 35) (t := (.node [0, 1, 2, 3, 4, 8, 9, 10, 11, 12, 5, 6, 7, 16, 13, 14, 15, 17, 18, 19] [])) (drR [15] [152, 160] []) mixed (by kernel_rfl) (by kernel_rfl) (fun _ _ h => h) ?_)
    | (refine at_done (by simp only [List.filterMap_cons, List.filterMap_nil, List.getElem?_toArray, List.getElem?_cons_zero, List.getElem?_cons_succ]; exact rfl) ?_) | (refine at_alt (by simp only [List.filterMap_cons, List.filterMap_nil, List.getElem?_toArray, List.getElem?_cons_zero, List.getElem?_cons_succ]; exact rfl) ?_) | refine qalt_normal ?_ | refine ats_cons ?_ ?_ | exact ats_nil
    | ((with_reducible first | refine awN (tyOf_ok _) [] ?_ | refine awO (tyOf_ok _) [] ?_ | refine awP (tyOf_ok _) [] ?_ | refine awQ ?_ | refine awR ?_ | refine awS ?_); intro r hr; simp only [go_sem, Nat.reduceBEq, Nat.reduceBneDiff, Nat.reduceLT, Nat.reduceLeDiff, Nat.reduceAdd, Nat.reduceMul, Nat.reduceSub, Nat.reduceEqDiff, reduceCtorEq, encPs_len, encEs_len, k1, k2, k3] at hr; subst hr; (first | refine awV ?_ ?_ | refine awW ?_ ?_ | refine endK ?_ ?_ | (refine condK (fun h => ?_) (fun h => ?_) <;> (try simp only [go_sem, reduceCtorEq] at h) <;> (try (exfalso; omega))))) | fail)) <;> (try omega)
    rw [extM, if_neg (by omega), if_neg (by omega), if_pos hk]; exact rfl
theorem elem_any (t : TypeM) (L : List ExtM) (hn : I64 t.n) (hL : ∀ e ∈ L, extOK e) (hel : 0 ≤ t.elem ∧ t.elem < L.length) (hk : t.kind = 4 ∨ t.kind = 5 ∨ t.kind = 6) : PCall Try.prog 31 [.agg [vI t.kind, vI t.n, vI t.elem, .lst 3 (encPs t.parts)], .lst 4 (encEs L)] (fun r => r = vE (extM t L)) := by
  have hlt : t.elem.toNat < L.length := by omega
  have ge := encEs_get hlt
  have hat : atE L t.elem = L[t.elem.toNat] := by rw [atE, List.getElem?_eq_getElem hlt]; rfl
  have hok := hL _ (List.getElem_mem hlt)
  generalize L[t.elem.toNat] = e at ge hat hok
  obtain ⟨hlo, hmo, hde⟩ := hok
  have hw := wrap_i64 (n := 1 + e.depth) (by omega)
  have i1 : I64 e.least := by unfold I64; omega
  have i2 : I64 e.most := by unfold I64; omega
  have b1 := withinM_bd (f := e.fixed) hlo
  have b2 := withinM_bd (f := e.fixed) hmo
  have i3 : I64 (withinM e.fixed e.least) := by unfold I64; omega
  have i4 : I64 (withinM e.fixed e.most) := by unfold I64; omega
  have i5 : I64 1 := by unfold I64; omega
  refine go_fn (tyOf_ok _) Try.func31 rfl rfl (by rw [Try.results31]) Try.ntmps31 rfl fun E => ?_
  have k1 : (t.kind = 1) = False := eq_false (by omega)
  have k2 : (t.kind = 2) = False := eq_false (by omega)
  have k3 : (t.kind = 3) = False := eq_false (by omega)
  rcases hk with hk | hk | hk
  · have k4 : (t.kind = 4) = True := eq_true hk
    (repeat' (first
    | exact trivial
    | (with_reducible first | refine awA ?_ | refine awB ?_ | refine awC ?_ | refine awD ?_ | refine awE ?_ | refine awF ?_ | refine awG ?_ | refine awH ?_ | refine awI ?_ | refine awJ ?_ | refine awK ?_ | refine awL ?_ | refine awM (by decide) ?_)
    | (refine aw_draw (id := 11) (t := (.node [0, 1, 2, 3, 4, 5, 6, 7, 8, 9] [])) (drR [2] [] []) mixed (by kernel_rfl) (by kernel_rfl) (fun _ _ h => h) ?_)
    | (refine aw_draw (id := 15) (t := (.node [0, 1, 2, 3, 4, 5, 6, 9, 7, 8, 10, 11, 12] [])) (drR [6, 2] [] []) mixed (by kernel_rfl) (by kernel_rfl) (fun _ _ h => h) ?_)
    | (refine aw_draw (id := 17) (t := (.node [0, 1, 2, 3, 4, 7, 8, 9, 5, 6, 10, 11, 12, 13] [])) (drR [2, 7] [] []) mixed (by kernel_rfl) (by kernel_rfl) (fun _ _ h => h) ?_)
    | (refine aw_draw (id := 19) (t := (.node [0, 1, 4, 5, 6, 7, 2, 3, 8, 9, 10, 11, 12] [])) (drR [8] [] []) mixed (by kernel_rfl) (by kernel_rfl) (fun _ _ h => h) ?_)
    | (refine aw_draw (id := 26) (t := (.node [0, 1, 2, 3, 7, 8, 9, 10, 11, 12, 4, 5, 6, 13, 14, 15, 16] [])) (drR [12] [112, 119] []) mixed (by kernel_rfl) (by kernel_rfl) (fun _ _ h => h) ?_)
    | (refine aw_draw (id := 35) (t := (.node [0, 1, 2, 3, 4, 8, 9, 10, 11, 12, 5, 6, 7, 16, 13, 14, 15, 17, 18, 19] [])) (drR [15] [152, 160] []) mixed (by kernel_rfl) (by kernel_rfl) (fun _ _ h => h) ?_)
    | (refine at_done (by simp only [List.filterMap_cons, List.filterMap_nil, List.getElem?_toArray, List.getElem?_cons_zero, List.getElem?_cons_succ]; exact rfl) ?_) | (refine at_alt (by simp only [List.filterMap_cons, List.filterMap_nil, List.getElem?_toArray, List.getElem?_cons_zero, List.getElem?_cons_succ]; exact rfl) ?_) | refine qalt_normal ?_ | refine ats_cons ?_ ?_ | exact ats_nil
    | ((with_reducible first | refine awN (tyOf_ok _) [] ?_ | refine awO (tyOf_ok _) [] ?_ | refine awP (tyOf_ok _) [] ?_ | refine awQ ?_ | refine awR ?_ | refine awS ?_); intro r hr; simp only [go_sem, Nat.reduceBEq, Nat.reduceBneDiff, Nat.reduceLT, Nat.reduceLeDiff, Nat.reduceAdd, Nat.reduceMul, Nat.reduceSub, Nat.reduceEqDiff, reduceCtorEq, encPs_len, encEs_len, k1, k2, k3, k4, ge, hw] at hr; subst hr; (first | refine caA (fun _ => within_any e _ i1) rfl ?_ ?_ ?_ | refine caA (fun _ => within_any e _ i2) rfl ?_ ?_ ?_ | refine caA (fun _ => times_p hn i3) rfl ?_ ?_ ?_ | refine caA (fun _ => times_p hn i4) rfl ?_ ?_ ?_ | refine awV ?_ ?_ | refine awW ?_ ?_ | refine endK ?_ ?_ | (refine condK (fun h => ?_) (fun h => ?_) <;> (try simp only [go_sem, reduceCtorEq] at h) <;> (try (exfalso; omega))))) | fail)) <;> (try omega)
    rw [extM, if_neg (by omega), if_neg (by omega), if_neg (by omega), if_pos hk, hat]; exact rfl
  · have k4 : (t.kind = 4) = False := eq_false (by omega)
    have k5 : (t.kind = 5) = True := eq_true hk
    (repeat' (first
    | exact trivial
    | (with_reducible first | refine awA ?_ | refine awB ?_ | refine awC ?_ | refine awD ?_ | refine awE ?_ | refine awF ?_ | refine awG ?_ | refine awH ?_ | refine awI ?_ | refine awJ ?_ | refine awK ?_ | refine awL ?_ | refine awM (by decide) ?_)
    | (refine aw_draw (id := 11) (t := (.node [0, 1, 2, 3, 4, 5, 6, 7, 8, 9] [])) (drR [2] [] []) mixed (by kernel_rfl) (by kernel_rfl) (fun _ _ h => h) ?_)
    | (refine aw_draw (id := 15) (t := (.node [0, 1, 2, 3, 4, 5, 6, 9, 7, 8, 10, 11, 12] [])) (drR [6, 2] [] []) mixed (by kernel_rfl) (by kernel_rfl) (fun _ _ h => h) ?_)
    | (refine aw_draw (id := 17) (t := (.node [0, 1, 2, 3, 4, 7, 8, 9, 5, 6, 10, 11, 12, 13] [])) (drR [2, 7] [] []) mixed (by kernel_rfl) (by kernel_rfl) (fun _ _ h => h) ?_)
    | (refine aw_draw (id := 19) (t := (.node [0, 1, 4, 5, 6, 7, 2, 3, 8, 9, 10, 11, 12] [])) (drR [8] [] []) mixed (by kernel_rfl) (by kernel_rfl) (fun _ _ h => h) ?_)
    | (refine aw_draw (id := 26) (t := (.node [0, 1, 2, 3, 7, 8, 9, 10, 11, 12, 4, 5, 6, 13, 14, 15, 16] [])) (drR [12] [112, 119] []) mixed (by kernel_rfl) (by kernel_rfl) (fun _ _ h => h) ?_)
    | (refine aw_draw (id := 35) (t := (.node [0, 1, 2, 3, 4, 8, 9, 10, 11, 12, 5, 6, 7, 16, 13, 14, 15, 17, 18, 19] [])) (drR [15] [152, 160] []) mixed (by kernel_rfl) (by kernel_rfl) (fun _ _ h => h) ?_)
    | (refine at_done (by simp only [List.filterMap_cons, List.filterMap_nil, List.getElem?_toArray, List.getElem?_cons_zero, List.getElem?_cons_succ]; exact rfl) ?_) | (refine at_alt (by simp only [List.filterMap_cons, List.filterMap_nil, List.getElem?_toArray, List.getElem?_cons_zero, List.getElem?_cons_succ]; exact rfl) ?_) | refine qalt_normal ?_ | refine ats_cons ?_ ?_ | exact ats_nil
    | ((with_reducible first | refine awN (tyOf_ok _) [] ?_ | refine awO (tyOf_ok _) [] ?_ | refine awP (tyOf_ok _) [] ?_ | refine awQ ?_ | refine awR ?_ | refine awS ?_); intro r hr; simp only [go_sem, Nat.reduceBEq, Nat.reduceBneDiff, Nat.reduceLT, Nat.reduceLeDiff, Nat.reduceAdd, Nat.reduceMul, Nat.reduceSub, Nat.reduceEqDiff, reduceCtorEq, encPs_len, encEs_len, k1, k2, k3, k4, k5, ge, hw] at hr; subst hr; (first | refine caA (fun _ => within_any e _ i2) rfl ?_ ?_ ?_ | refine caA (fun _ => times_p hn i4) rfl ?_ ?_ ?_ | refine awV ?_ ?_ | refine awW ?_ ?_ | refine endK ?_ ?_ | (refine condK (fun h => ?_) (fun h => ?_) <;> (try simp only [go_sem, reduceCtorEq] at h) <;> (try (exfalso; omega))))) | fail)) <;> (try omega)
    rw [extM, if_neg (by omega), if_neg (by omega), if_neg (by omega), if_neg (by omega), if_pos hk, hat]; exact rfl
  · have k4 : (t.kind = 4) = False := eq_false (by omega)
    have k5 : (t.kind = 5) = False := eq_false (by omega)
    have k6 : (t.kind = 6) = True := eq_true hk
    (repeat' (first
    | exact trivial
    | (with_reducible first | refine awA ?_ | refine awB ?_ | refine awC ?_ | refine awD ?_ | refine awE ?_ | refine awF ?_ | refine awG ?_ | refine awH ?_ | refine awI ?_ | refine awJ ?_ | refine awK ?_ | refine awL ?_ | refine awM (by decide) ?_)
    | (refine aw_draw (id := 11) (t := (.node [0, 1, 2, 3, 4, 5, 6, 7, 8, 9] [])) (drR [2] [] []) mixed (by kernel_rfl) (by kernel_rfl) (fun _ _ h => h) ?_)
    | (refine aw_draw (id := 15) (t := (.node [0, 1, 2, 3, 4, 5, 6, 9, 7, 8, 10, 11, 12] [])) (drR [6, 2] [] []) mixed (by kernel_rfl) (by kernel_rfl) (fun _ _ h => h) ?_)
    | (refine aw_draw (id := 17) (t := (.node [0, 1, 2, 3, 4, 7, 8, 9, 5, 6, 10, 11, 12, 13] [])) (drR [2, 7] [] []) mixed (by kernel_rfl) (by kernel_rfl) (fun _ _ h => h) ?_)
    | (refine aw_draw (id := 19) (t := (.node [0, 1, 4, 5, 6, 7, 2, 3, 8, 9, 10, 11, 12] [])) (drR [8] [] []) mixed (by kernel_rfl) (by kernel_rfl) (fun _ _ h => h) ?_)
    | (refine aw_draw (id := 26) (t := (.node [0, 1, 2, 3, 7, 8, 9, 10, 11, 12, 4, 5, 6, 13, 14, 15, 16] [])) (drR [12] [112, 119] []) mixed (by kernel_rfl) (by kernel_rfl) (fun _ _ h => h) ?_)
    | (refine aw_draw (id := 35) (t := (.node [0, 1, 2, 3, 4, 8, 9, 10, 11, 12, 5, 6, 7, 16, 13, 14, 15, 17, 18, 19] [])) (drR [15] [152, 160] []) mixed (by kernel_rfl) (by kernel_rfl) (fun _ _ h => h) ?_)
    | (refine at_done (by simp only [List.filterMap_cons, List.filterMap_nil, List.getElem?_toArray, List.getElem?_cons_zero, List.getElem?_cons_succ]; exact rfl) ?_) | (refine at_alt (by simp only [List.filterMap_cons, List.filterMap_nil, List.getElem?_toArray, List.getElem?_cons_zero, List.getElem?_cons_succ]; exact rfl) ?_) | refine qalt_normal ?_ | refine ats_cons ?_ ?_ | exact ats_nil
    | ((with_reducible first | refine awN (tyOf_ok _) [] ?_ | refine awO (tyOf_ok _) [] ?_ | refine awP (tyOf_ok _) [] ?_ | refine awQ ?_ | refine awR ?_ | refine awS ?_); intro r hr; simp only [go_sem, Nat.reduceBEq, Nat.reduceBneDiff, Nat.reduceLT, Nat.reduceLeDiff, Nat.reduceAdd, Nat.reduceMul, Nat.reduceSub, Nat.reduceEqDiff, reduceCtorEq, encPs_len, encEs_len, k1, k2, k3, k4, k5, k6, ge, hw] at hr; subst hr; (first | refine caA (fun _ => plus2_p 1 e.most i5 i2) rfl ?_ ?_ ?_ | refine awV ?_ ?_ | refine awW ?_ ?_ | refine endK ?_ ?_ | (refine condK (fun h => ?_) (fun h => ?_) <;> (try simp only [go_sem, reduceCtorEq] at h) <;> (try (exfalso; omega))))) | fail)) <;> (try omega)
    rw [extM, if_neg (by omega), if_neg (by omega), if_neg (by omega), if_neg (by omega), if_neg (by omega), if_pos hk, hat]; exact rfl
end Go.Proofs.Ytljfgohecmhchaa
end
section
namespace Go.Proofs.Ytljfgohecmhchaa
open Go.RowKit
set_option maxRecDepth 100000
set_option maxHeartbeats 4000000
theorem str_succ (L : List ExtM) (l : List PartM) (x : ExtM) {j : Nat} (h : j < l.length) : str L (l.take (j + 1)) x = ⟨(str L (l.take j) x).fixed && (atE L l[j].ty).fixed, plusL [(str L (l.take j) x).least, withinM (atE L l[j].ty).fixed (atE L l[j].ty).least], plusL [(str L (l.take j) x).most, withinM (atE L l[j].ty).fixed (atE L l[j].ty).most], max (str L (l.take j) x).depth (1 + (atE L l[j].ty).depth)⟩ := by
  rw [List.take_succ_eq_append_getElem h, str, List.foldl_append]; rfl
theorem uni_succ (L : List ExtM) (l : List PartM) (x : Int × Int × Int) {j : Nat} (h : j < l.length) : uni L (l.take (j + 1)) x = (min (uni L (l.take j) x).1 (atE L l[j].ty).least, max (uni L (l.take j) x).2.1 (plusL [1, (atE L l[j].ty).most]), max (uni L (l.take j) x).2.2 (1 + (atE L l[j].ty).depth)) := by
  rw [List.take_succ_eq_append_getElem h, uni, List.foldl_append]; rfl
theorem parts_ext (t : TypeM) (L : List ExtM) (hL : ∀ e ∈ L, extOK e) (hp : ∀ p ∈ t.parts, 0 ≤ p.ty ∧ p.ty < L.length) (hl : t.parts.length ≤ 1000000000) (hk : t.kind = 7 ∨ t.kind = 8) : PCall Try.prog 31 [.agg [vI t.kind, vI t.n, vI t.elem, .lst 3 (encPs t.parts)], .lst 4 (encEs L)] (fun r => r = vE (extM t L)) := by
  refine go_fn (tyOf_ok _) Try.func31 rfl rfl (by rw [Try.results31]) Try.ntmps31 rfl fun E => ?_
  have k1 : (t.kind = 1) = False := eq_false (by omega)
  have k2 : (t.kind = 2) = False := eq_false (by omega)
  have k3 : (t.kind = 3) = False := eq_false (by omega)
  have k4 : (t.kind = 4) = False := eq_false (by omega)
  have k5 : (t.kind = 5) = False := eq_false (by omega)
  have k6 : (t.kind = 6) = False := eq_false (by omega)
  rcases hk with hk | hk
  · have k7 : (t.kind = 7) = True := eq_true hk
    (repeat' (first
    | exact trivial
    | (with_reducible first | refine awA ?_ | refine awB ?_ | refine awC ?_ | refine awD ?_ | refine awE ?_ | refine awF ?_ | refine awG ?_ | refine awH ?_ | refine awI ?_ | refine awJ ?_ | refine awK ?_ | refine awL ?_ | refine awM (by decide) ?_)
    | (refine aw_draw (id := 11) (t := (.node [0, 1, 2, 3, 4, 5, 6, 7, 8, 9] [])) (drR [2] [] []) mixed (by kernel_rfl) (by kernel_rfl) (fun _ _ h => h) ?_)
    | (refine aw_draw (id := 15) (t := (.node [0, 1, 2, 3, 4, 5, 6, 9, 7, 8, 10, 11, 12] [])) (drR [6, 2] [] []) mixed (by kernel_rfl) (by kernel_rfl) (fun _ _ h => h) ?_)
    | (refine aw_draw (id := 17) (t := (.node [0, 1, 2, 3, 4, 7, 8, 9, 5, 6, 10, 11, 12, 13] [])) (drR [2, 7] [] []) mixed (by kernel_rfl) (by kernel_rfl) (fun _ _ h => h) ?_)
    | (refine aw_draw (id := 19) (t := (.node [0, 1, 4, 5, 6, 7, 2, 3, 8, 9, 10, 11, 12] [])) (drR [8] [] []) mixed (by kernel_rfl) (by kernel_rfl) (fun _ _ h => h) ?_)
    | (refine aw_draw (id := 26) (t := (.node [0, 1, 2, 3, 7, 8, 9, 10, 11, 12, 4, 5, 6, 13, 14, 15, 16] [])) (drR [12] [112, 119] []) mixed (by kernel_rfl) (by kernel_rfl) (fun _ _ h => h) ?_)
    | (refine aw_draw (id := 35) (t := (.node [0, 1, 2, 3, 4, 8, 9, 10, 11, 12, 5, 6, 7, 16, 13, 14, 15, 17, 18, 19] [])) (drR [15] [152, 160] []) mixed (by kernel_rfl) (by kernel_rfl) (fun _ _ h => h) ?_)
    | (refine at_done (by simp only [List.filterMap_cons, List.filterMap_nil, List.getElem?_toArray, List.getElem?_cons_zero, List.getElem?_cons_succ]; exact rfl) ?_) | (refine at_alt (by simp only [List.filterMap_cons, List.filterMap_nil, List.getElem?_toArray, List.getElem?_cons_zero, List.getElem?_cons_succ]; exact rfl) ?_) | refine qalt_normal ?_ | refine ats_cons ?_ ?_ | exact ats_nil
    | ((with_reducible first | refine awN (tyOf_ok _) [] ?_ | refine awO (tyOf_ok _) [] ?_ | refine awP (tyOf_ok _) [] ?_ | refine awQ ?_ | refine awR ?_ | refine awS ?_); intro r hr; simp only [go_sem, Nat.reduceBEq, Nat.reduceBneDiff, Nat.reduceLT, Nat.reduceLeDiff, Nat.reduceAdd, Nat.reduceMul, Nat.reduceSub, Nat.reduceEqDiff, reduceCtorEq, encPs_len, encEs_len, k1, k2, k3, k4, k5, k6, k7] at hr; subst hr; (first | refine awV ?_ ?_ | refine awW ?_ ?_ | refine endK ?_ ?_ | (refine condK (fun h => ?_) (fun h => ?_) <;> (try simp only [go_sem, reduceCtorEq] at h) <;> (try (exfalso; omega))))) | fail)) <;> (try omega)
    refine go_loop [1, 4, 5, 9, 96, 97, 98] [4, 5] (fun x : Nat × Int × Int × Int => ⟨[(1, true, .lst 4 (encEs L)), (4, true, .ptr 1 4 0 0), (5, true, .ptr 1 5 0 0), (9, true, vI x.2.1), (96, true, .lst 3 (encPs t.parts)), (97, true, vI t.parts.length), (98, true, vI x.1)],
      [(4, .var [vB false, vI 0, vI 0, vI 0]), (5, .var [vB false, vI 0, vI x.2.2.1, vI x.2.2.2])]⟩)
      (fun x => x.1 ≤ t.parts.length ∧ x.2 = uni L (t.parts.take x.1) (4611686018427387904, 0, 1) ∧ (0 ≤ x.2.1 ∧ x.2.1 ≤ 4611686018427387904) ∧ (0 ≤ x.2.2.1 ∧ x.2.2.1 ≤ 4611686018427387904) ∧ 0 ≤ x.2.2.2 ∧ x.2.2.2 ≤ 1000000000001) (fun x => t.parts.length - x.1) (0, 4611686018427387904, 0, 1) (by simp only [go_sem, Nat.reduceBEq, Nat.reduceBneDiff, Nat.reduceLT, Nat.reduceLeDiff, Nat.reduceAdd, Nat.reduceMul, Nat.reduceSub, Nat.reduceEqDiff, reduceCtorEq]; exact rfl) ⟨Nat.zero_le _, rfl, by decide, by decide, by decide, by decide⟩ ?_
    intro ⟨j, le, mo, de⟩ ⟨hj, hx, hx1, hx2, hx3, hx4⟩
    simp only at hj hx hx1 hx2 hx3 hx4 ⊢
    have hw1 := wrap_i64 (n := (j : Int) + 1) (by omega)
    have i5 : I64 1 := by unfold I64; omega
    have i6 : I64 le := by unfold I64; omega
    by_cases hlt : j < t.parts.length
    · have e1 : ((j : Int) < t.parts.length) = True := eq_true (by omega)
      have g1 := encPs_get hlt
      have hty := hp _ (List.getElem_mem hlt)
      have htl : (t.parts[j].ty).toNat < L.length := by omega
      have ge := encEs_get htl
      have hat : atE L t.parts[j].ty = L[(t.parts[j].ty).toNat] := by rw [atE, List.getElem?_eq_getElem htl]; rfl
      have hok := hL _ (List.getElem_mem htl)
      have hs := uni_succ L t.parts (4611686018427387904, 0, 1) hlt
      rw [← hx, hat] at hs
      generalize L[(t.parts[j].ty).toNat] = e at ge hat hok hs
      obtain ⟨hlo, hmo, hde⟩ := hok
      have hw := wrap_i64 (n := 1 + e.depth) (by omega)
      have i2 : I64 e.most := by unfold I64; omega
      have b3 := plusL_bd [1, e.most]
      (repeat' (first
    | exact trivial
    | (with_reducible first | refine awA ?_ | refine awB ?_ | refine awC ?_ | refine awD ?_ | refine awE ?_ | refine awF ?_ | refine awG ?_ | refine awH ?_ | refine awI ?_ | refine awJ ?_ | refine awK ?_ | refine awL ?_ | refine awM (by decide) ?_)
    | (refine aw_draw (id := 11) (t := (.node [0, 1, 2, 3, 4, 5, 6, 7, 8, 9] [])) (drR [2] [] []) mixed (by kernel_rfl) (by kernel_rfl) (fun _ _ h => h) ?_)
    | (refine aw_draw (id := 15) (t := (.node [0, 1, 2, 3, 4, 5, 6, 9, 7, 8, 10, 11, 12] [])) (drR [6, 2] [] []) mixed (by kernel_rfl) (by kernel_rfl) (fun _ _ h => h) ?_)
    | (refine aw_draw (id := 17) (t := (.node [0, 1, 2, 3, 4, 7, 8, 9, 5, 6, 10, 11, 12, 13] [])) (drR [2, 7] [] []) mixed (by kernel_rfl) (by kernel_rfl) (fun _ _ h => h) ?_)
    | (refine aw_draw (id := 19) (t := (.node [0, 1, 4, 5, 6, 7, 2, 3, 8, 9, 10, 11, 12] [])) (drR [8] [] []) mixed (by kernel_rfl) (by kernel_rfl) (fun _ _ h => h) ?_)
    | (refine aw_draw (id := 26) (t := (.node [0, 1, 2, 3, 7, 8, 9, 10, 11, 12, 4, 5, 6, 13, 14, 15, 16] [])) (drR [12] [112, 119] []) mixed (by kernel_rfl) (by kernel_rfl) (fun _ _ h => h) ?_)
    | (refine aw_draw (id := 35) (t := (.node [0, 1, 2, 3, 4, 8, 9, 10, 11, 12, 5, 6, 7, 16, 13, 14, 15, 17, 18, 19] [])) (drR [15] [152, 160] []) mixed (by kernel_rfl) (by kernel_rfl) (fun _ _ h => h) ?_)
    | (refine at_done (by simp only [List.filterMap_cons, List.filterMap_nil, List.getElem?_toArray, List.getElem?_cons_zero, List.getElem?_cons_succ]; exact rfl) ?_) | (refine at_alt (by simp only [List.filterMap_cons, List.filterMap_nil, List.getElem?_toArray, List.getElem?_cons_zero, List.getElem?_cons_succ]; exact rfl) ?_) | refine qalt_normal ?_ | refine ats_cons ?_ ?_ | exact ats_nil
    | ((with_reducible first | refine awN (tyOf_ok _) [] ?_ | refine awO (tyOf_ok _) [] ?_ | refine awP (tyOf_ok _) [] ?_ | refine awQ ?_ | refine awR ?_ | refine awS ?_); intro r hr; simp only [go_sem, Nat.reduceBEq, Nat.reduceBneDiff, Nat.reduceLT, Nat.reduceLeDiff, Nat.reduceAdd, Nat.reduceMul, Nat.reduceSub, Nat.reduceEqDiff, reduceCtorEq, hw1, hw, e1, g1, ge, encPs_len, encEs_len] at hr; subst hr; (first | refine caA (fun _ => plus2_p _ _ i5 i2) rfl ?_ ?_ ?_ | refine awV ?_ ?_ | refine awW ?_ ?_ | refine endK ?_ ?_ | (refine condK (fun h => ?_) (fun h => ?_) <;> (try simp only [go_sem, reduceCtorEq] at h) <;> (try (exfalso; omega))))) | fail)) <;> (try omega)
      exact ⟨(j + 1, min le e.least, max mo (plusL [1, e.most]), max de (1 + e.depth)), by simp only [go_sem, Nat.reduceBEq, Nat.reduceBneDiff, Nat.reduceLT, Nat.reduceLeDiff, Nat.reduceAdd, Nat.reduceMul, Nat.reduceSub, Nat.reduceEqDiff, reduceCtorEq]; exact rfl, ⟨hlt, hs.symm, by simp only; omega, by simp only; omega, by simp only; omega, by simp only; omega⟩, by simp only; omega⟩
    · have e1 : ((j : Int) < t.parts.length) = False := eq_false (by omega)
      (repeat' (first
    | exact trivial
    | (with_reducible first | refine awA ?_ | refine awB ?_ | refine awC ?_ | refine awD ?_ | refine awE ?_ | refine awF ?_ | refine awG ?_ | refine awH ?_ | refine awI ?_ | refine awJ ?_ | refine awK ?_ | refine awL ?_ | refine awM (by decide) ?_)
    | (refine aw_draw (id := 11) (t := (.node [0, 1, 2, 3, 4, 5, 6, 7, 8, 9] [])) (drR [2] [] []) mixed (by kernel_rfl) (by kernel_rfl) (fun _ _ h => h) ?_)
    | (refine aw_draw (id := 15) (t := (.node [0, 1, 2, 3, 4, 5, 6, 9, 7, 8, 10, 11, 12] [])) (drR [6, 2] [] []) mixed (by kernel_rfl) (by kernel_rfl) (fun _ _ h => h) ?_)
    | (refine aw_draw (id := 17) (t := (.node [0, 1, 2, 3, 4, 7, 8, 9, 5, 6, 10, 11, 12, 13] [])) (drR [2, 7] [] []) mixed (by kernel_rfl) (by kernel_rfl) (fun _ _ h => h) ?_)
    | (refine aw_draw (id := 19) (t := (.node [0, 1, 4, 5, 6, 7, 2, 3, 8, 9, 10, 11, 12] [])) (drR [8] [] []) mixed (by kernel_rfl) (by kernel_rfl) (fun _ _ h => h) ?_)
    | (refine aw_draw (id := 26) (t := (.node [0, 1, 2, 3, 7, 8, 9, 10, 11, 12, 4, 5, 6, 13, 14, 15, 16] [])) (drR [12] [112, 119] []) mixed (by kernel_rfl) (by kernel_rfl) (fun _ _ h => h) ?_)
    | (refine aw_draw (id := 35) (t := (.node [0, 1, 2, 3, 4, 8, 9, 10, 11, 12, 5, 6, 7, 16, 13, 14, 15, 17, 18, 19] [])) (drR [15] [152, 160] []) mixed (by kernel_rfl) (by kernel_rfl) (fun _ _ h => h) ?_)
    | (refine at_done (by simp only [List.filterMap_cons, List.filterMap_nil, List.getElem?_toArray, List.getElem?_cons_zero, List.getElem?_cons_succ]; exact rfl) ?_) | (refine at_alt (by simp only [List.filterMap_cons, List.filterMap_nil, List.getElem?_toArray, List.getElem?_cons_zero, List.getElem?_cons_succ]; exact rfl) ?_) | refine qalt_normal ?_ | refine ats_cons ?_ ?_ | exact ats_nil
    | ((with_reducible first | refine awN (tyOf_ok _) [] ?_ | refine awO (tyOf_ok _) [] ?_ | refine awP (tyOf_ok _) [] ?_ | refine awQ ?_ | refine awR ?_ | refine awS ?_); intro r hr; simp only [go_sem, Nat.reduceBEq, Nat.reduceBneDiff, Nat.reduceLT, Nat.reduceLeDiff, Nat.reduceAdd, Nat.reduceMul, Nat.reduceSub, Nat.reduceEqDiff, reduceCtorEq, hw1, e1] at hr; subst hr; (first | refine caA (fun _ => plus2_p _ _ i5 i6) rfl ?_ ?_ ?_ | refine awV ?_ ?_ | refine awW ?_ ?_ | refine endK ?_ ?_ | (refine condK (fun h => ?_) (fun h => ?_) <;> (try simp only [go_sem, reduceCtorEq] at h) <;> (try (exfalso; omega))))) | fail)) <;> (try omega)
      rw [take_len (by omega)] at hx
      rw [extM, if_neg (by omega), if_neg (by omega), if_neg (by omega), if_neg (by omega), if_neg (by omega), if_neg (by omega), if_pos hk, ← hx]
      exact rfl
  · have k7 : (t.kind = 7) = False := eq_false (by omega)
    have k8 : (t.kind = 8) = True := eq_true hk
    (repeat' (first
    | exact trivial
    | (with_reducible first | refine awA ?_ | refine awB ?_ | refine awC ?_ | refine awD ?_ | refine awE ?_ | refine awF ?_ | refine awG ?_ | refine awH ?_ | refine awI ?_ | refine awJ ?_ | refine awK ?_ | refine awL ?_ | refine awM (by decide) ?_)
    | (refine aw_draw (id := 11) (t := (.node [0, 1, 2, 3, 4, 5, 6, 7, 8, 9] [])) (drR [2] [] []) mixed (by kernel_rfl) (by kernel_rfl) (fun _ _ h => h) ?_)
    | (refine aw_draw (id := 15) (t := (.node [0, 1, 2, 3, 4, 5, 6, 9, 7, 8, 10, 11, 12] [])) (drR [6, 2] [] []) mixed (by kernel_rfl) (by kernel_rfl) (fun _ _ h => h) ?_)
    | (refine aw_draw (id := 17) (t := (.node [0, 1, 2, 3, 4, 7, 8, 9, 5, 6, 10, 11, 12, 13] [])) (drR [2, 7] [] []) mixed (by kernel_rfl) (by kernel_rfl) (fun _ _ h => h) ?_)
    | (refine aw_draw (id := 19) (t := (.node [0, 1, 4, 5, 6, 7, 2, 3, 8, 9, 10, 11, 12] [])) (drR [8] [] []) mixed (by kernel_rfl) (by kernel_rfl) (fun _ _ h => h) ?_)
    | (refine aw_draw (id := 26) (t := (.node [0, 1, 2, 3, 7, 8, 9, 10, 11, 12, 4, 5, 6, 13, 14, 15, 16] [])) (drR [12] [112, 119] []) mixed (by kernel_rfl) (by kernel_rfl) (fun _ _ h => h) ?_)
    | (refine aw_draw (id := 35) (t := (.node [0, 1, 2, 3, 4, 8, 9, 10, 11, 12, 5, 6, 7, 16, 13, 14, 15, 17, 18, 19] [])) (drR [15] [152, 160] []) mixed (by kernel_rfl) (by kernel_rfl) (fun _ _ h => h) ?_)
    | (refine at_done (by simp only [List.filterMap_cons, List.filterMap_nil, List.getElem?_toArray, List.getElem?_cons_zero, List.getElem?_cons_succ]; exact rfl) ?_) | (refine at_alt (by simp only [List.filterMap_cons, List.filterMap_nil, List.getElem?_toArray, List.getElem?_cons_zero, List.getElem?_cons_succ]; exact rfl) ?_) | refine qalt_normal ?_ | refine ats_cons ?_ ?_ | exact ats_nil
    | ((with_reducible first | refine awN (tyOf_ok _) [] ?_ | refine awO (tyOf_ok _) [] ?_ | refine awP (tyOf_ok _) [] ?_ | refine awQ ?_ | refine awR ?_ | refine awS ?_); intro r hr; simp only [go_sem, Nat.reduceBEq, Nat.reduceBneDiff, Nat.reduceLT, Nat.reduceLeDiff, Nat.reduceAdd, Nat.reduceMul, Nat.reduceSub, Nat.reduceEqDiff, reduceCtorEq, encPs_len, encEs_len, k1, k2, k3, k4, k5, k6, k7, k8] at hr; subst hr; (first | refine awV ?_ ?_ | refine awW ?_ ?_ | refine endK ?_ ?_ | (refine condK (fun h => ?_) (fun h => ?_) <;> (try simp only [go_sem, reduceCtorEq] at h) <;> (try (exfalso; omega))))) | fail)) <;> (try omega)
    refine go_loop [1, 4, 5, 133, 134, 135] [4, 5] (fun x : Nat × ExtM => ⟨[(1, true, .lst 4 (encEs L)), (4, true, .ptr 1 4 0 0), (5, true, .ptr 1 5 0 0), (133, true, .lst 3 (encPs t.parts)), (134, true, vI t.parts.length), (135, true, vI x.1)],
      [(4, .var [vB false, vI 0, vI 0, vI 0]), (5, .var [vB x.2.fixed, vI x.2.least, vI x.2.most, vI x.2.depth])]⟩)
      (fun x => x.1 ≤ t.parts.length ∧ x.2 = str L (t.parts.take x.1) ⟨true, 0, 0, 1⟩ ∧ (0 ≤ x.2.least ∧ x.2.least ≤ 4611686018427387904) ∧ (0 ≤ x.2.most ∧ x.2.most ≤ 4611686018427387904) ∧ 0 ≤ x.2.depth ∧ x.2.depth ≤ 1000000000001) (fun x => t.parts.length - x.1) (0, ⟨true, 0, 0, 1⟩) (by simp only [go_sem, Nat.reduceBEq, Nat.reduceBneDiff, Nat.reduceLT, Nat.reduceLeDiff, Nat.reduceAdd, Nat.reduceMul, Nat.reduceSub, Nat.reduceEqDiff, reduceCtorEq]; exact rfl) ⟨Nat.zero_le _, rfl, by decide, by decide, by decide, by decide⟩ ?_
    intro ⟨j, x⟩ ⟨hj, hx, hx1, hx2, hx3, hx4⟩
    simp only at hj hx hx1 hx2 hx3 hx4 ⊢
    have hw1 := wrap_i64 (n := (j : Int) + 1) (by omega)
    by_cases hlt : j < t.parts.length
    · have e1 : ((j : Int) < t.parts.length) = True := eq_true (by omega)
      have g1 := encPs_get hlt
      have hty := hp _ (List.getElem_mem hlt)
      have htl : (t.parts[j].ty).toNat < L.length := by omega
      have ge := encEs_get htl
      have hat : atE L t.parts[j].ty = L[(t.parts[j].ty).toNat] := by rw [atE, List.getElem?_eq_getElem htl]; rfl
      have hok := hL _ (List.getElem_mem htl)
      have hs := str_succ L t.parts ⟨true, 0, 0, 1⟩ hlt
      rw [← hx, hat] at hs
      generalize L[(t.parts[j].ty).toNat] = e at ge hat hok hs
      obtain ⟨hlo, hmo, hde⟩ := hok
      have hw := wrap_i64 (n := 1 + e.depth) (by omega)
      have i1 : I64 e.least := by unfold I64; omega
      have i2 : I64 e.most := by unfold I64; omega
      have b1 := withinM_bd (f := e.fixed) hlo
      have b2 := withinM_bd (f := e.fixed) hmo
      have i3 : I64 (withinM e.fixed e.least) := by unfold I64; omega
      have i4 : I64 (withinM e.fixed e.most) := by unfold I64; omega
      have i5 : I64 x.least := by unfold I64; omega
      have i6 : I64 x.most := by unfold I64; omega
      (repeat' (first
    | exact trivial
    | (with_reducible first | refine awA ?_ | refine awB ?_ | refine awC ?_ | refine awD ?_ | refine awE ?_ | refine awF ?_ | refine awG ?_ | refine awH ?_ | refine awI ?_ | refine awJ ?_ | refine awK ?_ | refine awL ?_ | refine awM (by decide) ?_)
    | (refine aw_draw (id := 11) (t := (.node [0, 1, 2, 3, 4, 5, 6, 7, 8, 9] [])) (drR [2] [] []) mixed (by kernel_rfl) (by kernel_rfl) (fun _ _ h => h) ?_)
    | (refine aw_draw (id := 15) (t := (.node [0, 1, 2, 3, 4, 5, 6, 9, 7, 8, 10, 11, 12] [])) (drR [6, 2] [] []) mixed (by kernel_rfl) (by kernel_rfl) (fun _ _ h => h) ?_)
    | (refine aw_draw (id := 17) (t := (.node [0, 1, 2, 3, 4, 7, 8, 9, 5, 6, 10, 11, 12, 13] [])) (drR [2, 7] [] []) mixed (by kernel_rfl) (by kernel_rfl) (fun _ _ h => h) ?_)
    | (refine aw_draw (id := 19) (t := (.node [0, 1, 4, 5, 6, 7, 2, 3, 8, 9, 10, 11, 12] [])) (drR [8] [] []) mixed (by kernel_rfl) (by kernel_rfl) (fun _ _ h => h) ?_)
    | (refine aw_draw (id := 26) (t := (.node [0, 1, 2, 3, 7, 8, 9, 10, 11, 12, 4, 5, 6, 13, 14, 15, 16] [])) (drR [12] [112, 119] []) mixed (by kernel_rfl) (by kernel_rfl) (fun _ _ h => h) ?_)
    | (refine aw_draw (id := 35) (t := (.node [0, 1, 2, 3, 4, 8, 9, 10, 11, 12, 5, 6, 7, 16, 13, 14, 15, 17, 18, 19] [])) (drR [15] [152, 160] []) mixed (by kernel_rfl) (by kernel_rfl) (fun _ _ h => h) ?_)
    | (refine at_done (by simp only [List.filterMap_cons, List.filterMap_nil, List.getElem?_toArray, List.getElem?_cons_zero, List.getElem?_cons_succ]; exact rfl) ?_) | (refine at_alt (by simp only [List.filterMap_cons, List.filterMap_nil, List.getElem?_toArray, List.getElem?_cons_zero, List.getElem?_cons_succ]; exact rfl) ?_) | refine qalt_normal ?_ | refine ats_cons ?_ ?_ | exact ats_nil
    | ((with_reducible first | refine awN (tyOf_ok _) [] ?_ | refine awO (tyOf_ok _) [] ?_ | refine awP (tyOf_ok _) [] ?_ | refine awQ ?_ | refine awR ?_ | refine awS ?_); intro r hr; simp only [go_sem, Nat.reduceBEq, Nat.reduceBneDiff, Nat.reduceLT, Nat.reduceLeDiff, Nat.reduceAdd, Nat.reduceMul, Nat.reduceSub, Nat.reduceEqDiff, reduceCtorEq, hw1, hw, e1, g1, ge, encPs_len, encEs_len] at hr; subst hr; (first | refine caA (fun _ => within_any e _ i1) rfl ?_ ?_ ?_ | refine caA (fun _ => within_any e _ i2) rfl ?_ ?_ ?_ | refine caA (fun _ => plus2_p _ _ i5 i3) rfl ?_ ?_ ?_ | refine caA (fun _ => plus2_p _ _ i6 i4) rfl ?_ ?_ ?_ | refine awV ?_ ?_ | refine awW ?_ ?_ | refine endK ?_ ?_ | (refine condK (fun h => ?_) (fun h => ?_) <;> (try simp only [go_sem, reduceCtorEq] at h) <;> (try (exfalso; omega))))) | fail)) <;> (try omega)
      exact ⟨(j + 1, ⟨x.fixed && e.fixed, plusL [x.least, withinM e.fixed e.least], plusL [x.most, withinM e.fixed e.most], max x.depth (1 + e.depth)⟩), by simp only [go_sem, Nat.reduceBEq, Nat.reduceBneDiff, Nat.reduceLT, Nat.reduceLeDiff, Nat.reduceAdd, Nat.reduceMul, Nat.reduceSub, Nat.reduceEqDiff, reduceCtorEq]; exact rfl, ⟨hlt, hs.symm, plusL_bd _, plusL_bd _, by simp only; omega, by simp only; omega⟩, by simp only; omega⟩
    · have e1 : ((j : Int) < t.parts.length) = False := eq_false (by omega)
      (repeat' (first
    | exact trivial
    | (with_reducible first | refine awA ?_ | refine awB ?_ | refine awC ?_ | refine awD ?_ | refine awE ?_ | refine awF ?_ | refine awG ?_ | refine awH ?_ | refine awI ?_ | refine awJ ?_ | refine awK ?_ | refine awL ?_ | refine awM (by decide) ?_)
    | (refine aw_draw (id := 11) (t := (.node [0, 1, 2, 3, 4, 5, 6, 7, 8, 9] [])) (drR [2] [] []) mixed (by kernel_rfl) (by kernel_rfl) (fun _ _ h => h) ?_)
    | (refine aw_draw (id := 15) (t := (.node [0, 1, 2, 3, 4, 5, 6, 9, 7, 8, 10, 11, 12] [])) (drR [6, 2] [] []) mixed (by kernel_rfl) (by kernel_rfl) (fun _ _ h => h) ?_)
    | (refine aw_draw (id := 17) (t := (.node [0, 1, 2, 3, 4, 7, 8, 9, 5, 6, 10, 11, 12, 13] [])) (drR [2, 7] [] []) mixed (by kernel_rfl) (by kernel_rfl) (fun _ _ h => h) ?_)
    | (refine aw_draw (id := 19) (t := (.node [0, 1, 4, 5, 6, 7, 2, 3, 8, 9, 10, 11, 12] [])) (drR [8] [] []) mixed (by kernel_rfl) (by kernel_rfl) (fun _ _ h => h) ?_)
    | (refine aw_draw (id := 26) (t := (.node [0, 1, 2, 3, 7, 8, 9, 10, 11, 12, 4, 5, 6, 13, 14, 15, 16] [])) (drR [12] [112, 119] []) mixed (by kernel_rfl) (by kernel_rfl) (fun _ _ h => h) ?_)
    | (refine aw_draw (id := 35) (t := (.node [0, 1, 2, 3, 4, 8, 9, 10, 11, 12, 5, 6, 7, 16, 13, 14, 15, 17, 18, 19] [])) (drR [15] [152, 160] []) mixed (by kernel_rfl) (by kernel_rfl) (fun _ _ h => h) ?_)
    | (refine at_done (by simp only [List.filterMap_cons, List.filterMap_nil, List.getElem?_toArray, List.getElem?_cons_zero, List.getElem?_cons_succ]; exact rfl) ?_) | (refine at_alt (by simp only [List.filterMap_cons, List.filterMap_nil, List.getElem?_toArray, List.getElem?_cons_zero, List.getElem?_cons_succ]; exact rfl) ?_) | refine qalt_normal ?_ | refine ats_cons ?_ ?_ | exact ats_nil
    | ((with_reducible first | refine awN (tyOf_ok _) [] ?_ | refine awO (tyOf_ok _) [] ?_ | refine awP (tyOf_ok _) [] ?_ | refine awQ ?_ | refine awR ?_ | refine awS ?_); intro r hr; simp only [go_sem, Nat.reduceBEq, Nat.reduceBneDiff, Nat.reduceLT, Nat.reduceLeDiff, Nat.reduceAdd, Nat.reduceMul, Nat.reduceSub, Nat.reduceEqDiff, reduceCtorEq, hw1, e1] at hr; subst hr; (first | refine awV ?_ ?_ | refine awW ?_ ?_ | refine endK ?_ ?_ | (refine condK (fun h => ?_) (fun h => ?_) <;> (try simp only [go_sem, reduceCtorEq] at h) <;> (try (exfalso; omega))))) | fail)) <;> (try omega)
      rw [take_len (by omega)] at hx
      rw [extM, if_neg (by omega), if_neg (by omega), if_neg (by omega), if_neg (by omega), if_neg (by omega), if_neg (by omega), if_neg (by omega), ← hx]
      exact rfl
end Go.Proofs.Ytljfgohecmhchaa
end
section
namespace Go.Proofs.Ytljfgohecmhchaa
open Go.RowKit
set_option maxRecDepth 100000
theorem extent_any (t : TypeM) (L : List ExtM) (hr : rightOK t L.length = true) (hl : t.parts.length ≤ 1000000000) (hL : ∀ e ∈ L, extOK e) : PCall Try.prog 31 [.agg [vI t.kind, vI t.n, vI t.elem, .lst 3 (encPs t.parts)], .lst 4 (encEs L)] (fun r => r = vE (extM t L)) := by
  have ht := rightOK_ty hr
  rcases rightOK_kind hr with hk | hk | hk
  · exact leaf_any t L hk
  · have hn := rightOK_n hr hk
    exact elem_any t L (by unfold I64; omega) hL (ht.1 hk) hk
  · exact parts_ext t L hL ht.2 hl hk
end Go.Proofs.Ytljfgohecmhchaa
end
section
namespace Go.Proofs.Ytljfgohecmhchaa
open Go.RowKit
theorem atE_ok {L : List ExtM} {B : Int} (hB : 0 ≤ B) (hL : ∀ e ∈ L, extOK e ∧ e.depth ≤ B) (i : Int) : extOK (atE L i) ∧ (atE L i).depth ≤ B := by
  unfold atE
  cases h : L[i.toNat]? with
  | none => exact ⟨⟨by decide, by decide, by decide, by decide⟩, hB⟩
  | some e => exact hL e (List.mem_of_getElem? h)
theorem str_ok {L : List ExtM} {B : Int} (hB : 0 ≤ B) (hL : ∀ e ∈ L, extOK e ∧ e.depth ≤ B) : ∀ (l : List PartM) (x : ExtM), (0 ≤ x.least ∧ x.least ≤ 4611686018427387904) ∧ (0 ≤ x.most ∧ x.most ≤ 4611686018427387904) ∧ 0 ≤ x.depth ∧ x.depth ≤ B + 1 →
    (0 ≤ (str L l x).least ∧ (str L l x).least ≤ 4611686018427387904) ∧ (0 ≤ (str L l x).most ∧ (str L l x).most ≤ 4611686018427387904) ∧ 0 ≤ (str L l x).depth ∧ (str L l x).depth ≤ B + 1
  | [], _, h => h
  | p :: l, x, h => str_ok hB hL l _ ⟨plusL_bd _, plusL_bd _, by have := (atE_ok hB hL p.ty); have := this.1.2.2; simp only; omega, by have := (atE_ok hB hL p.ty).2; simp only; omega⟩
theorem uni_ok {L : List ExtM} {B : Int} (hB : 0 ≤ B) (hL : ∀ e ∈ L, extOK e ∧ e.depth ≤ B) : ∀ (l : List PartM) (x : Int × Int × Int), (0 ≤ x.1 ∧ x.1 ≤ 4611686018427387904) ∧ (0 ≤ x.2.1 ∧ x.2.1 ≤ 4611686018427387904) ∧ 0 ≤ x.2.2 ∧ x.2.2 ≤ B + 1 →
    (0 ≤ (uni L l x).1 ∧ (uni L l x).1 ≤ 4611686018427387904) ∧ (0 ≤ (uni L l x).2.1 ∧ (uni L l x).2.1 ≤ 4611686018427387904) ∧ 0 ≤ (uni L l x).2.2 ∧ (uni L l x).2.2 ≤ B + 1
  | [], _, h => h
  | p :: l, x, h => uni_ok hB hL l _ (by
    obtain ⟨⟨h1, h2, h3⟩, h4⟩ := atE_ok hB hL p.ty
    have h5 := plusL_bd [1, (atE L p.ty).most]
    exact ⟨by simp only; omega, by simp only; omega, by simp only; omega, by simp only; omega⟩)
theorem extM_ok {t : TypeM} {L : List ExtM} {k : Int} {B : Int} (hB : 0 ≤ B) (hB2 : B ≤ 900000000000) (hr : rightOK t k = true) (hL : ∀ e ∈ L, extOK e ∧ e.depth ≤ B) : extOK (extM t L) ∧ (extM t L).depth ≤ B + 1 := by
  have ha := atE_ok hB hL t.elem
  obtain ⟨⟨h1, h2, h3⟩, h4⟩ := ha
  unfold extM
  split
  · rename_i hk
    rw [rightOK, Bool.and_eq_true, numberOK, if_pos hk] at hr
    have := hr.1
    simp only [Bool.or_eq_true, decide_eq_true_eq] at this
    exact ⟨⟨by simp only; omega, by simp only; omega, by simp only; omega, by simp only; omega⟩, by simp only; omega⟩
  · split
    · exact ⟨⟨by decide, by decide, by decide, by decide⟩, by simp only; omega⟩
    · split
      · exact ⟨⟨by decide, by decide, by decide, by decide⟩, by simp only; omega⟩
      · split
        · exact ⟨⟨timesS_bd _ _, timesS_bd _ _, by simp only; omega, by simp only; omega⟩, by simp only; omega⟩
        · split
          · exact ⟨⟨by simp only; omega, timesS_bd _ _, by simp only; omega, by simp only; omega⟩, by simp only; omega⟩
          · split
            · exact ⟨⟨by simp only; omega, plusL_bd _, by simp only; omega, by simp only; omega⟩, by simp only; omega⟩
            · split
              · have := uni_ok hB hL t.parts (4611686018427387904, 0, 1) ⟨by decide, by decide, by decide, by simp only; omega⟩
                exact ⟨⟨plusL_bd _, this.2.1, this.2.2.1, by have := this.2.2.2; simp only; omega⟩, this.2.2.2⟩
              · have := str_ok hB hL t.parts ⟨true, 0, 0, 1⟩ ⟨by decide, by decide, by decide, by simp only; omega⟩
                exact ⟨⟨this.1, this.2.1, this.2.2.1, by omega⟩, this.2.2.2⟩
end Go.Proofs.Ytljfgohecmhchaa
end
section
namespace Go.Proofs.Ytljfgohecmhchaa
open Go.RowKit
set_option maxRecDepth 100000
set_option maxHeartbeats 4000000
def exts (l : List TypeM) : List ExtM := l.foldl (fun L t => L ++ [extM t L]) []
theorem exts_succ {l : List TypeM} {k : Nat} (h : k < l.length) : exts (l.take (k + 1)) = exts (l.take k) ++ [extM l[k] (exts (l.take k))] := by
  rw [List.take_succ_eq_append_getElem h, exts, List.foldl_append]; rfl
def sizesF (ts : List TypeM) (rs : List RootM) : List ExtM × Int := if (checkF ts rs).1 ≠ 0 then ([], (checkF ts rs).1) else (exts ts, 0)
theorem exts_len (l : List TypeM) : ∀ k, k ≤ l.length → (exts (l.take k)).length = k := by
  intro k
  induction k with
  | zero => intro _; rfl
  | succ k ih => intro h; rw [exts_succ (by omega), List.length_append, ih (by omega)]; rfl
theorem sizeOf_any (ts : List TypeM) (rs : List RootM) (hts : ts.length ≤ 1000000000) (hrs : rs.length ≤ 1000000000) (hp : ∀ t ∈ ts, t.parts.length ≤ 1000000000) : PCall Try.prog 17 [vSch ts rs] (fun r => r = .tup [.lst 4 (encEs (sizesF ts rs).1), vI (sizesF ts rs).2]) := by
  refine go_fnU (tyOf_ok _) Try.func17 rfl rfl (by rw [Try.results17]) Try.ntmps17 rfl fun E => ?_
  (repeat' (first
    | exact trivial
    | (with_reducible first | refine awA ?_ | refine awB ?_ | refine awC ?_ | refine awD ?_ | refine awE ?_ | refine awF ?_ | refine awG ?_ | refine awH ?_ | refine awI ?_ | refine awJ ?_ | refine awK ?_ | refine awL ?_ | refine awM (by decide) ?_)
    | (refine aw_draw (id := 3) (t := (.node [0, 1, 2, 3] [])) (drR [4] [] []) mixed (by kernel_rfl) (by kernel_rfl) (fun _ _ h => h) ?_)
    | (refine at_done (by simp only [List.filterMap_cons, List.filterMap_nil, List.getElem?_toArray, List.getElem?_cons_zero, List.getElem?_cons_succ]; exact rfl) ?_) | (refine at_alt (by simp only [List.filterMap_cons, List.filterMap_nil, List.getElem?_toArray, List.getElem?_cons_zero, List.getElem?_cons_succ]; exact rfl) ?_) | refine qalt_normal ?_ | refine ats_cons ?_ ?_ | exact ats_nil
    | ((with_reducible first | refine awN (tyOf_ok _) [] ?_ | refine awO (tyOf_ok _) [] ?_ | refine awP (tyOf_ok _) [] ?_ | refine awQ ?_ | refine awR ?_ | refine awS ?_); intro r hr; simp only [go_sem, Nat.reduceBEq, Nat.reduceBneDiff, Nat.reduceLT, Nat.reduceLeDiff, Nat.reduceAdd, Nat.reduceMul, Nat.reduceSub, Nat.reduceEqDiff, reduceCtorEq, encTs_len, vSch, vF] at hr; subst hr; (first | refine caA (fun _ => check_any ts rs hts hrs hp) rfl ?_ ?_ ?_ | refine awV ?_ ?_ | refine awW ?_ ?_ | refine endK ?_ ?_ | (refine condK (fun h => ?_) (fun h => ?_) <;> (try simp only [go_sem, reduceCtorEq] at h) <;> (try (exfalso; omega))))) | fail)) <;> (try omega)
  · rw [sizesF, if_pos h]; exact AV.up_nil2 _ _
  have h0 := h
  have hr := check_right h
  refine aw_nilrow 5 69 4 5 (.inl (by decide)) (by simp only [go_sem, Nat.reduceBEq, Nat.reduceBneDiff, Nat.reduceLT, Nat.reduceLeDiff, Nat.reduceAdd, Nat.reduceMul, Nat.reduceSub, Nat.reduceEqDiff, reduceCtorEq]) ?_
  refine go_loop [5, 16, 17, 18] [5] (fun k : Nat => ⟨[(5, true, .ref 69 4 5 0 (encEs (exts (ts.take k))).length), (16, true, .lst 4 (encTs ts)), (17, true, vI ts.length), (18, true, vI k)],
    [(5, .row 69 4 (encEs (exts (ts.take k))))]⟩)
    (fun k => k ≤ ts.length ∧ ∀ e ∈ exts (ts.take k), extOK e ∧ e.depth ≤ k) (fun k => ts.length - k) 0 (by simp only [AState.nilrow, go_sem, Nat.reduceBEq, Nat.reduceBneDiff, Nat.reduceLT, Nat.reduceLeDiff, Nat.reduceAdd, Nat.reduceMul, Nat.reduceSub, Nat.reduceEqDiff, reduceCtorEq]; exact rfl) ⟨Nat.zero_le _, fun e h => by cases h⟩ ?_
  intro k ⟨hk, hL⟩
  have hw1 := wrap_i64 (n := (k : Int) + 1) (by omega)
  by_cases hlt : k < ts.length
  · have e1 : ((k : Int) < ts.length) = True := eq_true (by omega)
    have g1 := encTs_get hlt
    have hEl := exts_len ts k hk
    have hrk := hr k hlt
    have hok := extM_ok (by omega) (by omega) hrk hL
    have hnext := exts_succ hlt
    have hc := extent_any ts[k] (exts (ts.take k)) (by rw [hEl]; exact hrk) (hp _ (List.getElem_mem hlt)) (fun e he => (hL e he).1)
    generalize exts (ts.take k) = L at *
    have happ : encEs L ++ [[vB (extM ts[k] L).fixed, vI (extM ts[k] L).least, vI (extM ts[k] L).most, vI (extM ts[k] L).depth]] = encEs (exts (ts.take (k + 1))) := by rw [hnext]; simp [encEs, encE]
    have hlen : (encEs (exts (ts.take (k + 1)))).length = k + 1 := by rw [hnext]; simp [encEs, hEl]
    (repeat' (first
    | exact trivial
    | (with_reducible first | refine awA ?_ | refine awB ?_ | refine awC ?_ | refine awD ?_ | refine awE ?_ | refine awF ?_ | refine awG ?_ | refine awH ?_ | refine awI ?_ | refine awJ ?_ | refine awK ?_ | refine awL ?_ | refine awM (by decide) ?_)
    | (refine aw_draw (id := 3) (t := (.node [0, 1, 2, 3] [])) (drR [4] [] []) mixed (by kernel_rfl) (by kernel_rfl) (fun _ _ h => h) ?_)
    | (refine at_done (by simp only [List.filterMap_cons, List.filterMap_nil, List.getElem?_toArray, List.getElem?_cons_zero, List.getElem?_cons_succ]; exact rfl) ?_) | (refine at_alt (by simp only [List.filterMap_cons, List.filterMap_nil, List.getElem?_toArray, List.getElem?_cons_zero, List.getElem?_cons_succ]; exact rfl) ?_) | refine qalt_normal ?_ | refine ats_cons ?_ ?_ | exact ats_nil
    | ((with_reducible first | refine awN (tyOf_ok _) [] ?_ | refine awO (tyOf_ok _) [] ?_ | refine awP (tyOf_ok _) [] ?_ | refine awQ ?_ | refine awR ?_ | refine awS ?_); intro r hr; simp only [go_sem, Nat.reduceBEq, Nat.reduceBneDiff, Nat.reduceLT, Nat.reduceLeDiff, Nat.reduceAdd, Nat.reduceMul, Nat.reduceSub, Nat.reduceEqDiff, reduceCtorEq, hw1, e1, g1, encTs_len, vE, happ, take_len (Nat.le_refl _)] at hr; subst hr; (first | refine caA (fun _ => hc) rfl ?_ ?_ ?_ | refine awV ?_ ?_ | refine awW ?_ ?_ | refine endK ?_ ?_ | (refine condK (fun h => ?_) (fun h => ?_) <;> (try simp only [go_sem, reduceCtorEq] at h) <;> (try (exfalso; omega))))) | fail)) <;> (try omega)
    refine ⟨k + 1, by simp only [go_sem, Nat.reduceBEq, Nat.reduceBneDiff, Nat.reduceLT, Nat.reduceLeDiff, Nat.reduceAdd, Nat.reduceMul, Nat.reduceSub, Nat.reduceEqDiff, reduceCtorEq]; exact rfl, ⟨hlt, fun e he => ?_⟩, by omega⟩
    rw [hnext] at he
    rcases List.mem_append.1 he with he | he
    · have := hL e he
      exact ⟨this.1, by have := this.2; omega⟩
    · rw [List.mem_singleton] at he
      subst he
      exact ⟨hok.1, by have := hok.2; omega⟩
  · have e1 : ((k : Int) < ts.length) = False := eq_false (by omega)
    (repeat' (first
    | exact trivial
    | (with_reducible first | refine awA ?_ | refine awB ?_ | refine awC ?_ | refine awD ?_ | refine awE ?_ | refine awF ?_ | refine awG ?_ | refine awH ?_ | refine awI ?_ | refine awJ ?_ | refine awK ?_ | refine awL ?_ | refine awM (by decide) ?_)
    | (refine aw_draw (id := 3) (t := (.node [0, 1, 2, 3] [])) (drR [4] [] []) mixed (by kernel_rfl) (by kernel_rfl) (fun _ _ h => h) ?_)
    | (refine at_done (by simp only [List.filterMap_cons, List.filterMap_nil, List.getElem?_toArray, List.getElem?_cons_zero, List.getElem?_cons_succ]; exact rfl) ?_) | (refine at_alt (by simp only [List.filterMap_cons, List.filterMap_nil, List.getElem?_toArray, List.getElem?_cons_zero, List.getElem?_cons_succ]; exact rfl) ?_) | refine qalt_normal ?_ | refine ats_cons ?_ ?_ | exact ats_nil
    | ((with_reducible first | refine awN (tyOf_ok _) [] ?_ | refine awO (tyOf_ok _) [] ?_ | refine awP (tyOf_ok _) [] ?_ | refine awQ ?_ | refine awR ?_ | refine awS ?_); intro r hr; simp only [go_sem, Nat.reduceBEq, Nat.reduceBneDiff, Nat.reduceLT, Nat.reduceLeDiff, Nat.reduceAdd, Nat.reduceMul, Nat.reduceSub, Nat.reduceEqDiff, reduceCtorEq, hw1, e1] at hr; subst hr; (first | refine awV ?_ ?_ | refine awW ?_ ?_ | refine endK ?_ ?_ | (refine condK (fun h => ?_) (fun h => ?_) <;> (try simp only [go_sem, reduceCtorEq] at h) <;> (try (exfalso; omega))))) | fail)) <;> (try omega)
    have hke : ts.take k = ts := take_len (by omega)
    rw [hke, take_len (Nat.le_refl _), sizesF, if_neg (fun g => g h0)]
    exact AV.up_rfl _
end Go.Proofs.Ytljfgohecmhchaa
end
section
namespace Go.Proofs.Ytljfgohecmhchaa
open Go.RowKit
set_option maxRecDepth 100000
theorem same_any (xs ys : List Int) (hx : xs.length ≤ 4611686018427387904) : PCall Try.prog 23 [.lst 1 (v8 xs), .lst 1 (v8 ys)] (fun r => r = .v (.bool (decide (xs = ys)))) := by
  refine go_fn (tyOf_ok _) Try.func23 rfl rfl (by rw [Try.results23]) Try.ntmps23 rfl fun E => ?_
  (repeat' (first
    | exact trivial
    | (with_reducible first | refine awA ?_ | refine awB ?_ | refine awC ?_ | refine awD ?_ | refine awE ?_ | refine awF ?_ | refine awG ?_ | refine awH ?_ | refine awI ?_ | refine awJ ?_ | refine awK ?_ | refine awL ?_ | refine awM (by decide) ?_)
    | (refine aw_draw (id := 6) (t := (.node [0, 1, 2, 3, 4, 5, 6, 7, 8] [])) (drR [] [20, 24] []) mixed (by kernel_rfl) (by kernel_rfl) (fun _ _ h => h) ?_)
    | (refine at_done (by simp only [List.filterMap_cons, List.filterMap_nil, List.getElem?_toArray, List.getElem?_cons_zero, List.getElem?_cons_succ]; exact rfl) ?_) | (refine at_alt (by simp only [List.filterMap_cons, List.filterMap_nil, List.getElem?_toArray, List.getElem?_cons_zero, List.getElem?_cons_succ]; exact rfl) ?_) | refine qalt_normal ?_ | refine ats_cons ?_ ?_ | exact ats_nil
    | ((with_reducible first | refine awN (tyOf_ok _) [] ?_ | refine awO (tyOf_ok _) [] ?_ | refine awP (tyOf_ok _) [] ?_ | refine awQ ?_ | refine awR ?_ | refine awS ?_); intro r hr; simp only [go_sem, Nat.reduceBEq, Nat.reduceBneDiff, Nat.reduceLT, Nat.reduceLeDiff, Nat.reduceAdd, Nat.reduceMul, Nat.reduceSub, Nat.reduceEqDiff, reduceCtorEq, v8_len] at hr; subst hr; (first | refine awV ?_ ?_ | refine awW ?_ ?_ | refine endK ?_ ?_ | (refine condK (fun h => ?_) (fun h => ?_) <;> (try simp only [go_sem, reduceCtorEq] at h) <;> (try (exfalso; omega))))) | fail)) <;> (try omega)
  · show AV.v _ = AV.v _
    rw [decide_eq_false (fun e => h (by rw [e]))]
  refine go_loop [0, 1, 5] [] (fun k : Nat => ⟨[(0, true, .lst 1 (v8 xs)), (1, true, .lst 1 (v8 ys)), (5, true, .v (.int .i64 k))], []⟩) (fun k => k ≤ xs.length ∧ xs.take k = ys.take k) (fun k => xs.length - k) 0 (by simp only [go_sem, Nat.reduceBEq, Nat.reduceBneDiff, Nat.reduceLT, Nat.reduceLeDiff, Nat.reduceAdd, Nat.reduceMul, Nat.reduceSub, Nat.reduceEqDiff, reduceCtorEq]; exact rfl) ⟨Nat.zero_le _, rfl⟩ ?_
  intro k ⟨hk, heq⟩
  have hl : xs.length = ys.length := by omega
  have hw := wrap_i64 (n := (k : Int) + 1) (by omega)
  by_cases hlt : k < xs.length
  · have g1 := v8_get hlt
    have g2 := v8_get (zs := ys) (k := k) (by omega)
    (repeat' (first
    | exact trivial
    | (with_reducible first | refine awA ?_ | refine awB ?_ | refine awC ?_ | refine awD ?_ | refine awE ?_ | refine awF ?_ | refine awG ?_ | refine awH ?_ | refine awI ?_ | refine awJ ?_ | refine awK ?_ | refine awL ?_ | refine awM (by decide) ?_)
    | (refine aw_draw (id := 6) (t := (.node [0, 1, 2, 3, 4, 5, 6, 7, 8] [])) (drR [] [20, 24] []) mixed (by kernel_rfl) (by kernel_rfl) (fun _ _ h => h) ?_)
    | (refine at_done (by simp only [List.filterMap_cons, List.filterMap_nil, List.getElem?_toArray, List.getElem?_cons_zero, List.getElem?_cons_succ]; exact rfl) ?_) | (refine at_alt (by simp only [List.filterMap_cons, List.filterMap_nil, List.getElem?_toArray, List.getElem?_cons_zero, List.getElem?_cons_succ]; exact rfl) ?_) | refine qalt_normal ?_ | refine ats_cons ?_ ?_ | exact ats_nil
    | ((with_reducible first | refine awN (tyOf_ok _) [] ?_ | refine awO (tyOf_ok _) [] ?_ | refine awP (tyOf_ok _) [] ?_ | refine awQ ?_ | refine awR ?_ | refine awS ?_); intro r hr; simp only [go_sem, Nat.reduceBEq, Nat.reduceBneDiff, Nat.reduceLT, Nat.reduceLeDiff, Nat.reduceAdd, Nat.reduceMul, Nat.reduceSub, Nat.reduceEqDiff, reduceCtorEq, v8_len, g1, g2, hw] at hr; subst hr; (first | refine awV ?_ ?_ | refine awW ?_ ?_ | refine endK ?_ ?_ | (refine condK (fun h => ?_) (fun h => ?_) <;> (try simp only [go_sem, reduceCtorEq] at h) <;> (try (exfalso; omega))))) | fail)) <;> (try omega)
    · show AV.v _ = AV.v _
      rw [decide_eq_false (fun e => by subst e; exact h rfl)]
    · refine ⟨k + 1, by simp only [go_sem, Nat.reduceBEq, Nat.reduceBneDiff, Nat.reduceLT, Nat.reduceLeDiff, Nat.reduceAdd, Nat.reduceMul, Nat.reduceSub, Nat.reduceEqDiff, reduceCtorEq]; exact rfl, ⟨by omega, ?_⟩, by omega⟩
      rw [List.take_succ_eq_append_getElem hlt, List.take_succ_eq_append_getElem (by omega), heq]
      simp_all
  · (repeat' (first
    | exact trivial
    | (with_reducible first | refine awA ?_ | refine awB ?_ | refine awC ?_ | refine awD ?_ | refine awE ?_ | refine awF ?_ | refine awG ?_ | refine awH ?_ | refine awI ?_ | refine awJ ?_ | refine awK ?_ | refine awL ?_ | refine awM (by decide) ?_)
    | (refine aw_draw (id := 6) (t := (.node [0, 1, 2, 3, 4, 5, 6, 7, 8] [])) (drR [] [20, 24] []) mixed (by kernel_rfl) (by kernel_rfl) (fun _ _ h => h) ?_)
    | (refine at_done (by simp only [List.filterMap_cons, List.filterMap_nil, List.getElem?_toArray, List.getElem?_cons_zero, List.getElem?_cons_succ]; exact rfl) ?_) | (refine at_alt (by simp only [List.filterMap_cons, List.filterMap_nil, List.getElem?_toArray, List.getElem?_cons_zero, List.getElem?_cons_succ]; exact rfl) ?_) | refine qalt_normal ?_ | refine ats_cons ?_ ?_ | exact ats_nil
    | ((with_reducible first | refine awN (tyOf_ok _) [] ?_ | refine awO (tyOf_ok _) [] ?_ | refine awP (tyOf_ok _) [] ?_ | refine awQ ?_ | refine awR ?_ | refine awS ?_); intro r hr; simp only [go_sem, Nat.reduceBEq, Nat.reduceBneDiff, Nat.reduceLT, Nat.reduceLeDiff, Nat.reduceAdd, Nat.reduceMul, Nat.reduceSub, Nat.reduceEqDiff, reduceCtorEq, v8_len, hw] at hr; subst hr; (first | refine awV ?_ ?_ | refine awW ?_ ?_ | refine endK ?_ ?_ | (refine condK (fun h => ?_) (fun h => ?_) <;> (try simp only [go_sem, reduceCtorEq] at h) <;> (try (exfalso; omega))))) | fail)) <;> (try omega)
    show AV.v _ = AV.v _
    rw [take_len (by omega), take_len (by omega)] at heq
    rw [decide_eq_true heq]

def offs : Int → List Int → Option (List Int)
  | _, [] => some []
  | x, n :: ns => if 4294967295 < x then none else (offs (x + min n 4294967296) ns).map (x :: ·)
theorem offs_step {x : Int} {xs : List Int} {k : Nat} (h : k < xs.length) : offs x (xs.drop k) = if 4294967295 < x then none else (offs (x + min xs[k] 4294967296) (xs.drop (k + 1))).map (x :: ·) := by
  rw [List.drop_eq_getElem_cons h]; rfl
def offsets (x : Int) (xs : List Int) : List Int × Int :=
  if x < 0 then ([], 3) else if ∃ n ∈ xs, n < 0 then ([], 3) else match offs x xs with
  | none => ([], 91)
  | some l => (l, 0)
def lerr (r : List Int × Int) : AV := .tup [.lst 1 (v8 r.1), .v (.int .i64 r.2)]
theorem drop_len {α : Type} {l : List α} {k : Nat} (h : l.length ≤ k) : l.drop k = [] := List.drop_of_length_le h
theorem offsets_any (x : Int) (hx : I64 x) (xs : List Int) (hl : xs.length ≤ 1000000000) (hxs : ∀ z ∈ xs, I64 z) : PCall Try.prog 22 [.v (.int .i64 x), .lst 1 (v8 xs)] (fun r => r = lerr (offsets x xs)) := by
  refine go_fnU (tyOf_ok _) Try.func22 rfl rfl (by rw [Try.results22]) Try.ntmps22 rfl fun E => ?_
  have hx' := hx
  unfold I64 at hx
  (repeat' (first
    | exact trivial
    | (with_reducible first | refine awA ?_ | refine awB ?_ | refine awC ?_ | refine awD ?_ | refine awE ?_ | refine awF ?_ | refine awG ?_ | refine awH ?_ | refine awI ?_ | refine awJ ?_ | refine awK ?_ | refine awL ?_ | refine awM (by decide) ?_)
    | ((with_reducible first | refine awN (tyOf_ok _) [] ?_ | refine awO (tyOf_ok _) [] ?_ | refine awP (tyOf_ok _) [] ?_ | refine awQ ?_ | refine awR ?_ | refine awS ?_); intro r hr; simp only [go_sem, Nat.reduceBEq, Nat.reduceBneDiff, Nat.reduceLT, Nat.reduceLeDiff, Nat.reduceAdd, Nat.reduceMul, Nat.reduceSub, Nat.reduceEqDiff, reduceCtorEq, v8_len] at hr; subst hr; (first | refine awV ?_ ?_ | refine awW ?_ ?_ | refine endK ?_ ?_ | (refine condK (fun h => ?_) (fun h => ?_) <;> (try simp only [go_sem, reduceCtorEq] at h) <;> (try (exfalso; omega))))) | fail)) <;> (try omega)
  · rw [lerr, offsets, if_pos h]; exact AV.up_nil2 _ _
  · refine go_loop [0, 1, 14, 15, 16] [] (fun k : Nat => ⟨[(0, true, .v (.int .i64 x)), (1, true, .lst 1 (v8 xs)), (14, true, .lst 1 (v8 xs)), (15, true, .v (.int .i64 xs.length)), (16, true, .v (.int .i64 k))], []⟩) (fun k => k ≤ xs.length ∧ ∀ i (hi : i < xs.length), i < k → 0 ≤ xs[i]) (fun k => xs.length - k) 0 (by simp only [go_sem, Nat.reduceBEq, Nat.reduceBneDiff, Nat.reduceLT, Nat.reduceLeDiff, Nat.reduceAdd, Nat.reduceMul, Nat.reduceSub, Nat.reduceEqDiff, reduceCtorEq, v8_len]; exact rfl) ⟨Nat.zero_le _, fun _ _ h => by omega⟩ ?_
    intro k ⟨hk, hpos⟩
    have hw := wrap_i64 (n := (k : Int) + 1) (by omega)
    by_cases hlt : k < xs.length
    · have g1 := v8_get hlt
      (repeat' (first
    | exact trivial
    | (with_reducible first | refine awA ?_ | refine awB ?_ | refine awC ?_ | refine awD ?_ | refine awE ?_ | refine awF ?_ | refine awG ?_ | refine awH ?_ | refine awI ?_ | refine awJ ?_ | refine awK ?_ | refine awL ?_ | refine awM (by decide) ?_)
    | ((with_reducible first | refine awN (tyOf_ok _) [] ?_ | refine awO (tyOf_ok _) [] ?_ | refine awP (tyOf_ok _) [] ?_ | refine awQ ?_ | refine awR ?_ | refine awS ?_); intro r hr; simp only [go_sem, Nat.reduceBEq, Nat.reduceBneDiff, Nat.reduceLT, Nat.reduceLeDiff, Nat.reduceAdd, Nat.reduceMul, Nat.reduceSub, Nat.reduceEqDiff, reduceCtorEq, v8_len, g1, hw] at hr; subst hr; (first | refine awV ?_ ?_ | refine awW ?_ ?_ | refine endK ?_ ?_ | (refine condK (fun h => ?_) (fun h => ?_) <;> (try simp only [go_sem, reduceCtorEq] at h) <;> (try (exfalso; omega))))) | fail)) <;> (try omega)
      · rw [lerr, offsets, if_neg (by omega), if_pos ⟨_, List.getElem_mem hlt, h⟩]; exact AV.up_nil2 _ _
      · refine ⟨k + 1, by simp only [go_sem, Nat.reduceBEq, Nat.reduceBneDiff, Nat.reduceLT, Nat.reduceLeDiff, Nat.reduceAdd, Nat.reduceMul, Nat.reduceSub, Nat.reduceEqDiff, reduceCtorEq]; exact rfl, ⟨by omega, fun i hi hik => ?_⟩, by omega⟩
        rcases Nat.lt_or_ge i k with h' | h'
        · exact hpos i hi h'
        · have : i = k := by omega
          subst this; omega
    · (repeat' (first
    | exact trivial
    | (with_reducible first | refine awA ?_ | refine awB ?_ | refine awC ?_ | refine awD ?_ | refine awE ?_ | refine awF ?_ | refine awG ?_ | refine awH ?_ | refine awI ?_ | refine awJ ?_ | refine awK ?_ | refine awL ?_ | refine awM (by decide) ?_)
    | ((with_reducible first | refine awN (tyOf_ok _) [] ?_ | refine awO (tyOf_ok _) [] ?_ | refine awP (tyOf_ok _) [] ?_ | refine awQ ?_ | refine awR ?_ | refine awS ?_); intro r hr; simp only [go_sem, Nat.reduceBEq, Nat.reduceBneDiff, Nat.reduceLT, Nat.reduceLeDiff, Nat.reduceAdd, Nat.reduceMul, Nat.reduceSub, Nat.reduceEqDiff, reduceCtorEq, v8_len, hw] at hr; subst hr; (first | refine awV ?_ ?_ | refine awW ?_ ?_ | refine endK ?_ ?_ | (refine condK (fun h => ?_) (fun h => ?_) <;> (try simp only [go_sem, reduceCtorEq] at h) <;> (try (exfalso; omega))))) | fail)) <;> (try omega)
      have hall : ∀ n ∈ xs, 0 ≤ n := fun n hn => by
        obtain ⟨i, hi, rfl⟩ := List.getElem_of_mem hn
        exact hpos i hi (by omega)
      have hns : ¬ ∃ n ∈ xs, n < 0 := fun ⟨n, hn, hn0⟩ => absurd (hall n hn) (by omega)
      refine aw_nilrow 8 3 1 8 (.inl (by decide)) (by simp only [go_sem, Nat.reduceBEq, Nat.reduceBneDiff, Nat.reduceLT, Nat.reduceLeDiff, Nat.reduceAdd, Nat.reduceMul, Nat.reduceSub, Nat.reduceEqDiff, reduceCtorEq]) ?_
      refine go_loop [24, 25, 26, 8, 9] [8] (fun p : Nat × List Int × Int => ⟨[(24, true, .lst 1 (v8 xs)), (25, true, .v (.int .i64 xs.length)), (26, true, .v (.int .i64 p.1)), (8, true, .ref 3 1 8 0 (v8 p.2.1).length), (9, true, .v (.int .i64 p.2.2))], [(8, .row 3 1 (v8 p.2.1))]⟩)
        (fun p => p.1 ≤ xs.length ∧ p.2.1.length = p.1 ∧ 0 ≤ p.2.2 ∧ I64 p.2.2 ∧ offs x xs = (offs p.2.2 (xs.drop p.1)).map (p.2.1 ++ ·)) (fun p => xs.length - p.1) (0, [], x) (by simp only [AState.nilrow, go_sem, Nat.reduceBEq, Nat.reduceBneDiff, Nat.reduceLT, Nat.reduceLeDiff, Nat.reduceAdd, Nat.reduceMul, Nat.reduceSub, Nat.reduceEqDiff, reduceCtorEq]; exact rfl) ⟨Nat.zero_le _, rfl, by show 0 ≤ x; omega, hx', by simp⟩ ?_
      clear hk hlt hw h hpos k
      intro ⟨k, out, at_⟩ ⟨hk, hlen, h0, hat, heq⟩
      simp only at hk hlen h0 hat heq ⊢
      unfold I64 at hat
      have hw := wrap_i64 (n := (k : Int) + 1) (by omega)
      by_cases hlt : k < xs.length
      · have g1 := v8_get hlt
        have hp := hall _ (List.getElem_mem hlt)
        have hm : I64 xs[k] := hxs _ (List.getElem_mem hlt)
        unfold I64 at hm
        have hso : (v8 out).length + 1 = k + 1 := by rw [v8_len, hlen]
        have hwm := fun h : at_ ≤ 4294967295 => wrap_i64 (n := at_ + min xs[k] 4294967296) (by omega)
        (repeat' (first
    | exact trivial
    | (with_reducible first | refine awA ?_ | refine awB ?_ | refine awC ?_ | refine awD ?_ | refine awE ?_ | refine awF ?_ | refine awG ?_ | refine awH ?_ | refine awI ?_ | refine awJ ?_ | refine awK ?_ | refine awL ?_ | refine awM (by decide) ?_)
    | ((with_reducible first | refine awN (tyOf_ok _) [] ?_ | refine awO (tyOf_ok _) [] ?_ | refine awP (tyOf_ok _) [] ?_ | refine awQ ?_ | refine awR ?_ | refine awS ?_); intro r hr; simp only [go_sem, Nat.reduceBEq, Nat.reduceBneDiff, Nat.reduceLT, Nat.reduceLeDiff, Nat.reduceAdd, Nat.reduceMul, Nat.reduceSub, Nat.reduceEqDiff, reduceCtorEq, v8_len, g1, hw, v8_app, v8_take, take_len (Nat.le_refl _)] at hr; subst hr; (first | refine awV ?_ ?_ | refine awW ?_ ?_ | refine endK ?_ ?_ | (refine condK (fun h => ?_) (fun h => ?_) <;> (try simp only [go_sem, reduceCtorEq] at h) <;> (try (exfalso; omega))))) | fail)) <;> (try omega)
        · have he : offsets x xs = ([], 91) := by
            rw [offsets, if_neg (by omega), if_neg hns, heq, offs_step hlt, if_pos h]; rfl
          rw [he]; exact AV.up_nil2 _ _
        · simp only [List.length_append, List.length_singleton]; omega
        · refine ⟨(k + 1, out ++ [at_], at_ + min xs[k] 4294967296), by simp only [go_sem, Nat.reduceBEq, Nat.reduceBneDiff, Nat.reduceLT, Nat.reduceLeDiff, Nat.reduceAdd, Nat.reduceMul, Nat.reduceSub, Nat.reduceEqDiff, reduceCtorEq, v8_len, hwm (by omega)]; exact rfl, ⟨hlt, by simp [hlen], by simp only; omega, by unfold I64; simp only; omega, ?_⟩, by simp only; omega⟩
          rw [heq, offs_step hlt, if_neg h, Option.map_map]
          congr 1
          funext l
          simp
      · (repeat' (first
    | exact trivial
    | (with_reducible first | refine awA ?_ | refine awB ?_ | refine awC ?_ | refine awD ?_ | refine awE ?_ | refine awF ?_ | refine awG ?_ | refine awH ?_ | refine awI ?_ | refine awJ ?_ | refine awK ?_ | refine awL ?_ | refine awM (by decide) ?_)
    | ((with_reducible first | refine awN (tyOf_ok _) [] ?_ | refine awO (tyOf_ok _) [] ?_ | refine awP (tyOf_ok _) [] ?_ | refine awQ ?_ | refine awR ?_ | refine awS ?_); intro r hr; simp only [go_sem, Nat.reduceBEq, Nat.reduceBneDiff, Nat.reduceLT, Nat.reduceLeDiff, Nat.reduceAdd, Nat.reduceMul, Nat.reduceSub, Nat.reduceEqDiff, reduceCtorEq, v8_len, hw] at hr; subst hr; (first | refine awV ?_ ?_ | refine awW ?_ ?_ | refine endK ?_ ?_ | (refine condK (fun h => ?_) (fun h => ?_) <;> (try simp only [go_sem, reduceCtorEq] at h) <;> (try (exfalso; omega))))) | fail)) <;> (try omega)
        have he : offsets x xs = (out, 0) := by
          rw [offsets, if_neg (by omega), if_neg hns, heq, drop_len (by omega)]; simp [offs]
        rw [he, take_len (by rw [v8_len]; exact Nat.le_refl _)]
        exact AV.up_rfl _
end Go.Proofs.Ytljfgohecmhchaa
end
section
namespace Go.Proofs.Ytljfgohecmhchaa
open Go.RowKit
set_option maxRecDepth 100000
def bad (x : Int) (xs : List Int) (e : Int) (i : Nat) : Bool := decide ((i = 0 ∧ xs.getD i 0 ≠ x) ∨ (0 < i ∧ xs.getD i 0 < xs.getD (i - 1) 0) ∨ e < xs.getD i 0)
def diffs (xs : List Int) (e : Int) (n : Nat) : List Int := (List.range n).map fun i => xs.getD (i + 1) e - xs.getD i 0
def lengths (x : Int) (xs : List Int) (e : Int) : List Int × Int × Int :=
  if x < 0 then ([], 0, 3) else match (List.range xs.length).find? (bad x xs e) with
  | some i => ([], i, 122)
  | none => (diffs xs e xs.length, 0, 0)
def lerr3 (r : List Int × Int × Int) : AV := .tup [.lst 1 (v8 r.1), .v (.int .i64 r.2.1), .v (.int .i64 r.2.2)]
theorem getD_lt {xs : List Int} {k : Nat} (h : k < xs.length) (d : Int) : xs.getD k d = xs[k] := by simp [h]
theorem diffs_succ (xs : List Int) (e : Int) (n : Nat) : diffs xs e (n + 1) = diffs xs e n ++ [xs.getD (n + 1) e - xs.getD n 0] := by simp [diffs, List.range_succ]
theorem bad_nonneg {x : Int} {xs : List Int} {e : Int} (hx : 0 ≤ x) : ∀ (k : Nat), k < xs.length → (∀ i, i ≤ k → bad x xs e i = false) → 0 ≤ xs.getD k 0 := by
  intro k
  induction k with
  | zero =>
    intro _ h
    have := h 0 (Nat.le_refl _)
    simp only [bad, decide_eq_false_iff_not, true_and, not_or, ne_eq, Decidable.not_not] at this
    omega
  | succ k ih =>
    intro hk h
    have h1 := ih (by omega) (fun i hi => h i (by omega))
    have := h (k + 1) (Nat.le_refl _)
    simp only [bad, decide_eq_false_iff_not, Nat.add_sub_cancel] at this
    omega
set_option maxHeartbeats 1000000 in
theorem lengths_any (x : Int) (hx : I64 x) (xs : List Int) (hl : xs.length ≤ 1000000000) (hxs : ∀ z ∈ xs, I64 z) (e : Int) (he : I64 e) : PCall Try.prog 24 [.v (.int .i64 x), .lst 1 (v8 xs), .v (.int .i64 e)] (fun r => r = lerr3 (lengths x xs e)) := by
  refine go_fnU (tyOf_ok _) Try.func24 rfl rfl (by rw [Try.results24]) Try.ntmps24 rfl fun E => ?_
  have hx' := hx
  unfold I64 at hx
  (repeat' (first
    | exact trivial
    | (with_reducible first | refine awA ?_ | refine awB ?_ | refine awC ?_ | refine awD ?_ | refine awE ?_ | refine awF ?_ | refine awG ?_ | refine awH ?_ | refine awI ?_ | refine awJ ?_ | refine awK ?_ | refine awL ?_ | refine awM (by decide) ?_)
    | ((with_reducible first | refine awN (tyOf_ok _) [] ?_ | refine awO (tyOf_ok _) [] ?_ | refine awP (tyOf_ok _) [] ?_ | refine awQ ?_ | refine awR ?_ | refine awS ?_); intro r hr; simp only [go_sem, Nat.reduceBEq, Nat.reduceBneDiff, Nat.reduceLT, Nat.reduceLeDiff, Nat.reduceAdd, Nat.reduceMul, Nat.reduceSub, Nat.reduceEqDiff, reduceCtorEq, v8_len] at hr; subst hr; (first | refine awV ?_ ?_ | refine awW ?_ ?_ | refine endK ?_ ?_ | (refine condK (fun h => ?_) (fun h => ?_) <;> (try simp only [go_sem, reduceCtorEq] at h) <;> (try (exfalso; omega))))) | fail)) <;> (try omega)
  · rw [lerr3, lengths, if_pos h]; exact AV.up_nil3 _ _ _
  · refine go_loop [0, 1, 2, 17, 18, 19] [] (fun k : Nat => ⟨[(0, true, .v (.int .i64 x)), (1, true, .lst 1 (v8 xs)), (2, true, .v (.int .i64 e)), (17, true, .lst 1 (v8 xs)), (18, true, .v (.int .i64 xs.length)), (19, true, .v (.int .i64 k))], []⟩) (fun k => k ≤ xs.length ∧ ∀ i, i < k → bad x xs e i = false) (fun k => xs.length - k) 0 (by simp only [go_sem, Nat.reduceBEq, Nat.reduceBneDiff, Nat.reduceLT, Nat.reduceLeDiff, Nat.reduceAdd, Nat.reduceMul, Nat.reduceSub, Nat.reduceEqDiff, reduceCtorEq, v8_len]; exact rfl) ⟨Nat.zero_le _, fun _ h => by omega⟩ ?_
    intro k ⟨hk, hgood⟩
    have hw := wrap_i64 (n := (k : Int) + 1) (by omega)
    by_cases hlt : k < xs.length
    · have g1 := v8_get hlt
      have hbad : (List.range xs.length).find? (bad x xs e) = some k ↔ bad x xs e k = true := by
        rw [List.find?_range_eq_some]
        refine ⟨fun h => h.1, fun h => ⟨h, List.mem_range.2 hlt, fun j hj => by simp [hgood j hj]⟩⟩
      have hnext : bad x xs e k = false → ∀ i, i < k + 1 → bad x xs e i = false := fun hb i hi => by
        rcases Nat.lt_or_ge i k with h' | h'
        · exact hgood i h'
        · have : i = k := by omega
          subst this; exact hb
      have hgk := getD_lt hlt 0
      have hend : bad x xs e k = true → (AV.tup [AV.v (Value.slice none 0 0), AV.v (Value.int IntKind.i64 ↑k), AV.v (Value.int IntKind.i64 122)]).up (lerr3 (lengths x xs e)) := fun hb => by
        rw [lerr3, lengths, if_neg (by omega), hbad.2 hb]; exact AV.up_nil3 _ _ _
      rcases Nat.eq_zero_or_pos k with hk0 | hk0
      · have e1 : ((k : Int) = 0) = True := eq_true (by omega)
        have e2 : ((0 : Int) < k) = False := eq_false (by omega)
        have hw1 := wrap_i64 (n := (k : Int) - 1) (by omega)
        have g0 : (v8 xs)[((k : Int) - 1).toNat]? = some [.v (.int .i64 xs[k])] := by rw [show ((k : Int) - 1).toNat = k by omega]; exact v8_get (by omega)
        by_cases e3 : xs[k] = x
        · have e4 : (xs[k] = x) = True := eq_true e3
          (repeat' (first
    | exact trivial
    | (with_reducible first | refine awA ?_ | refine awB ?_ | refine awC ?_ | refine awD ?_ | refine awE ?_ | refine awF ?_ | refine awG ?_ | refine awH ?_ | refine awI ?_ | refine awJ ?_ | refine awK ?_ | refine awL ?_ | refine awM (by decide) ?_)
    | ((with_reducible first | refine awN (tyOf_ok _) [] ?_ | refine awO (tyOf_ok _) [] ?_ | refine awP (tyOf_ok _) [] ?_ | refine awQ ?_ | refine awR ?_ | refine awS ?_); intro r hr; simp only [go_sem, Nat.reduceBEq, Nat.reduceBneDiff, Nat.reduceLT, Nat.reduceLeDiff, Nat.reduceAdd, Nat.reduceMul, Nat.reduceSub, Nat.reduceEqDiff, reduceCtorEq, v8_len, g1, hw, hw1, g0, e1, e2, e4] at hr; subst hr; (first | refine awV ?_ ?_ | refine awW ?_ ?_ | refine endK ?_ ?_ | (refine condK (fun h => ?_) (fun h => ?_) <;> (try simp only [go_sem, reduceCtorEq] at h) <;> (try (exfalso; omega))))) | fail)) <;> (try omega)
          · exact hend (by simp only [bad, decide_eq_true_eq, hgk]; omega)
          · exact ⟨k + 1, by simp only [go_sem, Nat.reduceBEq, Nat.reduceBneDiff, Nat.reduceLT, Nat.reduceLeDiff, Nat.reduceAdd, Nat.reduceMul, Nat.reduceSub, Nat.reduceEqDiff, reduceCtorEq]; exact rfl, ⟨by omega, hnext (by simp only [bad, decide_eq_false_iff_not, hgk]; omega)⟩, by omega⟩
        · (repeat' (first
    | exact trivial
    | (with_reducible first | refine awA ?_ | refine awB ?_ | refine awC ?_ | refine awD ?_ | refine awE ?_ | refine awF ?_ | refine awG ?_ | refine awH ?_ | refine awI ?_ | refine awJ ?_ | refine awK ?_ | refine awL ?_ | refine awM (by decide) ?_)
    | ((with_reducible first | refine awN (tyOf_ok _) [] ?_ | refine awO (tyOf_ok _) [] ?_ | refine awP (tyOf_ok _) [] ?_ | refine awQ ?_ | refine awR ?_ | refine awS ?_); intro r hr; simp only [go_sem, Nat.reduceBEq, Nat.reduceBneDiff, Nat.reduceLT, Nat.reduceLeDiff, Nat.reduceAdd, Nat.reduceMul, Nat.reduceSub, Nat.reduceEqDiff, reduceCtorEq, v8_len, g1, hw, hw1, g0, e1, e2, e3] at hr; subst hr; (first | refine awV ?_ ?_ | refine awW ?_ ?_ | refine endK ?_ ?_ | (refine condK (fun h => ?_) (fun h => ?_) <;> (try simp only [go_sem, reduceCtorEq] at h) <;> (try (exfalso; omega))))) | fail)) <;> (try omega)
          · exact hend (by simp only [bad, decide_eq_true_eq, hgk]; omega)
      · have e1 : ((k : Int) = 0) = False := eq_false (by omega)
        have e2 : ((0 : Int) < k) = True := eq_true (by omega)
        have hw1 := wrap_i64 (n := (k : Int) - 1) (by omega)
        have g0 : (v8 xs)[((k : Int) - 1).toNat]? = some [.v (.int .i64 xs[k - 1])] := by rw [show ((k : Int) - 1).toNat = k - 1 by omega]; exact v8_get (by omega)
        (repeat' (first
    | exact trivial
    | (with_reducible first | refine awA ?_ | refine awB ?_ | refine awC ?_ | refine awD ?_ | refine awE ?_ | refine awF ?_ | refine awG ?_ | refine awH ?_ | refine awI ?_ | refine awJ ?_ | refine awK ?_ | refine awL ?_ | refine awM (by decide) ?_)
    | ((with_reducible first | refine awN (tyOf_ok _) [] ?_ | refine awO (tyOf_ok _) [] ?_ | refine awP (tyOf_ok _) [] ?_ | refine awQ ?_ | refine awR ?_ | refine awS ?_); intro r hr; simp only [go_sem, Nat.reduceBEq, Nat.reduceBneDiff, Nat.reduceLT, Nat.reduceLeDiff, Nat.reduceAdd, Nat.reduceMul, Nat.reduceSub, Nat.reduceEqDiff, reduceCtorEq, v8_len, g1, g0, hw, hw1, e1, e2] at hr; subst hr; (first | refine awV ?_ ?_ | refine awW ?_ ?_ | refine endK ?_ ?_ | (refine condK (fun h => ?_) (fun h => ?_) <;> (try simp only [go_sem, reduceCtorEq] at h) <;> (try (exfalso; omega))))) | fail)) <;> (try omega)
        · exact hend (by simp only [bad, decide_eq_true_eq, hgk, getD_lt (xs := xs) (k := k - 1) (by omega) 0]; omega)
        · exact ⟨k + 1, by simp only [go_sem, Nat.reduceBEq, Nat.reduceBneDiff, Nat.reduceLT, Nat.reduceLeDiff, Nat.reduceAdd, Nat.reduceMul, Nat.reduceSub, Nat.reduceEqDiff, reduceCtorEq]; exact rfl, ⟨by omega, hnext (by simp only [bad, decide_eq_false_iff_not, hgk, getD_lt (xs := xs) (k := k - 1) (by omega) 0]; omega)⟩, by omega⟩
    · (repeat' (first
    | exact trivial
    | (with_reducible first | refine awA ?_ | refine awB ?_ | refine awC ?_ | refine awD ?_ | refine awE ?_ | refine awF ?_ | refine awG ?_ | refine awH ?_ | refine awI ?_ | refine awJ ?_ | refine awK ?_ | refine awL ?_ | refine awM (by decide) ?_)
    | ((with_reducible first | refine awN (tyOf_ok _) [] ?_ | refine awO (tyOf_ok _) [] ?_ | refine awP (tyOf_ok _) [] ?_ | refine awQ ?_ | refine awR ?_ | refine awS ?_); intro r hr; simp only [go_sem, Nat.reduceBEq, Nat.reduceBneDiff, Nat.reduceLT, Nat.reduceLeDiff, Nat.reduceAdd, Nat.reduceMul, Nat.reduceSub, Nat.reduceEqDiff, reduceCtorEq, v8_len, hw] at hr; subst hr; (first | refine awV ?_ ?_ | refine awW ?_ ?_ | refine endK ?_ ?_ | (refine condK (fun h => ?_) (fun h => ?_) <;> (try simp only [go_sem, reduceCtorEq] at h) <;> (try (exfalso; omega))))) | fail)) <;> (try omega)
      have hall : ∀ i, i < xs.length → bad x xs e i = false := fun i hi => hgood i (by omega)
      refine aw_nilrow 11 3 1 11 (.inl (by decide)) (by simp only [go_sem, Nat.reduceBEq, Nat.reduceBneDiff, Nat.reduceLT, Nat.reduceLeDiff, Nat.reduceAdd, Nat.reduceMul, Nat.reduceSub, Nat.reduceEqDiff, reduceCtorEq]) ?_
      refine go_loop [1, 2, 51, 52, 53, 11] [11] (fun k : Nat => ⟨[(1, true, .lst 1 (v8 xs)), (2, true, .v (.int .i64 e)), (51, true, .lst 1 (v8 xs)), (52, true, .v (.int .i64 xs.length)), (53, true, .v (.int .i64 k)), (11, true, .ref 3 1 11 0 (v8 (diffs xs e k)).length)], [(11, .row 3 1 (v8 (diffs xs e k)))]⟩)
        (fun k => k ≤ xs.length) (fun k => xs.length - k) 0 (by simp only [AState.nilrow, go_sem, Nat.reduceBEq, Nat.reduceBneDiff, Nat.reduceLT, Nat.reduceLeDiff, Nat.reduceAdd, Nat.reduceMul, Nat.reduceSub, Nat.reduceEqDiff, reduceCtorEq]; exact rfl) (Nat.zero_le _) ?_
      clear hk hlt hw h hgood k
      intro k hk
      have hw := wrap_i64 (n := (k : Int) + 1) (by omega)
      by_cases hlt : k < xs.length
      · have g1 := v8_get hlt
        have hgk := getD_lt hlt 0
        have hnn := bad_nonneg (by omega) k hlt (fun i hi => hall i (by omega))
        have hi := hxs _ (List.getElem_mem hlt)
        have hb := hall k hlt
        simp only [bad, decide_eq_false_iff_not, not_or, hgk] at hb hnn
        unfold I64 at he hi
        have hdl : ∀ k, (diffs xs e k).length = k := fun k => by simp [diffs]
        by_cases hn : k + 1 < xs.length
        · have g2 := v8_get hn
          have e1 : ((k : Int) + 1 < xs.length) = True := eq_true (by omega)
          have hgk' := getD_lt hn e
          have hgk'' := getD_lt hn 0
          have hi2 := hxs _ (List.getElem_mem hn)
          have hb2 := hall (k + 1) hn
          simp only [bad, decide_eq_false_iff_not, not_or, hgk'', hgk, Nat.add_sub_cancel] at hb2
          unfold I64 at hi2
          have hw2 := wrap_i64 (n := xs[k + 1] - xs[k]) (by omega)
          have g3 : ((k : Int) + 1).toNat = k + 1 := by omega
          have hds : diffs xs e k ++ [xs[k + 1] - xs[k]] = diffs xs e (k + 1) := by rw [diffs_succ, hgk, hgk']
          (repeat' (first
    | exact trivial
    | (with_reducible first | refine awA ?_ | refine awB ?_ | refine awC ?_ | refine awD ?_ | refine awE ?_ | refine awF ?_ | refine awG ?_ | refine awH ?_ | refine awI ?_ | refine awJ ?_ | refine awK ?_ | refine awL ?_ | refine awM (by decide) ?_)
    | ((with_reducible first | refine awN (tyOf_ok _) [] ?_ | refine awO (tyOf_ok _) [] ?_ | refine awP (tyOf_ok _) [] ?_ | refine awQ ?_ | refine awR ?_ | refine awS ?_); intro r hr; simp only [go_sem, Nat.reduceBEq, Nat.reduceBneDiff, Nat.reduceLT, Nat.reduceLeDiff, Nat.reduceAdd, Nat.reduceMul, Nat.reduceSub, Nat.reduceEqDiff, reduceCtorEq, v8_len, g1, g2, g3, hw, hw2, e1, v8_app, v8_take, take_len (Nat.le_refl _), hds] at hr; subst hr; (first | refine awV ?_ ?_ | refine awW ?_ ?_ | refine endK ?_ ?_ | (refine condK (fun h => ?_) (fun h => ?_) <;> (try simp only [go_sem, reduceCtorEq] at h) <;> (try (exfalso; omega))))) | fail)) <;> (try omega)
          · rw [hdl (k + 1)]; omega
          · exact ⟨k + 1, by simp only [go_sem, Nat.reduceBEq, Nat.reduceBneDiff, Nat.reduceLT, Nat.reduceLeDiff, Nat.reduceAdd, Nat.reduceMul, Nat.reduceSub, Nat.reduceEqDiff, reduceCtorEq, v8_len]; exact rfl, by omega, by omega⟩
        · have e1 : ((k : Int) + 1 < xs.length) = False := eq_false (by omega)
          have hgk' : xs.getD (k + 1) e = e := by simp [List.getElem?_eq_none (show xs.length ≤ k + 1 by omega)]
          have hw2 := wrap_i64 (n := e - xs[k]) (by omega)
          have hds : diffs xs e k ++ [e - xs[k]] = diffs xs e (k + 1) := by rw [diffs_succ, hgk, hgk']
          (repeat' (first
    | exact trivial
    | (with_reducible first | refine awA ?_ | refine awB ?_ | refine awC ?_ | refine awD ?_ | refine awE ?_ | refine awF ?_ | refine awG ?_ | refine awH ?_ | refine awI ?_ | refine awJ ?_ | refine awK ?_ | refine awL ?_ | refine awM (by decide) ?_)
    | ((with_reducible first | refine awN (tyOf_ok _) [] ?_ | refine awO (tyOf_ok _) [] ?_ | refine awP (tyOf_ok _) [] ?_ | refine awQ ?_ | refine awR ?_ | refine awS ?_); intro r hr; simp only [go_sem, Nat.reduceBEq, Nat.reduceBneDiff, Nat.reduceLT, Nat.reduceLeDiff, Nat.reduceAdd, Nat.reduceMul, Nat.reduceSub, Nat.reduceEqDiff, reduceCtorEq, v8_len, g1, hw, hw2, e1, v8_app, v8_take, take_len (Nat.le_refl _), hds] at hr; subst hr; (first | refine awV ?_ ?_ | refine awW ?_ ?_ | refine endK ?_ ?_ | (refine condK (fun h => ?_) (fun h => ?_) <;> (try simp only [go_sem, reduceCtorEq] at h) <;> (try (exfalso; omega))))) | fail)) <;> (try omega)
          · rw [hdl (k + 1)]; omega
          · exact ⟨k + 1, by simp only [go_sem, Nat.reduceBEq, Nat.reduceBneDiff, Nat.reduceLT, Nat.reduceLeDiff, Nat.reduceAdd, Nat.reduceMul, Nat.reduceSub, Nat.reduceEqDiff, reduceCtorEq, v8_len]; exact rfl, by omega, by omega⟩
      · (repeat' (first
    | exact trivial
    | (with_reducible first | refine awA ?_ | refine awB ?_ | refine awC ?_ | refine awD ?_ | refine awE ?_ | refine awF ?_ | refine awG ?_ | refine awH ?_ | refine awI ?_ | refine awJ ?_ | refine awK ?_ | refine awL ?_ | refine awM (by decide) ?_)
    | ((with_reducible first | refine awN (tyOf_ok _) [] ?_ | refine awO (tyOf_ok _) [] ?_ | refine awP (tyOf_ok _) [] ?_ | refine awQ ?_ | refine awR ?_ | refine awS ?_); intro r hr; simp only [go_sem, Nat.reduceBEq, Nat.reduceBneDiff, Nat.reduceLT, Nat.reduceLeDiff, Nat.reduceAdd, Nat.reduceMul, Nat.reduceSub, Nat.reduceEqDiff, reduceCtorEq, v8_len, hw] at hr; subst hr; (first | refine awV ?_ ?_ | refine awW ?_ ?_ | refine endK ?_ ?_ | (refine condK (fun h => ?_) (fun h => ?_) <;> (try simp only [go_sem, reduceCtorEq] at h) <;> (try (exfalso; omega))))) | fail)) <;> (try omega)
        have hke : k = xs.length := by omega
        subst hke
        rw [take_len (by rw [v8_len]; exact Nat.le_refl _)]
        have hno : (List.range xs.length).find? (bad x xs e) = none := by
          rw [List.find?_range_eq_none]
          intro i hi
          simp [hall i hi]
        rw [lerr3, lengths, if_neg (by omega), hno]
        exact AV.up_rfl _
end Go.Proofs.Ytljfgohecmhchaa
end
section
namespace Go.Proofs.Ytljfgohecmhchaa
open Go.RowKit
set_option maxRecDepth 100000
set_option maxHeartbeats 4000000
structure SlotM where
  at_ : Int
  var : Bool
  size : Int
structure LayM where
  size : Int
  slots : List SlotM
def encS (s : SlotM) : List AV := [vI s.at_, vB s.var, vI s.size]
def encSs (l : List SlotM) : List (List AV) := l.map encS
theorem encSs_len (l : List SlotM) : (encSs l).length = l.length := by simp [encSs]
theorem encSs_app (l : List SlotM) (s : SlotM) : encSs l ++ [[vI s.at_, vB s.var, vI s.size]] = encSs (l ++ [s]) := by simp [encSs, encS]
def encL (l : LayM) : List AV := [vI l.size, .lst 3 (encSs l.slots)]
def encLs (l : List LayM) : List (List AV) := l.map encL
def slotOf (e : ExtM) (a : Int) : SlotM := ⟨a, !e.fixed, if e.fixed = true then e.most else 4⟩
def layAdd (L : List ExtM) (l : LayM) (p : PartM) : LayM := ⟨plusL [l.size, (slotOf (atE L p.ty) l.size).size], l.slots ++ [slotOf (atE L p.ty) l.size]⟩
def layM (t : TypeM) (L : List ExtM) : LayM :=
  if t.kind = 8 then t.parts.foldl (layAdd L) ⟨0, []⟩
  else if t.kind = 4 then ⟨timesS t.n (slotOf (atE L t.elem) 0).size, [slotOf (atE L t.elem) 0]⟩
  else if t.kind = 5 then ⟨0, [slotOf (atE L t.elem) 0]⟩ else ⟨0, []⟩
theorem lay_succ (L : List ExtM) (l : List PartM) (x : LayM) {j : Nat} (h : j < l.length) : (l.take (j + 1)).foldl (layAdd L) x = layAdd L ((l.take j).foldl (layAdd L) x) l[j] := by
  rw [List.take_succ_eq_append_getElem h, List.foldl_append]; rfl
def vLay (l : LayM) : AV := .agg [vI l.size, .lst 3 (encSs l.slots)]
theorem slotS {e : ExtM} {a : Int} : slotM e.fixed e.most a = .agg [vI (slotOf e a).at_, vB (slotOf e a).var, vI (slotOf e a).size] := rfl
theorem lone_any (t : TypeM) (L : List ExtM) (hr : rightOK t L.length = true) (hl : t.parts.length ≤ 1000000000) (hL : ∀ e ∈ L, extOK e) : PCall Try.prog 25 [.agg [vI t.kind, vI t.n, vI t.elem, .lst 3 (encPs t.parts)], .lst 4 (encEs L)] (fun r => r = vLay (layM t L)) := by
  have ht := rightOK_ty hr
  refine go_fnU (tyOf_ok _) Try.func25 rfl rfl (by rw [Try.results25]) Try.ntmps25 rfl fun E => ?_
  by_cases k8 : t.kind = 8
  · have e8 : (t.kind = 8) = True := eq_true k8
    (repeat' (first
    | exact trivial
    | (with_reducible first | refine awA ?_ | refine awB ?_ | refine awC ?_ | refine awD ?_ | refine awE ?_ | refine awF ?_ | refine awG ?_ | refine awH ?_ | refine awI ?_ | refine awJ ?_ | refine awK ?_ | refine awL ?_ | refine awM (by decide) ?_)
    | (refine aw_draw (id := 7) (t := (.node [0, 1, 2, 3, 4, 5, 6] [(.node [7, 8, 9] []), (.node [8, 7, 9] [])])) (drR [7, 5] [25] []) mixed (by kernel_rfl) (by kernel_rfl) (fun _ _ h => h) ?_)
    | (refine aw_draw (id := 14) (t := (.node [0, 1, 2, 3, 5] [(.node [4, 6, 7, 8] []), (.node [6, 4, 7, 8] [])])) (drR [2, 9] [] []) mixed (by kernel_rfl) (by kernel_rfl) (fun _ _ h => h) ?_)
    | (refine at_done (by simp only [List.filterMap_cons, List.filterMap_nil, List.getElem?_toArray, List.getElem?_cons_zero, List.getElem?_cons_succ]; exact rfl) ?_) | (refine at_alt (by simp only [List.filterMap_cons, List.filterMap_nil, List.getElem?_toArray, List.getElem?_cons_zero, List.getElem?_cons_succ]; exact rfl) ?_) | refine qalt_normal ?_ | refine ats_cons ?_ ?_ | exact ats_nil
    | ((with_reducible first | refine awN (tyOf_ok _) [] ?_ | refine awO (tyOf_ok _) [] ?_ | refine awP (tyOf_ok _) [] ?_ | refine awQ ?_ | refine awR ?_ | refine awS ?_); intro r hr; simp only [go_sem, Nat.reduceBEq, Nat.reduceBneDiff, Nat.reduceLT, Nat.reduceLeDiff, Nat.reduceAdd, Nat.reduceMul, Nat.reduceSub, Nat.reduceEqDiff, reduceCtorEq, encPs_len, encEs_len, e8] at hr; subst hr; (first | refine awV ?_ ?_ | refine awW ?_ ?_ | refine endK ?_ ?_ | (refine condK (fun h => ?_) (fun h => ?_) <;> (try simp only [go_sem, reduceCtorEq] at h) <;> (try (exfalso; omega))))) | fail)) <;> (try omega)
    refine aw_nilvar 5 1 55 3 33 (cs := [vI 0, .v (.slice none 0 0)]) (.inl (by decide)) (by decide) (by simp only [go_sem, Nat.reduceBEq, Nat.reduceBneDiff, Nat.reduceLT, Nat.reduceLeDiff, Nat.reduceAdd, Nat.reduceMul, Nat.reduceSub, Nat.reduceEqDiff, reduceCtorEq]) rfl ?_
    refine go_loop [1, 4, 5, 15, 16, 17] [4, 5, 33] (fun x : Nat × LayM => ⟨[(1, true, .lst 4 (encEs L)), (4, true, .ptr 1 4 0 0), (5, true, .ptr 1 5 0 0), (15, true, .lst 3 (encPs t.parts)), (16, true, vI t.parts.length), (17, true, vI x.1)],
      [(4, .var [vI 0, .v (.slice none 0 0)]), (5, .var [vI x.2.size, .ref 55 3 33 0 (encSs x.2.slots).length]), (33, .row 55 3 (encSs x.2.slots))]⟩)
      (fun x => x.1 ≤ t.parts.length ∧ x.2 = (t.parts.take x.1).foldl (layAdd L) ⟨0, []⟩ ∧ x.2.slots.length = x.1 ∧ 0 ≤ x.2.size ∧ x.2.size ≤ 4611686018427387904) (fun x => t.parts.length - x.1) (0, ⟨0, []⟩) (by simp only [AState.nilvar, go_sem, Nat.reduceBEq, Nat.reduceBneDiff, Nat.reduceLT, Nat.reduceLeDiff, Nat.reduceAdd, Nat.reduceMul, Nat.reduceSub, Nat.reduceEqDiff, reduceCtorEq]; exact rfl) ⟨Nat.zero_le _, rfl, rfl, by decide, by decide⟩ ?_
    intro ⟨j, x⟩ ⟨hj, hx, hxl, hx1, hx2⟩
    simp only at hj hx hxl hx1 hx2 ⊢
    have hw1 := wrap_i64 (n := (j : Int) + 1) (by omega)
    by_cases hlt : j < t.parts.length
    · have e1 : ((j : Int) < t.parts.length) = True := eq_true (by omega)
      have g1 := encPs_get hlt
      have hty := ht.2 _ (List.getElem_mem hlt)
      have htl : (t.parts[j].ty).toNat < L.length := by omega
      have ge := encEs_get htl
      have hat : atE L t.parts[j].ty = L[(t.parts[j].ty).toNat] := by rw [atE, List.getElem?_eq_getElem htl]; rfl
      have hok := hL _ (List.getElem_mem htl)
      have hs := lay_succ L t.parts ⟨0, []⟩ hlt
      rw [← hx, layAdd, hat] at hs
      generalize L[(t.parts[j].ty).toNat] = e at ge hat hok hs
      obtain ⟨hlo, hmo, hde⟩ := hok
      have i1 : I64 x.size := by unfold I64; omega
      have i2 : I64 (slotOf e x.size).size := by unfold slotOf I64; dsimp only; split <;> omega
      have hb := plusL_bd [x.size, (slotOf e x.size).size]
      have htk : (encSs x.slots).take x.slots.length = encSs x.slots := take_len (by simp [encSs_len])
      have hlen : (x.slots ++ [slotOf e x.size]).length = j + 1 := by simp [hxl]
      (repeat' (first
    | exact trivial
    | (with_reducible first | refine awA ?_ | refine awB ?_ | refine awC ?_ | refine awD ?_ | refine awE ?_ | refine awF ?_ | refine awG ?_ | refine awH ?_ | refine awI ?_ | refine awJ ?_ | refine awK ?_ | refine awL ?_ | refine awM (by decide) ?_)
    | (refine aw_draw (id := 7) (t := (.node [0, 1, 2, 3, 4, 5, 6] [(.node [7, 8, 9] []), (.node [8, 7, 9] [])])) (drR [7, 5] [25] []) mixed (by kernel_rfl) (by kernel_rfl) (fun _ _ h => h) ?_)
    | (refine aw_draw (id := 14) (t := (.node [0, 1, 2, 3, 5] [(.node [4, 6, 7, 8] []), (.node [6, 4, 7, 8] [])])) (drR [2, 9] [] []) mixed (by kernel_rfl) (by kernel_rfl) (fun _ _ h => h) ?_)
    | (refine at_done (by simp only [List.filterMap_cons, List.filterMap_nil, List.getElem?_toArray, List.getElem?_cons_zero, List.getElem?_cons_succ]; exact rfl) ?_) | (refine at_alt (by simp only [List.filterMap_cons, List.filterMap_nil, List.getElem?_toArray, List.getElem?_cons_zero, List.getElem?_cons_succ]; exact rfl) ?_) | refine qalt_normal ?_ | refine ats_cons ?_ ?_ | exact ats_nil
    | ((with_reducible first | refine awN (tyOf_ok _) [] ?_ | refine awO (tyOf_ok _) [] ?_ | refine awP (tyOf_ok _) [] ?_ | refine awQ ?_ | refine awR ?_ | refine awS ?_); intro r hr; simp only [go_sem, Nat.reduceBEq, Nat.reduceBneDiff, Nat.reduceLT, Nat.reduceLeDiff, Nat.reduceAdd, Nat.reduceMul, Nat.reduceSub, Nat.reduceEqDiff, reduceCtorEq, hw1, e1, g1, ge, encPs_len, encEs_len, encSs_len, htk, slotS, encSs_app, hlen] at hr; subst hr; (first | refine caA (fun _ => lslot_any e x.size) rfl ?_ ?_ ?_ | refine caA (fun _ => plus2_p _ _ i1 i2) rfl ?_ ?_ ?_ | refine awV ?_ ?_ | refine awW ?_ ?_ | refine endK ?_ ?_ | (refine condK (fun h => ?_) (fun h => ?_) <;> (try simp only [go_sem, reduceCtorEq] at h) <;> (try (exfalso; omega))))) | fail)) <;> (try omega)
      all_goals exact ⟨(j + 1, ⟨_, _⟩), by simp only [go_sem, Nat.reduceBEq, Nat.reduceBneDiff, Nat.reduceLT, Nat.reduceLeDiff, Nat.reduceAdd, Nat.reduceMul, Nat.reduceSub, Nat.reduceEqDiff, reduceCtorEq, encSs_len, hlen]; exact rfl, ⟨hlt, hs.symm, by simp [hxl], by simp only; omega, by simp only; omega⟩, by simp only; omega⟩
    · have e1 : ((j : Int) < t.parts.length) = False := eq_false (by omega)
      have htk : (encSs x.slots).take x.slots.length = encSs x.slots := take_len (by simp [encSs_len])
      (repeat' (first
    | exact trivial
    | (with_reducible first | refine awA ?_ | refine awB ?_ | refine awC ?_ | refine awD ?_ | refine awE ?_ | refine awF ?_ | refine awG ?_ | refine awH ?_ | refine awI ?_ | refine awJ ?_ | refine awK ?_ | refine awL ?_ | refine awM (by decide) ?_)
    | (refine aw_draw (id := 7) (t := (.node [0, 1, 2, 3, 4, 5, 6] [(.node [7, 8, 9] []), (.node [8, 7, 9] [])])) (drR [7, 5] [25] []) mixed (by kernel_rfl) (by kernel_rfl) (fun _ _ h => h) ?_)
    | (refine aw_draw (id := 14) (t := (.node [0, 1, 2, 3, 5] [(.node [4, 6, 7, 8] []), (.node [6, 4, 7, 8] [])])) (drR [2, 9] [] []) mixed (by kernel_rfl) (by kernel_rfl) (fun _ _ h => h) ?_)
    | (refine at_done (by simp only [List.filterMap_cons, List.filterMap_nil, List.getElem?_toArray, List.getElem?_cons_zero, List.getElem?_cons_succ]; exact rfl) ?_) | (refine at_alt (by simp only [List.filterMap_cons, List.filterMap_nil, List.getElem?_toArray, List.getElem?_cons_zero, List.getElem?_cons_succ]; exact rfl) ?_) | refine qalt_normal ?_ | refine ats_cons ?_ ?_ | exact ats_nil
    | ((with_reducible first | refine awN (tyOf_ok _) [] ?_ | refine awO (tyOf_ok _) [] ?_ | refine awP (tyOf_ok _) [] ?_ | refine awQ ?_ | refine awR ?_ | refine awS ?_); intro r hr; simp only [go_sem, Nat.reduceBEq, Nat.reduceBneDiff, Nat.reduceLT, Nat.reduceLeDiff, Nat.reduceAdd, Nat.reduceMul, Nat.reduceSub, Nat.reduceEqDiff, reduceCtorEq, hw1, e1, encSs_len, htk] at hr; subst hr; (first | refine awV ?_ ?_ | refine awW ?_ ?_ | refine endK ?_ ?_ | (refine condK (fun h => ?_) (fun h => ?_) <;> (try simp only [go_sem, reduceCtorEq] at h) <;> (try (exfalso; omega))))) | fail)) <;> (try omega)
      rw [take_len (by omega)] at hx
      rw [layM, if_pos k8, ← hx]
      exact AV.up_rfl _
  · have e8 : (t.kind = 8) = False := eq_false k8
    by_cases k4 : t.kind = 4
    · have e4 : (t.kind = 4) = True := eq_true k4
      have hel := ht.1 (.inl k4)
      have hlt : t.elem.toNat < L.length := by omega
      have ge := encEs_get hlt
      have hat : atE L t.elem = L[t.elem.toNat] := by rw [atE, List.getElem?_eq_getElem hlt]; rfl
      have hok := hL _ (List.getElem_mem hlt)
      generalize L[t.elem.toNat] = e at ge hat hok
      obtain ⟨hlo, hmo, hde⟩ := hok
      have hn := rightOK_n hr (.inl k4)
      have i1 : I64 t.n := by unfold I64; omega
      have i2 : I64 (slotOf e 0).size := by unfold slotOf I64; dsimp only; split <;> omega
      (repeat' (first
    | exact trivial
    | (with_reducible first | refine awA ?_ | refine awB ?_ | refine awC ?_ | refine awD ?_ | refine awE ?_ | refine awF ?_ | refine awG ?_ | refine awH ?_ | refine awI ?_ | refine awJ ?_ | refine awK ?_ | refine awL ?_ | refine awM (by decide) ?_)
    | (refine aw_draw (id := 7) (t := (.node [0, 1, 2, 3, 4, 5, 6] [(.node [7, 8, 9] []), (.node [8, 7, 9] [])])) (drR [7, 5] [25] []) mixed (by kernel_rfl) (by kernel_rfl) (fun _ _ h => h) ?_)
    | (refine aw_draw (id := 14) (t := (.node [0, 1, 2, 3, 5] [(.node [4, 6, 7, 8] []), (.node [6, 4, 7, 8] [])])) (drR [2, 9] [] []) mixed (by kernel_rfl) (by kernel_rfl) (fun _ _ h => h) ?_)
    | (refine at_done (by simp only [List.filterMap_cons, List.filterMap_nil, List.getElem?_toArray, List.getElem?_cons_zero, List.getElem?_cons_succ]; exact rfl) ?_) | (refine at_alt (by simp only [List.filterMap_cons, List.filterMap_nil, List.getElem?_toArray, List.getElem?_cons_zero, List.getElem?_cons_succ]; exact rfl) ?_) | refine qalt_normal ?_ | refine ats_cons ?_ ?_ | exact ats_nil
    | ((with_reducible first | refine awN (tyOf_ok _) [] ?_ | refine awO (tyOf_ok _) [] ?_ | refine awP (tyOf_ok _) [] ?_ | refine awQ ?_ | refine awR ?_ | refine awS ?_); intro r hr; simp only [go_sem, Nat.reduceBEq, Nat.reduceBneDiff, Nat.reduceLT, Nat.reduceLeDiff, Nat.reduceAdd, Nat.reduceMul, Nat.reduceSub, Nat.reduceEqDiff, reduceCtorEq, encPs_len, encEs_len, e8, e4, ge, slotS] at hr; subst hr; (first | refine caA (fun _ => lslot_any e 0) rfl ?_ ?_ ?_ | refine caA (fun _ => times_p i1 i2) rfl ?_ ?_ ?_ | refine awV ?_ ?_ | refine awW ?_ ?_ | refine endK ?_ ?_ | (refine condK (fun h => ?_) (fun h => ?_) <;> (try simp only [go_sem, reduceCtorEq] at h) <;> (try (exfalso; omega))))) | fail)) <;> (try omega)
      all_goals (rw [layM, if_neg k8, if_pos k4, hat]; exact AV.up_rfl _)
    · have e4 : (t.kind = 4) = False := eq_false k4
      by_cases k5 : t.kind = 5
      · have e5 : (t.kind = 5) = True := eq_true k5
        have hel := ht.1 (.inr (.inl k5))
        have hlt : t.elem.toNat < L.length := by omega
        have ge := encEs_get hlt
        have hat : atE L t.elem = L[t.elem.toNat] := by rw [atE, List.getElem?_eq_getElem hlt]; rfl
        generalize L[t.elem.toNat] = e at ge hat
        (repeat' (first
    | exact trivial
    | (with_reducible first | refine awA ?_ | refine awB ?_ | refine awC ?_ | refine awD ?_ | refine awE ?_ | refine awF ?_ | refine awG ?_ | refine awH ?_ | refine awI ?_ | refine awJ ?_ | refine awK ?_ | refine awL ?_ | refine awM (by decide) ?_)
    | (refine aw_draw (id := 7) (t := (.node [0, 1, 2, 3, 4, 5, 6] [(.node [7, 8, 9] []), (.node [8, 7, 9] [])])) (drR [7, 5] [25] []) mixed (by kernel_rfl) (by kernel_rfl) (fun _ _ h => h) ?_)
    | (refine aw_draw (id := 14) (t := (.node [0, 1, 2, 3, 5] [(.node [4, 6, 7, 8] []), (.node [6, 4, 7, 8] [])])) (drR [2, 9] [] []) mixed (by kernel_rfl) (by kernel_rfl) (fun _ _ h => h) ?_)
    | (refine at_done (by simp only [List.filterMap_cons, List.filterMap_nil, List.getElem?_toArray, List.getElem?_cons_zero, List.getElem?_cons_succ]; exact rfl) ?_) | (refine at_alt (by simp only [List.filterMap_cons, List.filterMap_nil, List.getElem?_toArray, List.getElem?_cons_zero, List.getElem?_cons_succ]; exact rfl) ?_) | refine qalt_normal ?_ | refine ats_cons ?_ ?_ | exact ats_nil
    | ((with_reducible first | refine awN (tyOf_ok _) [] ?_ | refine awO (tyOf_ok _) [] ?_ | refine awP (tyOf_ok _) [] ?_ | refine awQ ?_ | refine awR ?_ | refine awS ?_); intro r hr; simp only [go_sem, Nat.reduceBEq, Nat.reduceBneDiff, Nat.reduceLT, Nat.reduceLeDiff, Nat.reduceAdd, Nat.reduceMul, Nat.reduceSub, Nat.reduceEqDiff, reduceCtorEq, encPs_len, encEs_len, e8, e4, e5, ge, slotS] at hr; subst hr; (first | refine caA (fun _ => lslot_any e 0) rfl ?_ ?_ ?_ | refine awV ?_ ?_ | refine awW ?_ ?_ | refine endK ?_ ?_ | (refine condK (fun h => ?_) (fun h => ?_) <;> (try simp only [go_sem, reduceCtorEq] at h) <;> (try (exfalso; omega))))) | fail)) <;> (try omega)
        all_goals (rw [layM, if_neg k8, if_neg k4, if_pos k5, hat]; exact AV.up_rfl _)
      · have e5 : (t.kind = 5) = False := eq_false k5
        (repeat' (first
    | exact trivial
    | (with_reducible first | refine awA ?_ | refine awB ?_ | refine awC ?_ | refine awD ?_ | refine awE ?_ | refine awF ?_ | refine awG ?_ | refine awH ?_ | refine awI ?_ | refine awJ ?_ | refine awK ?_ | refine awL ?_ | refine awM (by decide) ?_)
    | (refine aw_draw (id := 7) (t := (.node [0, 1, 2, 3, 4, 5, 6] [(.node [7, 8, 9] []), (.node [8, 7, 9] [])])) (drR [7, 5] [25] []) mixed (by kernel_rfl) (by kernel_rfl) (fun _ _ h => h) ?_)
    | (refine aw_draw (id := 14) (t := (.node [0, 1, 2, 3, 5] [(.node [4, 6, 7, 8] []), (.node [6, 4, 7, 8] [])])) (drR [2, 9] [] []) mixed (by kernel_rfl) (by kernel_rfl) (fun _ _ h => h) ?_)
    | (refine at_done (by simp only [List.filterMap_cons, List.filterMap_nil, List.getElem?_toArray, List.getElem?_cons_zero, List.getElem?_cons_succ]; exact rfl) ?_) | (refine at_alt (by simp only [List.filterMap_cons, List.filterMap_nil, List.getElem?_toArray, List.getElem?_cons_zero, List.getElem?_cons_succ]; exact rfl) ?_) | refine qalt_normal ?_ | refine ats_cons ?_ ?_ | exact ats_nil
    | ((with_reducible first | refine awN (tyOf_ok _) [] ?_ | refine awO (tyOf_ok _) [] ?_ | refine awP (tyOf_ok _) [] ?_ | refine awQ ?_ | refine awR ?_ | refine awS ?_); intro r hr; simp only [go_sem, Nat.reduceBEq, Nat.reduceBneDiff, Nat.reduceLT, Nat.reduceLeDiff, Nat.reduceAdd, Nat.reduceMul, Nat.reduceSub, Nat.reduceEqDiff, reduceCtorEq, encPs_len, encEs_len, e8, e4, e5] at hr; subst hr; (first | refine awV ?_ ?_ | refine awW ?_ ?_ | refine endK ?_ ?_ | (refine condK (fun h => ?_) (fun h => ?_) <;> (try simp only [go_sem, reduceCtorEq] at h) <;> (try (exfalso; omega))))) | fail)) <;> (try omega)
        rw [layM, if_neg k8, if_neg k4, if_neg k5]
        exact AV.up_agg ⟨AV.up_rfl _, AV.up_nil _, trivial⟩
end Go.Proofs.Ytljfgohecmhchaa
end
section
namespace Go.Proofs.Ytljfgohecmhchaa
open Go.RowKit
set_option maxRecDepth 100000
set_option maxHeartbeats 4000000
def lays (ts : List TypeM) : List LayM := ts.map fun t => layM t (exts ts)
def laysF (ts : List TypeM) (rs : List RootM) : List LayM × Int := if (checkF ts rs).1 ≠ 0 then ([], 92) else (lays ts, 0)
theorem encLs_len (l : List LayM) : (encLs l).length = l.length := by simp [encLs]
/-- of the first k types -/
def laysK (ts : List TypeM) (k : Nat) : List LayM := (ts.take k).map fun t => layM t (exts ts)
theorem laysK_succ {ts : List TypeM} {k : Nat} (h : k < ts.length) : laysK ts (k + 1) = laysK ts k ++ [layM ts[k] (exts ts)] := by
  rw [laysK, List.take_succ_eq_append_getElem h, List.map_append]; rfl
theorem laysK_len {ts : List TypeM} {k : Nat} (h : k ≤ ts.length) : (laysK ts k).length = k := by simp [laysK, Nat.min_eq_left h]
theorem rightOK_mono {t : TypeM} {k m : Int} (hkm : k ≤ m) (h : rightOK t k = true) : rightOK t m = true := by
  have hg : ∀ (kind : Int) (l pre : List PartM), goodFrom kind k pre l = true → goodFrom kind m pre l = true := by
    intro kind l
    induction l with
    | nil => intro pre _; rfl
    | cons p l ih =>
      intro pre h
      simp only [goodFrom, Bool.and_eq_true] at h ⊢
      refine ⟨?_, ih _ h.2⟩
      have h1 := h.1
      unfold good at h1 ⊢
      split at h1 <;> rename_i hk
      · rw [if_pos hk]
        simp only [Bool.and_eq_true, decide_eq_true_eq] at h1 ⊢
        exact ⟨⟨h1.1.1, by omega⟩, h1.2⟩
      · rw [if_neg hk]
        simp only [Bool.and_eq_true, decide_eq_true_eq] at h1 ⊢
        exact ⟨⟨h1.1.1, by omega⟩, h1.2⟩
  rw [rightOK, Bool.and_eq_true] at h ⊢
  refine ⟨h.1, ?_⟩
  have h2 := h.2
  split at h2 <;> rename_i h3
  · rw [if_pos h3]; exact h2
  · rw [if_neg h3]
    split at h2 <;> rename_i h4
    · rw [if_pos h4]
      simp only [Bool.and_eq_true, decide_eq_true_eq] at h2 ⊢
      exact ⟨⟨h2.1.1, by omega⟩, h2.2⟩
    · rw [if_neg h4]
      split at h2 <;> rename_i h5
      · rw [if_pos h5]
        simp only [Bool.and_eq_true, partsOK] at h2 ⊢
        exact ⟨h2.1, h2.2.1, hg _ _ _ h2.2.2⟩
      · cases h2
theorem exts_ok {ts : List TypeM} {rs : List RootM} (h : (checkF ts rs).1 = 0) (hts : ts.length ≤ 1000000000) : ∀ k, k ≤ ts.length → ∀ e ∈ exts (ts.take k), extOK e ∧ e.depth ≤ k := by
  intro k
  induction k with
  | zero => intro _ e he; cases he
  | succ k ih =>
    intro hk e he
    have hlt : k < ts.length := by omega
    rw [exts_succ hlt] at he
    rcases List.mem_append.1 he with he | he
    · have := ih (by omega) e he
      exact ⟨this.1, by have := this.2; omega⟩
    · rw [List.mem_singleton] at he
      subst he
      have := extM_ok (by omega) (by omega) (check_right h k hlt) (ih (by omega))
      exact ⟨this.1, by have := this.2; omega⟩
theorem layOf_any (ts : List TypeM) (rs : List RootM) (hts : ts.length ≤ 1000000000) (hrs : rs.length ≤ 1000000000) (hp : ∀ t ∈ ts, t.parts.length ≤ 1000000000) : PCall Try.prog 13 [vSch ts rs] (fun r => r = .tup [.lst 2 (encLs (laysF ts rs).1), vI (laysF ts rs).2]) := by
  refine go_fnU (tyOf_ok _) Try.func13 rfl rfl (by rw [Try.results13]) Try.ntmps13 rfl fun E => ?_
  by_cases hc : (checkF ts rs).1 = 0
  case neg =>
    have ec : ((checkF ts rs).1 = 0) = False := eq_false hc
    (repeat' (first
    | exact trivial
    | (with_reducible first | refine awA ?_ | refine awB ?_ | refine awC ?_ | refine awD ?_ | refine awE ?_ | refine awF ?_ | refine awG ?_ | refine awH ?_ | refine awI ?_ | refine awJ ?_ | refine awK ?_ | refine awL ?_ | refine awM (by decide) ?_)
    | ((with_reducible first | refine awN (tyOf_ok _) [] ?_ | refine awO (tyOf_ok _) [] ?_ | refine awP (tyOf_ok _) [] ?_ | refine awQ ?_ | refine awR ?_ | refine awS ?_); intro r hr; simp only [go_sem, Nat.reduceBEq, Nat.reduceBneDiff, Nat.reduceLT, Nat.reduceLeDiff, Nat.reduceAdd, Nat.reduceMul, Nat.reduceSub, Nat.reduceEqDiff, reduceCtorEq, vSch, vF, ec] at hr; subst hr; (first | refine caA (fun _ => check_any ts rs hts hrs hp) rfl ?_ ?_ ?_ | refine awV ?_ ?_ | refine awW ?_ ?_ | refine endK ?_ ?_ | (refine condK (fun h => ?_) (fun h => ?_) <;> (try simp only [go_sem, reduceCtorEq] at h) <;> (try (exfalso; omega))))) | fail)) <;> (try omega)
    rw [laysF, if_pos hc]; exact AV.up_nil2 _ _
  have ec : ((checkF ts rs).1 = 0) = True := eq_true hc
  have hsz : sizesF ts rs = (exts ts, 0) := by rw [sizesF, if_neg (fun g => g hc)]
  have hE := exts_ok hc hts ts.length (Nat.le_refl _)
  rw [take_len (Nat.le_refl _)] at hE
  have hEl := exts_len ts ts.length (Nat.le_refl _)
  rw [take_len (Nat.le_refl _)] at hEl
  have hsz1 : (sizesF ts rs).1 = exts ts := by rw [hsz]
  have hsz2 : (sizesF ts rs).2 = 0 := by rw [hsz]
  (repeat' (first
    | exact trivial
    | (with_reducible first | refine awA ?_ | refine awB ?_ | refine awC ?_ | refine awD ?_ | refine awE ?_ | refine awF ?_ | refine awG ?_ | refine awH ?_ | refine awI ?_ | refine awJ ?_ | refine awK ?_ | refine awL ?_ | refine awM (by decide) ?_)
    | ((with_reducible first | refine awN (tyOf_ok _) [] ?_ | refine awO (tyOf_ok _) [] ?_ | refine awP (tyOf_ok _) [] ?_ | refine awQ ?_ | refine awR ?_ | refine awS ?_); intro r hr; simp only [go_sem, Nat.reduceBEq, Nat.reduceBneDiff, Nat.reduceLT, Nat.reduceLeDiff, Nat.reduceAdd, Nat.reduceMul, Nat.reduceSub, Nat.reduceEqDiff, reduceCtorEq, vSch, vF, ec, hsz1, hsz2, encTs_len] at hr; subst hr; (first | refine caA (fun _ => check_any ts rs hts hrs hp) rfl ?_ ?_ ?_ | refine caC (sizeOf_any ts rs hts hrs hp) rfl ?_ ?_ ?_ | refine awV ?_ ?_ | refine awW ?_ ?_ | refine endK ?_ ?_ | (refine condK (fun h => ?_) (fun h => ?_) <;> (try simp only [go_sem, reduceCtorEq] at h) <;> (try (exfalso; omega))))) | fail)) <;> (try omega)
  refine aw_nilrow 6 53 2 6 (.inl (by decide)) (by simp only [go_sem, Nat.reduceBEq, Nat.reduceBneDiff, Nat.reduceLT, Nat.reduceLeDiff, Nat.reduceAdd, Nat.reduceMul, Nat.reduceSub, Nat.reduceEqDiff, reduceCtorEq]) ?_
  refine go_loop [4, 6, 21, 22, 23] [6] (fun k : Nat => ⟨[(4, true, .lst 4 (encEs (exts ts))), (6, true, .ref 53 2 6 0 k), (21, true, .lst 4 (encTs ts)), (22, true, vI ts.length), (23, true, vI k)],
      [(6, .row 53 2 (encLs (laysK ts k)))]⟩)
      (fun k => k ≤ ts.length) (fun k => ts.length - k) 0 (by simp only [AState.nilrow, go_sem, Nat.reduceBEq, Nat.reduceBneDiff, Nat.reduceLT, Nat.reduceLeDiff, Nat.reduceAdd, Nat.reduceMul, Nat.reduceSub, Nat.reduceEqDiff, reduceCtorEq]; exact rfl) (Nat.zero_le _) ?_
  intro k hk
  have hw1 := wrap_i64 (n := (k : Int) + 1) (by omega)
  have htk : (encLs (laysK ts k)).take k = encLs (laysK ts k) := take_len (by rw [encLs_len, laysK_len hk]; exact Nat.le_refl _)
  have hll : (encLs (laysK ts k)).length = k := by rw [encLs_len, laysK_len hk]
  by_cases hlt : k < ts.length
  · have e1 : ((k : Int) < ts.length) = True := eq_true (by omega)
    have g1 := encTs_get hlt
    have hone := lone_any ts[k] (exts ts) (rightOK_mono (by omega) (check_right hc k hlt)) (hp _ (List.getElem_mem hlt)) (fun e he => (hE e he).1)
    have happ : encLs (laysK ts k) ++ [[vI (layM ts[k] (exts ts)).size, .lst 3 (encSs (layM ts[k] (exts ts)).slots)]] = encLs (laysK ts (k + 1)) := by rw [laysK_succ hlt]; simp [encLs, encL]
    have hl1 : (encLs (laysK ts (k + 1))).length = k + 1 := by rw [encLs_len, laysK_len hlt]
    (repeat' (first
    | exact trivial
    | (with_reducible first | refine awA ?_ | refine awB ?_ | refine awC ?_ | refine awD ?_ | refine awE ?_ | refine awF ?_ | refine awG ?_ | refine awH ?_ | refine awI ?_ | refine awJ ?_ | refine awK ?_ | refine awL ?_ | refine awM (by decide) ?_)
    | ((with_reducible first | refine awN (tyOf_ok _) [] ?_ | refine awO (tyOf_ok _) [] ?_ | refine awP (tyOf_ok _) [] ?_ | refine awQ ?_ | refine awR ?_ | refine awS ?_); intro r hr; simp only [go_sem, Nat.reduceBEq, Nat.reduceBneDiff, Nat.reduceLT, Nat.reduceLeDiff, Nat.reduceAdd, Nat.reduceMul, Nat.reduceSub, Nat.reduceEqDiff, reduceCtorEq, hw1, e1, g1, vLay, htk, happ, hl1, hll, encTs_len] at hr; subst hr; (first | refine caC (hone) rfl ?_ ?_ ?_ | refine awV ?_ ?_ | refine awW ?_ ?_ | refine endK ?_ ?_ | (refine condK (fun h => ?_) (fun h => ?_) <;> (try simp only [go_sem, reduceCtorEq] at h) <;> (try (exfalso; omega))))) | fail)) <;> (try omega)
    exact ⟨k + 1, by simp only [go_sem, Nat.reduceBEq, Nat.reduceBneDiff, Nat.reduceLT, Nat.reduceLeDiff, Nat.reduceAdd, Nat.reduceMul, Nat.reduceSub, Nat.reduceEqDiff, reduceCtorEq]; exact rfl, hlt, by omega⟩
  · have e1 : ((k : Int) < ts.length) = False := eq_false (by omega)
    (repeat' (first
    | exact trivial
    | (with_reducible first | refine awA ?_ | refine awB ?_ | refine awC ?_ | refine awD ?_ | refine awE ?_ | refine awF ?_ | refine awG ?_ | refine awH ?_ | refine awI ?_ | refine awJ ?_ | refine awK ?_ | refine awL ?_ | refine awM (by decide) ?_)
    | ((with_reducible first | refine awN (tyOf_ok _) [] ?_ | refine awO (tyOf_ok _) [] ?_ | refine awP (tyOf_ok _) [] ?_ | refine awQ ?_ | refine awR ?_ | refine awS ?_); intro r hr; simp only [go_sem, Nat.reduceBEq, Nat.reduceBneDiff, Nat.reduceLT, Nat.reduceLeDiff, Nat.reduceAdd, Nat.reduceMul, Nat.reduceSub, Nat.reduceEqDiff, reduceCtorEq, hw1, e1, htk, hll] at hr; subst hr; (first | refine awV ?_ ?_ | refine awW ?_ ?_ | refine endK ?_ ?_ | (refine condK (fun h => ?_) (fun h => ?_) <;> (try simp only [go_sem, reduceCtorEq] at h) <;> (try (exfalso; omega))))) | fail)) <;> (try omega)
    have hke : k = ts.length := by omega
    subst hke
    rw [laysF, if_neg (fun g => g hc), lays, laysK, take_len (Nat.le_refl _)]
    exact AV.up_rfl _
end Go.Proofs.Ytljfgohecmhchaa
end
section
namespace Go.Proofs.Ytljfgohecmhchaa
open Go.ChangeShapes Go.WideShapes Go.ChangeAt Go.RowKit

theorem own : ownKnob Try.prog.godebug = none := by kernel_rfl
theorem laidOut : laidOutB Try.prog = true := by kernel_rfl

/-- a slice of integers that came in: nil, or a row of 'cap' cells, the numbers 'zs' -/
def IsRow (k : IntKind) (w : World) (a : Option Addr) (len cap : Nat) (zs : List Int) : Prop :=
  (a = none ∧ len = 0 ∧ cap = 0 ∧ zs = []) ∨
  ∃ x, a = some x ∧ len ≤ cap ∧ cap ≤ maxLen ∧ zs.length = cap ∧ (∀ i, i < zs.length → w.cell? (x.add i) = some (.int k (zs.getD i 0))) ∧ ∀ n ∈ zs, (Lit.int k n).wf = true

theorem I64.of_wf {n : Int} (h : (Lit.int .i64 n).wf = true) : I64 n := bounds_i64 h
theorem U64.of_wf {n : Int} (h : (Lit.int .u64 n).wf = true) : U64 n := bounds_u64 h
theorem U8.of_wf {n : Int} (h : (Lit.int .u8 n).wf = true) : U8 n := bounds_u8 h

theorem IsRow.row {k : IntKind} {w : World} {a : Option Addr} {len cap : Nat} {zs : List Int} (h : IsRow k w a len cap zs) :
    Row w w.heap.size a ((zs.take len).map (Value.int k)) ∧ len = (zs.take len).length ∧ len ≤ cap ∧ cap ≤ maxLen ∧ ∀ z ∈ zs.take len, (Lit.int k z).wf = true := by
  rcases h with ⟨rfl, rfl, rfl, rfl⟩ | ⟨x, rfl, hl, hm, hz, hcell, hwz⟩
  · exact ⟨fun h => by simp at h, rfl, Nat.le_refl _, by decide, fun z hz => by simp at hz⟩
  · refine ⟨fun hn => ?_, by rw [List.length_take]; omega, hl, hm, fun z hz' => hwz z (List.mem_of_mem_take hz')⟩
    have hn' : 0 < len := by simp at hn; omega
    obtain ⟨b, off, spot⟩ := x
    have hc := hcell 0 (by omega)
    have hspot : spot = none := by simpa [Addr.add] using World.cell?_spot hc
    subst hspot
    refine ⟨b, off, rfl, World.block_lt_of_cell? w _ (by simpa [Addr.add] using hc), fun j u hu => ?_⟩
    have hj : j < len := by
      rcases Nat.lt_or_ge j ((zs.take len).map (Value.int k)).length with h | h
      · simp at h; omega
      · rw [List.getElem?_eq_none h] at hu; cases hu
    have hcj := hcell j (by omega)
    have hplain : (⟨b, off, none⟩ : Addr).add j = ⟨b, off + j, none⟩ := by unfold Addr.add; split <;> simp_all
    rw [hplain] at hcj
    rw [hcj]
    rw [List.getElem?_map, List.getElem?_take_of_lt hj, List.getElem?_eq_getElem (by omega : j < zs.length)] at hu
    simpa [List.getD_eq_getElem?_getD, List.getElem?_eq_getElem (by omega : j < zs.length)] using hu

end Go.Proofs.Ytljfgohecmhchaa
end
