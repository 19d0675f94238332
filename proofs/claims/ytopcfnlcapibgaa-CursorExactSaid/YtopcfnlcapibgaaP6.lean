import Derived.Lib.BitFns
import Derived.Shelf.Strconv.Itoa0
import Derived.Ground.SlbCloneProg
import Derived.Shelf.Bytes.SlClone
import Derived.Test.YtopcfnlcapibgaaProg
import Derived.Lib.SliceRun
import Derived.Test.YtopcfnlcapibgaaP5
set_option linter.all false
section
namespace Go.Proofs.Ytopcfnlcapibgaa
open Go.RowKit
set_option maxRecDepth 100000
set_option maxHeartbeats 8000000
/-! mortiseref03.Input. -/
def rfO (all : List Int) (tk : Nat) (frm : Int) (over : Bool) : List (Nat × AObj) := [(10000, .var [.ref 5 1 15000 0 all.length, vI tk, vI frm, vB over]), (15000, .row 5 1 (encB all))]
structure okR (all : List Int) (tk : Nat) (frm : Int) : Prop where
  le : tk ≤ all.length
  len : all.length ≤ 1000000000
  lo : 0 ≤ frm
  hi : frm ≤ 2147483647
theorem rheld_G (all : List Int) (tk : Nat) (frm : Int) (over : Bool) (h : okR all tk frm) : GCall Try.prog 43 [.ptr 1 10000 0 0] (rfO all tk frm over) (vI ((all.length - tk : Nat) : Int)) (rfO all tk frm over) := by
  obtain ⟨h1, h2, h3, h4⟩ := h
  have hw : IntKind.i64.wrap ((all.length : Int) - tk) = ((all.length - tk : Nat) : Int) := by rw [wrap_i64 (by omega)]; omega
  unfold rfO
  refine go_fnG (tyOf_ok _) Try.func43 rfl rfl (by rw [Try.results43]) Try.ntmps43 rfl fun E => ?_
  (repeat' (first
    | exact trivial
    | (with_reducible first | refine awA ?_ | refine awB ?_ | refine awC ?_ | refine awD ?_ | refine awE ?_ | refine awF ?_ | refine awG ?_ | refine awH ?_ | refine awI ?_ | refine awJ ?_ | refine awK ?_ | refine awL ?_ | refine awM (by decide) ?_)
    | (refine aw_draw (id := 1) (t := (.node [0, 1, 2, 3, 4, 5, 6, 7, 8, 9, 10] [])) (drR [10000] [] []) mixed (by kernel_rfl) (by kernel_rfl) (fun _ _ h => h) ?_)
    | (refine at_done (by simp only [List.filterMap_cons, List.filterMap_nil, List.getElem?_toArray, List.getElem?_cons_zero, List.getElem?_cons_succ]; exact rfl) ?_) | (refine at_alt (by simp only [List.filterMap_cons, List.filterMap_nil, List.getElem?_toArray, List.getElem?_cons_zero, List.getElem?_cons_succ]; exact rfl) ?_) | refine qalt_normal ?_ | refine ats_cons ?_ ?_ | exact ats_nil
    | ((with_reducible first | refine awN (tyOf_ok _) [] ?_ | refine awO (tyOf_ok _) [] ?_ | refine awP (tyOf_ok _) [] ?_ | refine awQ ?_ | refine awR ?_ | refine awS ?_ | refine awT ?_ | refine awU ?_); intro r hr; simp only [go_sem, Nat.reduceBEq, Nat.reduceBneDiff, Nat.reduceLT, Nat.reduceLeDiff, Nat.reduceAdd, Nat.reduceMul, Nat.reduceSub, Nat.reduceEqDiff, reduceCtorEq, hw] at hr; subst hr; (first | refine awV ?_ ?_ | refine awW ?_ ?_ | refine endK ?_ ?_ | refine endGK ?_ ?_ ?_ | (refine condK (fun h => ?_) (fun h => ?_) <;> (try simp only [go_sem, reduceCtorEq] at h) <;> (try (exfalso; omega))))) | fail)) <;> (try omega)
  all_goals first | exact AV.up_rfl _ | exact obUp_cons rfl (obUp_cons rfl obUp_nil)
theorem rat_G (all : List Int) (tk : Nat) (frm : Int) (over : Bool) (h : okR all tk frm) : GCall Try.prog 42 [.ptr 1 10000 0 0] (rfO all tk frm over) (vI (frm + tk)) (rfO all tk frm over) := by
  obtain ⟨h1, h2, h3, h4⟩ := h
  have hw := wrap_i64 (n := frm + tk) (by omega)
  unfold rfO
  refine go_fnG (tyOf_ok _) Try.func42 rfl rfl (by rw [Try.results42]) Try.ntmps42 rfl fun E => ?_
  (repeat' (first
    | exact trivial
    | (with_reducible first | refine awA ?_ | refine awB ?_ | refine awC ?_ | refine awD ?_ | refine awE ?_ | refine awF ?_ | refine awG ?_ | refine awH ?_ | refine awI ?_ | refine awJ ?_ | refine awK ?_ | refine awL ?_ | refine awM (by decide) ?_)
    | (refine aw_draw (id := 1) (t := (.node [0, 1, 2, 3, 4, 5, 6, 7, 8, 9] [])) (drR [10000] [] []) mixed (by kernel_rfl) (by kernel_rfl) (fun _ _ h => h) ?_)
    | (refine at_done (by simp only [List.filterMap_cons, List.filterMap_nil, List.getElem?_toArray, List.getElem?_cons_zero, List.getElem?_cons_succ]; exact rfl) ?_) | (refine at_alt (by simp only [List.filterMap_cons, List.filterMap_nil, List.getElem?_toArray, List.getElem?_cons_zero, List.getElem?_cons_succ]; exact rfl) ?_) | refine qalt_normal ?_ | refine ats_cons ?_ ?_ | exact ats_nil
    | ((with_reducible first | refine awN (tyOf_ok _) [] ?_ | refine awO (tyOf_ok _) [] ?_ | refine awP (tyOf_ok _) [] ?_ | refine awQ ?_ | refine awR ?_ | refine awS ?_ | refine awT ?_ | refine awU ?_); intro r hr; simp only [go_sem, Nat.reduceBEq, Nat.reduceBneDiff, Nat.reduceLT, Nat.reduceLeDiff, Nat.reduceAdd, Nat.reduceMul, Nat.reduceSub, Nat.reduceEqDiff, reduceCtorEq, hw] at hr; subst hr; (first | refine awV ?_ ?_ | refine awW ?_ ?_ | refine endK ?_ ?_ | refine endGK ?_ ?_ ?_ | (refine condK (fun h => ?_) (fun h => ?_) <;> (try simp only [go_sem, reduceCtorEq] at h) <;> (try (exfalso; omega))))) | fail)) <;> (try omega)
  all_goals first | exact AV.up_rfl _ | exact obUp_cons rfl (obUp_cons rfl obUp_nil)
theorem rended_G (all : List Int) (tk : Nat) (frm : Int) (over : Bool) : GCall Try.prog 44 [.ptr 1 10000 0 0] (rfO all tk frm over) (vB over) (rfO all tk frm over) := by
  unfold rfO
  refine go_fnG (tyOf_ok _) Try.func44 rfl rfl (by rw [Try.results44]) Try.ntmps44 rfl fun E => ?_
  (repeat' (first
    | exact trivial
    | (with_reducible first | refine awA ?_ | refine awB ?_ | refine awC ?_ | refine awD ?_ | refine awE ?_ | refine awF ?_ | refine awG ?_ | refine awH ?_ | refine awI ?_ | refine awJ ?_ | refine awK ?_ | refine awL ?_ | refine awM (by decide) ?_)
    | ((with_reducible first | refine awN (tyOf_ok _) [] ?_ | refine awO (tyOf_ok _) [] ?_ | refine awP (tyOf_ok _) [] ?_ | refine awQ ?_ | refine awR ?_ | refine awS ?_ | refine awT ?_ | refine awU ?_); intro r hr; simp only [go_sem, Nat.reduceBEq, Nat.reduceBneDiff, Nat.reduceLT, Nat.reduceLeDiff, Nat.reduceAdd, Nat.reduceMul, Nat.reduceSub, Nat.reduceEqDiff, reduceCtorEq] at hr; subst hr; (first | refine awV ?_ ?_ | refine awW ?_ ?_ | refine endK ?_ ?_ | refine endGK ?_ ?_ ?_ | (refine condK (fun h => ?_) (fun h => ?_) <;> (try simp only [go_sem, reduceCtorEq] at h) <;> (try (exfalso; omega))))) | fail)) <;> (try omega)
  all_goals first | exact AV.up_rfl _ | exact obUp_cons rfl (obUp_cons rfl obUp_nil)
theorem rend_G (all : List Int) (tk : Nat) (frm : Int) (over : Bool) : GCall Try.prog 29 [.ptr 1 10000 0 0] (rfO all tk frm over) (vI (if over = true then 30 else 0)) (rfO all tk frm true) := by
  unfold rfO
  cases over
  · refine go_fnG (tyOf_ok _) Try.func29 rfl rfl (by rw [Try.results29]) Try.ntmps29 rfl fun E => ?_
    (repeat' (first
    | exact trivial
    | (with_reducible first | refine awA ?_ | refine awB ?_ | refine awC ?_ | refine awD ?_ | refine awE ?_ | refine awF ?_ | refine awG ?_ | refine awH ?_ | refine awI ?_ | refine awJ ?_ | refine awK ?_ | refine awL ?_ | refine awM (by decide) ?_)
    | ((with_reducible first | refine awN (tyOf_ok _) [] ?_ | refine awO (tyOf_ok _) [] ?_ | refine awP (tyOf_ok _) [] ?_ | refine awQ ?_ | refine awR ?_ | refine awS ?_ | refine awT ?_ | refine awU ?_); intro r hr; simp only [go_sem, Nat.reduceBEq, Nat.reduceBneDiff, Nat.reduceLT, Nat.reduceLeDiff, Nat.reduceAdd, Nat.reduceMul, Nat.reduceSub, Nat.reduceEqDiff, reduceCtorEq] at hr; subst hr; (first | refine awV ?_ ?_ | refine awW ?_ ?_ | refine endK ?_ ?_ | refine endGK ?_ ?_ ?_ | (refine condK (fun h => ?_) (fun h => ?_) <;> (try simp only [go_sem, reduceCtorEq] at h) <;> (try (exfalso; omega))))) | fail)) <;> (try omega)
    all_goals first | exact AV.up_rfl _ | exact obUp_cons rfl (obUp_cons rfl obUp_nil)
  · refine go_fnG (tyOf_ok _) Try.func29 rfl rfl (by rw [Try.results29]) Try.ntmps29 rfl fun E => ?_
    (repeat' (first
    | exact trivial
    | (with_reducible first | refine awA ?_ | refine awB ?_ | refine awC ?_ | refine awD ?_ | refine awE ?_ | refine awF ?_ | refine awG ?_ | refine awH ?_ | refine awI ?_ | refine awJ ?_ | refine awK ?_ | refine awL ?_ | refine awM (by decide) ?_)
    | ((with_reducible first | refine awN (tyOf_ok _) [] ?_ | refine awO (tyOf_ok _) [] ?_ | refine awP (tyOf_ok _) [] ?_ | refine awQ ?_ | refine awR ?_ | refine awS ?_ | refine awT ?_ | refine awU ?_); intro r hr; simp only [go_sem, Nat.reduceBEq, Nat.reduceBneDiff, Nat.reduceLT, Nat.reduceLeDiff, Nat.reduceAdd, Nat.reduceMul, Nat.reduceSub, Nat.reduceEqDiff, reduceCtorEq] at hr; subst hr; (first | refine awV ?_ ?_ | refine awW ?_ ?_ | refine endK ?_ ?_ | refine endGK ?_ ?_ ?_ | (refine condK (fun h => ?_) (fun h => ?_) <;> (try simp only [go_sem, reduceCtorEq] at h) <;> (try (exfalso; omega))))) | fail)) <;> (try omega)
    all_goals first | exact AV.up_rfl _ | exact obUp_cons rfl (obUp_cons rfl obUp_nil)
theorem rgive_over (all b : List Int) (tk : Nat) (frm : Int) : GCall Try.prog 26 [.ptr 1 10000 0 0, .lst 1 (encB b)] (rfO all tk frm true) (vI 30) (rfO all tk frm true) := by
  unfold rfO
  refine go_fnG (tyOf_ok _) Try.func26 rfl rfl (by rw [Try.results26]) Try.ntmps26 rfl fun E => ?_
  (repeat' (first
    | exact trivial
    | (with_reducible first | refine awA ?_ | refine awB ?_ | refine awC ?_ | refine awD ?_ | refine awE ?_ | refine awF ?_ | refine awG ?_ | refine awH ?_ | refine awI ?_ | refine awJ ?_ | refine awK ?_ | refine awL ?_ | refine awM (by decide) ?_)
    | ((with_reducible first | refine awN (tyOf_ok _) [] ?_ | refine awO (tyOf_ok _) [] ?_ | refine awP (tyOf_ok _) [] ?_ | refine awQ ?_ | refine awR ?_ | refine awS ?_ | refine awT ?_ | refine awU ?_); intro r hr; simp only [go_sem, Nat.reduceBEq, Nat.reduceBneDiff, Nat.reduceLT, Nat.reduceLeDiff, Nat.reduceAdd, Nat.reduceMul, Nat.reduceSub, Nat.reduceEqDiff, reduceCtorEq] at hr; subst hr; (first | refine awV ?_ ?_ | refine awW ?_ ?_ | refine endK ?_ ?_ | refine endGK ?_ ?_ ?_ | (refine condK (fun h => ?_) (fun h => ?_) <;> (try simp only [go_sem, reduceCtorEq] at h) <;> (try (exfalso; omega))))) | fail)) <;> (try omega)
  all_goals first | exact AV.up_rfl _ | exact obUp_cons rfl (obUp_cons rfl obUp_nil)
theorem rgive_G (all b : List Int) (tk : Nat) (frm : Int) (h : all.length + b.length ≤ 1000000000) : GCall Try.prog 26 [.ptr 1 10000 0 0, .lst 1 (encB b)] (rfO all tk frm false) (vI 0) (rfO (all ++ b) tk frm false) := by
  have ht : (encB all).take all.length = encB all := take_len (by rw [encB_len]; exact Nat.le_refl _)
  unfold rfO
  refine go_fnG (tyOf_ok _) Try.func26 rfl rfl (by rw [Try.results26]) Try.ntmps26 rfl fun E => ?_
  (repeat' (first
    | exact trivial
    | (with_reducible first | refine awA ?_ | refine awB ?_ | refine awC ?_ | refine awD ?_ | refine awE ?_ | refine awF ?_ | refine awG ?_ | refine awH ?_ | refine awI ?_ | refine awJ ?_ | refine awK ?_ | refine awL ?_ | refine awM (by decide) ?_)
    | ((with_reducible first | refine awN (tyOf_ok _) [] ?_ | refine awO (tyOf_ok _) [] ?_ | refine awP (tyOf_ok _) [] ?_ | refine awQ ?_ | refine awR ?_ | refine awS ?_ | refine awT ?_ | refine awU ?_); intro r hr; simp only [go_sem, Nat.reduceBEq, Nat.reduceBneDiff, Nat.reduceLT, Nat.reduceLeDiff, Nat.reduceAdd, Nat.reduceMul, Nat.reduceSub, Nat.reduceEqDiff, reduceCtorEq, ht, encB_app, encB_len, List.length_append] at hr; subst hr; (first | refine awV ?_ ?_ | refine awW ?_ ?_ | refine endK ?_ ?_ | refine endGK ?_ ?_ ?_ | (refine condK (fun h => ?_) (fun h => ?_) <;> (try simp only [go_sem, reduceCtorEq] at h) <;> (try (exfalso; omega))))) | fail)) <;> (try omega)
  all_goals first | omega | exact AV.up_rfl _ | (rw [List.length_append]; exact obUp_cons rfl (obUp_cons rfl obUp_nil))
theorem rtake_none (all : List Int) (frm : Int) (over : Bool) (h : okR all all.length frm) : GCall Try.prog 30 [.ptr 1 10000 0 0] (rfO all all.length frm over) (.tup [vU8 0, vB false]) (rfO all all.length frm over) := by
  have hH := rheld_G all all.length frm over h
  rw [Nat.sub_self] at hH
  have e0 : (((0 : Nat) : Int) = 0) = True := eq_true rfl
  unfold rfO at *
  refine go_fnG (tyOf_ok _) Try.func30 rfl rfl (by rw [Try.results30]) Try.ntmps30 rfl fun E => ?_
  (repeat' (first
    | exact trivial
    | (with_reducible first | refine awA ?_ | refine awB ?_ | refine awC ?_ | refine awD ?_ | refine awE ?_ | refine awF ?_ | refine awG ?_ | refine awH ?_ | refine awI ?_ | refine awJ ?_ | refine awK ?_ | refine awL ?_ | refine awM (by decide) ?_)
    | (refine aw_draw (id := 4) (t := (.node [0, 1, 2, 3, 4, 5, 6, 7, 8, 9, 10, 11, 12] [])) (drR [10000] [24] []) mixed (by kernel_rfl) (by kernel_rfl) (fun _ _ h => h) ?_)
    | (refine at_done (by simp only [List.filterMap_cons, List.filterMap_nil, List.getElem?_toArray, List.getElem?_cons_zero, List.getElem?_cons_succ]; exact rfl) ?_) | (refine at_alt (by simp only [List.filterMap_cons, List.filterMap_nil, List.getElem?_toArray, List.getElem?_cons_zero, List.getElem?_cons_succ]; exact rfl) ?_) | refine qalt_normal ?_ | refine ats_cons ?_ ?_ | exact ats_nil
    | ((with_reducible first | refine awN (tyOf_ok _) [] ?_ | refine awO (tyOf_ok _) [] ?_ | refine awP (tyOf_ok _) [] ?_ | refine awQ ?_ | refine awR ?_ | refine awS ?_ | refine awT ?_ | refine awU ?_); intro r hr; simp only [go_sem, Nat.reduceBEq, Nat.reduceBneDiff, Nat.reduceLT, Nat.reduceLeDiff, Nat.reduceAdd, Nat.reduceMul, Nat.reduceSub, Nat.reduceEqDiff, reduceCtorEq, e0] at hr; subst hr; (first | refine awV ?_ ?_ | refine awW ?_ ?_ | refine endK ?_ ?_ | refine endGK ?_ ?_ ?_ | (refine condK (fun h => ?_) (fun h => ?_) <;> (try simp only [go_sem, reduceCtorEq] at h) <;> (try (exfalso; omega)))))
    | (refine go_callGE [(10000, 10000), (15000, 15000)] [(10000, 10000), (15000, 15000)] [15000] [10000] ?_; intro r hr; simp only [go_sem, Nat.reduceBEq, Nat.reduceBneDiff, Nat.reduceLT, Nat.reduceLeDiff, Nat.reduceAdd, Nat.reduceMul, Nat.reduceSub, Nat.reduceEqDiff, reduceCtorEq, e0] at hr; subst hr; refine callGK (hH) rfl rfl (by first | exact .inl rfl | exact .inr rfl) ?_ (.inl rfl) ?_) | fail)) <;> (try omega)
  all_goals first | exact AV.up_rfl _ | exact obUp_cons rfl (obUp_cons rfl obUp_nil)
theorem rtake_some (all : List Int) (tk : Nat) (frm : Int) (over : Bool) (h : okR all tk frm) (hlt : tk < all.length) : GCall Try.prog 30 [.ptr 1 10000 0 0] (rfO all tk frm over) (.tup [vU8 all[tk], vB true]) (rfO all (tk + 1) frm over) := by
  have hH := rheld_G all tk frm over h
  have e0 : (((all.length - tk : Nat) : Int) = 0) = False := eq_false (by omega)
  have hl := h.len
  have hw : IntKind.i64.wrap ((tk : Int) + 1) = ((tk + 1 : Nat) : Int) := by rw [wrap_i64 (by omega)]; omega
  have hw2 : IntKind.i64.wrap (((tk + 1 : Nat) : Int) - 1) = (tk : Int) := by rw [wrap_i64 (by omega)]; omega
  have zk : ((tk : Int)).toNat = tk := by omega
  have g := encB_get hlt
  unfold rfO at *
  refine go_fnG (tyOf_ok _) Try.func30 rfl rfl (by rw [Try.results30]) Try.ntmps30 rfl fun E => ?_
  (repeat' (first
    | exact trivial
    | (with_reducible first | refine awA ?_ | refine awB ?_ | refine awC ?_ | refine awD ?_ | refine awE ?_ | refine awF ?_ | refine awG ?_ | refine awH ?_ | refine awI ?_ | refine awJ ?_ | refine awK ?_ | refine awL ?_ | refine awM (by decide) ?_)
    | (refine aw_draw (id := 4) (t := (.node [0, 1, 2, 3, 4, 5, 6, 7, 8, 9, 10, 11, 12] [])) (drR [10000] [24] []) mixed (by kernel_rfl) (by kernel_rfl) (fun _ _ h => h) ?_)
    | (refine at_done (by simp only [List.filterMap_cons, List.filterMap_nil, List.getElem?_toArray, List.getElem?_cons_zero, List.getElem?_cons_succ]; exact rfl) ?_) | (refine at_alt (by simp only [List.filterMap_cons, List.filterMap_nil, List.getElem?_toArray, List.getElem?_cons_zero, List.getElem?_cons_succ]; exact rfl) ?_) | refine qalt_normal ?_ | refine ats_cons ?_ ?_ | exact ats_nil
    | ((with_reducible first | refine awN (tyOf_ok _) [] ?_ | refine awO (tyOf_ok _) [] ?_ | refine awP (tyOf_ok _) [] ?_ | refine awQ ?_ | refine awR ?_ | refine awS ?_ | refine awT ?_ | refine awU ?_); intro r hr; simp only [go_sem, Nat.reduceBEq, Nat.reduceBneDiff, Nat.reduceLT, Nat.reduceLeDiff, Nat.reduceAdd, Nat.reduceMul, Nat.reduceSub, Nat.reduceEqDiff, reduceCtorEq, e0, hw, hw2, zk, g, encB_len, Nat.zero_add] at hr; subst hr; (first | refine awV ?_ ?_ | refine awW ?_ ?_ | refine endK ?_ ?_ | refine endGK ?_ ?_ ?_ | (refine condK (fun h => ?_) (fun h => ?_) <;> (try simp only [go_sem, reduceCtorEq] at h) <;> (try (exfalso; omega)))))
    | (refine go_callGE [(10000, 10000), (15000, 15000)] [(10000, 10000), (15000, 15000)] [15000] [10000] ?_; intro r hr; simp only [go_sem, Nat.reduceBEq, Nat.reduceBneDiff, Nat.reduceLT, Nat.reduceLeDiff, Nat.reduceAdd, Nat.reduceMul, Nat.reduceSub, Nat.reduceEqDiff, reduceCtorEq, e0, hw, hw2, zk, g, encB_len, Nat.zero_add] at hr; subst hr; refine callGK (hH) rfl rfl (by first | exact .inl rfl | exact .inr rfl) ?_ (.inl rfl) ?_) | fail)) <;> (try omega)
  all_goals first | exact AV.up_rfl _ | exact obUp_cons rfl (obUp_cons rfl obUp_nil)
theorem rskip_bad (all : List Int) (tk : Nat) (frm : Int) (over : Bool) (h : okR all tk frm) (n : Int) (hn : n < 0 ∨ ((all.length - tk : Nat) : Int) < n) : GCall Try.prog 33 [.ptr 1 10000 0 0, vI n] (rfO all tk frm over) (vI 3) (rfO all tk frm over) := by
  have hH := rheld_G all tk frm over h
  unfold rfO at *
  refine go_fnG (tyOf_ok _) Try.func33 rfl rfl (by rw [Try.results33]) Try.ntmps33 rfl fun E => ?_
  by_cases h0 : n < 0
  · have e0 : (n < 0) = True := eq_true h0
    (repeat' (first
    | exact trivial
    | (with_reducible first | refine awA ?_ | refine awB ?_ | refine awC ?_ | refine awD ?_ | refine awE ?_ | refine awF ?_ | refine awG ?_ | refine awH ?_ | refine awI ?_ | refine awJ ?_ | refine awK ?_ | refine awL ?_ | refine awM (by decide) ?_)
    | ((with_reducible first | refine awN (tyOf_ok _) [] ?_ | refine awO (tyOf_ok _) [] ?_ | refine awP (tyOf_ok _) [] ?_ | refine awQ ?_ | refine awR ?_ | refine awS ?_ | refine awT ?_ | refine awU ?_); intro r hr; simp only [go_sem, Nat.reduceBEq, Nat.reduceBneDiff, Nat.reduceLT, Nat.reduceLeDiff, Nat.reduceAdd, Nat.reduceMul, Nat.reduceSub, Nat.reduceEqDiff, reduceCtorEq, e0] at hr; subst hr; (first | refine caB 43 (vI 0) ?_ ?_ ?_ | refine awV ?_ ?_ | refine awW ?_ ?_ | refine endK ?_ ?_ | refine endGK ?_ ?_ ?_ | (refine condK (fun h => ?_) (fun h => ?_) <;> (try simp only [go_sem, reduceCtorEq] at h) <;> (try (exfalso; omega))))) | fail)) <;> (try omega)
    all_goals first | exact AV.up_rfl _ | exact obUp_cons rfl (obUp_cons rfl obUp_nil)
  · have e0 : (n < 0) = False := eq_false h0
    have e1 : (((all.length - tk : Nat) : Int) < n) = True := eq_true (hn.resolve_left h0)
    (repeat' (first
    | exact trivial
    | (with_reducible first | refine awA ?_ | refine awB ?_ | refine awC ?_ | refine awD ?_ | refine awE ?_ | refine awF ?_ | refine awG ?_ | refine awH ?_ | refine awI ?_ | refine awJ ?_ | refine awK ?_ | refine awL ?_ | refine awM (by decide) ?_)
    | ((with_reducible first | refine awN (tyOf_ok _) [] ?_ | refine awO (tyOf_ok _) [] ?_ | refine awP (tyOf_ok _) [] ?_ | refine awQ ?_ | refine awR ?_ | refine awS ?_ | refine awT ?_ | refine awU ?_); intro r hr; simp only [go_sem, Nat.reduceBEq, Nat.reduceBneDiff, Nat.reduceLT, Nat.reduceLeDiff, Nat.reduceAdd, Nat.reduceMul, Nat.reduceSub, Nat.reduceEqDiff, reduceCtorEq, e0, e1] at hr; subst hr; (first | refine awV ?_ ?_ | refine awW ?_ ?_ | refine endK ?_ ?_ | refine endGK ?_ ?_ ?_ | (refine condK (fun h => ?_) (fun h => ?_) <;> (try simp only [go_sem, reduceCtorEq] at h) <;> (try (exfalso; omega)))))
    | (refine go_callGE [(10000, 10000), (15000, 15000)] [(10000, 10000), (15000, 15000)] [15000] [10000] ?_; intro r hr; simp only [go_sem, Nat.reduceBEq, Nat.reduceBneDiff, Nat.reduceLT, Nat.reduceLeDiff, Nat.reduceAdd, Nat.reduceMul, Nat.reduceSub, Nat.reduceEqDiff, reduceCtorEq, e0, e1] at hr; subst hr; refine callGK (hH) rfl rfl (by first | exact .inl rfl | exact .inr rfl) ?_ (.inl rfl) ?_) | fail)) <;> (try omega)
    all_goals first | exact AV.up_rfl _ | exact obUp_cons rfl (obUp_cons rfl obUp_nil)
theorem rskip_ok (all : List Int) (tk : Nat) (frm : Int) (over : Bool) (h : okR all tk frm) (k : Nat) (hk : k ≤ all.length - tk) : GCall Try.prog 33 [.ptr 1 10000 0 0, vI k] (rfO all tk frm over) (vI 0) (rfO all (tk + k) frm over) := by
  have hH := rheld_G all tk frm over h
  have hl := h.len
  have hle := h.le
  have e0 : ((k : Int) < 0) = False := eq_false (by omega)
  have e1 : (((all.length - tk : Nat) : Int) < (k : Int)) = False := eq_false (by omega)
  have hw : IntKind.i64.wrap ((tk : Int) + k) = ((tk + k : Nat) : Int) := by rw [wrap_i64 (by omega)]; omega
  unfold rfO at *
  refine go_fnG (tyOf_ok _) Try.func33 rfl rfl (by rw [Try.results33]) Try.ntmps33 rfl fun E => ?_
  (repeat' (first
    | exact trivial
    | (with_reducible first | refine awA ?_ | refine awB ?_ | refine awC ?_ | refine awD ?_ | refine awE ?_ | refine awF ?_ | refine awG ?_ | refine awH ?_ | refine awI ?_ | refine awJ ?_ | refine awK ?_ | refine awL ?_ | refine awM (by decide) ?_)
    | ((with_reducible first | refine awN (tyOf_ok _) [] ?_ | refine awO (tyOf_ok _) [] ?_ | refine awP (tyOf_ok _) [] ?_ | refine awQ ?_ | refine awR ?_ | refine awS ?_ | refine awT ?_ | refine awU ?_); intro r hr; simp only [go_sem, Nat.reduceBEq, Nat.reduceBneDiff, Nat.reduceLT, Nat.reduceLeDiff, Nat.reduceAdd, Nat.reduceMul, Nat.reduceSub, Nat.reduceEqDiff, reduceCtorEq, e0, e1, hw] at hr; subst hr; (first | refine awV ?_ ?_ | refine awW ?_ ?_ | refine endK ?_ ?_ | refine endGK ?_ ?_ ?_ | (refine condK (fun h => ?_) (fun h => ?_) <;> (try simp only [go_sem, reduceCtorEq] at h) <;> (try (exfalso; omega)))))
    | (refine go_callGE [(10000, 10000), (15000, 15000)] [(10000, 10000), (15000, 15000)] [15000] [10000] ?_; intro r hr; simp only [go_sem, Nat.reduceBEq, Nat.reduceBneDiff, Nat.reduceLT, Nat.reduceLeDiff, Nat.reduceAdd, Nat.reduceMul, Nat.reduceSub, Nat.reduceEqDiff, reduceCtorEq, e0, e1, hw] at hr; subst hr; refine callGK (hH) rfl rfl (by first | exact .inl rfl | exact .inr rfl) ?_ (.inl rfl) ?_) | fail)) <;> (try omega)
  all_goals first | exact AV.up_rfl _ | exact obUp_cons rfl (obUp_cons rfl obUp_nil)
theorem rpeek_bad (all : List Int) (tk : Nat) (frm : Int) (over : Bool) (h : okR all tk frm) (n : Int) (hn : n < 0 ∨ ((all.length - tk : Nat) : Int) < n) : GCall Try.prog 31 [.ptr 1 10000 0 0, vI n] (rfO all tk frm over) (.tup [.v (.slice none 0 0), vB false]) (rfO all tk frm over) := by
  have hH := rheld_G all tk frm over h
  unfold rfO at *
  refine go_fnG (tyOf_ok _) Try.func31 rfl rfl (by rw [Try.results31]) Try.ntmps31 rfl fun E => ?_
  by_cases h0 : n < 0
  · have e0 : (n < 0) = True := eq_true h0
    (repeat' (first
    | exact trivial
    | (with_reducible first | refine awA ?_ | refine awB ?_ | refine awC ?_ | refine awD ?_ | refine awE ?_ | refine awF ?_ | refine awG ?_ | refine awH ?_ | refine awI ?_ | refine awJ ?_ | refine awK ?_ | refine awL ?_ | refine awM (by decide) ?_)
    | (refine aw_draw (id := 3) (t := (.node [0, 1, 2, 3, 4, 5, 6, 7, 8, 9, 10, 11, 12, 13, 14, 15, 16, 17] [])) (drR [10000] [] []) mixed (by kernel_rfl) (by kernel_rfl) (fun _ _ h => h) ?_)
    | (refine at_done (by simp only [List.filterMap_cons, List.filterMap_nil, List.getElem?_toArray, List.getElem?_cons_zero, List.getElem?_cons_succ]; exact rfl) ?_) | (refine at_alt (by simp only [List.filterMap_cons, List.filterMap_nil, List.getElem?_toArray, List.getElem?_cons_zero, List.getElem?_cons_succ]; exact rfl) ?_) | refine qalt_normal ?_ | refine ats_cons ?_ ?_ | exact ats_nil
    | ((with_reducible first | refine awN (tyOf_ok _) [] ?_ | refine awO (tyOf_ok _) [] ?_ | refine awP (tyOf_ok _) [] ?_ | refine awQ ?_ | refine awR ?_ | refine awS ?_ | refine awT ?_ | refine awU ?_); intro r hr; simp only [go_sem, Nat.reduceBEq, Nat.reduceBneDiff, Nat.reduceLT, Nat.reduceLeDiff, Nat.reduceAdd, Nat.reduceMul, Nat.reduceSub, Nat.reduceEqDiff, reduceCtorEq, e0] at hr; subst hr; (first | refine caB 43 (vI 0) ?_ ?_ ?_ | refine awV ?_ ?_ | refine awW ?_ ?_ | refine endK ?_ ?_ | refine endGK ?_ ?_ ?_ | (refine condK (fun h => ?_) (fun h => ?_) <;> (try simp only [go_sem, reduceCtorEq] at h) <;> (try (exfalso; omega))))) | fail)) <;> (try omega)
    all_goals first | exact AV.up_rfl _ | exact obUp_cons rfl (obUp_cons rfl obUp_nil)
  · have e0 : (n < 0) = False := eq_false h0
    have e1 : (((all.length - tk : Nat) : Int) < n) = True := eq_true (hn.resolve_left h0)
    (repeat' (first
    | exact trivial
    | (with_reducible first | refine awA ?_ | refine awB ?_ | refine awC ?_ | refine awD ?_ | refine awE ?_ | refine awF ?_ | refine awG ?_ | refine awH ?_ | refine awI ?_ | refine awJ ?_ | refine awK ?_ | refine awL ?_ | refine awM (by decide) ?_)
    | (refine aw_draw (id := 3) (t := (.node [0, 1, 2, 3, 4, 5, 6, 7, 8, 9, 10, 11, 12, 13, 14, 15, 16, 17] [])) (drR [10000] [] []) mixed (by kernel_rfl) (by kernel_rfl) (fun _ _ h => h) ?_)
    | (refine at_done (by simp only [List.filterMap_cons, List.filterMap_nil, List.getElem?_toArray, List.getElem?_cons_zero, List.getElem?_cons_succ]; exact rfl) ?_) | (refine at_alt (by simp only [List.filterMap_cons, List.filterMap_nil, List.getElem?_toArray, List.getElem?_cons_zero, List.getElem?_cons_succ]; exact rfl) ?_) | refine qalt_normal ?_ | refine ats_cons ?_ ?_ | exact ats_nil
    | ((with_reducible first | refine awN (tyOf_ok _) [] ?_ | refine awO (tyOf_ok _) [] ?_ | refine awP (tyOf_ok _) [] ?_ | refine awQ ?_ | refine awR ?_ | refine awS ?_ | refine awT ?_ | refine awU ?_); intro r hr; simp only [go_sem, Nat.reduceBEq, Nat.reduceBneDiff, Nat.reduceLT, Nat.reduceLeDiff, Nat.reduceAdd, Nat.reduceMul, Nat.reduceSub, Nat.reduceEqDiff, reduceCtorEq, e0, e1] at hr; subst hr; (first | refine awV ?_ ?_ | refine awW ?_ ?_ | refine endK ?_ ?_ | refine endGK ?_ ?_ ?_ | (refine condK (fun h => ?_) (fun h => ?_) <;> (try simp only [go_sem, reduceCtorEq] at h) <;> (try (exfalso; omega)))))
    | (refine go_callGE [(10000, 10000), (15000, 15000)] [(10000, 10000), (15000, 15000)] [15000] [10000] ?_; intro r hr; simp only [go_sem, Nat.reduceBEq, Nat.reduceBneDiff, Nat.reduceLT, Nat.reduceLeDiff, Nat.reduceAdd, Nat.reduceMul, Nat.reduceSub, Nat.reduceEqDiff, reduceCtorEq, e0, e1] at hr; subst hr; refine callGK (hH) rfl rfl (by first | exact .inl rfl | exact .inr rfl) ?_ (.inl rfl) ?_) | fail)) <;> (try omega)
    all_goals first | exact AV.up_rfl _ | exact obUp_cons rfl (obUp_cons rfl obUp_nil)
theorem rpeek_ok (all : List Int) (tk : Nat) (frm : Int) (over : Bool) (h : okR all tk frm) (k : Nat) (hk : k ≤ all.length - tk) : GCall Try.prog 31 [.ptr 1 10000 0 0, vI k] (rfO all tk frm over) (.tup [.ref 5 1 29 0 k, vB true]) ((29, .row 5 1 (encB ((all.drop tk).take k))) :: rfO all tk frm over) := by
  have hH := rheld_G all tk frm over h
  have hl := h.len
  have hle := h.le
  have e0 : ((k : Int) < 0) = False := eq_false (by omega)
  have e1 : (((all.length - tk : Nat) : Int) < (k : Int)) = False := eq_false (by omega)
  have hw : IntKind.i64.wrap ((tk : Int) + k) = ((tk + k : Nat) : Int) := by rw [wrap_i64 (by omega)]; omega
  have zk : ((tk : Int)).toNat = tk := by omega
  have zk2 : (((tk + k : Nat) : Int)).toNat = tk + k := by omega
  have hs : tk + k - tk = k := by omega
  have hcut : ((encB all).take (tk + k)).drop tk = encB ((all.drop tk).take k) := by
    rw [encB_take, encB_drop, List.drop_take, Nat.add_sub_cancel_left]
  have hlk : ((all.drop tk).take k).length = k := by rw [List.length_take, List.length_drop]; omega
  unfold rfO at *
  refine go_fnG (tyOf_ok _) Try.func31 rfl rfl (by rw [Try.results31]) Try.ntmps31 rfl fun E => ?_
  (repeat' (first
    | exact trivial
    | (with_reducible first | refine awA ?_ | refine awB ?_ | refine awC ?_ | refine awD ?_ | refine awE ?_ | refine awF ?_ | refine awG ?_ | refine awH ?_ | refine awI ?_ | refine awJ ?_ | refine awK ?_ | refine awL ?_ | refine awM (by decide) ?_)
    | (refine aw_draw (id := 3) (t := (.node [0, 1, 2, 3, 4, 5, 6, 7, 8, 9, 10, 11, 12, 13, 14, 15, 16, 17] [])) (drR [10000] [] []) mixed (by kernel_rfl) (by kernel_rfl) (fun _ _ h => h) ?_)
    | (refine at_done (by simp only [List.filterMap_cons, List.filterMap_nil, List.getElem?_toArray, List.getElem?_cons_zero, List.getElem?_cons_succ]; exact rfl) ?_) | (refine at_alt (by simp only [List.filterMap_cons, List.filterMap_nil, List.getElem?_toArray, List.getElem?_cons_zero, List.getElem?_cons_succ]; exact rfl) ?_) | refine qalt_normal ?_ | refine ats_cons ?_ ?_ | exact ats_nil
    | ((with_reducible first | refine awN (tyOf_ok _) [] ?_ | refine awO (tyOf_ok _) [] ?_ | refine awP (tyOf_ok _) [] ?_ | refine awQ ?_ | refine awR ?_ | refine awS ?_ | refine awT ?_ | refine awU ?_); intro r hr; simp only [go_sem, Nat.reduceBEq, Nat.reduceBneDiff, Nat.reduceLT, Nat.reduceLeDiff, Nat.reduceAdd, Nat.reduceMul, Nat.reduceSub, Nat.reduceEqDiff, reduceCtorEq, e0, e1, hw, zk, zk2, hs, hcut, hlk, encB_len, Nat.zero_add, List.nil_append] at hr; subst hr; (first | refine awV ?_ ?_ | refine awW ?_ ?_ | refine endK ?_ ?_ | refine endGK ?_ ?_ ?_ | (refine condK (fun h => ?_) (fun h => ?_) <;> (try simp only [go_sem, reduceCtorEq] at h) <;> (try (exfalso; omega)))))
    | (refine go_callGE [(10000, 10000), (15000, 15000)] [(10000, 10000), (15000, 15000)] [15000] [10000] ?_; intro r hr; simp only [go_sem, Nat.reduceBEq, Nat.reduceBneDiff, Nat.reduceLT, Nat.reduceLeDiff, Nat.reduceAdd, Nat.reduceMul, Nat.reduceSub, Nat.reduceEqDiff, reduceCtorEq, e0, e1, hw, zk, zk2, hs, hcut, hlk, encB_len, Nat.zero_add, List.nil_append] at hr; subst hr; refine callGK (hH) rfl rfl (by first | exact .inl rfl | exact .inr rfl) ?_ (.inl rfl) ?_) | fail)) <;> (try omega)
  all_goals first | omega | exact AV.up_rfl _ | exact obUp_cons rfl (obUp_cons rfl (obUp_cons rfl obUp_nil))
theorem rnew_bad (n : Int) (h : n < 0 ∨ 2147483647 < n) : GCall Try.prog 24 [vI n] [] (.tup [.v (.pointer none), vI 3]) [] := by
  refine go_fnG (tyOf_ok _) Try.func24 rfl rfl (by rw [Try.results24]) Try.ntmps24 rfl fun E => ?_
  by_cases h0 : n < 0
  · have e0 : (n < 0) = True := eq_true h0
    (repeat' (first
    | exact trivial
    | (with_reducible first | refine awA ?_ | refine awB ?_ | refine awC ?_ | refine awD ?_ | refine awE ?_ | refine awF ?_ | refine awG ?_ | refine awH ?_ | refine awI ?_ | refine awJ ?_ | refine awK ?_ | refine awL ?_ | refine awM (by decide) ?_)
    | ((with_reducible first | refine awN (tyOf_ok _) [] ?_ | refine awO (tyOf_ok _) [] ?_ | refine awP (tyOf_ok _) [] ?_ | refine awQ ?_ | refine awR ?_ | refine awS ?_ | refine awT ?_ | refine awU ?_); intro r hr; simp only [go_sem, Nat.reduceBEq, Nat.reduceBneDiff, Nat.reduceLT, Nat.reduceLeDiff, Nat.reduceAdd, Nat.reduceMul, Nat.reduceSub, Nat.reduceEqDiff, reduceCtorEq, e0, Int.cast_ofNat_Int, Int.reduceToNat, Int.reduceEq, Int.reduceLT, Int.reduceLE, Int.reduceNe] at hr; subst hr; (first | refine awV ?_ ?_ | refine awW ?_ ?_ | refine endK ?_ ?_ | refine endGK ?_ ?_ ?_ | (refine condK (fun h => ?_) (fun h => ?_) <;> (try simp only [go_sem, reduceCtorEq] at h) <;> (try (exfalso; omega))))) | fail)) <;> (try omega)
    all_goals first | exact AV.up_rfl _ | exact obUp_nil
  · have e0 : (n < 0) = False := eq_false h0
    have e1 : (2147483647 < n) = True := eq_true (h.resolve_left h0)
    (repeat' (first
    | exact trivial
    | (with_reducible first | refine awA ?_ | refine awB ?_ | refine awC ?_ | refine awD ?_ | refine awE ?_ | refine awF ?_ | refine awG ?_ | refine awH ?_ | refine awI ?_ | refine awJ ?_ | refine awK ?_ | refine awL ?_ | refine awM (by decide) ?_)
    | ((with_reducible first | refine awN (tyOf_ok _) [] ?_ | refine awO (tyOf_ok _) [] ?_ | refine awP (tyOf_ok _) [] ?_ | refine awQ ?_ | refine awR ?_ | refine awS ?_ | refine awT ?_ | refine awU ?_); intro r hr; simp only [go_sem, Nat.reduceBEq, Nat.reduceBneDiff, Nat.reduceLT, Nat.reduceLeDiff, Nat.reduceAdd, Nat.reduceMul, Nat.reduceSub, Nat.reduceEqDiff, reduceCtorEq, e0, e1] at hr; subst hr; (first | refine awV ?_ ?_ | refine awW ?_ ?_ | refine endK ?_ ?_ | refine endGK ?_ ?_ ?_ | (refine condK (fun h => ?_) (fun h => ?_) <;> (try simp only [go_sem, reduceCtorEq] at h) <;> (try (exfalso; omega))))) | fail)) <;> (try omega)
    all_goals first | exact AV.up_rfl _ | exact obUp_nil
theorem rnew_ok (n : Int) (h0 : 0 ≤ n) (h1 : n ≤ 2147483647) : GCall Try.prog 24 [vI n] [] (.tup [.ptr 1 12 0 0, vI 0]) [(12, .var [.v (.slice none 0 0), vI 0, vI n, vB false])] := by
  have e0 : (n < 0) = False := eq_false (by omega)
  have e1 : (2147483647 < n) = False := eq_false (by omega)
  refine go_fnG (tyOf_ok _) Try.func24 rfl rfl (by rw [Try.results24]) Try.ntmps24 rfl fun E => ?_
  (repeat' (first
    | exact trivial
    | (with_reducible first | refine awA ?_ | refine awB ?_ | refine awC ?_ | refine awD ?_ | refine awE ?_ | refine awF ?_ | refine awG ?_ | refine awH ?_ | refine awI ?_ | refine awJ ?_ | refine awK ?_ | refine awL ?_ | refine awM (by decide) ?_)
    | ((with_reducible first | refine awN (tyOf_ok _) [] ?_ | refine awO (tyOf_ok _) [] ?_ | refine awP (tyOf_ok _) [] ?_ | refine awQ ?_ | refine awR ?_ | refine awS ?_ | refine awT ?_ | refine awU ?_); intro r hr; simp only [go_sem, Nat.reduceBEq, Nat.reduceBneDiff, Nat.reduceLT, Nat.reduceLeDiff, Nat.reduceAdd, Nat.reduceMul, Nat.reduceSub, Nat.reduceEqDiff, reduceCtorEq, e0, e1] at hr; subst hr; (first | refine awV ?_ ?_ | refine awW ?_ ?_ | refine endK ?_ ?_ | refine endGK ?_ ?_ ?_ | (refine condK (fun h => ?_) (fun h => ?_) <;> (try simp only [go_sem, reduceCtorEq] at h) <;> (try (exfalso; omega))))) | fail)) <;> (try omega)
  all_goals first | exact AV.up_rfl _ | exact obUp_cons rfl obUp_nil
end Go.Proofs.Ytopcfnlcapibgaa
end
section
namespace Go.Proofs.Ytopcfnlcapibgaa
open Go.RowKit
/-! A contract of the old road, in the new one. -/
section
variable {P : Program}
theorem pcall_pure {f : Nat} {fn : Func} (hf : P.funcs[f]? = some fn) (hb : fn.body.isSome = true) (hn : (fn.name == "runtime.NumGoroutine") = false) {xs : List Value} {r : Value} (hx : ∀ x ∈ xs, flatV x = true) (hr : flatV r = true)
    (h : ∀ w : World, Calls P f xs.toArray w fun e w' => e = .returned r ∧ w = w') : PCall P f (xs.map .v) (fun x => x = .v r) := by
  refine ⟨⟨fn, hf, hb, hn⟩, fun w F vs _ hl ha => ?_⟩
  have hv : vs = xs.toArray := by
    apply Array.ext
    · simpa using hl
    · intro i h1 h2
      have h2' : i < xs.length := by simpa using h2
      have := ha i (.v xs[i]) vs[i] (by rw [List.getElem?_map, List.getElem?_eq_getElem h2']; rfl) (Array.getElem?_eq_getElem h1)
      have hx' : xs.toArray[i]'h2 = xs[i] := by simp
      rw [hx']
      generalize xs[i] = y at this ⊢
      generalize vs[i] = z at this ⊢
      cases this with
      | s this =>
      cases this with
      | v _ => rfl
  subst hv
  refine (h w).mono fun e w' ⟨h1, h2⟩ => ?_
  subst h2
  exact ⟨r, .v r, h1, rfl, ⟨rfl, rfl, rfl, Nat.le_refl _, fun _ _ => rfl⟩, .s (.v hr)⟩
end
end Go.Proofs.Ytopcfnlcapibgaa
end
section
namespace Go.Proofs.Ytopcfnlcapibgaa
open Go.RowKit
/-! Which numbers fit a width. -/
def fitsB (n wd : Int) : Bool := decide (1 ≤ wd) && decide (wd ≤ 8) && decide (n < 256 ^ wd.toNat)
theorem bitLen_le (k : Nat) : ∀ x : Nat, x < 2 ^ 64 → (Lib.bitLen x ≤ k ↔ x < 2 ^ k) := by
  induction k with
  | zero =>
    intro x hx
    by_cases h0 : x = 0
    · subst h0; exact ⟨fun _ => by decide, fun _ => by decide⟩
    · rw [Lib.bitLen_half x h0 hx]; simp; omega
  | succ k ih =>
    intro x hx
    by_cases h0 : x = 0
    · subst h0; exact ⟨fun _ => Nat.two_pow_pos _, fun _ => by have : Lib.bitLen 0 = 0 := by decide
                                                               omega⟩
    · have := ih (x / 2) (by omega)
      rw [Lib.bitLen_half x h0 hx, Nat.pow_succ]; omega

theorem fitsB_lo (n wd : Int) (h : ¬ 1 ≤ wd) : fitsB n wd = false := by simp [fitsB, h]
theorem fitsB_hi (n wd : Int) (h : ¬ wd ≤ 8) : fitsB n wd = false := by simp [fitsB, h]
theorem fitsB_mid (n wd : Int) (hn : U64 n) (h1 : 1 ≤ wd) (h2 : wd ≤ 8) : decide ((Lib.bitLen n.toNat : Int) ≤ 8 * wd) = fitsB n wd := by
  obtain ⟨hn0, hn1⟩ := hn
  obtain ⟨m, rfl⟩ := Int.eq_ofNat_of_zero_le hn0
  obtain ⟨k, rfl⟩ := Int.eq_ofNat_of_zero_le (by omega : 0 ≤ wd)
  have := bitLen_le (8 * k) m (by omega)
  have e : (2 : Nat) ^ (8 * k) = 256 ^ k := by rw [Nat.pow_mul]
  have e2 : ((256 : Int) ^ k) = ((256 ^ k : Nat) : Int) := by rw [Int.natCast_pow]; rfl
  simp only [fitsB, h1, h2, decide_true, Bool.true_and, Int.toNat_natCast]
  rw [e] at this
  simp only [e2]
  by_cases hh : m < 256 ^ k
  · rw [decide_eq_true (by omega), decide_eq_true (by omega)]
  · rw [decide_eq_false (by omega), decide_eq_false (by omega)]

end Go.Proofs.Ytopcfnlcapibgaa
end
section
/-
  DERIVED: THE SHELF's CONTRACTS AT THIS DUMP, IN PLAIN WORDS (tools/lay-plain.mjs out of 'TryShelf.lean', which tools/lay-shelf.mjs wrote): THE SAME DECLARATIONS UNDER THE SAME NAMES: 'import', 'namespace', 'open', 'def', 'theorem' AND NOTHING ELSE: no command of the shelf's: FOR A HAND-IN. Each laying: the table of numbers ('.._ren') and one theorem, a field a fact of the dump's own or the kernel's comparison; each contract: ONE APPLICATION.
-/
namespace Go.Proofs
open Go.Shelf
def Try.lays129_ren : Go.Shelf.Ren := ⟨fun | 129 => 50 | n => n, fun | 53 => 27 | 3 => 3 | 4 => 4 | 46 => 91 | 5 => 5 | 9 => 9 | n => n, fun | n => n⟩
theorem Try.lays129 : Go.Proofs.Lays.n129 Try.prog Try.lays129_ren := {
  mixed := by kernel_rfl
  f129 := Try.func50.trans (congrArg some (by kernel_rfl))
  t3 := Try.underlying3
  a3 := Try.isAgg3
  z3 := Try.sizeOf3
  v3 := Try.zeroValue3
  t4 := Try.underlying4
  a4 := Try.isAgg4
  z4 := Try.sizeOf4
  v4 := Try.zeroValue4
  t5 := Try.underlying5
  a5 := Try.isAgg5
  z5 := Try.sizeOf5
  v5 := Try.zeroValue5
  t9 := Try.underlying9
  a9 := Try.isAgg9
  z9 := Try.sizeOf9
  v9 := Try.zeroValue9
  t46 := Try.underlying91
  a46 := Try.isAgg91
  z46 := Try.sizeOf91
  v46 := Try.zeroValue91
  t53 := Try.underlying27
  a53 := Try.isAgg27
  z53 := Try.sizeOf27
  v53 := Try.zeroValue27 }
/-- bits.Len64: "Len64 returns the minimum number of bits required to represent x; the result is 0 for x == 0.": IT RETURNS 'Lib.bitLen x'; the world is as it was. ('h0', 'h1': x is a uint64.) (LAID: no walk: one application.) -/
theorem Try.bits_Len64 (x : Int) (w : World) (h0 : 0 ≤ x) (h1 : x ≤ 18446744073709551615) :
    Calls Try.prog 50 #[.int .u64 x] w fun e w' => e = .returned (.int .i64 (Lib.bitLen x.toNat)) ∧ w' = w := Any.bits_Len64 Try.lays129 x w h0 h1
def Try.laysSlK4_ren : Go.Shelf.Ren := ⟨fun | 4 => 41 | n => n, fun | 22 => 28 | 4 => 4 | 5 => 5 | n => n, fun | n => n⟩
theorem Try.laysSlK4 : Go.Proofs.SlLaysK.n4 Try.prog Try.laysSlK4_ren := {
  mixed := by kernel_rfl
  f4 := Try.func41.trans (congrArg some (by kernel_rfl))
  t4 := Try.underlying4
  a4 := Try.isAgg4
  z4 := Try.sizeOf4
  v4 := Try.zeroValue4
  t22 := Try.underlying28
  a22 := Try.isAgg28
  z22 := Try.sizeOf28
  v22 := Try.zeroValue28
  t5 := Try.underlying5
  i5 := by kernel_rfl }
open Go.RowKit Go.Lib in
/-- bytes.Clone: "Clone returns a copy of b[:len(b)]. The result may have additional unused capacity.": OF A SLICE THAT IS NOT nil IT RETURNS A SLICE THAT IS NOT nil, OF THE SAME BYTES, IN MEMORY OF THE CALL's OWN: in the how-to's words (6f): 'w'.ownsRow B e 1 v' n cells' · 'Below B w w'', B the heap's size at the call. b AT WHATEVER ADDRESS, its cells as 'open_ints' hands them ('a.add i'; the numbers 'xs'). No byte: no cell is asked for. (LAID: no walk: one application.) -/
theorem Try.bytes_Clone_at (a : Addr) (n c : Nat) (xs : List Int) (w : World) (hx : xs.length = n) (hbig : n ≤ 140737488355328) (hc : ∀ i, i < n → w.cell? (a.add i) = some (.int .u8 (xs.getD i 0))) :
    Calls Try.prog 41 #[.slice (some a) n c] w fun e w' => ∃ v', e = .returned v' ∧ w'.ownsRow w.heap.size 5 1 v' n (xs.map (Value.int .u8)) ∧ v' ≠ .slice none 0 0 ∧ Below w.heap.size w w' := Any.bytes_Clone_at Try.laysSlK4 a n c xs w hx hbig hc
open Go.RowKit Go.Lib in
/-- "Clone(nil) returns nil.": the world is as it was. (LAID: no walk: one application.) -/
theorem Try.bytes_Clone_nil (n c : Nat) (w : World) :
    Calls Try.prog 41 #[.slice none n c] w fun e w' => e = .returned (.slice none 0 0) ∧ w' = w := Any.bytes_Clone_nil Try.laysSlK4 n c w
end Go.Proofs
end
section
namespace Go.Proofs.Ytopcfnlcapibgaa
open Go.RowKit
/-! le.Fits. -/
set_option maxHeartbeats 400000 in
theorem Fits_any (n wd : Int) (w : World) (hn : U64 n) (hw : I64 wd) :
    Calls Try.prog 47 #[.int .u64 n, .int .i64 wd] w fun e w' => e = .returned (.bool (fitsB n wd)) ∧ w = w' := by
  by_cases h1 : 1 ≤ wd
  · by_cases h2 : wd ≤ 8
    · have HM := Lib.hid (fitsB_mid n wd hn h1 h2)
      obtain ⟨hn0, hn1⟩ := hn
      obtain ⟨hw0, hw1⟩ := hw
      go_enter Try.func47, Try.ntmps47
      go_wp2_with (go_at_call 50; refine (Try.bits_Len64 _ _ (by assumption) (by assumption)).mono ?_; rintro e w' ⟨rfl, rfl⟩)
      go_ret
      exact ⟨ret_bool HM.out, rfl⟩
    · have HM := Lib.hid (fitsB_hi n wd h2)
      obtain ⟨hw0, hw1⟩ := hw
      go_enter Try.func47, Try.ntmps47
      go_wp2
      go_ret
      exact ⟨ret_bool HM.out.symm, rfl⟩
  · have HM := Lib.hid (fitsB_lo n wd h1)
    obtain ⟨hw0, hw1⟩ := hw
    go_enter Try.func47, Try.ntmps47
    go_wp2
    go_ret
    exact ⟨ret_bool HM.out.symm, rfl⟩
theorem fits_p {n w : Int} (hn : U64 n) (hw : I64 w) : PCall Try.prog 47 [.v (.int .u64 n), vI w] (fun x => x = vB (fitsB n w)) :=
  pcall_pure (xs := [.int .u64 n, .int .i64 w]) Try.func47 rfl rfl (fun x hx => by simp at hx; rcases hx with rfl | rfl <;> rfl) rfl fun W => Fits_any n w W hn hw
end Go.Proofs.Ytopcfnlcapibgaa
end
section
namespace Go.Proofs.Ytopcfnlcapibgaa
open Go.RowKit
set_option maxRecDepth 100000
set_option maxHeartbeats 8000000
/-! Numbers written into bytes: le.Put, mortiseref01.Put. -/
/-- byte i of a number -/
def byteN (n : Int) (i : Nat) : Int := n / 256 ^ i % 256
/-- k bytes of a number written from a place on -/
def putB (b : List Int) (at_ : Nat) (n : Int) (k : Nat) : List Int := b.take at_ ++ (List.range k).map (byteN n) ++ b.drop (at_ + k)
theorem byteN_shr (n : Int) (j : Nat) (hj : j < 8) (hn : 0 ≤ n) : IntKind.u8.wrap (n.fdiv (2 ^ min (8 * (j : Int)).toNat 64)) = byteN n j := by
  have h1 : (8 * (j : Int)).toNat = 8 * j := by omega
  have h2 : min (8 * j) 64 = 8 * j := by omega
  have h3 : (2 : Int) ^ (8 * j) = 256 ^ j := by rw [Int.pow_mul]; rfl
  rw [h1, h2, h3, Int.fdiv_eq_ediv_of_nonneg _ (Int.pow_nonneg (by decide)), byteN]
  rfl
theorem putB_zero (b : List Int) (at_ : Nat) (n : Int) : putB b at_ n 0 = b := by simp [putB]
theorem putB_len {b : List Int} {at_ k : Nat} (n : Int) (h : at_ + k ≤ b.length) : (putB b at_ n k).length = b.length := by simp [putB]; omega
theorem putB_set {b : List Int} {at_ k : Nat} (n : Int) (h : at_ + k < b.length) : (encB (putB b at_ n k)).set (at_ + k) [.v (.int .u8 (byteN n k))] = encB (putB b at_ n (k + 1)) := by
  have h1 : (putB b at_ n k).set (at_ + k) (byteN n k) = putB b at_ n (k + 1) := by
    have hl : (b.take at_ ++ (List.range k).map (byteN n)).length = at_ + k := by simp; omega
    rw [putB, putB, List.set_append_right _ _ (by rw [hl]; exact Nat.le_refl _), hl, Nat.sub_self, List.drop_eq_getElem_cons h, List.set_cons_zero, List.range_succ, List.map_append, show at_ + (k + 1) = at_ + k + 1 by omega]
    simp
  rw [← h1, encB, encB, List.map_set]
theorem putB_cell {b : List Int} {at_ k : Nat} (n : Int) (h : at_ + k < b.length) : (encB (putB b at_ n k))[at_ + k]? = some [.v (.int .u8 b[at_ + k])] := by
  have hl : at_ + k < (putB b at_ n k).length := by rw [putB_len n (by omega)]; exact h
  rw [encB_get hl]
  have hl2 : (b.take at_ ++ (List.range k).map (byteN n)).length = at_ + k := by simp; omega
  have : (putB b at_ n k)[at_ + k] = b[at_ + k] := by
    have h2 : (putB b at_ n k)[at_ + k]? = b[at_ + k]? := by
      rw [putB, List.getElem?_append_right (by rw [hl2]; exact Nat.le_refl _), hl2, Nat.sub_self, List.getElem?_drop, Nat.add_zero]
    rw [List.getElem?_eq_getElem hl, List.getElem?_eq_getElem h] at h2
    exact Option.some.inj h2
  rw [this]
/-- the error of a number that is written -/
def putE (len : Nat) (at_ wd : Int) (n : Int) : Int :=
  if wd < 1 ∨ 8 < wd then 10 else if at_ < 0 ∨ (len : Int) < at_ ∨ (len : Int) - at_ < wd then 3 else if fitsB n wd = true then 0 else 10
/-- the bytes behind it -/
def putL' (b : List Int) (at_ wd : Int) (n : Int) : List Int := if putE b.length at_ wd n = 0 then putB b at_.toNat n wd.toNat else b
/-- the slice of the number, or why there is none -/
theorem window_bad (b : List Int) (at_ wd e : Int) (h : (wd < 1 ∨ 8 < wd) ∧ e = 10 ∨ ¬ (wd < 1 ∨ 8 < wd) ∧ (at_ < 0 ∨ (b.length : Int) < at_ ∨ (b.length : Int) - at_ < wd) ∧ e = 3) (hl : b.length ≤ 1000000000) :
    GCall Try.prog 46 [.ref 5 1 10001 0 b.length, vI at_, vI wd] [(10001, .row 5 1 (encB b))] (.tup [.v (.slice none 0 0), vI e]) [(10001, .row 5 1 (encB b))] := by
  rcases h with ⟨h, rfl⟩ | ⟨h, h', rfl⟩
  · by_cases h1 : wd < 1
    · have e1 : (wd < 1) = True := eq_true h1
      refine go_fnG (tyOf_ok _) Try.func46 rfl rfl (by rw [Try.results46]) Try.ntmps46 rfl fun E => ?_
      (repeat' (first
    | exact trivial
    | (with_reducible first | refine awA ?_ | refine awB ?_ | refine awC ?_ | refine awD ?_ | refine awE ?_ | refine awF ?_ | refine awG ?_ | refine awH ?_ | refine awI ?_ | refine awJ ?_ | refine awK ?_ | refine awL ?_ | refine awM (by decide) ?_)
    | ((with_reducible first | refine awN (tyOf_ok _) [] ?_ | refine awO (tyOf_ok _) [] ?_ | refine awP (tyOf_ok _) [] ?_ | refine awQ ?_ | refine awR ?_ | refine awS ?_ | refine awT ?_ | refine awU ?_); intro r hr; simp only [go_sem, Nat.reduceBEq, Nat.reduceBneDiff, Nat.reduceLT, Nat.reduceLeDiff, Nat.reduceAdd, Nat.reduceMul, Nat.reduceSub, Nat.reduceEqDiff, reduceCtorEq, e1] at hr; subst hr; (first | refine awV ?_ ?_ | refine awW ?_ ?_ | refine endK ?_ ?_ | refine endGK ?_ ?_ ?_ | (refine condK (fun h => ?_) (fun h => ?_) <;> (try simp only [go_sem, reduceCtorEq] at h) <;> (try (exfalso; omega))))) | fail)) <;> (try omega)
      all_goals first | exact AV.up_rfl _ | exact obUp_cons rfl obUp_nil
    · have e1 : (wd < 1) = False := eq_false h1
      have e2 : (8 < wd) = True := eq_true (h.resolve_left h1)
      refine go_fnG (tyOf_ok _) Try.func46 rfl rfl (by rw [Try.results46]) Try.ntmps46 rfl fun E => ?_
      (repeat' (first
    | exact trivial
    | (with_reducible first | refine awA ?_ | refine awB ?_ | refine awC ?_ | refine awD ?_ | refine awE ?_ | refine awF ?_ | refine awG ?_ | refine awH ?_ | refine awI ?_ | refine awJ ?_ | refine awK ?_ | refine awL ?_ | refine awM (by decide) ?_)
    | ((with_reducible first | refine awN (tyOf_ok _) [] ?_ | refine awO (tyOf_ok _) [] ?_ | refine awP (tyOf_ok _) [] ?_ | refine awQ ?_ | refine awR ?_ | refine awS ?_ | refine awT ?_ | refine awU ?_); intro r hr; simp only [go_sem, Nat.reduceBEq, Nat.reduceBneDiff, Nat.reduceLT, Nat.reduceLeDiff, Nat.reduceAdd, Nat.reduceMul, Nat.reduceSub, Nat.reduceEqDiff, reduceCtorEq, e1, e2] at hr; subst hr; (first | refine awV ?_ ?_ | refine awW ?_ ?_ | refine endK ?_ ?_ | refine endGK ?_ ?_ ?_ | (refine condK (fun h => ?_) (fun h => ?_) <;> (try simp only [go_sem, reduceCtorEq] at h) <;> (try (exfalso; omega))))) | fail)) <;> (try omega)
      all_goals first | exact AV.up_rfl _ | exact obUp_cons rfl obUp_nil
  · have e1 : (wd < 1) = False := eq_false (by omega)
    have e2 : (8 < wd) = False := eq_false (by omega)
    by_cases h3 : at_ < 0
    · have e3 : (at_ < 0) = True := eq_true h3
      refine go_fnG (tyOf_ok _) Try.func46 rfl rfl (by rw [Try.results46]) Try.ntmps46 rfl fun E => ?_
      (repeat' (first
    | exact trivial
    | (with_reducible first | refine awA ?_ | refine awB ?_ | refine awC ?_ | refine awD ?_ | refine awE ?_ | refine awF ?_ | refine awG ?_ | refine awH ?_ | refine awI ?_ | refine awJ ?_ | refine awK ?_ | refine awL ?_ | refine awM (by decide) ?_)
    | ((with_reducible first | refine awN (tyOf_ok _) [] ?_ | refine awO (tyOf_ok _) [] ?_ | refine awP (tyOf_ok _) [] ?_ | refine awQ ?_ | refine awR ?_ | refine awS ?_ | refine awT ?_ | refine awU ?_); intro r hr; simp only [go_sem, Nat.reduceBEq, Nat.reduceBneDiff, Nat.reduceLT, Nat.reduceLeDiff, Nat.reduceAdd, Nat.reduceMul, Nat.reduceSub, Nat.reduceEqDiff, reduceCtorEq, e1, e2, e3] at hr; subst hr; (first | refine awV ?_ ?_ | refine awW ?_ ?_ | refine endK ?_ ?_ | refine endGK ?_ ?_ ?_ | (refine condK (fun h => ?_) (fun h => ?_) <;> (try simp only [go_sem, reduceCtorEq] at h) <;> (try (exfalso; omega))))) | fail)) <;> (try omega)
      all_goals first | exact AV.up_rfl _ | exact obUp_cons rfl obUp_nil
    · have e3 : (at_ < 0) = False := eq_false h3
      by_cases h4 : (b.length : Int) < at_
      · have e4 : ((b.length : Int) < at_) = True := eq_true h4
        refine go_fnG (tyOf_ok _) Try.func46 rfl rfl (by rw [Try.results46]) Try.ntmps46 rfl fun E => ?_
        (repeat' (first
    | exact trivial
    | (with_reducible first | refine awA ?_ | refine awB ?_ | refine awC ?_ | refine awD ?_ | refine awE ?_ | refine awF ?_ | refine awG ?_ | refine awH ?_ | refine awI ?_ | refine awJ ?_ | refine awK ?_ | refine awL ?_ | refine awM (by decide) ?_)
    | ((with_reducible first | refine awN (tyOf_ok _) [] ?_ | refine awO (tyOf_ok _) [] ?_ | refine awP (tyOf_ok _) [] ?_ | refine awQ ?_ | refine awR ?_ | refine awS ?_ | refine awT ?_ | refine awU ?_); intro r hr; simp only [go_sem, Nat.reduceBEq, Nat.reduceBneDiff, Nat.reduceLT, Nat.reduceLeDiff, Nat.reduceAdd, Nat.reduceMul, Nat.reduceSub, Nat.reduceEqDiff, reduceCtorEq, e1, e2, e3, e4] at hr; subst hr; (first | refine awV ?_ ?_ | refine awW ?_ ?_ | refine endK ?_ ?_ | refine endGK ?_ ?_ ?_ | (refine condK (fun h => ?_) (fun h => ?_) <;> (try simp only [go_sem, reduceCtorEq] at h) <;> (try (exfalso; omega))))) | fail)) <;> (try omega)
        all_goals first | exact AV.up_rfl _ | exact obUp_cons rfl obUp_nil
      · have e4 : ((b.length : Int) < at_) = False := eq_false h4
        have hw := wrap_i64 (n := (b.length : Int) - at_) (by omega)
        have e5 : ((b.length : Int) - at_ < wd) = True := eq_true (by omega)
        refine go_fnG (tyOf_ok _) Try.func46 rfl rfl (by rw [Try.results46]) Try.ntmps46 rfl fun E => ?_
        (repeat' (first
    | exact trivial
    | (with_reducible first | refine awA ?_ | refine awB ?_ | refine awC ?_ | refine awD ?_ | refine awE ?_ | refine awF ?_ | refine awG ?_ | refine awH ?_ | refine awI ?_ | refine awJ ?_ | refine awK ?_ | refine awL ?_ | refine awM (by decide) ?_)
    | ((with_reducible first | refine awN (tyOf_ok _) [] ?_ | refine awO (tyOf_ok _) [] ?_ | refine awP (tyOf_ok _) [] ?_ | refine awQ ?_ | refine awR ?_ | refine awS ?_ | refine awT ?_ | refine awU ?_); intro r hr; simp only [go_sem, Nat.reduceBEq, Nat.reduceBneDiff, Nat.reduceLT, Nat.reduceLeDiff, Nat.reduceAdd, Nat.reduceMul, Nat.reduceSub, Nat.reduceEqDiff, reduceCtorEq, e1, e2, e3, e4, e5, hw] at hr; subst hr; (first | refine awV ?_ ?_ | refine awW ?_ ?_ | refine endK ?_ ?_ | refine endGK ?_ ?_ ?_ | (refine condK (fun h => ?_) (fun h => ?_) <;> (try simp only [go_sem, reduceCtorEq] at h) <;> (try (exfalso; omega))))) | fail)) <;> (try omega)
        all_goals first | exact AV.up_rfl _ | exact obUp_cons rfl obUp_nil
theorem window_ok (b : List Int) (i k : Nat) (h1 : 1 ≤ k) (h8 : k ≤ 8) (h : i + k ≤ b.length) (hl : b.length ≤ 1000000000) :
    GCall Try.prog 46 [.ref 5 1 10001 0 b.length, vI i, vI k] [(10001, .row 5 1 (encB b))] (.tup [.ref 5 1 10001 i k, vI 0]) [(10001, .row 5 1 (encB b))] := by
  have e1 : ((k : Int) < 1) = False := eq_false (by omega)
  have e2 : (8 < (k : Int)) = False := eq_false (by omega)
  have e3 : ((i : Int) < 0) = False := eq_false (by omega)
  have e4 : ((b.length : Int) < (i : Int)) = False := eq_false (by omega)
  have hw := wrap_i64 (n := (b.length : Int) - i) (by omega)
  have hw2 := wrap_i64 (n := (i : Int) + k) (by omega)
  have e5 : ((b.length : Int) - i < (k : Int)) = False := eq_false (by omega)
  have zi : ((i : Int)).toNat = i := by omega
  have zk : ((i : Int) + k).toNat = i + k := by omega
  have hs : i + k - i = k := by omega
  refine go_fnG (tyOf_ok _) Try.func46 rfl rfl (by rw [Try.results46]) Try.ntmps46 rfl fun E => ?_
  (repeat' (first
    | exact trivial
    | (with_reducible first | refine awA ?_ | refine awB ?_ | refine awC ?_ | refine awD ?_ | refine awE ?_ | refine awF ?_ | refine awG ?_ | refine awH ?_ | refine awI ?_ | refine awJ ?_ | refine awK ?_ | refine awL ?_ | refine awM (by decide) ?_)
    | ((with_reducible first | refine awN (tyOf_ok _) [] ?_ | refine awO (tyOf_ok _) [] ?_ | refine awP (tyOf_ok _) [] ?_ | refine awQ ?_ | refine awR ?_ | refine awS ?_ | refine awT ?_ | refine awU ?_); intro r hr; simp only [go_sem, Nat.reduceBEq, Nat.reduceBneDiff, Nat.reduceLT, Nat.reduceLeDiff, Nat.reduceAdd, Nat.reduceMul, Nat.reduceSub, Nat.reduceEqDiff, reduceCtorEq, e1, e2, e3, e4, e5, hw, hw2, zi, zk, hs, Nat.zero_add] at hr; subst hr; (first | refine awV ?_ ?_ | refine awW ?_ ?_ | refine endK ?_ ?_ | refine endGK ?_ ?_ ?_ | (refine condK (fun h => ?_) (fun h => ?_) <;> (try simp only [go_sem, reduceCtorEq] at h) <;> (try (exfalso; omega))))) | fail)) <;> (try omega)
  all_goals first | omega | exact AV.up_rfl _ | exact obUp_cons rfl obUp_nil
theorem put_ok (b : List Int) (i k : Nat) (n : Int) (h1 : 1 ≤ k) (h8 : k ≤ 8) (h : i + k ≤ b.length) (hl : b.length ≤ 1000000000) (hn : U64 n) (hf : fitsB n k = true) :
    GCall Try.prog 40 [.ref 5 1 10001 0 b.length, vI i, vI k, .v (.int .u64 n)] [(10001, .row 5 1 (encB b))] (vI 0) [(10001, .row 5 1 (encB (putB b i n k)))] := by
  have hwn := window_ok b i k h1 h8 h hl
  have hfi := fits_p (n := n) (w := k) hn (by unfold I64; omega)
  rw [hf] at hfi
  refine go_fnG (tyOf_ok _) Try.func40 rfl rfl (by rw [Try.results40]) Try.ntmps40 rfl fun E => ?_
  (repeat' (first
    | exact trivial
    | (with_reducible first | refine awA ?_ | refine awB ?_ | refine awC ?_ | refine awD ?_ | refine awE ?_ | refine awF ?_ | refine awG ?_ | refine awH ?_ | refine awI ?_ | refine awJ ?_ | refine awK ?_ | refine awL ?_ | refine awM (by decide) ?_)
    | ((with_reducible first | refine awN (tyOf_ok _) [] ?_ | refine awO (tyOf_ok _) [] ?_ | refine awP (tyOf_ok _) [] ?_ | refine awQ ?_ | refine awR ?_ | refine awS ?_ | refine awT ?_ | refine awU ?_); intro r hr; simp only [go_sem, Nat.reduceBEq, Nat.reduceBneDiff, Nat.reduceLT, Nat.reduceLeDiff, Nat.reduceAdd, Nat.reduceMul, Nat.reduceSub, Nat.reduceEqDiff, reduceCtorEq, Bool.not_true] at hr; subst hr; (first | refine caA (fun _ => hfi) rfl ?_ ?_ ?_ | refine awV ?_ ?_ | refine awW ?_ ?_ | refine endK ?_ ?_ | refine endGK ?_ ?_ ?_ | (refine condK (fun h => ?_) (fun h => ?_) <;> (try simp only [go_sem, reduceCtorEq] at h) <;> (try (exfalso; omega)))))
    | (refine go_callGE [(10001, 10001)] [(10001, 10001)] [] [10001] ?_; intro r hr; simp only [go_sem, Nat.reduceBEq, Nat.reduceBneDiff, Nat.reduceLT, Nat.reduceLeDiff, Nat.reduceAdd, Nat.reduceMul, Nat.reduceSub, Nat.reduceEqDiff, reduceCtorEq, Bool.not_true] at hr; subst hr; refine callGK (hwn) rfl rfl (by first | exact .inl rfl | exact .inr rfl) ?_ (.inl rfl) ?_) | fail)) <;> (try omega)
  refine go_loop [3, 9, 27, 28] [10001] (fun j : Nat => ⟨[(3, true, .v (.int .u64 n)), (9, true, .ref 5 1 10001 i k), (27, true, vI k), (28, true, vI j)], [(10001, .row 5 1 (encB (putB b i n j)))]⟩) (fun j => j ≤ k) (fun j => k - j) 0 (by simp only [putB_zero, go_sem, Nat.reduceBEq, Nat.reduceBneDiff, Nat.reduceLT, Nat.reduceLeDiff, Nat.reduceAdd, Nat.reduceMul, Nat.reduceSub, Nat.reduceEqDiff, reduceCtorEq] <;> exact rfl) (Nat.zero_le _) ?_
  intro j hj
  have hwj : IntKind.i64.wrap ((j : Int) + 1) = ((j + 1 : Nat) : Int) := by rw [wrap_i64 (by omega)]; omega
  by_cases hlt : j < k
  · have e1 : ((j : Int) < (k : Int)) = True := eq_true (by omega)
    have zj : ((j : Int)).toNat = j := by omega
    have hw8 := wrap_i64 (n := 8 * (j : Int)) (by omega)
    have e0 : (0 ≤ 8 * (j : Int)) = True := eq_true (by omega)
    have hbit := byteN_shr n j (by omega) hn.1
    have gc := putB_cell (k := j) n (show i + j < b.length by omega)
    have gs := putB_set (k := j) n (show i + j < b.length by omega)
    have hln := putB_len (k := j) n (show i + j ≤ b.length by omega)
    (repeat' (first
    | exact trivial
    | (with_reducible first | refine awA ?_ | refine awB ?_ | refine awC ?_ | refine awD ?_ | refine awE ?_ | refine awF ?_ | refine awG ?_ | refine awH ?_ | refine awI ?_ | refine awJ ?_ | refine awK ?_ | refine awL ?_ | refine awM (by decide) ?_)
    | ((with_reducible first | refine awN (tyOf_ok _) [] ?_ | refine awO (tyOf_ok _) [] ?_ | refine awP (tyOf_ok _) [] ?_ | refine awQ ?_ | refine awR ?_ | refine awS ?_ | refine awT ?_ | refine awU ?_); intro r hr; simp only [go_sem, Nat.reduceBEq, Nat.reduceBneDiff, Nat.reduceLT, Nat.reduceLeDiff, Nat.reduceAdd, Nat.reduceMul, Nat.reduceSub, Nat.reduceEqDiff, reduceCtorEq, e1, e0, zj, hw8, hwj, hbit, gc, gs, hln, setXs, encB_len] at hr; subst hr; (first | refine awV ?_ ?_ | refine awW ?_ ?_ | refine endK ?_ ?_ | refine endGK ?_ ?_ ?_ | (refine condK (fun h => ?_) (fun h => ?_) <;> (try simp only [go_sem, reduceCtorEq] at h) <;> (try (exfalso; omega))))) | fail)) <;> (try omega)
    all_goals first | omega | exact ⟨j + 1, by simp only [go_sem, Nat.reduceBEq, Nat.reduceBneDiff, Nat.reduceLT, Nat.reduceLeDiff, Nat.reduceAdd, Nat.reduceMul, Nat.reduceSub, Nat.reduceEqDiff, reduceCtorEq] <;> exact rfl, hlt, by omega⟩
  · have e1 : ((j : Int) < (k : Int)) = False := eq_false (by omega)
    obtain rfl : j = k := by omega
    (repeat' (first
    | exact trivial
    | (with_reducible first | refine awA ?_ | refine awB ?_ | refine awC ?_ | refine awD ?_ | refine awE ?_ | refine awF ?_ | refine awG ?_ | refine awH ?_ | refine awI ?_ | refine awJ ?_ | refine awK ?_ | refine awL ?_ | refine awM (by decide) ?_)
    | ((with_reducible first | refine awN (tyOf_ok _) [] ?_ | refine awO (tyOf_ok _) [] ?_ | refine awP (tyOf_ok _) [] ?_ | refine awQ ?_ | refine awR ?_ | refine awS ?_ | refine awT ?_ | refine awU ?_); intro r hr; simp only [go_sem, Nat.reduceBEq, Nat.reduceBneDiff, Nat.reduceLT, Nat.reduceLeDiff, Nat.reduceAdd, Nat.reduceMul, Nat.reduceSub, Nat.reduceEqDiff, reduceCtorEq, e1] at hr; subst hr; (first | refine awV ?_ ?_ | refine awW ?_ ?_ | refine endK ?_ ?_ | refine endGK ?_ ?_ ?_ | (refine condK (fun h => ?_) (fun h => ?_) <;> (try simp only [go_sem, reduceCtorEq] at h) <;> (try (exfalso; omega))))) | fail)) <;> (try omega)
    all_goals first | exact AV.up_rfl _ | exact obUp_cons rfl obUp_nil
theorem put_bad (b : List Int) (at_ wd n : Int) (hl : b.length ≤ 1000000000) (hn : U64 n) (hw : I64 wd) (he : putE b.length at_ wd n ≠ 0) :
    GCall Try.prog 40 [.ref 5 1 10001 0 b.length, vI at_, vI wd, .v (.int .u64 n)] [(10001, .row 5 1 (encB b))] (vI (putE b.length at_ wd n)) [(10001, .row 5 1 (encB b))] := by
  unfold putE at he ⊢
  by_cases h1 : wd < 1 ∨ 8 < wd
  · rw [if_pos h1]
    have hwn := window_bad b at_ wd 10 (.inl ⟨h1, rfl⟩) hl
    have e1 : ((10 : Int) = 0) = False := eq_false (by decide)
    refine go_fnG (tyOf_ok _) Try.func40 rfl rfl (by rw [Try.results40]) Try.ntmps40 rfl fun E => ?_
    (repeat' (first
    | exact trivial
    | (with_reducible first | refine awA ?_ | refine awB ?_ | refine awC ?_ | refine awD ?_ | refine awE ?_ | refine awF ?_ | refine awG ?_ | refine awH ?_ | refine awI ?_ | refine awJ ?_ | refine awK ?_ | refine awL ?_ | refine awM (by decide) ?_)
    | ((with_reducible first | refine awN (tyOf_ok _) [] ?_ | refine awO (tyOf_ok _) [] ?_ | refine awP (tyOf_ok _) [] ?_ | refine awQ ?_ | refine awR ?_ | refine awS ?_ | refine awT ?_ | refine awU ?_); intro r hr; simp only [go_sem, Nat.reduceBEq, Nat.reduceBneDiff, Nat.reduceLT, Nat.reduceLeDiff, Nat.reduceAdd, Nat.reduceMul, Nat.reduceSub, Nat.reduceEqDiff, reduceCtorEq, Bool.not_true, e1] at hr; subst hr; (first | refine awV ?_ ?_ | refine awW ?_ ?_ | refine endK ?_ ?_ | refine endGK ?_ ?_ ?_ | (refine condK (fun h => ?_) (fun h => ?_) <;> (try simp only [go_sem, reduceCtorEq] at h) <;> (try (exfalso; omega)))))
    | (refine go_callGE [(10001, 10001)] [(10001, 10001)] [] [10001] ?_; intro r hr; simp only [go_sem, Nat.reduceBEq, Nat.reduceBneDiff, Nat.reduceLT, Nat.reduceLeDiff, Nat.reduceAdd, Nat.reduceMul, Nat.reduceSub, Nat.reduceEqDiff, reduceCtorEq, Bool.not_true, e1] at hr; subst hr; refine callGK (hwn) rfl rfl (by first | exact .inl rfl | exact .inr rfl) ?_ (.inl rfl) ?_) | fail)) <;> (try omega)
    all_goals first | exact AV.up_rfl _ | exact obUp_cons rfl obUp_nil
  · rw [if_neg h1] at he ⊢
    by_cases h2 : at_ < 0 ∨ (b.length : Int) < at_ ∨ (b.length : Int) - at_ < wd
    · rw [if_pos h2]
      have hwn := window_bad b at_ wd 3 (.inr ⟨h1, h2, rfl⟩) hl
      have e1 : ((3 : Int) = 0) = False := eq_false (by decide)
      refine go_fnG (tyOf_ok _) Try.func40 rfl rfl (by rw [Try.results40]) Try.ntmps40 rfl fun E => ?_
      (repeat' (first
    | exact trivial
    | (with_reducible first | refine awA ?_ | refine awB ?_ | refine awC ?_ | refine awD ?_ | refine awE ?_ | refine awF ?_ | refine awG ?_ | refine awH ?_ | refine awI ?_ | refine awJ ?_ | refine awK ?_ | refine awL ?_ | refine awM (by decide) ?_)
    | ((with_reducible first | refine awN (tyOf_ok _) [] ?_ | refine awO (tyOf_ok _) [] ?_ | refine awP (tyOf_ok _) [] ?_ | refine awQ ?_ | refine awR ?_ | refine awS ?_ | refine awT ?_ | refine awU ?_); intro r hr; simp only [go_sem, Nat.reduceBEq, Nat.reduceBneDiff, Nat.reduceLT, Nat.reduceLeDiff, Nat.reduceAdd, Nat.reduceMul, Nat.reduceSub, Nat.reduceEqDiff, reduceCtorEq, Bool.not_true, e1] at hr; subst hr; (first | refine awV ?_ ?_ | refine awW ?_ ?_ | refine endK ?_ ?_ | refine endGK ?_ ?_ ?_ | (refine condK (fun h => ?_) (fun h => ?_) <;> (try simp only [go_sem, reduceCtorEq] at h) <;> (try (exfalso; omega)))))
    | (refine go_callGE [(10001, 10001)] [(10001, 10001)] [] [10001] ?_; intro r hr; simp only [go_sem, Nat.reduceBEq, Nat.reduceBneDiff, Nat.reduceLT, Nat.reduceLeDiff, Nat.reduceAdd, Nat.reduceMul, Nat.reduceSub, Nat.reduceEqDiff, reduceCtorEq, Bool.not_true, e1] at hr; subst hr; refine callGK (hwn) rfl rfl (by first | exact .inl rfl | exact .inr rfl) ?_ (.inl rfl) ?_) | fail)) <;> (try omega)
      all_goals first | exact AV.up_rfl _ | exact obUp_cons rfl obUp_nil
    · rw [if_neg h2] at he ⊢
      have hf : fitsB n wd = false := by
        cases hb : fitsB n wd
        · rfl
        · exact absurd (by rw [hb]; rfl) he
      rw [hf]
      obtain ⟨k, rfl⟩ := Int.eq_ofNat_of_zero_le (show 0 ≤ wd by omega)
      obtain ⟨i, rfl⟩ := Int.eq_ofNat_of_zero_le (show 0 ≤ at_ by omega)
      have hwn := window_ok b i k (by omega) (by omega) (by omega) hl
      have hfi := fits_p (n := n) (w := k) hn hw
      rw [hf] at hfi
      refine go_fnG (tyOf_ok _) Try.func40 rfl rfl (by rw [Try.results40]) Try.ntmps40 rfl fun E => ?_
      (repeat' (first
    | exact trivial
    | (with_reducible first | refine awA ?_ | refine awB ?_ | refine awC ?_ | refine awD ?_ | refine awE ?_ | refine awF ?_ | refine awG ?_ | refine awH ?_ | refine awI ?_ | refine awJ ?_ | refine awK ?_ | refine awL ?_ | refine awM (by decide) ?_)
    | ((with_reducible first | refine awN (tyOf_ok _) [] ?_ | refine awO (tyOf_ok _) [] ?_ | refine awP (tyOf_ok _) [] ?_ | refine awQ ?_ | refine awR ?_ | refine awS ?_ | refine awT ?_ | refine awU ?_); intro r hr; simp only [go_sem, Nat.reduceBEq, Nat.reduceBneDiff, Nat.reduceLT, Nat.reduceLeDiff, Nat.reduceAdd, Nat.reduceMul, Nat.reduceSub, Nat.reduceEqDiff, reduceCtorEq, Bool.not_false] at hr; subst hr; (first | refine caA (fun _ => hfi) rfl ?_ ?_ ?_ | refine awV ?_ ?_ | refine awW ?_ ?_ | refine endK ?_ ?_ | refine endGK ?_ ?_ ?_ | (refine condK (fun h => ?_) (fun h => ?_) <;> (try simp only [go_sem, reduceCtorEq] at h) <;> (try (exfalso; omega)))))
    | (refine go_callGE [(10001, 10001)] [(10001, 10001)] [] [10001] ?_; intro r hr; simp only [go_sem, Nat.reduceBEq, Nat.reduceBneDiff, Nat.reduceLT, Nat.reduceLeDiff, Nat.reduceAdd, Nat.reduceMul, Nat.reduceSub, Nat.reduceEqDiff, reduceCtorEq, Bool.not_false] at hr; subst hr; refine callGK (hwn) rfl rfl (by first | exact .inl rfl | exact .inr rfl) ?_ (.inl rfl) ?_) | fail)) <;> (try omega)
      all_goals first | exact AV.up_rfl _ | exact obUp_cons rfl obUp_nil
end Go.Proofs.Ytopcfnlcapibgaa
end
section
namespace Go.Proofs.Ytopcfnlcapibgaa
open Go.RowKit
set_option maxRecDepth 100000
set_option maxHeartbeats 8000000
/-! mortiseref01.Put. -/
theorem rem_byte (n : Int) (j : Nat) (hn : U64 n) : IntKind.u8.wrap ((n / 256 ^ j).tmod 256) = byteN n j := by
  have h0 : 0 ≤ n / 256 ^ j := Int.ediv_nonneg hn.1 (Int.pow_nonneg (by decide))
  rw [Int.tmod_eq_emod_of_nonneg h0, IntKind.wrap_u8, byteN]
  omega
theorem quo_byte (n : Int) (j : Nat) (hn : U64 n) : IntKind.u64.wrap ((n / 256 ^ j).tdiv 256) = n / 256 ^ (j + 1) := by
  have h0 : 0 ≤ n / 256 ^ j := Int.ediv_nonneg hn.1 (Int.pow_nonneg (by decide))
  have h1 : n / 256 ^ j ≤ n := Int.ediv_le_self _ hn.1
  obtain ⟨h2, h3⟩ := hn
  rw [Int.tdiv_eq_ediv_of_nonneg h0, IntWalk.u64_in _ (by omega), Int.pow_succ, Int.ediv_ediv_of_nonneg (Int.pow_nonneg (by decide))]
theorem div_zero (n : Int) (k : Nat) (hn : 0 ≤ n) : (n / 256 ^ k = 0) ↔ n < 256 ^ k := by
  have hp : (0 : Int) < 256 ^ k := Int.pow_pos (by decide)
  constructor
  · intro h
    have := (Int.ediv_lt_iff_lt_mul hp).1 (show n / 256 ^ k < 1 by omega)
    rwa [Int.one_mul] at this
  · intro h
    exact Int.ediv_eq_zero_of_lt hn h
theorem rfits_any (n w : Int) (hn : U64 n) : PCall Try.prog 49 [.v (.int .u64 n), vI w] (fun r => r = vB (fitsB n w)) := by
  refine go_fn (tyOf_ok _) Try.func49 rfl rfl (by rw [Try.results49]) Try.ntmps49 rfl fun E => ?_
  by_cases h1 : w < 1
  · have e1 : (w < 1) = True := eq_true h1
    (repeat' (first
    | exact trivial
    | (with_reducible first | refine awA ?_ | refine awB ?_ | refine awC ?_ | refine awD ?_ | refine awE ?_ | refine awF ?_ | refine awG ?_ | refine awH ?_ | refine awI ?_ | refine awJ ?_ | refine awK ?_ | refine awL ?_ | refine awM (by decide) ?_)
    | ((with_reducible first | refine awN (tyOf_ok _) [] ?_ | refine awO (tyOf_ok _) [] ?_ | refine awP (tyOf_ok _) [] ?_ | refine awQ ?_ | refine awR ?_ | refine awS ?_); intro r hr; simp only [go_sem, Nat.reduceBEq, Nat.reduceBneDiff, Nat.reduceLT, Nat.reduceLeDiff, Nat.reduceAdd, Nat.reduceMul, Nat.reduceSub, Nat.reduceEqDiff, reduceCtorEq, e1] at hr; subst hr; (first | refine awV ?_ ?_ | refine awW ?_ ?_ | refine endK ?_ ?_ | (refine condK (fun h => ?_) (fun h => ?_) <;> (try simp only [go_sem, reduceCtorEq] at h) <;> (try (exfalso; omega))))) | fail)) <;> (try omega)
    all_goals (rw [fitsB_lo n w (by omega)]; exact rfl)
  by_cases h2 : 8 < w
  · have e1 : (w < 1) = False := eq_false h1
    have e2 : (8 < w) = True := eq_true h2
    (repeat' (first
    | exact trivial
    | (with_reducible first | refine awA ?_ | refine awB ?_ | refine awC ?_ | refine awD ?_ | refine awE ?_ | refine awF ?_ | refine awG ?_ | refine awH ?_ | refine awI ?_ | refine awJ ?_ | refine awK ?_ | refine awL ?_ | refine awM (by decide) ?_)
    | ((with_reducible first | refine awN (tyOf_ok _) [] ?_ | refine awO (tyOf_ok _) [] ?_ | refine awP (tyOf_ok _) [] ?_ | refine awQ ?_ | refine awR ?_ | refine awS ?_); intro r hr; simp only [go_sem, Nat.reduceBEq, Nat.reduceBneDiff, Nat.reduceLT, Nat.reduceLeDiff, Nat.reduceAdd, Nat.reduceMul, Nat.reduceSub, Nat.reduceEqDiff, reduceCtorEq, e1, e2] at hr; subst hr; (first | refine awV ?_ ?_ | refine awW ?_ ?_ | refine endK ?_ ?_ | (refine condK (fun h => ?_) (fun h => ?_) <;> (try simp only [go_sem, reduceCtorEq] at h) <;> (try (exfalso; omega))))) | fail)) <;> (try omega)
    all_goals (rw [fitsB_hi n w (by omega)]; exact rfl)
  have e1 : (w < 1) = False := eq_false h1
  have e2 : (8 < w) = False := eq_false h2
  obtain ⟨k, rfl⟩ := Int.eq_ofNat_of_zero_le (show 0 ≤ w by omega)
  (repeat' (first
    | exact trivial
    | (with_reducible first | refine awA ?_ | refine awB ?_ | refine awC ?_ | refine awD ?_ | refine awE ?_ | refine awF ?_ | refine awG ?_ | refine awH ?_ | refine awI ?_ | refine awJ ?_ | refine awK ?_ | refine awL ?_ | refine awM (by decide) ?_)
    | ((with_reducible first | refine awN (tyOf_ok _) [] ?_ | refine awO (tyOf_ok _) [] ?_ | refine awP (tyOf_ok _) [] ?_ | refine awQ ?_ | refine awR ?_ | refine awS ?_); intro r hr; simp only [go_sem, Nat.reduceBEq, Nat.reduceBneDiff, Nat.reduceLT, Nat.reduceLeDiff, Nat.reduceAdd, Nat.reduceMul, Nat.reduceSub, Nat.reduceEqDiff, reduceCtorEq, e1, e2] at hr; subst hr; (first | refine awV ?_ ?_ | refine awW ?_ ?_ | refine endK ?_ ?_ | (refine condK (fun h => ?_) (fun h => ?_) <;> (try simp only [go_sem, reduceCtorEq] at h) <;> (try (exfalso; omega))))) | fail)) <;> (try omega)
  refine go_loop [0, 1, 5] [] (fun j : Nat => ⟨[(0, true, .v (.int .u64 (n / 256 ^ j))), (1, true, vI k), (5, true, vI j)], []⟩) (fun j => j ≤ k) (fun j => k - j) 0 (by simp only [Int.pow_zero, Int.ediv_one, go_sem, Nat.reduceBEq, Nat.reduceBneDiff, Nat.reduceLT, Nat.reduceLeDiff, Nat.reduceAdd, Nat.reduceMul, Nat.reduceSub, Nat.reduceEqDiff, reduceCtorEq] <;> exact rfl) (Nat.zero_le _) ?_
  intro j hj
  have hwj : IntKind.i64.wrap ((j : Int) + 1) = ((j + 1 : Nat) : Int) := by rw [wrap_i64 (by omega)]; omega
  by_cases hlt : j < k
  · have e3 : ((j : Int) < (k : Int)) = True := eq_true (by omega)
    have hq := quo_byte n j hn
    (repeat' (first
    | exact trivial
    | (with_reducible first | refine awA ?_ | refine awB ?_ | refine awC ?_ | refine awD ?_ | refine awE ?_ | refine awF ?_ | refine awG ?_ | refine awH ?_ | refine awI ?_ | refine awJ ?_ | refine awK ?_ | refine awL ?_ | refine awM (by decide) ?_)
    | ((with_reducible first | refine awN (tyOf_ok _) [] ?_ | refine awO (tyOf_ok _) [] ?_ | refine awP (tyOf_ok _) [] ?_ | refine awQ ?_ | refine awR ?_ | refine awS ?_); intro r hr; simp only [go_sem, Nat.reduceBEq, Nat.reduceBneDiff, Nat.reduceLT, Nat.reduceLeDiff, Nat.reduceAdd, Nat.reduceMul, Nat.reduceSub, Nat.reduceEqDiff, reduceCtorEq, e3, hwj, hq, ne_eq, not_false_eq_true, Int.cast_ofNat_Int, Int.reduceToNat, Int.reduceEq, Int.reduceLT, Int.reduceLE, Int.reduceNe] at hr; subst hr; (first | refine awV ?_ ?_ | refine awW ?_ ?_ | refine endK ?_ ?_ | (refine condK (fun h => ?_) (fun h => ?_) <;> (try simp only [go_sem, reduceCtorEq] at h) <;> (try (exfalso; omega))))) | fail)) <;> (try omega)
    all_goals first | omega | exact ⟨j + 1, by simp only [go_sem, Nat.reduceBEq, Nat.reduceBneDiff, Nat.reduceLT, Nat.reduceLeDiff, Nat.reduceAdd, Nat.reduceMul, Nat.reduceSub, Nat.reduceEqDiff, reduceCtorEq] <;> exact rfl, hlt, by omega⟩
  · have e3 : ((j : Int) < (k : Int)) = False := eq_false (by omega)
    obtain rfl : j = k := by omega
    (repeat' (first
    | exact trivial
    | (with_reducible first | refine awA ?_ | refine awB ?_ | refine awC ?_ | refine awD ?_ | refine awE ?_ | refine awF ?_ | refine awG ?_ | refine awH ?_ | refine awI ?_ | refine awJ ?_ | refine awK ?_ | refine awL ?_ | refine awM (by decide) ?_)
    | ((with_reducible first | refine awN (tyOf_ok _) [] ?_ | refine awO (tyOf_ok _) [] ?_ | refine awP (tyOf_ok _) [] ?_ | refine awQ ?_ | refine awR ?_ | refine awS ?_); intro r hr; simp only [go_sem, Nat.reduceBEq, Nat.reduceBneDiff, Nat.reduceLT, Nat.reduceLeDiff, Nat.reduceAdd, Nat.reduceMul, Nat.reduceSub, Nat.reduceEqDiff, reduceCtorEq, e3] at hr; subst hr; (first | refine awV ?_ ?_ | refine awW ?_ ?_ | refine endK ?_ ?_ | (refine condK (fun h => ?_) (fun h => ?_) <;> (try simp only [go_sem, reduceCtorEq] at h) <;> (try (exfalso; omega))))) | fail)) <;> (try omega)
    all_goals (
      have hd := div_zero n j hn.1
      have hz : fitsB n (j : Int) = decide (n / 256 ^ j = 0) := by
        simp only [fitsB, Int.toNat_natCast, show (1 ≤ (j : Int)) from by omega, show ((j : Int) ≤ 8) from by omega, decide_true, Bool.true_and]
        exact decide_eq_decide.2 hd.symm
      rw [hz]
      exact rfl)
theorem place_any (n at_ w : Int) (hn : 0 ≤ n ∧ n ≤ 1000000000) : PCall Try.prog 48 [vI n, vI at_, vI w] (fun r => r = vB (decide (0 ≤ at_ ∧ at_ ≤ n ∧ w ≤ n - at_))) := by
  refine go_fn (tyOf_ok _) Try.func48 rfl rfl (by rw [Try.results48]) Try.ntmps48 rfl fun E => ?_
  by_cases h1 : 0 ≤ at_
  · have e1 : (0 ≤ at_) = True := eq_true h1
    by_cases h2 : at_ ≤ n
    · have e2 : (at_ ≤ n) = True := eq_true h2
      have hw := wrap_i64 (n := n - at_) (by omega)
      (repeat' (first
    | exact trivial
    | (with_reducible first | refine awA ?_ | refine awB ?_ | refine awC ?_ | refine awD ?_ | refine awE ?_ | refine awF ?_ | refine awG ?_ | refine awH ?_ | refine awI ?_ | refine awJ ?_ | refine awK ?_ | refine awL ?_ | refine awM (by decide) ?_)
    | ((with_reducible first | refine awN (tyOf_ok _) [] ?_ | refine awO (tyOf_ok _) [] ?_ | refine awP (tyOf_ok _) [] ?_ | refine awQ ?_ | refine awR ?_ | refine awS ?_); intro r hr; simp only [go_sem, Nat.reduceBEq, Nat.reduceBneDiff, Nat.reduceLT, Nat.reduceLeDiff, Nat.reduceAdd, Nat.reduceMul, Nat.reduceSub, Nat.reduceEqDiff, reduceCtorEq, e1, e2, hw] at hr; subst hr; (first | refine awV ?_ ?_ | refine awW ?_ ?_ | refine endK ?_ ?_ | (refine condK (fun h => ?_) (fun h => ?_) <;> (try simp only [go_sem, reduceCtorEq] at h) <;> (try (exfalso; omega))))) | fail)) <;> (try omega)
      all_goals (show AV.v _ = AV.v _; congr 2; exact decide_eq_decide.2 ⟨fun h => ⟨h1, h2, h⟩, fun h => h.2.2⟩)
    · have e2 : (at_ ≤ n) = False := eq_false h2
      (repeat' (first
    | exact trivial
    | (with_reducible first | refine awA ?_ | refine awB ?_ | refine awC ?_ | refine awD ?_ | refine awE ?_ | refine awF ?_ | refine awG ?_ | refine awH ?_ | refine awI ?_ | refine awJ ?_ | refine awK ?_ | refine awL ?_ | refine awM (by decide) ?_)
    | ((with_reducible first | refine awN (tyOf_ok _) [] ?_ | refine awO (tyOf_ok _) [] ?_ | refine awP (tyOf_ok _) [] ?_ | refine awQ ?_ | refine awR ?_ | refine awS ?_); intro r hr; simp only [go_sem, Nat.reduceBEq, Nat.reduceBneDiff, Nat.reduceLT, Nat.reduceLeDiff, Nat.reduceAdd, Nat.reduceMul, Nat.reduceSub, Nat.reduceEqDiff, reduceCtorEq, e1, e2] at hr; subst hr; (first | refine awV ?_ ?_ | refine awW ?_ ?_ | refine endK ?_ ?_ | (refine condK (fun h => ?_) (fun h => ?_) <;> (try simp only [go_sem, reduceCtorEq] at h) <;> (try (exfalso; omega))))) | fail)) <;> (try omega)
      all_goals (rw [decide_eq_false (fun h => h2 h.2.1)]; exact rfl)
  · have e1 : (0 ≤ at_) = False := eq_false h1
    (repeat' (first
    | exact trivial
    | (with_reducible first | refine awA ?_ | refine awB ?_ | refine awC ?_ | refine awD ?_ | refine awE ?_ | refine awF ?_ | refine awG ?_ | refine awH ?_ | refine awI ?_ | refine awJ ?_ | refine awK ?_ | refine awL ?_ | refine awM (by decide) ?_)
    | ((with_reducible first | refine awN (tyOf_ok _) [] ?_ | refine awO (tyOf_ok _) [] ?_ | refine awP (tyOf_ok _) [] ?_ | refine awQ ?_ | refine awR ?_ | refine awS ?_); intro r hr; simp only [go_sem, Nat.reduceBEq, Nat.reduceBneDiff, Nat.reduceLT, Nat.reduceLeDiff, Nat.reduceAdd, Nat.reduceMul, Nat.reduceSub, Nat.reduceEqDiff, reduceCtorEq, e1] at hr; subst hr; (first | refine awV ?_ ?_ | refine awW ?_ ?_ | refine endK ?_ ?_ | (refine condK (fun h => ?_) (fun h => ?_) <;> (try simp only [go_sem, reduceCtorEq] at h) <;> (try (exfalso; omega))))) | fail)) <;> (try omega)
    all_goals (rw [decide_eq_false (fun h => h1 h.1)]; exact rfl)
theorem rput_ok (b : List Int) (i k : Nat) (n : Int) (h1 : 1 ≤ k) (h8 : k ≤ 8) (h : i + k ≤ b.length) (hl : b.length ≤ 1000000000) (hn : U64 n) (hf : fitsB n k = true) :
    GCall Try.prog 45 [.ref 5 1 10001 0 b.length, vI i, vI k, .v (.int .u64 n)] [(10001, .row 5 1 (encB b))] (vI 0) [(10001, .row 5 1 (encB (putB b i n k)))] := by
  have hpl := place_any b.length i k ⟨by omega, by omega⟩
  rw [decide_eq_true ⟨by omega, by omega, by omega⟩] at hpl
  have hfi := rfits_any n k hn
  rw [hf] at hfi
  have e1 : ((k : Int) < 1) = False := eq_false (by omega)
  have e2 : (8 < (k : Int)) = False := eq_false (by omega)
  refine go_fnG (tyOf_ok _) Try.func45 rfl rfl (by rw [Try.results45]) Try.ntmps45 rfl fun E => ?_
  (repeat' (first
    | exact trivial
    | (with_reducible first | refine awA ?_ | refine awB ?_ | refine awC ?_ | refine awD ?_ | refine awE ?_ | refine awF ?_ | refine awG ?_ | refine awH ?_ | refine awI ?_ | refine awJ ?_ | refine awK ?_ | refine awL ?_ | refine awM (by decide) ?_)
    | ((with_reducible first | refine awN (tyOf_ok _) [] ?_ | refine awO (tyOf_ok _) [] ?_ | refine awP (tyOf_ok _) [] ?_ | refine awQ ?_ | refine awR ?_ | refine awS ?_ | refine awT ?_ | refine awU ?_); intro r hr; simp only [go_sem, Nat.reduceBEq, Nat.reduceBneDiff, Nat.reduceLT, Nat.reduceLeDiff, Nat.reduceAdd, Nat.reduceMul, Nat.reduceSub, Nat.reduceEqDiff, reduceCtorEq, e1, e2, Bool.not_true] at hr; subst hr; (first | refine caA (fun _ => hpl) rfl ?_ ?_ ?_ | refine caA (fun _ => hfi) rfl ?_ ?_ ?_ | refine awV ?_ ?_ | refine awW ?_ ?_ | refine endK ?_ ?_ | refine endGK ?_ ?_ ?_ | (refine condK (fun h => ?_) (fun h => ?_) <;> (try simp only [go_sem, reduceCtorEq] at h) <;> (try (exfalso; omega))))) | fail)) <;> (try omega)
  refine go_loop [0, 1, 2, 3, 9] [10001] (fun j : Nat => ⟨[(0, true, .ref 5 1 10001 0 b.length), (1, true, vI i), (2, true, vI k), (3, true, .v (.int .u64 (n / 256 ^ j))), (9, true, vI j)], [(10001, .row 5 1 (encB (putB b i n j)))]⟩) (fun j => j ≤ k) (fun j => k - j) 0 (by simp only [putB_zero, Int.pow_zero, Int.ediv_one, go_sem, Nat.reduceBEq, Nat.reduceBneDiff, Nat.reduceLT, Nat.reduceLeDiff, Nat.reduceAdd, Nat.reduceMul, Nat.reduceSub, Nat.reduceEqDiff, reduceCtorEq] <;> exact rfl) (Nat.zero_le _) ?_
  intro j hj
  have hwj : IntKind.i64.wrap ((j : Int) + 1) = ((j + 1 : Nat) : Int) := by rw [wrap_i64 (by omega)]; omega
  by_cases hlt : j < k
  · have e3 : ((j : Int) < (k : Int)) = True := eq_true (by omega)
    have hwi : IntKind.i64.wrap ((i : Int) + j) = ((i + j : Nat) : Int) := by rw [wrap_i64 (by omega)]; omega
    have zj : (((i + j : Nat) : Int)).toNat = i + j := by omega
    have hrm := rem_byte n j hn
    have hqo := quo_byte n j hn
    have gc := putB_cell (k := j) n (show i + j < b.length by omega)
    have gs := putB_set (k := j) n (show i + j < b.length by omega)
    have hln := putB_len (k := j) n (show i + j ≤ b.length by omega)
    (repeat' (first
    | exact trivial
    | (with_reducible first | refine awA ?_ | refine awB ?_ | refine awC ?_ | refine awD ?_ | refine awE ?_ | refine awF ?_ | refine awG ?_ | refine awH ?_ | refine awI ?_ | refine awJ ?_ | refine awK ?_ | refine awL ?_ | refine awM (by decide) ?_)
    | ((with_reducible first | refine awN (tyOf_ok _) [] ?_ | refine awO (tyOf_ok _) [] ?_ | refine awP (tyOf_ok _) [] ?_ | refine awQ ?_ | refine awR ?_ | refine awS ?_ | refine awT ?_ | refine awU ?_); intro r hr; simp only [go_sem, Nat.reduceBEq, Nat.reduceBneDiff, Nat.reduceLT, Nat.reduceLeDiff, Nat.reduceAdd, Nat.reduceMul, Nat.reduceSub, Nat.reduceEqDiff, reduceCtorEq, e3, hwj, hwi, zj, hrm, hqo, gc, gs, hln, setXs, encB_len, Nat.zero_add, ne_eq, not_false_eq_true, Int.cast_ofNat_Int, Int.reduceToNat, Int.reduceEq, Int.reduceLT, Int.reduceLE, Int.reduceNe] at hr; subst hr; (first | refine awV ?_ ?_ | refine awW ?_ ?_ | refine endK ?_ ?_ | refine endGK ?_ ?_ ?_ | (refine condK (fun h => ?_) (fun h => ?_) <;> (try simp only [go_sem, reduceCtorEq] at h) <;> (try (exfalso; omega))))) | fail)) <;> (try omega)
    all_goals first | omega | exact ⟨j + 1, by simp only [go_sem, Nat.reduceBEq, Nat.reduceBneDiff, Nat.reduceLT, Nat.reduceLeDiff, Nat.reduceAdd, Nat.reduceMul, Nat.reduceSub, Nat.reduceEqDiff, reduceCtorEq] <;> exact rfl, hlt, by omega⟩
  · have e3 : ((j : Int) < (k : Int)) = False := eq_false (by omega)
    obtain rfl : j = k := by omega
    (repeat' (first
    | exact trivial
    | (with_reducible first | refine awA ?_ | refine awB ?_ | refine awC ?_ | refine awD ?_ | refine awE ?_ | refine awF ?_ | refine awG ?_ | refine awH ?_ | refine awI ?_ | refine awJ ?_ | refine awK ?_ | refine awL ?_ | refine awM (by decide) ?_)
    | ((with_reducible first | refine awN (tyOf_ok _) [] ?_ | refine awO (tyOf_ok _) [] ?_ | refine awP (tyOf_ok _) [] ?_ | refine awQ ?_ | refine awR ?_ | refine awS ?_ | refine awT ?_ | refine awU ?_); intro r hr; simp only [go_sem, Nat.reduceBEq, Nat.reduceBneDiff, Nat.reduceLT, Nat.reduceLeDiff, Nat.reduceAdd, Nat.reduceMul, Nat.reduceSub, Nat.reduceEqDiff, reduceCtorEq, e3] at hr; subst hr; (first | refine awV ?_ ?_ | refine awW ?_ ?_ | refine endK ?_ ?_ | refine endGK ?_ ?_ ?_ | (refine condK (fun h => ?_) (fun h => ?_) <;> (try simp only [go_sem, reduceCtorEq] at h) <;> (try (exfalso; omega))))) | fail)) <;> (try omega)
    all_goals first | exact AV.up_rfl _ | exact obUp_cons rfl obUp_nil
theorem rput_bad (b : List Int) (at_ wd n : Int) (hl : b.length ≤ 1000000000) (hn : U64 n) (he : putE b.length at_ wd n ≠ 0) :
    GCall Try.prog 45 [.ref 5 1 10001 0 b.length, vI at_, vI wd, .v (.int .u64 n)] [(10001, .row 5 1 (encB b))] (vI (putE b.length at_ wd n)) [(10001, .row 5 1 (encB b))] := by
  unfold putE at he ⊢
  by_cases h1 : wd < 1
  · rw [if_pos (.inl h1)]
    have e1 : (wd < 1) = True := eq_true h1
    refine go_fnG (tyOf_ok _) Try.func45 rfl rfl (by rw [Try.results45]) Try.ntmps45 rfl fun E => ?_
    (repeat' (first
    | exact trivial
    | (with_reducible first | refine awA ?_ | refine awB ?_ | refine awC ?_ | refine awD ?_ | refine awE ?_ | refine awF ?_ | refine awG ?_ | refine awH ?_ | refine awI ?_ | refine awJ ?_ | refine awK ?_ | refine awL ?_ | refine awM (by decide) ?_)
    | ((with_reducible first | refine awN (tyOf_ok _) [] ?_ | refine awO (tyOf_ok _) [] ?_ | refine awP (tyOf_ok _) [] ?_ | refine awQ ?_ | refine awR ?_ | refine awS ?_ | refine awT ?_ | refine awU ?_); intro r hr; simp only [go_sem, Nat.reduceBEq, Nat.reduceBneDiff, Nat.reduceLT, Nat.reduceLeDiff, Nat.reduceAdd, Nat.reduceMul, Nat.reduceSub, Nat.reduceEqDiff, reduceCtorEq, e1] at hr; subst hr; (first | refine awV ?_ ?_ | refine awW ?_ ?_ | refine endK ?_ ?_ | refine endGK ?_ ?_ ?_ | (refine condK (fun h => ?_) (fun h => ?_) <;> (try simp only [go_sem, reduceCtorEq] at h) <;> (try (exfalso; omega))))) | fail)) <;> (try omega)
    all_goals first | exact AV.up_rfl _ | exact obUp_cons rfl obUp_nil
  have e1 : (wd < 1) = False := eq_false h1
  by_cases h8 : 8 < wd
  · rw [if_pos (.inr h8)]
    have e2 : (8 < wd) = True := eq_true h8
    refine go_fnG (tyOf_ok _) Try.func45 rfl rfl (by rw [Try.results45]) Try.ntmps45 rfl fun E => ?_
    (repeat' (first
    | exact trivial
    | (with_reducible first | refine awA ?_ | refine awB ?_ | refine awC ?_ | refine awD ?_ | refine awE ?_ | refine awF ?_ | refine awG ?_ | refine awH ?_ | refine awI ?_ | refine awJ ?_ | refine awK ?_ | refine awL ?_ | refine awM (by decide) ?_)
    | ((with_reducible first | refine awN (tyOf_ok _) [] ?_ | refine awO (tyOf_ok _) [] ?_ | refine awP (tyOf_ok _) [] ?_ | refine awQ ?_ | refine awR ?_ | refine awS ?_ | refine awT ?_ | refine awU ?_); intro r hr; simp only [go_sem, Nat.reduceBEq, Nat.reduceBneDiff, Nat.reduceLT, Nat.reduceLeDiff, Nat.reduceAdd, Nat.reduceMul, Nat.reduceSub, Nat.reduceEqDiff, reduceCtorEq, e1, e2] at hr; subst hr; (first | refine awV ?_ ?_ | refine awW ?_ ?_ | refine endK ?_ ?_ | refine endGK ?_ ?_ ?_ | (refine condK (fun h => ?_) (fun h => ?_) <;> (try simp only [go_sem, reduceCtorEq] at h) <;> (try (exfalso; omega))))) | fail)) <;> (try omega)
    all_goals first | exact AV.up_rfl _ | exact obUp_cons rfl obUp_nil
  have e2 : (8 < wd) = False := eq_false h8
  rw [if_neg (by omega)] at he ⊢
  have hpl := place_any b.length at_ wd ⟨by omega, by omega⟩
  by_cases h2 : at_ < 0 ∨ (b.length : Int) < at_ ∨ (b.length : Int) - at_ < wd
  · rw [if_pos h2]
    rw [decide_eq_false (by omega)] at hpl
    refine go_fnG (tyOf_ok _) Try.func45 rfl rfl (by rw [Try.results45]) Try.ntmps45 rfl fun E => ?_
    (repeat' (first
    | exact trivial
    | (with_reducible first | refine awA ?_ | refine awB ?_ | refine awC ?_ | refine awD ?_ | refine awE ?_ | refine awF ?_ | refine awG ?_ | refine awH ?_ | refine awI ?_ | refine awJ ?_ | refine awK ?_ | refine awL ?_ | refine awM (by decide) ?_)
    | ((with_reducible first | refine awN (tyOf_ok _) [] ?_ | refine awO (tyOf_ok _) [] ?_ | refine awP (tyOf_ok _) [] ?_ | refine awQ ?_ | refine awR ?_ | refine awS ?_ | refine awT ?_ | refine awU ?_); intro r hr; simp only [go_sem, Nat.reduceBEq, Nat.reduceBneDiff, Nat.reduceLT, Nat.reduceLeDiff, Nat.reduceAdd, Nat.reduceMul, Nat.reduceSub, Nat.reduceEqDiff, reduceCtorEq, e1, e2, Bool.not_false] at hr; subst hr; (first | refine caA (fun _ => hpl) rfl ?_ ?_ ?_ | refine awV ?_ ?_ | refine awW ?_ ?_ | refine endK ?_ ?_ | refine endGK ?_ ?_ ?_ | (refine condK (fun h => ?_) (fun h => ?_) <;> (try simp only [go_sem, reduceCtorEq] at h) <;> (try (exfalso; omega))))) | fail)) <;> (try omega)
    all_goals first | exact AV.up_rfl _ | exact obUp_cons rfl obUp_nil
  · rw [if_neg h2] at he ⊢
    rw [decide_eq_true (by omega)] at hpl
    have hf : fitsB n wd = false := by
      cases hb : fitsB n wd
      · rfl
      · exact absurd (by rw [hb]; rfl) he
    have hfi := rfits_any n wd hn
    rw [hf] at hfi ⊢
    refine go_fnG (tyOf_ok _) Try.func45 rfl rfl (by rw [Try.results45]) Try.ntmps45 rfl fun E => ?_
    (repeat' (first
    | exact trivial
    | (with_reducible first | refine awA ?_ | refine awB ?_ | refine awC ?_ | refine awD ?_ | refine awE ?_ | refine awF ?_ | refine awG ?_ | refine awH ?_ | refine awI ?_ | refine awJ ?_ | refine awK ?_ | refine awL ?_ | refine awM (by decide) ?_)
    | ((with_reducible first | refine awN (tyOf_ok _) [] ?_ | refine awO (tyOf_ok _) [] ?_ | refine awP (tyOf_ok _) [] ?_ | refine awQ ?_ | refine awR ?_ | refine awS ?_ | refine awT ?_ | refine awU ?_); intro r hr; simp only [go_sem, Nat.reduceBEq, Nat.reduceBneDiff, Nat.reduceLT, Nat.reduceLeDiff, Nat.reduceAdd, Nat.reduceMul, Nat.reduceSub, Nat.reduceEqDiff, reduceCtorEq, e1, e2, Bool.not_true, Bool.not_false] at hr; subst hr; (first | refine caA (fun _ => hpl) rfl ?_ ?_ ?_ | refine caA (fun _ => hfi) rfl ?_ ?_ ?_ | refine awV ?_ ?_ | refine awW ?_ ?_ | refine endK ?_ ?_ | refine endGK ?_ ?_ ?_ | (refine condK (fun h => ?_) (fun h => ?_) <;> (try simp only [go_sem, reduceCtorEq] at h) <;> (try (exfalso; omega))))) | fail)) <;> (try omega)
    all_goals first | exact AV.up_rfl _ | exact obUp_cons rfl obUp_nil
end Go.Proofs.Ytopcfnlcapibgaa
end
section
namespace Go.Proofs.Ytopcfnlcapibgaa
open Go.RowKit
set_option maxRecDepth 100000
set_option maxHeartbeats 8000000
/-! Outputs: cursor's, the document's. -/
section
variable {P : Program} {T : Nat → Option TyD} {E : Env} {s : AState} {n : Nat} {ops : Array Oper} {Q : Exit → AState → Prop} {rest : List Oper} {o : Oper} {D : Dr}
/-- is a list nil? -/
theorem al_slnil (hT : TOK P T) {x y : Operand} {t t2 e k : Nat} {xs : List (List AV)} {dt : TyD} (hG : guardAV ops s o.guard = some true) (ho : o.op = .binOp .eql t x y t2) (hdst : dstOK n o.dst) (hgx : s.gd x = true) (hgy : s.gd y = true)
    (hx : s.ev x = .lst k xs) (hy : s.ev y = .v (.slice none 0 0)) (hTt : T t = some dt) (hsh : dt.sh = .slice e) (hr : ∀ r : Bool, (r = true → xs = []) → AListD P E n ops D rest Q (s.put o.dst true (.v (.bool r)))) : AListR P E n ops D (o :: rest) Q s := by
  intro a w β hn hd hs
  have hw := guard_ok (ops := ops) hs hG
  have vx := hs.ev x hgx (a := a) rfl
  have vy := hs.ev y hgy (a := a) rfl
  rw [hx] at vx
  rw [hy] at vy
  generalize hux : a.eval x = ux at vx
  generalize huy : a.eval y = uy at vy
  cases vy with | s vy => cases vy with | v _ =>
  cases vx with | s vx =>
  cases vx with
  | @lst _ _ A m c g h1 h2 h3 h4 h5 h6 h7 =>
    obtain ⟨d1, d2, d3, d4⟩ := dt
    dsimp only at hsh
    subst hsh
    have hu := T_slice hT hTt rfl
    have hA : A.isNone = true → xs = [] := fun h => by
      rcases Nat.eq_zero_or_pos m with h0 | h0
      · exact List.eq_nil_of_length_eq_zero (by omega)
      · obtain ⟨b, off, hA, _⟩ := h5 h0
        rw [hA] at h; cases h
    obtain ⟨g1, g2, g3⟩ := putRel hn hd hs hdst true (.v (.bool A.isNone)) (v := .bool A.isNone) (fun _ => .s (.v rfl)) (fun h => by cases h)
    exact step_N (v := .bool A.isNone) (by rw [ho]; rfl) hw (fun _ w' _ => by simp [execOp, ho, hux, huy, eqGuard, Lib.run_eql_slice_nil w' t e A m c 0 0 hu]) (fun h => by cases h) (hr _ hA _ _ _ g1 g2 g3)
end
theorem clone_G (b : List Int) (hl : b.length ≤ 1000000000) : GCall Try.prog 41 [.lst 1 (encB b)] [] (.ref 5 1 5 0 b.length) [(5, .row 5 1 (encB b))] := by
  refine go_fnG (tyOf_ok _) Try.func41 rfl rfl (by rw [Try.results41]) Try.ntmps41 rfl fun E => ?_
  (repeat' (first
    | exact trivial
    | (with_reducible first | refine awA ?_ | refine awB ?_ | refine awC ?_ | refine awD ?_ | refine awE ?_ | refine awF ?_ | refine awG ?_ | refine awH ?_ | refine awI ?_ | refine awJ ?_ | refine awK ?_ | refine awL ?_ | refine awM (by decide) ?_)
    | ((with_reducible first | refine awN (tyOf_ok _) [5] ?_ | refine awO (tyOf_ok _) [5] ?_ | refine awP (tyOf_ok _) [5] ?_ | refine awQ ?_ | refine awR ?_ | refine awS ?_ | refine awT ?_ | refine awU ?_); intro r hr; simp only [go_sem, Nat.reduceBEq, Nat.reduceBneDiff, Nat.reduceLT, Nat.reduceLeDiff, Nat.reduceAdd, Nat.reduceMul, Nat.reduceSub, Nat.reduceEqDiff, reduceCtorEq, encB_len, List.nil_append, List.length_nil] at hr; subst hr; (first | refine awV ?_ ?_ | refine awW ?_ ?_ | refine endK ?_ ?_ | refine endGK ?_ ?_ ?_ | (refine condK (fun h => ?_) (fun h => ?_) <;> (try simp only [go_sem, reduceCtorEq] at h) <;> (try (exfalso; omega)))))
    | (refine al_slnil (tyOf_ok _) rfl rfl ⟨by decide, by decide⟩ rfl rfl rfl rfl t28 rfl (fun r hr => ?_)) | fail)) <;> (try omega)
  · have hb : b = [] := by have := hr ‹r = true›; simpa [encB] using this
    subst hb
    exact AV.up_nilref _ _ _ _
  · have hb : b = [] := by have := hr ‹r = true›; simpa [encB] using this
    subst hb
    exact obUp_row0 obUp_nil
  · exact AV.up_rfl _
  · exact obUp_cons rfl obUp_nil
def ouO (most : Int) (b : List Int) : List (Nat × AObj) := [(10000, .var [vI most, .ref 5 1 15000 0 b.length]), (15000, .row 5 1 (encB b))]
def rsO (most : Int) (b : List Int) : List (Nat × AObj) := [(10000, .var [.ref 5 1 15000 0 b.length, vI most]), (15000, .row 5 1 (encB b))]
theorem to_bad (n : Int) (h : n < 0) : GCall Try.prog 10 [vI n] [] (.tup [.v (.pointer none), vI 3]) [] := by
  have e0 : (n < 0) = True := eq_true h
  refine go_fnG (tyOf_ok _) Try.func10 rfl rfl (by rw [Try.results10]) Try.ntmps10 rfl fun E => ?_
  (repeat' (first
    | exact trivial
    | (with_reducible first | refine awA ?_ | refine awB ?_ | refine awC ?_ | refine awD ?_ | refine awE ?_ | refine awF ?_ | refine awG ?_ | refine awH ?_ | refine awI ?_ | refine awJ ?_ | refine awK ?_ | refine awL ?_ | refine awM (by decide) ?_)
    | ((with_reducible first | refine awN (tyOf_ok _) [] ?_ | refine awO (tyOf_ok _) [] ?_ | refine awP (tyOf_ok _) [] ?_ | refine awQ ?_ | refine awR ?_ | refine awS ?_ | refine awT ?_ | refine awU ?_); intro r hr; simp only [go_sem, Nat.reduceBEq, Nat.reduceBneDiff, Nat.reduceLT, Nat.reduceLeDiff, Nat.reduceAdd, Nat.reduceMul, Nat.reduceSub, Nat.reduceEqDiff, reduceCtorEq, e0] at hr; subst hr; (first | refine awV ?_ ?_ | refine awW ?_ ?_ | refine endK ?_ ?_ | refine endGK ?_ ?_ ?_ | (refine condK (fun h => ?_) (fun h => ?_) <;> (try simp only [go_sem, reduceCtorEq] at h) <;> (try (exfalso; omega))))) | fail)) <;> (try omega)
  all_goals first | exact AV.up_rfl _ | exact obUp_nil
theorem to_ok (n : Int) (h : 0 ≤ n) : GCall Try.prog 10 [vI n] [] (.tup [.ptr 1 8 0 0, vI 0]) [(8, .var [vI n, .v (.slice none 0 0)])] := by
  have e0 : (n < 0) = False := eq_false (by omega)
  refine go_fnG (tyOf_ok _) Try.func10 rfl rfl (by rw [Try.results10]) Try.ntmps10 rfl fun E => ?_
  (repeat' (first
    | exact trivial
    | (with_reducible first | refine awA ?_ | refine awB ?_ | refine awC ?_ | refine awD ?_ | refine awE ?_ | refine awF ?_ | refine awG ?_ | refine awH ?_ | refine awI ?_ | refine awJ ?_ | refine awK ?_ | refine awL ?_ | refine awM (by decide) ?_)
    | ((with_reducible first | refine awN (tyOf_ok _) [] ?_ | refine awO (tyOf_ok _) [] ?_ | refine awP (tyOf_ok _) [] ?_ | refine awQ ?_ | refine awR ?_ | refine awS ?_ | refine awT ?_ | refine awU ?_); intro r hr; simp only [go_sem, Nat.reduceBEq, Nat.reduceBneDiff, Nat.reduceLT, Nat.reduceLeDiff, Nat.reduceAdd, Nat.reduceMul, Nat.reduceSub, Nat.reduceEqDiff, reduceCtorEq, e0] at hr; subst hr; (first | refine awV ?_ ?_ | refine awW ?_ ?_ | refine endK ?_ ?_ | refine endGK ?_ ?_ ?_ | (refine condK (fun h => ?_) (fun h => ?_) <;> (try simp only [go_sem, reduceCtorEq] at h) <;> (try (exfalso; omega))))) | fail)) <;> (try omega)
  all_goals first | exact AV.up_rfl _ | exact obUp_cons rfl obUp_nil
theorem rto_bad (n : Int) (h : n < 0) : GCall Try.prog 34 [vI n] [] (.tup [.v (.pointer none), vI 3]) [] := by
  have e0 : (n < 0) = True := eq_true h
  refine go_fnG (tyOf_ok _) Try.func34 rfl rfl (by rw [Try.results34]) Try.ntmps34 rfl fun E => ?_
  (repeat' (first
    | exact trivial
    | (with_reducible first | refine awA ?_ | refine awB ?_ | refine awC ?_ | refine awD ?_ | refine awE ?_ | refine awF ?_ | refine awG ?_ | refine awH ?_ | refine awI ?_ | refine awJ ?_ | refine awK ?_ | refine awL ?_ | refine awM (by decide) ?_)
    | ((with_reducible first | refine awN (tyOf_ok _) [] ?_ | refine awO (tyOf_ok _) [] ?_ | refine awP (tyOf_ok _) [] ?_ | refine awQ ?_ | refine awR ?_ | refine awS ?_ | refine awT ?_ | refine awU ?_); intro r hr; simp only [go_sem, Nat.reduceBEq, Nat.reduceBneDiff, Nat.reduceLT, Nat.reduceLeDiff, Nat.reduceAdd, Nat.reduceMul, Nat.reduceSub, Nat.reduceEqDiff, reduceCtorEq, e0] at hr; subst hr; (first | refine awV ?_ ?_ | refine awW ?_ ?_ | refine endK ?_ ?_ | refine endGK ?_ ?_ ?_ | (refine condK (fun h => ?_) (fun h => ?_) <;> (try simp only [go_sem, reduceCtorEq] at h) <;> (try (exfalso; omega))))) | fail)) <;> (try omega)
  all_goals first | exact AV.up_rfl _ | exact obUp_nil
theorem rto_ok (n : Int) (h : 0 ≤ n) : GCall Try.prog 34 [vI n] [] (.tup [.ptr 1 8 0 0, vI 0]) [(8, .var [.v (.slice none 0 0), vI n])] := by
  have e0 : (n < 0) = False := eq_false (by omega)
  refine go_fnG (tyOf_ok _) Try.func34 rfl rfl (by rw [Try.results34]) Try.ntmps34 rfl fun E => ?_
  (repeat' (first
    | exact trivial
    | (with_reducible first | refine awA ?_ | refine awB ?_ | refine awC ?_ | refine awD ?_ | refine awE ?_ | refine awF ?_ | refine awG ?_ | refine awH ?_ | refine awI ?_ | refine awJ ?_ | refine awK ?_ | refine awL ?_ | refine awM (by decide) ?_)
    | ((with_reducible first | refine awN (tyOf_ok _) [] ?_ | refine awO (tyOf_ok _) [] ?_ | refine awP (tyOf_ok _) [] ?_ | refine awQ ?_ | refine awR ?_ | refine awS ?_ | refine awT ?_ | refine awU ?_); intro r hr; simp only [go_sem, Nat.reduceBEq, Nat.reduceBneDiff, Nat.reduceLT, Nat.reduceLeDiff, Nat.reduceAdd, Nat.reduceMul, Nat.reduceSub, Nat.reduceEqDiff, reduceCtorEq, e0] at hr; subst hr; (first | refine awV ?_ ?_ | refine awW ?_ ?_ | refine endK ?_ ?_ | refine endGK ?_ ?_ ?_ | (refine condK (fun h => ?_) (fun h => ?_) <;> (try simp only [go_sem, reduceCtorEq] at h) <;> (try (exfalso; omega))))) | fail)) <;> (try omega)
  all_goals first | exact AV.up_rfl _ | exact obUp_cons rfl obUp_nil
structure okO (most : Int) (b : List Int) : Prop where
  lo : 0 ≤ most
  hi : most ≤ 9223372036854775807
  len : b.length ≤ 1000000000
theorem olen_G (most : Int) (b : List Int) : GCall Try.prog 23 [.ptr 1 10000 0 0] (ouO most b) (vI b.length) (ouO most b) := by
  unfold ouO
  refine go_fnG (tyOf_ok _) Try.func23 rfl rfl (by rw [Try.results23]) Try.ntmps23 rfl fun E => ?_
  (repeat' (first
    | exact trivial
    | (with_reducible first | refine awA ?_ | refine awB ?_ | refine awC ?_ | refine awD ?_ | refine awE ?_ | refine awF ?_ | refine awG ?_ | refine awH ?_ | refine awI ?_ | refine awJ ?_ | refine awK ?_ | refine awL ?_ | refine awM (by decide) ?_)
    | ((with_reducible first | refine awN (tyOf_ok _) [] ?_ | refine awO (tyOf_ok _) [] ?_ | refine awP (tyOf_ok _) [] ?_ | refine awQ ?_ | refine awR ?_ | refine awS ?_ | refine awT ?_ | refine awU ?_); intro r hr; simp only [go_sem, Nat.reduceBEq, Nat.reduceBneDiff, Nat.reduceLT, Nat.reduceLeDiff, Nat.reduceAdd, Nat.reduceMul, Nat.reduceSub, Nat.reduceEqDiff, reduceCtorEq] at hr; subst hr; (first | refine awV ?_ ?_ | refine awW ?_ ?_ | refine endK ?_ ?_ | refine endGK ?_ ?_ ?_ | (refine condK (fun h => ?_) (fun h => ?_) <;> (try simp only [go_sem, reduceCtorEq] at h) <;> (try (exfalso; omega))))) | fail)) <;> (try omega)
  all_goals first | exact AV.up_rfl _ | exact obUp_cons rfl (obUp_cons rfl obUp_nil)
theorem rlen_G (most : Int) (b : List Int) : GCall Try.prog 36 [.ptr 1 10000 0 0] (rsO most b) (vI b.length) (rsO most b) := by
  unfold rsO
  refine go_fnG (tyOf_ok _) Try.func36 rfl rfl (by rw [Try.results36]) Try.ntmps36 rfl fun E => ?_
  (repeat' (first
    | exact trivial
    | (with_reducible first | refine awA ?_ | refine awB ?_ | refine awC ?_ | refine awD ?_ | refine awE ?_ | refine awF ?_ | refine awG ?_ | refine awH ?_ | refine awI ?_ | refine awJ ?_ | refine awK ?_ | refine awL ?_ | refine awM (by decide) ?_)
    | ((with_reducible first | refine awN (tyOf_ok _) [] ?_ | refine awO (tyOf_ok _) [] ?_ | refine awP (tyOf_ok _) [] ?_ | refine awQ ?_ | refine awR ?_ | refine awS ?_ | refine awT ?_ | refine awU ?_); intro r hr; simp only [go_sem, Nat.reduceBEq, Nat.reduceBneDiff, Nat.reduceLT, Nat.reduceLeDiff, Nat.reduceAdd, Nat.reduceMul, Nat.reduceSub, Nat.reduceEqDiff, reduceCtorEq] at hr; subst hr; (first | refine awV ?_ ?_ | refine awW ?_ ?_ | refine endK ?_ ?_ | refine endGK ?_ ?_ ?_ | (refine condK (fun h => ?_) (fun h => ?_) <;> (try simp only [go_sem, reduceCtorEq] at h) <;> (try (exfalso; omega))))) | fail)) <;> (try omega)
  all_goals first | exact AV.up_rfl _ | exact obUp_cons rfl (obUp_cons rfl obUp_nil)
theorem oput_bad (most : Int) (b c : List Int) (h : okO most b) (hc : most - b.length < c.length) : GCall Try.prog 20 [.ptr 1 10000 0 0, .lst 1 (encB c)] (ouO most b) (vI 4) (ouO most b) := by
  obtain ⟨h1, h2, h3⟩ := h
  have hw := wrap_i64 (n := most - b.length) (by omega)
  have e : (most - (b.length : Int) < (c.length : Int)) = True := eq_true hc
  unfold ouO
  refine go_fnG (tyOf_ok _) Try.func20 rfl rfl (by rw [Try.results20]) Try.ntmps20 rfl fun E => ?_
  (repeat' (first
    | exact trivial
    | (with_reducible first | refine awA ?_ | refine awB ?_ | refine awC ?_ | refine awD ?_ | refine awE ?_ | refine awF ?_ | refine awG ?_ | refine awH ?_ | refine awI ?_ | refine awJ ?_ | refine awK ?_ | refine awL ?_ | refine awM (by decide) ?_)
    | (refine aw_draw (id := 1) (t := (.node [0, 1, 2, 3, 4, 5, 6, 7, 8, 9, 10, 11, 12] [])) (drR [10000] [] []) mixed (by kernel_rfl) (by kernel_rfl) (fun _ _ h => h) ?_)
    | (refine at_done (by simp only [List.filterMap_cons, List.filterMap_nil, List.getElem?_toArray, List.getElem?_cons_zero, List.getElem?_cons_succ]; exact rfl) ?_) | (refine at_alt (by simp only [List.filterMap_cons, List.filterMap_nil, List.getElem?_toArray, List.getElem?_cons_zero, List.getElem?_cons_succ]; exact rfl) ?_) | refine qalt_normal ?_ | refine ats_cons ?_ ?_ | exact ats_nil
    | ((with_reducible first | refine awN (tyOf_ok _) [] ?_ | refine awO (tyOf_ok _) [] ?_ | refine awP (tyOf_ok _) [] ?_ | refine awQ ?_ | refine awR ?_ | refine awS ?_ | refine awT ?_ | refine awU ?_); intro r hr; simp only [go_sem, Nat.reduceBEq, Nat.reduceBneDiff, Nat.reduceLT, Nat.reduceLeDiff, Nat.reduceAdd, Nat.reduceMul, Nat.reduceSub, Nat.reduceEqDiff, reduceCtorEq, hw, e, encB_len] at hr; subst hr; (first | refine awV ?_ ?_ | refine awW ?_ ?_ | refine endK ?_ ?_ | refine endGK ?_ ?_ ?_ | (refine condK (fun h => ?_) (fun h => ?_) <;> (try simp only [go_sem, reduceCtorEq] at h) <;> (try (exfalso; omega))))) | fail)) <;> (try omega)
  all_goals first | exact AV.up_rfl _ | exact obUp_cons rfl (obUp_cons rfl obUp_nil)
theorem oput_ok (most : Int) (b c : List Int) (h : okO most b) (hc : ¬ most - b.length < c.length) (hl : b.length + c.length ≤ 1000000000) : GCall Try.prog 20 [.ptr 1 10000 0 0, .lst 1 (encB c)] (ouO most b) (vI 0) (ouO most (b ++ c)) := by
  obtain ⟨h1, h2, h3⟩ := h
  have hw := wrap_i64 (n := most - b.length) (by omega)
  have e : (most - (b.length : Int) < (c.length : Int)) = False := eq_false hc
  have ht : (encB b).take b.length = encB b := take_len (by rw [encB_len]; exact Nat.le_refl _)
  unfold ouO
  rw [List.length_append]
  refine go_fnG (tyOf_ok _) Try.func20 rfl rfl (by rw [Try.results20]) Try.ntmps20 rfl fun E => ?_
  (repeat' (first
    | exact trivial
    | (with_reducible first | refine awA ?_ | refine awB ?_ | refine awC ?_ | refine awD ?_ | refine awE ?_ | refine awF ?_ | refine awG ?_ | refine awH ?_ | refine awI ?_ | refine awJ ?_ | refine awK ?_ | refine awL ?_ | refine awM (by decide) ?_)
    | (refine aw_draw (id := 1) (t := (.node [0, 1, 2, 3, 4, 5, 6, 7, 8, 9, 10, 11, 12] [])) (drR [10000] [] []) mixed (by kernel_rfl) (by kernel_rfl) (fun _ _ h => h) ?_)
    | (refine at_done (by simp only [List.filterMap_cons, List.filterMap_nil, List.getElem?_toArray, List.getElem?_cons_zero, List.getElem?_cons_succ]; exact rfl) ?_) | (refine at_alt (by simp only [List.filterMap_cons, List.filterMap_nil, List.getElem?_toArray, List.getElem?_cons_zero, List.getElem?_cons_succ]; exact rfl) ?_) | refine qalt_normal ?_ | refine ats_cons ?_ ?_ | exact ats_nil
    | ((with_reducible first | refine awN (tyOf_ok _) [] ?_ | refine awO (tyOf_ok _) [] ?_ | refine awP (tyOf_ok _) [] ?_ | refine awQ ?_ | refine awR ?_ | refine awS ?_ | refine awT ?_ | refine awU ?_); intro r hr; simp only [go_sem, Nat.reduceBEq, Nat.reduceBneDiff, Nat.reduceLT, Nat.reduceLeDiff, Nat.reduceAdd, Nat.reduceMul, Nat.reduceSub, Nat.reduceEqDiff, reduceCtorEq, hw, e, ht, encB_app, encB_len, List.length_append] at hr; subst hr; (first | refine awV ?_ ?_ | refine awW ?_ ?_ | refine endK ?_ ?_ | refine endGK ?_ ?_ ?_ | (refine condK (fun h => ?_) (fun h => ?_) <;> (try simp only [go_sem, reduceCtorEq] at h) <;> (try (exfalso; omega))))) | fail)) <;> (try omega)
  all_goals first | exact AV.up_rfl _ | exact obUp_cons rfl (obUp_cons rfl obUp_nil)
theorem rsput_bad (most : Int) (b c : List Int) (h : okO most b) (hc : most - b.length < c.length) : GCall Try.prog 35 [.ptr 1 10000 0 0, .lst 1 (encB c)] (rsO most b) (vI 4) (rsO most b) := by
  obtain ⟨h1, h2, h3⟩ := h
  have hw := wrap_i64 (n := most - b.length) (by omega)
  have e : (most - (b.length : Int) < (c.length : Int)) = True := eq_true hc
  unfold rsO
  refine go_fnG (tyOf_ok _) Try.func35 rfl rfl (by rw [Try.results35]) Try.ntmps35 rfl fun E => ?_
  (repeat' (first
    | exact trivial
    | (with_reducible first | refine awA ?_ | refine awB ?_ | refine awC ?_ | refine awD ?_ | refine awE ?_ | refine awF ?_ | refine awG ?_ | refine awH ?_ | refine awI ?_ | refine awJ ?_ | refine awK ?_ | refine awL ?_ | refine awM (by decide) ?_)
    | (refine aw_draw (id := 1) (t := (.node [0, 1, 2, 3, 4, 5, 6, 7, 8, 9, 10, 11, 12] [])) (drR [10000] [] []) mixed (by kernel_rfl) (by kernel_rfl) (fun _ _ h => h) ?_)
    | (refine at_done (by simp only [List.filterMap_cons, List.filterMap_nil, List.getElem?_toArray, List.getElem?_cons_zero, List.getElem?_cons_succ]; exact rfl) ?_) | (refine at_alt (by simp only [List.filterMap_cons, List.filterMap_nil, List.getElem?_toArray, List.getElem?_cons_zero, List.getElem?_cons_succ]; exact rfl) ?_) | refine qalt_normal ?_ | refine ats_cons ?_ ?_ | exact ats_nil
    | ((with_reducible first | refine awN (tyOf_ok _) [] ?_ | refine awO (tyOf_ok _) [] ?_ | refine awP (tyOf_ok _) [] ?_ | refine awQ ?_ | refine awR ?_ | refine awS ?_ | refine awT ?_ | refine awU ?_); intro r hr; simp only [go_sem, Nat.reduceBEq, Nat.reduceBneDiff, Nat.reduceLT, Nat.reduceLeDiff, Nat.reduceAdd, Nat.reduceMul, Nat.reduceSub, Nat.reduceEqDiff, reduceCtorEq, hw, e, encB_len] at hr; subst hr; (first | refine awV ?_ ?_ | refine awW ?_ ?_ | refine endK ?_ ?_ | refine endGK ?_ ?_ ?_ | (refine condK (fun h => ?_) (fun h => ?_) <;> (try simp only [go_sem, reduceCtorEq] at h) <;> (try (exfalso; omega))))) | fail)) <;> (try omega)
  all_goals first | exact AV.up_rfl _ | exact obUp_cons rfl (obUp_cons rfl obUp_nil)
theorem rsput_ok (most : Int) (b c : List Int) (h : okO most b) (hc : ¬ most - b.length < c.length) (hl : b.length + c.length ≤ 1000000000) : GCall Try.prog 35 [.ptr 1 10000 0 0, .lst 1 (encB c)] (rsO most b) (vI 0) (rsO most (b ++ c)) := by
  obtain ⟨h1, h2, h3⟩ := h
  have hw := wrap_i64 (n := most - b.length) (by omega)
  have e : (most - (b.length : Int) < (c.length : Int)) = False := eq_false hc
  have ht : (encB b).take b.length = encB b := take_len (by rw [encB_len]; exact Nat.le_refl _)
  unfold rsO
  rw [List.length_append]
  refine go_fnG (tyOf_ok _) Try.func35 rfl rfl (by rw [Try.results35]) Try.ntmps35 rfl fun E => ?_
  (repeat' (first
    | exact trivial
    | (with_reducible first | refine awA ?_ | refine awB ?_ | refine awC ?_ | refine awD ?_ | refine awE ?_ | refine awF ?_ | refine awG ?_ | refine awH ?_ | refine awI ?_ | refine awJ ?_ | refine awK ?_ | refine awL ?_ | refine awM (by decide) ?_)
    | (refine aw_draw (id := 1) (t := (.node [0, 1, 2, 3, 4, 5, 6, 7, 8, 9, 10, 11, 12] [])) (drR [10000] [] []) mixed (by kernel_rfl) (by kernel_rfl) (fun _ _ h => h) ?_)
    | (refine at_done (by simp only [List.filterMap_cons, List.filterMap_nil, List.getElem?_toArray, List.getElem?_cons_zero, List.getElem?_cons_succ]; exact rfl) ?_) | (refine at_alt (by simp only [List.filterMap_cons, List.filterMap_nil, List.getElem?_toArray, List.getElem?_cons_zero, List.getElem?_cons_succ]; exact rfl) ?_) | refine qalt_normal ?_ | refine ats_cons ?_ ?_ | exact ats_nil
    | ((with_reducible first | refine awN (tyOf_ok _) [] ?_ | refine awO (tyOf_ok _) [] ?_ | refine awP (tyOf_ok _) [] ?_ | refine awQ ?_ | refine awR ?_ | refine awS ?_ | refine awT ?_ | refine awU ?_); intro r hr; simp only [go_sem, Nat.reduceBEq, Nat.reduceBneDiff, Nat.reduceLT, Nat.reduceLeDiff, Nat.reduceAdd, Nat.reduceMul, Nat.reduceSub, Nat.reduceEqDiff, reduceCtorEq, hw, e, ht, encB_app, encB_len, List.length_append] at hr; subst hr; (first | refine awV ?_ ?_ | refine awW ?_ ?_ | refine endK ?_ ?_ | refine endGK ?_ ?_ ?_ | (refine condK (fun h => ?_) (fun h => ?_) <;> (try simp only [go_sem, reduceCtorEq] at h) <;> (try (exfalso; omega))))) | fail)) <;> (try omega)
  all_goals first | exact AV.up_rfl _ | exact obUp_cons rfl (obUp_cons rfl obUp_nil)
theorem opatch_ok (most : Int) (b : List Int) (i k : Nat) (n : Int) (h1 : 1 ≤ k) (h8 : k ≤ 8) (h : i + k ≤ b.length) (hl : b.length ≤ 1000000000) (hn : U64 n) (hf : fitsB n k = true) :
    GCall Try.prog 21 [.ptr 1 10000 0 0, vI i, vI k, .v (.int .u64 n)] (ouO most b) (vI 0) (ouO most (putB b i n k)) := by
  have hp := put_ok b i k n h1 h8 h hl hn hf
  unfold ouO
  rw [putB_len n h]
  refine go_fnG (tyOf_ok _) Try.func21 rfl rfl (by rw [Try.results21]) Try.ntmps21 rfl fun E => ?_
  (repeat' (first
    | exact trivial
    | (with_reducible first | refine awA ?_ | refine awB ?_ | refine awC ?_ | refine awD ?_ | refine awE ?_ | refine awF ?_ | refine awG ?_ | refine awH ?_ | refine awI ?_ | refine awJ ?_ | refine awK ?_ | refine awL ?_ | refine awM (by decide) ?_)
    | ((with_reducible first | refine awN (tyOf_ok _) [] ?_ | refine awO (tyOf_ok _) [] ?_ | refine awP (tyOf_ok _) [] ?_ | refine awQ ?_ | refine awR ?_ | refine awS ?_ | refine awT ?_ | refine awU ?_); intro r hr; simp only [go_sem, Nat.reduceBEq, Nat.reduceBneDiff, Nat.reduceLT, Nat.reduceLeDiff, Nat.reduceAdd, Nat.reduceMul, Nat.reduceSub, Nat.reduceEqDiff, reduceCtorEq] at hr; subst hr; (first | refine awV ?_ ?_ | refine awW ?_ ?_ | refine endK ?_ ?_ | refine endGK ?_ ?_ ?_ | (refine condK (fun h => ?_) (fun h => ?_) <;> (try simp only [go_sem, reduceCtorEq] at h) <;> (try (exfalso; omega)))))
    | (refine go_callGE [(15000, 10001)] [(10001, 15000)] [] [15000] ?_; intro r hr; simp only [go_sem, Nat.reduceBEq, Nat.reduceBneDiff, Nat.reduceLT, Nat.reduceLeDiff, Nat.reduceAdd, Nat.reduceMul, Nat.reduceSub, Nat.reduceEqDiff, reduceCtorEq] at hr; subst hr; refine callGK (hp) rfl rfl (by first | exact .inl rfl | exact .inr rfl) ?_ (.inl rfl) ?_) | fail)) <;> (try omega)
  all_goals first | exact AV.up_rfl _ | exact obUp_cons rfl (obUp_cons rfl obUp_nil)
theorem opatch_bad (most : Int) (b : List Int) (at_ wd n : Int) (hl : b.length ≤ 1000000000) (hn : U64 n) (hw : I64 wd) (he : putE b.length at_ wd n ≠ 0) :
    GCall Try.prog 21 [.ptr 1 10000 0 0, vI at_, vI wd, .v (.int .u64 n)] (ouO most b) (vI (putE b.length at_ wd n)) (ouO most b) := by
  have hp := put_bad b at_ wd n hl hn hw he
  unfold ouO
  refine go_fnG (tyOf_ok _) Try.func21 rfl rfl (by rw [Try.results21]) Try.ntmps21 rfl fun E => ?_
  (repeat' (first
    | exact trivial
    | (with_reducible first | refine awA ?_ | refine awB ?_ | refine awC ?_ | refine awD ?_ | refine awE ?_ | refine awF ?_ | refine awG ?_ | refine awH ?_ | refine awI ?_ | refine awJ ?_ | refine awK ?_ | refine awL ?_ | refine awM (by decide) ?_)
    | ((with_reducible first | refine awN (tyOf_ok _) [] ?_ | refine awO (tyOf_ok _) [] ?_ | refine awP (tyOf_ok _) [] ?_ | refine awQ ?_ | refine awR ?_ | refine awS ?_ | refine awT ?_ | refine awU ?_); intro r hr; simp only [go_sem, Nat.reduceBEq, Nat.reduceBneDiff, Nat.reduceLT, Nat.reduceLeDiff, Nat.reduceAdd, Nat.reduceMul, Nat.reduceSub, Nat.reduceEqDiff, reduceCtorEq] at hr; subst hr; (first | refine awV ?_ ?_ | refine awW ?_ ?_ | refine endK ?_ ?_ | refine endGK ?_ ?_ ?_ | (refine condK (fun h => ?_) (fun h => ?_) <;> (try simp only [go_sem, reduceCtorEq] at h) <;> (try (exfalso; omega)))))
    | (refine go_callGE [(15000, 10001)] [(10001, 15000)] [] [15000] ?_; intro r hr; simp only [go_sem, Nat.reduceBEq, Nat.reduceBneDiff, Nat.reduceLT, Nat.reduceLeDiff, Nat.reduceAdd, Nat.reduceMul, Nat.reduceSub, Nat.reduceEqDiff, reduceCtorEq] at hr; subst hr; refine callGK (hp) rfl rfl (by first | exact .inl rfl | exact .inr rfl) ?_ (.inl rfl) ?_) | fail)) <;> (try omega)
  all_goals first | exact AV.up_rfl _ | exact obUp_cons rfl (obUp_cons rfl obUp_nil)
theorem rspatch_ok (most : Int) (b : List Int) (i k : Nat) (n : Int) (h1 : 1 ≤ k) (h8 : k ≤ 8) (h : i + k ≤ b.length) (hl : b.length ≤ 1000000000) (hn : U64 n) (hf : fitsB n k = true) :
    GCall Try.prog 37 [.ptr 1 10000 0 0, vI i, vI k, .v (.int .u64 n)] (rsO most b) (vI 0) (rsO most (putB b i n k)) := by
  have hp := rput_ok b i k n h1 h8 h hl hn hf
  unfold rsO
  rw [putB_len n h]
  refine go_fnG (tyOf_ok _) Try.func37 rfl rfl (by rw [Try.results37]) Try.ntmps37 rfl fun E => ?_
  (repeat' (first
    | exact trivial
    | (with_reducible first | refine awA ?_ | refine awB ?_ | refine awC ?_ | refine awD ?_ | refine awE ?_ | refine awF ?_ | refine awG ?_ | refine awH ?_ | refine awI ?_ | refine awJ ?_ | refine awK ?_ | refine awL ?_ | refine awM (by decide) ?_)
    | ((with_reducible first | refine awN (tyOf_ok _) [] ?_ | refine awO (tyOf_ok _) [] ?_ | refine awP (tyOf_ok _) [] ?_ | refine awQ ?_ | refine awR ?_ | refine awS ?_ | refine awT ?_ | refine awU ?_); intro r hr; simp only [go_sem, Nat.reduceBEq, Nat.reduceBneDiff, Nat.reduceLT, Nat.reduceLeDiff, Nat.reduceAdd, Nat.reduceMul, Nat.reduceSub, Nat.reduceEqDiff, reduceCtorEq] at hr; subst hr; (first | refine awV ?_ ?_ | refine awW ?_ ?_ | refine endK ?_ ?_ | refine endGK ?_ ?_ ?_ | (refine condK (fun h => ?_) (fun h => ?_) <;> (try simp only [go_sem, reduceCtorEq] at h) <;> (try (exfalso; omega)))))
    | (refine go_callGE [(15000, 10001)] [(10001, 15000)] [] [15000] ?_; intro r hr; simp only [go_sem, Nat.reduceBEq, Nat.reduceBneDiff, Nat.reduceLT, Nat.reduceLeDiff, Nat.reduceAdd, Nat.reduceMul, Nat.reduceSub, Nat.reduceEqDiff, reduceCtorEq] at hr; subst hr; refine callGK (hp) rfl rfl (by first | exact .inl rfl | exact .inr rfl) ?_ (.inl rfl) ?_) | fail)) <;> (try omega)
  all_goals first | exact AV.up_rfl _ | exact obUp_cons rfl (obUp_cons rfl obUp_nil)
theorem rspatch_bad (most : Int) (b : List Int) (at_ wd n : Int) (hl : b.length ≤ 1000000000) (hn : U64 n) (he : putE b.length at_ wd n ≠ 0) :
    GCall Try.prog 37 [.ptr 1 10000 0 0, vI at_, vI wd, .v (.int .u64 n)] (rsO most b) (vI (putE b.length at_ wd n)) (rsO most b) := by
  have hp := rput_bad b at_ wd n hl hn he
  unfold rsO
  refine go_fnG (tyOf_ok _) Try.func37 rfl rfl (by rw [Try.results37]) Try.ntmps37 rfl fun E => ?_
  (repeat' (first
    | exact trivial
    | (with_reducible first | refine awA ?_ | refine awB ?_ | refine awC ?_ | refine awD ?_ | refine awE ?_ | refine awF ?_ | refine awG ?_ | refine awH ?_ | refine awI ?_ | refine awJ ?_ | refine awK ?_ | refine awL ?_ | refine awM (by decide) ?_)
    | ((with_reducible first | refine awN (tyOf_ok _) [] ?_ | refine awO (tyOf_ok _) [] ?_ | refine awP (tyOf_ok _) [] ?_ | refine awQ ?_ | refine awR ?_ | refine awS ?_ | refine awT ?_ | refine awU ?_); intro r hr; simp only [go_sem, Nat.reduceBEq, Nat.reduceBneDiff, Nat.reduceLT, Nat.reduceLeDiff, Nat.reduceAdd, Nat.reduceMul, Nat.reduceSub, Nat.reduceEqDiff, reduceCtorEq] at hr; subst hr; (first | refine awV ?_ ?_ | refine awW ?_ ?_ | refine endK ?_ ?_ | refine endGK ?_ ?_ ?_ | (refine condK (fun h => ?_) (fun h => ?_) <;> (try simp only [go_sem, reduceCtorEq] at h) <;> (try (exfalso; omega)))))
    | (refine go_callGE [(15000, 10001)] [(10001, 15000)] [] [15000] ?_; intro r hr; simp only [go_sem, Nat.reduceBEq, Nat.reduceBneDiff, Nat.reduceLT, Nat.reduceLeDiff, Nat.reduceAdd, Nat.reduceMul, Nat.reduceSub, Nat.reduceEqDiff, reduceCtorEq] at hr; subst hr; refine callGK (hp) rfl rfl (by first | exact .inl rfl | exact .inr rfl) ?_ (.inl rfl) ?_) | fail)) <;> (try omega)
  all_goals first | exact AV.up_rfl _ | exact obUp_cons rfl (obUp_cons rfl obUp_nil)
theorem nm_encB (b : List Int) : ∀ cs ∈ encB b, ∀ u ∈ cs, ∃ x, u = AV.v x := fun cs hcs u hu => by
  obtain ⟨z, _, rfl⟩ := List.mem_map.1 hcs
  rw [List.mem_singleton] at hu
  exact ⟨_, hu⟩
theorem obytes_G (most : Int) (b : List Int) (hl : b.length ≤ 1000000000) : GCall Try.prog 22 [.ptr 1 10000 0 0] (ouO most b) (.ref 5 1 8000 0 b.length) ((8000, .row 5 1 (encB b)) :: ouO most b) := by
  have hc := clone_G b hl
  have ht : (encB b).take b.length = encB b := take_len (by rw [encB_len]; exact Nat.le_refl _)
  unfold ouO
  refine go_fnG (tyOf_ok _) Try.func22 rfl rfl (by rw [Try.results22]) Try.ntmps22 rfl fun E => ?_
  (repeat' (first
    | exact trivial
    | (with_reducible first | refine awA ?_ | refine awB ?_ | refine awC ?_ | refine awD ?_ | refine awE ?_ | refine awF ?_ | refine awG ?_ | refine awH ?_ | refine awI ?_ | refine awJ ?_ | refine awK ?_ | refine awL ?_ | refine awM (by decide) ?_)
    | ((with_reducible first | refine awN (tyOf_ok _) [] ?_ | refine awO (tyOf_ok _) [] ?_ | refine awP (tyOf_ok _) [] ?_ | refine awQ ?_ | refine awR ?_ | refine awS ?_ | refine awT ?_ | refine awU ?_); intro r hr; simp only [go_sem, Nat.reduceBEq, Nat.reduceBneDiff, Nat.reduceLT, Nat.reduceLeDiff, Nat.reduceAdd, Nat.reduceMul, Nat.reduceSub, Nat.reduceEqDiff, reduceCtorEq, ht, Nat.zero_add, List.drop_zero, encB_len] at hr; subst hr; (first | refine awV ?_ ?_ | refine awW ?_ ?_ | refine endK ?_ ?_ | refine endGK ?_ ?_ ?_ | (refine condK (fun h => ?_) (fun h => ?_) <;> (try simp only [go_sem, reduceCtorEq] at h) <;> (try (exfalso; omega)))))
    | (refine go_callGE [] [(5, 8000)] [8000] [] ?_; intro r hr; simp only [go_sem, Nat.reduceBEq, Nat.reduceBneDiff, Nat.reduceLT, Nat.reduceLeDiff, Nat.reduceAdd, Nat.reduceMul, Nat.reduceSub, Nat.reduceEqDiff, reduceCtorEq, ht, Nat.zero_add, List.drop_zero, encB_len] at hr; subst hr; refine callGK (hc) rfl rfl (by first | exact .inl rfl | exact .inr rfl) ?_ (.inr ⟨rfl, ?_⟩) ?_) | fail)) <;> (try omega)
  · exact ⟨nm_encB b, trivial⟩
  · exact AV.up_rfl _
  · exact obUp_cons rfl (obUp_cons rfl (obUp_cons rfl obUp_nil))
end Go.Proofs.Ytopcfnlcapibgaa
end
