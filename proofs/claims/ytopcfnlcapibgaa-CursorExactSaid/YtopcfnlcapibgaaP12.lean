import Derived.Test.YtopcfnlcapibgaaP11
set_option linter.all false
section
namespace Go.Proofs.Ytopcfnlcapibgaa
open Go.RowKit
set_option maxRecDepth 100000
set_option maxHeartbeats 8000000
/-! Each call of an input, of an output, whatever it is. -/
theorem GCall.up {P : Program} {f : Nat} {args : List AV} {ob ob1 ob2 : List (Nat × AObj)} {r r' : AV} (h : GCall P f args ob r ob1) (hu : r.up r') (ho : obUp ob1 ob2) : GCall P f args ob r' ob2 :=
  ⟨h.1, fun w F β vs g1 g2 g3 => (h.2 w F β vs g1 g2 g3).mono fun e w' ⟨v, β', he, hout, hr⟩ => ⟨v, β', he, { hout with ob := obUp_ok ho hout.ob }, hu _ _ _ _ hr⟩⟩
theorem obUp_self (ob : List (Nat × AObj)) : obUp ob ob := fun _ _ h => .inl h
theorem peek_badR (pre hs : List Int) (at_ : Int) (over : Bool) (n : Int) (h : n < 0 ∨ hs.length < n) : GCall Try.prog 14 [.ptr 1 10000 0 0, vI n] (inO pre hs at_ over) (.tup [.ref 5 1 19 0 0, vB false]) ((19, .row 5 1 []) :: inO pre hs at_ over) :=
  (peek_bad pre hs at_ over n h).up (AV.up_tup ⟨AV.up_nilref _ _ _ _, AV.up_rfl _, trivial⟩) (obUp_row0 (obUp_self _))
theorem rpeek_badR (all : List Int) (tk : Nat) (frm : Int) (over : Bool) (h : okR all tk frm) (n : Int) (hn : n < 0 ∨ ((all.length - tk : Nat) : Int) < n) : GCall Try.prog 31 [.ptr 1 10000 0 0, vI n] (rfO all tk frm over) (.tup [.ref 5 1 29 0 0, vB false]) ((29, .row 5 1 []) :: rfO all tk frm over) :=
  (rpeek_bad all tk frm over h n hn).up (AV.up_tup ⟨AV.up_nilref _ _ _ _, AV.up_rfl _, trivial⟩) (obUp_row0 (obUp_self _))
theorem inNone (w : Int) (D : TabS) (ls : List Nat) (kind : Int) (which : Bool) (n width v : Int) (b : List Int) (h : kind < 1 ∨ 6 < kind) :
    GCall Try.prog 6 [.ptr 1 10000 0 0, vI w, opV kind which n width v b] (tabO D ls) (vB true) (tabO D ls) := by
  have e1 : (kind = 1) = False := eq_false (by omega)
  have e2 : (kind = 2) = False := eq_false (by omega)
  have e3 : (kind = 3) = False := eq_false (by omega)
  have e4 : (kind = 4) = False := eq_false (by omega)
  have e5 : (kind = 5) = False := eq_false (by omega)
  have e6 : (kind = 6) = False := eq_false (by omega)
  unfold opV
  cases ls with
  | nil =>
    unfold tabO tabV tabA
    refine go_fnG (tyOf_ok _) Try.func6 rfl rfl (by rw [Try.results6]) Try.ntmps6 rfl fun E => ?_
    (repeat' (first
    | exact trivial
    | (with_reducible first | refine awA ?_ | refine awB ?_ | refine awC ?_ | refine awD ?_ | refine awE ?_ | refine awF ?_ | refine awG ?_ | refine awH ?_ | refine awI ?_ | refine awJ ?_ | refine awK ?_ | refine awL ?_ | refine awM (by decide) ?_)
    | (refine aw_draw (id := 13) (t := (.node [0, 2, 3, 4, 5, 6, 7, 8, 9, 1, 10, 11, 12, 13, 14, 15, 16, 17, 18, 19, 20, 21, 22, 23] [])) (drR [5] [85] [88, 94, 99]) mixed (by kernel_rfl) (by kernel_rfl) (fun _ _ h => h) ?_)
    | (refine aw_draw (id := 15) (t := (.node [0, 1, 2, 3, 4, 5, 8, 9, 10, 11, 12] [(.node [6, 13, 7, 14, 15, 16, 17, 18, 19, 20, 21] []), (.node [13, 6, 7, 14, 15, 16, 17, 18, 19, 20, 21] [])])) (drR [] [108, 116] [109, 117, 122]) mixed (by kernel_rfl) (by kernel_rfl) (fun _ _ h => h) ?_)
    | (refine aw_draw (id := 21) (t := (.node [0, 1, 2, 3, 4, 5, 6, 7, 8, 9, 10, 11, 12, 13] [])) (drR [10000, 5] [] [170]) mixed (by kernel_rfl) (by kernel_rfl) (fun _ _ h => h) ?_)
    | (refine aw_draw (id := 22) (t := (.node [0, 1, 2, 3, 4, 5, 6, 7, 8, 9, 10, 11, 12, 13] [])) (drR [10000, 5] [] [182]) mixed (by kernel_rfl) (by kernel_rfl) (fun _ _ h => h) ?_)
    | (refine aw_draw (id := 23) (t := (.node [0, 1, 2, 3, 4, 5, 6, 7, 8, 9, 10, 11, 12, 13] [])) (drR [10000, 5] [] [194]) mixed (by kernel_rfl) (by kernel_rfl) (fun _ _ h => h) ?_)
    | (refine aw_draw (id := 29) (t := (.node [0, 1, 2, 3, 4, 5, 6, 7, 10, 11, 12, 13, 14, 16, 17] [(.node [8, 15, 9, 18, 19, 20, 21, 22, 23, 24, 25] []), (.node [15, 8, 9, 18, 19, 20, 21, 22, 23, 24, 25] [])])) (drR [5] [242, 252] [245, 255, 260]) mixed (by kernel_rfl) (by kernel_rfl) (fun _ _ h => h) ?_)
    | (refine at_done (by simp only [List.filterMap_cons, List.filterMap_nil, List.getElem?_toArray, List.getElem?_cons_zero, List.getElem?_cons_succ]; exact rfl) ?_) | (refine at_alt (by simp only [List.filterMap_cons, List.filterMap_nil, List.getElem?_toArray, List.getElem?_cons_zero, List.getElem?_cons_succ]; exact rfl) ?_) | refine qalt_normal ?_ | refine ats_cons ?_ ?_ | exact ats_nil
    | ((with_reducible first | refine awN (tyOf_ok _) [] ?_ | refine awO (tyOf_ok _) [] ?_ | refine awP (tyOf_ok _) [] ?_ | refine awQ ?_ | refine awR ?_ | refine awS ?_ | refine awT ?_ | refine awU ?_); intro r hr; simp only [go_sem, Nat.reduceBEq, Nat.reduceBneDiff, Nat.reduceLT, Nat.reduceLeDiff, Nat.reduceAdd, Nat.reduceMul, Nat.reduceSub, Nat.reduceEqDiff, reduceCtorEq, e1, e2, e3, e4, e5, e6, bkL_cut, bkL_kill, bkL_ren] at hr; subst hr; (first | refine awV ?_ ?_ | refine awW ?_ ?_ | refine endK ?_ ?_ | refine endGK ?_ ?_ ?_ | (refine condK (fun h => ?_) (fun h => ?_) <;> (try simp only [go_sem, reduceCtorEq] at h) <;> (try (exfalso; omega))))) | fail)) <;> (try omega)
    all_goals first | exact AV.up_rfl _ | (repeat first | exact obUp_nil | refine obUp_cons rfl ?_)
  | cons n0 ls0 =>
    generalize hcs : n0 :: ls0 = cs
    rw [tabO_ne D (by rw [← hcs]; exact List.cons_ne_nil _ _)]
    unfold tabV tabA
    refine go_fnG (tyOf_ok _) Try.func6 rfl rfl (by rw [Try.results6]) Try.ntmps6 rfl fun E => ?_
    (repeat' (first
    | exact trivial
    | (with_reducible first | refine awA ?_ | refine awB ?_ | refine awC ?_ | refine awD ?_ | refine awE ?_ | refine awF ?_ | refine awG ?_ | refine awH ?_ | refine awI ?_ | refine awJ ?_ | refine awK ?_ | refine awL ?_ | refine awM (by decide) ?_)
    | (refine aw_draw (id := 13) (t := (.node [0, 2, 3, 4, 5, 6, 7, 8, 9, 1, 10, 11, 12, 13, 14, 15, 16, 17, 18, 19, 20, 21, 22, 23] [])) (drR [5] [85] [88, 94, 99]) mixed (by kernel_rfl) (by kernel_rfl) (fun _ _ h => h) ?_)
    | (refine aw_draw (id := 15) (t := (.node [0, 1, 2, 3, 4, 5, 8, 9, 10, 11, 12] [(.node [6, 13, 7, 14, 15, 16, 17, 18, 19, 20, 21] []), (.node [13, 6, 7, 14, 15, 16, 17, 18, 19, 20, 21] [])])) (drR [] [108, 116] [109, 117, 122]) mixed (by kernel_rfl) (by kernel_rfl) (fun _ _ h => h) ?_)
    | (refine aw_draw (id := 21) (t := (.node [0, 1, 2, 3, 4, 5, 6, 7, 8, 9, 10, 11, 12, 13] [])) (drR [10000, 5] [] [170]) mixed (by kernel_rfl) (by kernel_rfl) (fun _ _ h => h) ?_)
    | (refine aw_draw (id := 22) (t := (.node [0, 1, 2, 3, 4, 5, 6, 7, 8, 9, 10, 11, 12, 13] [])) (drR [10000, 5] [] [182]) mixed (by kernel_rfl) (by kernel_rfl) (fun _ _ h => h) ?_)
    | (refine aw_draw (id := 23) (t := (.node [0, 1, 2, 3, 4, 5, 6, 7, 8, 9, 10, 11, 12, 13] [])) (drR [10000, 5] [] [194]) mixed (by kernel_rfl) (by kernel_rfl) (fun _ _ h => h) ?_)
    | (refine aw_draw (id := 29) (t := (.node [0, 1, 2, 3, 4, 5, 6, 7, 10, 11, 12, 13, 14, 16, 17] [(.node [8, 15, 9, 18, 19, 20, 21, 22, 23, 24, 25] []), (.node [15, 8, 9, 18, 19, 20, 21, 22, 23, 24, 25] [])])) (drR [5] [242, 252] [245, 255, 260]) mixed (by kernel_rfl) (by kernel_rfl) (fun _ _ h => h) ?_)
    | (refine at_done (by simp only [List.filterMap_cons, List.filterMap_nil, List.getElem?_toArray, List.getElem?_cons_zero, List.getElem?_cons_succ]; exact rfl) ?_) | (refine at_alt (by simp only [List.filterMap_cons, List.filterMap_nil, List.getElem?_toArray, List.getElem?_cons_zero, List.getElem?_cons_succ]; exact rfl) ?_) | refine qalt_normal ?_ | refine ats_cons ?_ ?_ | exact ats_nil
    | ((with_reducible first | refine awN (tyOf_ok _) [] ?_ | refine awO (tyOf_ok _) [] ?_ | refine awP (tyOf_ok _) [] ?_ | refine awQ ?_ | refine awR ?_ | refine awS ?_ | refine awT ?_ | refine awU ?_); intro r hr; simp only [go_sem, Nat.reduceBEq, Nat.reduceBneDiff, Nat.reduceLT, Nat.reduceLeDiff, Nat.reduceAdd, Nat.reduceMul, Nat.reduceSub, Nat.reduceEqDiff, reduceCtorEq, e1, e2, e3, e4, e5, e6, bkL_cut, bkL_kill, bkL_ren] at hr; subst hr; (first | refine awV ?_ ?_ | refine awW ?_ ?_ | refine endK ?_ ?_ | refine endGK ?_ ?_ ?_ | (refine condK (fun h => ?_) (fun h => ?_) <;> (try simp only [go_sem, reduceCtorEq] at h) <;> (try (exfalso; omega))))) | fail)) <;> (try omega)
    all_goals first | exact AV.up_rfl _ | (repeat first | exact obUp_nil | refine obUp_cons rfl ?_)
theorem outNone (w : Int) (D : TabS) (ls : List Nat) (kind : Int) (which : Bool) (n width v : Int) (b : List Int) (h : kind < 7 ∨ 10 < kind) :
    GCall Try.prog 7 [.ptr 1 10000 0 0, vI w, opV kind which n width v b] (tabO D ls) (vB true) (tabO D ls) := by
  have e1 : (kind = 7) = False := eq_false (by omega)
  have e2 : (kind = 8) = False := eq_false (by omega)
  have e3 : (kind = 9) = False := eq_false (by omega)
  have e4 : (kind = 10) = False := eq_false (by omega)
  unfold opV
  cases ls with
  | nil =>
    unfold tabO tabV tabA
    refine go_fnG (tyOf_ok _) Try.func7 rfl rfl (by rw [Try.results7]) Try.ntmps7 rfl fun E => ?_
    (repeat' (first
    | exact trivial
    | (with_reducible first | refine awA ?_ | refine awB ?_ | refine awC ?_ | refine awD ?_ | refine awE ?_ | refine awF ?_ | refine awG ?_ | refine awH ?_ | refine awI ?_ | refine awJ ?_ | refine awK ?_ | refine awL ?_ | refine awM (by decide) ?_)
    | (refine aw_draw (id := 13) (t := (.node [0, 2, 3, 4, 5, 6, 7, 8, 9, 1, 10, 11, 12, 13, 14, 15, 16, 17, 18, 19, 20, 21, 22, 23, 24, 26, 27, 28, 29, 30, 31, 25, 32, 33, 34, 35] [])) (drR [10000, 5] [] [80, 86, 95, 102]) mixed (by kernel_rfl) (by kernel_rfl) (fun _ _ h => h) ?_)
    | (refine aw_draw (id := 15) (t := (.node [0, 1, 2, 3, 4, 5, 6, 7, 8, 9, 10, 11, 14, 15, 16, 17, 18, 19, 20, 21, 22, 23, 24, 25, 12, 13, 26, 27, 28] [])) (drR [10000, 5] [] [119, 133]) mixed (by kernel_rfl) (by kernel_rfl) (fun _ _ h => h) ?_)
    | (refine aw_draw (id := 19) (t := (.node [0, 1, 2, 3, 4, 5, 6, 7, 8, 9, 10, 11, 12, 13, 14, 15, 16, 17, 18, 19, 20, 21, 22, 23, 24, 25, 26, 28, 29, 27, 30, 31, 32] [])) (drR [10000] [152, 161, 162, 166, 168] [178]) mixed (by kernel_rfl) (by kernel_rfl) (fun _ _ h => h) ?_)
    | (refine at_done (by simp only [List.filterMap_cons, List.filterMap_nil, List.getElem?_toArray, List.getElem?_cons_zero, List.getElem?_cons_succ]; exact rfl) ?_) | (refine at_alt (by simp only [List.filterMap_cons, List.filterMap_nil, List.getElem?_toArray, List.getElem?_cons_zero, List.getElem?_cons_succ]; exact rfl) ?_) | refine qalt_normal ?_ | refine ats_cons ?_ ?_ | exact ats_nil
    | ((with_reducible first | refine awN (tyOf_ok _) [] ?_ | refine awO (tyOf_ok _) [] ?_ | refine awP (tyOf_ok _) [] ?_ | refine awQ ?_ | refine awR ?_ | refine awS ?_ | refine awT ?_ | refine awU ?_); intro r hr; simp only [go_sem, Nat.reduceBEq, Nat.reduceBneDiff, Nat.reduceLT, Nat.reduceLeDiff, Nat.reduceAdd, Nat.reduceMul, Nat.reduceSub, Nat.reduceEqDiff, reduceCtorEq, e1, e2, e3, e4, bkL_cut, bkL_kill, bkL_ren] at hr; subst hr; (first | refine awV ?_ ?_ | refine awW ?_ ?_ | refine endK ?_ ?_ | refine endGK ?_ ?_ ?_ | (refine condK (fun h => ?_) (fun h => ?_) <;> (try simp only [go_sem, reduceCtorEq] at h) <;> (try (exfalso; omega))))) | fail)) <;> (try omega)
    all_goals first | exact AV.up_rfl _ | (repeat first | exact obUp_nil | refine obUp_cons rfl ?_)
  | cons n0 ls0 =>
    generalize hcs : n0 :: ls0 = cs
    rw [tabO_ne D (by rw [← hcs]; exact List.cons_ne_nil _ _)]
    unfold tabV tabA
    refine go_fnG (tyOf_ok _) Try.func7 rfl rfl (by rw [Try.results7]) Try.ntmps7 rfl fun E => ?_
    (repeat' (first
    | exact trivial
    | (with_reducible first | refine awA ?_ | refine awB ?_ | refine awC ?_ | refine awD ?_ | refine awE ?_ | refine awF ?_ | refine awG ?_ | refine awH ?_ | refine awI ?_ | refine awJ ?_ | refine awK ?_ | refine awL ?_ | refine awM (by decide) ?_)
    | (refine aw_draw (id := 13) (t := (.node [0, 2, 3, 4, 5, 6, 7, 8, 9, 1, 10, 11, 12, 13, 14, 15, 16, 17, 18, 19, 20, 21, 22, 23, 24, 26, 27, 28, 29, 30, 31, 25, 32, 33, 34, 35] [])) (drR [10000, 5] [] [80, 86, 95, 102]) mixed (by kernel_rfl) (by kernel_rfl) (fun _ _ h => h) ?_)
    | (refine aw_draw (id := 15) (t := (.node [0, 1, 2, 3, 4, 5, 6, 7, 8, 9, 10, 11, 14, 15, 16, 17, 18, 19, 20, 21, 22, 23, 24, 25, 12, 13, 26, 27, 28] [])) (drR [10000, 5] [] [119, 133]) mixed (by kernel_rfl) (by kernel_rfl) (fun _ _ h => h) ?_)
    | (refine aw_draw (id := 19) (t := (.node [0, 1, 2, 3, 4, 5, 6, 7, 8, 9, 10, 11, 12, 13, 14, 15, 16, 17, 18, 19, 20, 21, 22, 23, 24, 25, 26, 28, 29, 27, 30, 31, 32] [])) (drR [10000] [152, 161, 162, 166, 168] [178]) mixed (by kernel_rfl) (by kernel_rfl) (fun _ _ h => h) ?_)
    | (refine at_done (by simp only [List.filterMap_cons, List.filterMap_nil, List.getElem?_toArray, List.getElem?_cons_zero, List.getElem?_cons_succ]; exact rfl) ?_) | (refine at_alt (by simp only [List.filterMap_cons, List.filterMap_nil, List.getElem?_toArray, List.getElem?_cons_zero, List.getElem?_cons_succ]; exact rfl) ?_) | refine qalt_normal ?_ | refine ats_cons ?_ ?_ | exact ats_nil
    | ((with_reducible first | refine awN (tyOf_ok _) [] ?_ | refine awO (tyOf_ok _) [] ?_ | refine awP (tyOf_ok _) [] ?_ | refine awQ ?_ | refine awR ?_ | refine awS ?_ | refine awT ?_ | refine awU ?_); intro r hr; simp only [go_sem, Nat.reduceBEq, Nat.reduceBneDiff, Nat.reduceLT, Nat.reduceLeDiff, Nat.reduceAdd, Nat.reduceMul, Nat.reduceSub, Nat.reduceEqDiff, reduceCtorEq, e1, e2, e3, e4, bkL_cut, bkL_kill, bkL_ren] at hr; subst hr; (first | refine awV ?_ ?_ | refine awW ?_ ?_ | refine endK ?_ ?_ | refine endGK ?_ ?_ ?_ | (refine condK (fun h => ?_) (fun h => ?_) <;> (try simp only [go_sem, reduceCtorEq] at h) <;> (try (exfalso; omega))))) | fail)) <;> (try omega)
    all_goals first | exact AV.up_rfl _ | (repeat first | exact obUp_nil | refine obUp_cons rfl ?_)
/-- the table behind so many calls -/
structure okT (m : Nat) (D : TabS) : Prop where
  i0 : okI D.i0
  i1 : okI D.i1
  a0 : D.i0.all.length ≤ 1000 * m
  a1 : D.i1.all.length ≤ 1000 * m
  l0 : 0 ≤ D.o0.most ∧ D.o0.most ≤ 9223372036854775807
  l1 : 0 ≤ D.o1.most ∧ D.o1.most ≤ 9223372036854775807
  b0 : D.o0.b.length ≤ 1000 * m
  b1 : D.o1.b.length ≤ 1000 * m
def okL (m : Nat) (ls : List Nat) : Prop := ls.length ≤ 2 * m ∧ ∀ n ∈ ls, n ≤ 1000000
theorem okT.up {m : Nat} {D : TabS} (h : okT m D) : okT (m + 1) D := by
  obtain ⟨h1, h2, h3, h4, h5, h6, h7, h8⟩ := h
  exact ⟨h1, h2, by omega, by omega, h5, h6, by omega, by omega⟩
theorem okL.up {m : Nat} {ls : List Nat} (h : okL m ls) : okL (m + 1) ls := ⟨by have := h.1; omega, h.2⟩
theorem okL.two {m : Nat} {ls : List Nat} (h : okL m ls) {x : Nat} (hx : x ≤ 1000000) : okL (m + 1) (ls ++ [x, x]) := by
  refine ⟨by have := h.1; simp; omega, fun n hn => ?_⟩
  rcases List.mem_append.1 hn with hn | hn
  · exact h.2 n hn
  · simp at hn; omega
theorem putE_zero {len : Nat} {at_ wd n : Int} (h : putE len at_ wd n = 0) : 1 ≤ wd ∧ wd ≤ 8 ∧ 0 ≤ at_ ∧ at_ + wd ≤ len ∧ fitsB n wd = true := by
  unfold putE at h
  split at h
  · cases h
  · split at h
    · cases h
    · split at h
      · rename_i h1 h2 h3
        exact ⟨by omega, by omega, by omega, by omega, h3⟩
      · cases h
theorem okT.setI0 {m : Nat} {D : TabS} (h : okT m D) {s : InS} (hs : okI s) (hl : s.all.length ≤ 1000 * (m + 1)) : okT (m + 1) (setI0 D s) := ⟨hs, h.i1, hl, h.up.a1, h.l0, h.l1, h.up.b0, h.up.b1⟩
theorem okT.setO0 {m : Nat} {D : TabS} (h : okT m D) {s : OutS} (hs : 0 ≤ s.most ∧ s.most ≤ 9223372036854775807) (hl : s.b.length ≤ 1000 * (m + 1)) : okT (m + 1) (setO0 D s) := ⟨h.i0, h.i1, h.up.a0, h.up.a1, hs, h.l1, hl, h.up.b1⟩
theorem okT.setI1 {m : Nat} {D : TabS} (h : okT m D) {s : InS} (hs : okI s) (hl : s.all.length ≤ 1000 * (m + 1)) : okT (m + 1) (setI1 D s) := ⟨h.i0, hs, h.up.a0, hl, h.l0, h.l1, h.up.b0, h.up.b1⟩
theorem okT.setO1 {m : Nat} {D : TabS} (h : okT m D) {s : OutS} (hs : 0 ≤ s.most ∧ s.most ≤ 9223372036854775807) (hl : s.b.length ≤ 1000 * (m + 1)) : okT (m + 1) (setO1 D s) := ⟨h.i0, h.i1, h.up.a0, h.up.a1, h.l0, hs, h.up.b0, hl⟩
theorem inputs_E0 (m : Nat) (hm : m ≤ 500) (D : TabS) (ls : List Nat) (hD : okT m D) (hl : okL m ls) (kind : Int) (which : Bool) (n width v : Int) (b : List Int) (hb : b.length ≤ 1000) :
    GCallE Try.prog 6 [.ptr 1 10000 0 0, vI 0, opV kind which n width v b] (tabO D ls) (fun q : TabS × List Nat => okT (m + 1) q.1 ∧ okL (m + 1) q.2) (fun _ => vB true) (fun q => tabO q.1 q.2) := by
  have hI := hD.i0
  have hA := hD.a0
  have hle := hI.le
  by_cases k0 : kind < 1 ∨ 6 < kind
  · exact (inNone 0 D ls kind which n width v b k0).toE (D, ls) ⟨hD.up, hl.up⟩ rfl rfl
  obtain rfl | rfl | rfl | rfl | rfl | rfl : kind = 1 ∨ kind = 2 ∨ kind = 3 ∨ kind = 4 ∨ kind = 5 ∨ kind = 6 := by omega
  · by_cases hn : n < 0 ∨ 2147483647 < n
    · rcases ls with _ | ⟨z, l⟩
      · exact (inNew0_00 D which n width v b hn).toE (D, []) ⟨hD.up, hl.up⟩ rfl rfl
      · exact (inNew0_0S D (z :: l) (List.cons_ne_nil _ _) which n width v b hn).toE (D, (z :: l)) ⟨hD.up, hl.up⟩ rfl rfl
    · rcases ls with _ | ⟨z, l⟩
      · exact (inNew1_00 D which n width v b (by omega) (by omega)).toE (setI0 D ⟨[], [], 0, n, false⟩, []) ⟨hD.setI0 ⟨by simp, by simp, by show 0 ≤ n; omega, by show n ≤ _; omega⟩ (by simp), hl.up⟩ rfl rfl
      · exact (inNew1_0S D (z :: l) (List.cons_ne_nil _ _) which n width v b (by omega) (by omega)).toE (setI0 D ⟨[], [], 0, n, false⟩, (z :: l)) ⟨hD.setI0 ⟨by simp, by simp, by show 0 ≤ n; omega, by show n ≤ _; omega⟩ (by simp), hl.up⟩ rfl rfl
  · cases ho : D.i0.over
    · rcases ls with _ | ⟨z, l⟩
      · exact (inGive1_00 D which n width v b hI ho (by omega)).imp fun q _ => ⟨(setI0 D { D.i0 with pre := q, all := D.i0.all ++ b }, []), ⟨hD.setI0 ⟨by show D.i0.tk ≤ (D.i0.all ++ b).length; rw [List.length_append]; omega, by show (D.i0.all ++ b).length ≤ _; rw [List.length_append]; omega, hI.lo, hI.hi⟩ (by show (D.i0.all ++ b).length ≤ _; rw [List.length_append]; omega), hl.up⟩, rfl, rfl⟩
      · exact (inGive1_0S D (z :: l) (List.cons_ne_nil _ _) which n width v b hI ho (by omega)).imp fun q _ => ⟨(setI0 D { D.i0 with pre := q, all := D.i0.all ++ b }, (z :: l)), ⟨hD.setI0 ⟨by show D.i0.tk ≤ (D.i0.all ++ b).length; rw [List.length_append]; omega, by show (D.i0.all ++ b).length ≤ _; rw [List.length_append]; omega, hI.lo, hI.hi⟩ (by show (D.i0.all ++ b).length ≤ _; rw [List.length_append]; omega), hl.up⟩, rfl, rfl⟩
    · rcases ls with _ | ⟨z, l⟩
      · exact (inGive0_00 D which n width v b hI ho (by omega)).toE (setI0 D D.i0, []) ⟨hD.setI0 hI (by omega), hl.up⟩ rfl rfl
      · exact (inGive0_0S D (z :: l) (List.cons_ne_nil _ _) which n width v b hI ho (by omega)).toE (setI0 D D.i0, (z :: l)) ⟨hD.setI0 hI (by omega), hl.up⟩ rfl rfl
  · rcases ls with _ | ⟨z, l⟩
    · exact (inEnd_00 D which n width v b hI).toE (setI0 D { D.i0 with over := true }, []) ⟨hD.setI0 ⟨hI.le, hI.len, hI.lo, hI.hi⟩ (by show D.i0.all.length ≤ _; omega), hl.up⟩ rfl rfl
    · exact (inEnd_0S D (z :: l) (List.cons_ne_nil _ _) which n width v b hI).toE (setI0 D { D.i0 with over := true }, (z :: l)) ⟨hD.setI0 ⟨hI.le, hI.len, hI.lo, hI.hi⟩ (by show D.i0.all.length ≤ _; omega), hl.up⟩ rfl rfl
  · by_cases ht : D.i0.tk < D.i0.all.length
    · rcases ls with _ | ⟨z, l⟩
      · exact (inTake1_00 D which n width v b hI ht).toE (setI0 D { D.i0 with pre := D.i0.pre ++ [D.i0.all[D.i0.tk]], tk := D.i0.tk + 1 }, []) ⟨hD.setI0 ⟨ht, hI.len, hI.lo, hI.hi⟩ (by show D.i0.all.length ≤ _; omega), hl.up⟩ rfl rfl
      · exact (inTake1_0S D (z :: l) (List.cons_ne_nil _ _) which n width v b hI ht).toE (setI0 D { D.i0 with pre := D.i0.pre ++ [D.i0.all[D.i0.tk]], tk := D.i0.tk + 1 }, (z :: l)) ⟨hD.setI0 ⟨ht, hI.len, hI.lo, hI.hi⟩ (by show D.i0.all.length ≤ _; omega), hl.up⟩ rfl rfl
    · rcases ls with _ | ⟨z, l⟩
      · exact (inTake0_00 D which n width v b hI (by omega)).toE (setI0 D D.i0, []) ⟨hD.setI0 hI (by omega), hl.up⟩ rfl rfl
      · exact (inTake0_0S D (z :: l) (List.cons_ne_nil _ _) which n width v b hI (by omega)).toE (setI0 D D.i0, (z :: l)) ⟨hD.setI0 hI (by omega), hl.up⟩ rfl rfl
  · by_cases hn : n < 0 ∨ ((D.i0.all.length - D.i0.tk : Nat) : Int) < n
    · have hE := peek_badR D.i0.pre (D.i0.all.drop D.i0.tk) (D.i0.frm + D.i0.tk) D.i0.over n (by rw [List.length_drop]; exact hn)
      have rE := rpeek_badR D.i0.all D.i0.tk D.i0.frm D.i0.over hI.r n hn
      have hxx : ([] : List Int).length ≤ 1000000 := by simp
      rcases ls with _ | ⟨z, l⟩
      · exact (inPeek_00 D which n width v b hI [] false (by simp) hE rE).toE (D, [([] : List Int).length, ([] : List Int).length]) ⟨hD.up, hl.two hxx⟩ rfl rfl
      · exact (inPeek_0S D (z :: l) (List.cons_ne_nil _ _) (by have := hl.1; omega) which n width v b hI [] false (by simp) hE rE).toE (D, (z :: l) ++ [([] : List Int).length, ([] : List Int).length]) ⟨hD.up, hl.two hxx⟩ rfl rfl
    · obtain ⟨k, rfl⟩ : ∃ k : Nat, n = k := ⟨n.toNat, by omega⟩
      have hk : k ≤ D.i0.all.length - D.i0.tk := by omega
      have hkd : ((D.i0.all.drop D.i0.tk).take k).length = k := by simp; omega
      have hE := peek_ok D.i0.pre (D.i0.all.drop D.i0.tk) (D.i0.frm + D.i0.tk) D.i0.over hI.i k (by rw [List.length_drop]; exact hk)
      have rE := rpeek_ok D.i0.all D.i0.tk D.i0.frm D.i0.over hI.r k hk
      generalize hL : (D.i0.all.drop D.i0.tk).take k = L at hE rE hkd
      subst hkd
      have hxx : L.length ≤ 1000000 := by omega
      rcases ls with _ | ⟨z, l⟩
      · exact (inPeek_00 D which _ width v b hI L true (by omega) hE rE).toE (D, [L.length, L.length]) ⟨hD.up, hl.two hxx⟩ rfl rfl
      · exact (inPeek_0S D (z :: l) (List.cons_ne_nil _ _) (by have := hl.1; omega) which _ width v b hI L true (by omega) hE rE).toE (D, (z :: l) ++ [L.length, L.length]) ⟨hD.up, hl.two hxx⟩ rfl rfl
  · by_cases hn : n < 0 ∨ ((D.i0.all.length - D.i0.tk : Nat) : Int) < n
    · rcases ls with _ | ⟨z, l⟩
      · exact (inSkip0_00 D which n width v b hI hn).toE (setI0 D D.i0, []) ⟨hD.setI0 hI (by omega), hl.up⟩ rfl rfl
      · exact (inSkip0_0S D (z :: l) (List.cons_ne_nil _ _) which n width v b hI hn).toE (setI0 D D.i0, (z :: l)) ⟨hD.setI0 hI (by omega), hl.up⟩ rfl rfl
    · obtain ⟨k, rfl⟩ : ∃ k : Nat, n = k := ⟨n.toNat, by omega⟩
      have hk : k ≤ D.i0.all.length - D.i0.tk := by omega
      rcases ls with _ | ⟨z, l⟩
      · exact (inSkip1_00 D which 0 width v b hI k hk).toE (setI0 D { D.i0 with pre := D.i0.pre ++ (D.i0.all.drop D.i0.tk).take k, tk := D.i0.tk + k }, []) ⟨hD.setI0 ⟨by show D.i0.tk + k ≤ D.i0.all.length; omega, hI.len, hI.lo, hI.hi⟩ (by show D.i0.all.length ≤ _; omega), hl.up⟩ rfl rfl
      · exact (inSkip1_0S D (z :: l) (List.cons_ne_nil _ _) which 0 width v b hI k hk).toE (setI0 D { D.i0 with pre := D.i0.pre ++ (D.i0.all.drop D.i0.tk).take k, tk := D.i0.tk + k }, (z :: l)) ⟨hD.setI0 ⟨by show D.i0.tk + k ≤ D.i0.all.length; omega, hI.len, hI.lo, hI.hi⟩ (by show D.i0.all.length ≤ _; omega), hl.up⟩ rfl rfl
theorem outputs_E0 (m : Nat) (hm : m ≤ 500) (D : TabS) (ls : List Nat) (hD : okT m D) (hl : okL m ls) (kind : Int) (which : Bool) (n width v : Int) (b : List Int) (hb : b.length ≤ 1000) (hn : I64 n) (hw : I64 width) (hv : U64 v) :
    GCallE Try.prog 7 [.ptr 1 10000 0 0, vI 0, opV kind which n width v b] (tabO D ls) (fun q : TabS × List Nat => okT (m + 1) q.1 ∧ okL (m + 1) q.2) (fun _ => vB true) (fun q => tabO q.1 q.2) := by
  have hB := hD.b0
  have hM := hD.l0
  have hO : okO D.o0.most D.o0.b := ⟨hM.1, hM.2, by omega⟩
  have hn1 := hn.1
  have hn2 := hn.2
  by_cases k0 : kind < 7 ∨ 10 < kind
  · exact (outNone 0 D ls kind which n width v b k0).toE (D, ls) ⟨hD.up, hl.up⟩ rfl rfl
  obtain rfl | rfl | rfl | rfl : kind = 7 ∨ kind = 8 ∨ kind = 9 ∨ kind = 10 := by omega
  · by_cases h0 : n < 0
    · rcases ls with _ | ⟨z, l⟩
      · exact (outTo0_00 D which n width v b h0).toE (D, []) ⟨hD.up, hl.up⟩ rfl rfl
      · exact (outTo0_0S D (z :: l) (List.cons_ne_nil _ _) which n width v b h0).toE (D, (z :: l)) ⟨hD.up, hl.up⟩ rfl rfl
    · rcases ls with _ | ⟨z, l⟩
      · exact (outTo1_00 D which n width v b (by omega)).toE (setO0 D ⟨n, []⟩, []) ⟨hD.setO0 ⟨by show 0 ≤ n; omega, hn2⟩ (by simp), hl.up⟩ rfl rfl
      · exact (outTo1_0S D (z :: l) (List.cons_ne_nil _ _) which n width v b (by omega)).toE (setO0 D ⟨n, []⟩, (z :: l)) ⟨hD.setO0 ⟨by show 0 ≤ n; omega, hn2⟩ (by simp), hl.up⟩ rfl rfl
  · by_cases hc : D.o0.most - D.o0.b.length < b.length
    · have hE := oput_bad D.o0.most D.o0.b b hO hc
      have rE := rsput_bad D.o0.most D.o0.b b hO hc
      rcases ls with _ | ⟨z, l⟩
      · exact (outPut_00 D which n width v b (by omega) _ _ hE rE).toE (setO0 D ⟨D.o0.most, D.o0.b⟩, []) ⟨hD.setO0 hM (by show D.o0.b.length ≤ _; omega), hl.up⟩ rfl rfl
      · exact (outPut_0S D (z :: l) (List.cons_ne_nil _ _) which n width v b (by omega) _ _ hE rE).toE (setO0 D ⟨D.o0.most, D.o0.b⟩, (z :: l)) ⟨hD.setO0 hM (by show D.o0.b.length ≤ _; omega), hl.up⟩ rfl rfl
    · have hE := oput_ok D.o0.most D.o0.b b hO hc (by omega)
      have rE := rsput_ok D.o0.most D.o0.b b hO hc (by omega)
      rcases ls with _ | ⟨z, l⟩
      · exact (outPut_00 D which n width v b (by omega) _ _ hE rE).toE (setO0 D ⟨D.o0.most, D.o0.b ++ b⟩, []) ⟨hD.setO0 hM (by show (D.o0.b ++ b).length ≤ _; rw [List.length_append]; omega), hl.up⟩ rfl rfl
      · exact (outPut_0S D (z :: l) (List.cons_ne_nil _ _) which n width v b (by omega) _ _ hE rE).toE (setO0 D ⟨D.o0.most, D.o0.b ++ b⟩, (z :: l)) ⟨hD.setO0 hM (by show (D.o0.b ++ b).length ≤ _; rw [List.length_append]; omega), hl.up⟩ rfl rfl
  · by_cases he : putE D.o0.b.length n width v = 0
    · obtain ⟨p1, p2, p3, p4, p5⟩ := putE_zero he
      obtain ⟨i, rfl⟩ : ∃ i : Nat, n = i := ⟨n.toNat, by omega⟩
      obtain ⟨k, rfl⟩ : ∃ k : Nat, width = k := ⟨width.toNat, by omega⟩
      have hE := opatch_ok D.o0.most D.o0.b i k v (by omega) (by omega) (by omega) (by omega) hv p5
      have rE := rspatch_ok D.o0.most D.o0.b i k v (by omega) (by omega) (by omega) (by omega) hv p5
      have hpl := putB_len (b := D.o0.b) (at_ := i) (k := k) v (by omega)
      rcases ls with _ | ⟨z, l⟩
      · exact (outPatch_00 D which _ _ v b _ _ hE rE).toE (setO0 D ⟨D.o0.most, putB D.o0.b i v k⟩, []) ⟨hD.setO0 hM (by show (putB D.o0.b i v k).length ≤ _; omega), hl.up⟩ rfl rfl
      · exact (outPatch_0S D (z :: l) (List.cons_ne_nil _ _) which _ _ v b _ _ hE rE).toE (setO0 D ⟨D.o0.most, putB D.o0.b i v k⟩, (z :: l)) ⟨hD.setO0 hM (by show (putB D.o0.b i v k).length ≤ _; omega), hl.up⟩ rfl rfl
    · have hE := opatch_bad D.o0.most D.o0.b n width v (by omega) hv hw he
      have rE := rspatch_bad D.o0.most D.o0.b n width v (by omega) hv he
      rcases ls with _ | ⟨z, l⟩
      · exact (outPatch_00 D which _ _ v b _ _ hE rE).toE (setO0 D ⟨D.o0.most, D.o0.b⟩, []) ⟨hD.setO0 hM (by show D.o0.b.length ≤ _; omega), hl.up⟩ rfl rfl
      · exact (outPatch_0S D (z :: l) (List.cons_ne_nil _ _) which _ _ v b _ _ hE rE).toE (setO0 D ⟨D.o0.most, D.o0.b⟩, (z :: l)) ⟨hD.setO0 hM (by show D.o0.b.length ≤ _; omega), hl.up⟩ rfl rfl
  · have hxx : D.o0.b.length ≤ 1000000 := by omega
    rcases ls with _ | ⟨z, l⟩
    · exact (outBytes_00 D which n width v b (by omega)).toE (D, [D.o0.b.length, D.o0.b.length]) ⟨hD.up, hl.two hxx⟩ rfl rfl
    · exact (outBytes_0S D (z :: l) (List.cons_ne_nil _ _) (by have := hl.1; omega) which n width v b (by omega)).toE (D, (z :: l) ++ [D.o0.b.length, D.o0.b.length]) ⟨hD.up, hl.two hxx⟩ rfl rfl
theorem inputs_E1 (m : Nat) (hm : m ≤ 500) (D : TabS) (ls : List Nat) (hD : okT m D) (hl : okL m ls) (kind : Int) (which : Bool) (n width v : Int) (b : List Int) (hb : b.length ≤ 1000) :
    GCallE Try.prog 6 [.ptr 1 10000 0 0, vI 1, opV kind which n width v b] (tabO D ls) (fun q : TabS × List Nat => okT (m + 1) q.1 ∧ okL (m + 1) q.2) (fun _ => vB true) (fun q => tabO q.1 q.2) := by
  have hI := hD.i1
  have hA := hD.a1
  have hle := hI.le
  by_cases k0 : kind < 1 ∨ 6 < kind
  · exact (inNone 1 D ls kind which n width v b k0).toE (D, ls) ⟨hD.up, hl.up⟩ rfl rfl
  obtain rfl | rfl | rfl | rfl | rfl | rfl : kind = 1 ∨ kind = 2 ∨ kind = 3 ∨ kind = 4 ∨ kind = 5 ∨ kind = 6 := by omega
  · by_cases hn : n < 0 ∨ 2147483647 < n
    · rcases ls with _ | ⟨z, l⟩
      · exact (inNew0_10 D which n width v b hn).toE (D, []) ⟨hD.up, hl.up⟩ rfl rfl
      · exact (inNew0_1S D (z :: l) (List.cons_ne_nil _ _) which n width v b hn).toE (D, (z :: l)) ⟨hD.up, hl.up⟩ rfl rfl
    · rcases ls with _ | ⟨z, l⟩
      · exact (inNew1_10 D which n width v b (by omega) (by omega)).toE (setI1 D ⟨[], [], 0, n, false⟩, []) ⟨hD.setI1 ⟨by simp, by simp, by show 0 ≤ n; omega, by show n ≤ _; omega⟩ (by simp), hl.up⟩ rfl rfl
      · exact (inNew1_1S D (z :: l) (List.cons_ne_nil _ _) which n width v b (by omega) (by omega)).toE (setI1 D ⟨[], [], 0, n, false⟩, (z :: l)) ⟨hD.setI1 ⟨by simp, by simp, by show 0 ≤ n; omega, by show n ≤ _; omega⟩ (by simp), hl.up⟩ rfl rfl
  · cases ho : D.i1.over
    · rcases ls with _ | ⟨z, l⟩
      · exact (inGive1_10 D which n width v b hI ho (by omega)).imp fun q _ => ⟨(setI1 D { D.i1 with pre := q, all := D.i1.all ++ b }, []), ⟨hD.setI1 ⟨by show D.i1.tk ≤ (D.i1.all ++ b).length; rw [List.length_append]; omega, by show (D.i1.all ++ b).length ≤ _; rw [List.length_append]; omega, hI.lo, hI.hi⟩ (by show (D.i1.all ++ b).length ≤ _; rw [List.length_append]; omega), hl.up⟩, rfl, rfl⟩
      · exact (inGive1_1S D (z :: l) (List.cons_ne_nil _ _) which n width v b hI ho (by omega)).imp fun q _ => ⟨(setI1 D { D.i1 with pre := q, all := D.i1.all ++ b }, (z :: l)), ⟨hD.setI1 ⟨by show D.i1.tk ≤ (D.i1.all ++ b).length; rw [List.length_append]; omega, by show (D.i1.all ++ b).length ≤ _; rw [List.length_append]; omega, hI.lo, hI.hi⟩ (by show (D.i1.all ++ b).length ≤ _; rw [List.length_append]; omega), hl.up⟩, rfl, rfl⟩
    · rcases ls with _ | ⟨z, l⟩
      · exact (inGive0_10 D which n width v b hI ho (by omega)).toE (setI1 D D.i1, []) ⟨hD.setI1 hI (by omega), hl.up⟩ rfl rfl
      · exact (inGive0_1S D (z :: l) (List.cons_ne_nil _ _) which n width v b hI ho (by omega)).toE (setI1 D D.i1, (z :: l)) ⟨hD.setI1 hI (by omega), hl.up⟩ rfl rfl
  · rcases ls with _ | ⟨z, l⟩
    · exact (inEnd_10 D which n width v b hI).toE (setI1 D { D.i1 with over := true }, []) ⟨hD.setI1 ⟨hI.le, hI.len, hI.lo, hI.hi⟩ (by show D.i1.all.length ≤ _; omega), hl.up⟩ rfl rfl
    · exact (inEnd_1S D (z :: l) (List.cons_ne_nil _ _) which n width v b hI).toE (setI1 D { D.i1 with over := true }, (z :: l)) ⟨hD.setI1 ⟨hI.le, hI.len, hI.lo, hI.hi⟩ (by show D.i1.all.length ≤ _; omega), hl.up⟩ rfl rfl
  · by_cases ht : D.i1.tk < D.i1.all.length
    · rcases ls with _ | ⟨z, l⟩
      · exact (inTake1_10 D which n width v b hI ht).toE (setI1 D { D.i1 with pre := D.i1.pre ++ [D.i1.all[D.i1.tk]], tk := D.i1.tk + 1 }, []) ⟨hD.setI1 ⟨ht, hI.len, hI.lo, hI.hi⟩ (by show D.i1.all.length ≤ _; omega), hl.up⟩ rfl rfl
      · exact (inTake1_1S D (z :: l) (List.cons_ne_nil _ _) which n width v b hI ht).toE (setI1 D { D.i1 with pre := D.i1.pre ++ [D.i1.all[D.i1.tk]], tk := D.i1.tk + 1 }, (z :: l)) ⟨hD.setI1 ⟨ht, hI.len, hI.lo, hI.hi⟩ (by show D.i1.all.length ≤ _; omega), hl.up⟩ rfl rfl
    · rcases ls with _ | ⟨z, l⟩
      · exact (inTake0_10 D which n width v b hI (by omega)).toE (setI1 D D.i1, []) ⟨hD.setI1 hI (by omega), hl.up⟩ rfl rfl
      · exact (inTake0_1S D (z :: l) (List.cons_ne_nil _ _) which n width v b hI (by omega)).toE (setI1 D D.i1, (z :: l)) ⟨hD.setI1 hI (by omega), hl.up⟩ rfl rfl
  · by_cases hn : n < 0 ∨ ((D.i1.all.length - D.i1.tk : Nat) : Int) < n
    · have hE := peek_badR D.i1.pre (D.i1.all.drop D.i1.tk) (D.i1.frm + D.i1.tk) D.i1.over n (by rw [List.length_drop]; exact hn)
      have rE := rpeek_badR D.i1.all D.i1.tk D.i1.frm D.i1.over hI.r n hn
      have hxx : ([] : List Int).length ≤ 1000000 := by simp
      rcases ls with _ | ⟨z, l⟩
      · exact (inPeek_10 D which n width v b hI [] false (by simp) hE rE).toE (D, [([] : List Int).length, ([] : List Int).length]) ⟨hD.up, hl.two hxx⟩ rfl rfl
      · exact (inPeek_1S D (z :: l) (List.cons_ne_nil _ _) (by have := hl.1; omega) which n width v b hI [] false (by simp) hE rE).toE (D, (z :: l) ++ [([] : List Int).length, ([] : List Int).length]) ⟨hD.up, hl.two hxx⟩ rfl rfl
    · obtain ⟨k, rfl⟩ : ∃ k : Nat, n = k := ⟨n.toNat, by omega⟩
      have hk : k ≤ D.i1.all.length - D.i1.tk := by omega
      have hkd : ((D.i1.all.drop D.i1.tk).take k).length = k := by simp; omega
      have hE := peek_ok D.i1.pre (D.i1.all.drop D.i1.tk) (D.i1.frm + D.i1.tk) D.i1.over hI.i k (by rw [List.length_drop]; exact hk)
      have rE := rpeek_ok D.i1.all D.i1.tk D.i1.frm D.i1.over hI.r k hk
      generalize hL : (D.i1.all.drop D.i1.tk).take k = L at hE rE hkd
      subst hkd
      have hxx : L.length ≤ 1000000 := by omega
      rcases ls with _ | ⟨z, l⟩
      · exact (inPeek_10 D which _ width v b hI L true (by omega) hE rE).toE (D, [L.length, L.length]) ⟨hD.up, hl.two hxx⟩ rfl rfl
      · exact (inPeek_1S D (z :: l) (List.cons_ne_nil _ _) (by have := hl.1; omega) which _ width v b hI L true (by omega) hE rE).toE (D, (z :: l) ++ [L.length, L.length]) ⟨hD.up, hl.two hxx⟩ rfl rfl
  · by_cases hn : n < 0 ∨ ((D.i1.all.length - D.i1.tk : Nat) : Int) < n
    · rcases ls with _ | ⟨z, l⟩
      · exact (inSkip0_10 D which n width v b hI hn).toE (setI1 D D.i1, []) ⟨hD.setI1 hI (by omega), hl.up⟩ rfl rfl
      · exact (inSkip0_1S D (z :: l) (List.cons_ne_nil _ _) which n width v b hI hn).toE (setI1 D D.i1, (z :: l)) ⟨hD.setI1 hI (by omega), hl.up⟩ rfl rfl
    · obtain ⟨k, rfl⟩ : ∃ k : Nat, n = k := ⟨n.toNat, by omega⟩
      have hk : k ≤ D.i1.all.length - D.i1.tk := by omega
      rcases ls with _ | ⟨z, l⟩
      · exact (inSkip1_10 D which 0 width v b hI k hk).toE (setI1 D { D.i1 with pre := D.i1.pre ++ (D.i1.all.drop D.i1.tk).take k, tk := D.i1.tk + k }, []) ⟨hD.setI1 ⟨by show D.i1.tk + k ≤ D.i1.all.length; omega, hI.len, hI.lo, hI.hi⟩ (by show D.i1.all.length ≤ _; omega), hl.up⟩ rfl rfl
      · exact (inSkip1_1S D (z :: l) (List.cons_ne_nil _ _) which 0 width v b hI k hk).toE (setI1 D { D.i1 with pre := D.i1.pre ++ (D.i1.all.drop D.i1.tk).take k, tk := D.i1.tk + k }, (z :: l)) ⟨hD.setI1 ⟨by show D.i1.tk + k ≤ D.i1.all.length; omega, hI.len, hI.lo, hI.hi⟩ (by show D.i1.all.length ≤ _; omega), hl.up⟩ rfl rfl
theorem outputs_E1 (m : Nat) (hm : m ≤ 500) (D : TabS) (ls : List Nat) (hD : okT m D) (hl : okL m ls) (kind : Int) (which : Bool) (n width v : Int) (b : List Int) (hb : b.length ≤ 1000) (hn : I64 n) (hw : I64 width) (hv : U64 v) :
    GCallE Try.prog 7 [.ptr 1 10000 0 0, vI 1, opV kind which n width v b] (tabO D ls) (fun q : TabS × List Nat => okT (m + 1) q.1 ∧ okL (m + 1) q.2) (fun _ => vB true) (fun q => tabO q.1 q.2) := by
  have hB := hD.b1
  have hM := hD.l1
  have hO : okO D.o1.most D.o1.b := ⟨hM.1, hM.2, by omega⟩
  have hn1 := hn.1
  have hn2 := hn.2
  by_cases k0 : kind < 7 ∨ 10 < kind
  · exact (outNone 1 D ls kind which n width v b k0).toE (D, ls) ⟨hD.up, hl.up⟩ rfl rfl
  obtain rfl | rfl | rfl | rfl : kind = 7 ∨ kind = 8 ∨ kind = 9 ∨ kind = 10 := by omega
  · by_cases h0 : n < 0
    · rcases ls with _ | ⟨z, l⟩
      · exact (outTo0_10 D which n width v b h0).toE (D, []) ⟨hD.up, hl.up⟩ rfl rfl
      · exact (outTo0_1S D (z :: l) (List.cons_ne_nil _ _) which n width v b h0).toE (D, (z :: l)) ⟨hD.up, hl.up⟩ rfl rfl
    · rcases ls with _ | ⟨z, l⟩
      · exact (outTo1_10 D which n width v b (by omega)).toE (setO1 D ⟨n, []⟩, []) ⟨hD.setO1 ⟨by show 0 ≤ n; omega, hn2⟩ (by simp), hl.up⟩ rfl rfl
      · exact (outTo1_1S D (z :: l) (List.cons_ne_nil _ _) which n width v b (by omega)).toE (setO1 D ⟨n, []⟩, (z :: l)) ⟨hD.setO1 ⟨by show 0 ≤ n; omega, hn2⟩ (by simp), hl.up⟩ rfl rfl
  · by_cases hc : D.o1.most - D.o1.b.length < b.length
    · have hE := oput_bad D.o1.most D.o1.b b hO hc
      have rE := rsput_bad D.o1.most D.o1.b b hO hc
      rcases ls with _ | ⟨z, l⟩
      · exact (outPut_10 D which n width v b (by omega) _ _ hE rE).toE (setO1 D ⟨D.o1.most, D.o1.b⟩, []) ⟨hD.setO1 hM (by show D.o1.b.length ≤ _; omega), hl.up⟩ rfl rfl
      · exact (outPut_1S D (z :: l) (List.cons_ne_nil _ _) which n width v b (by omega) _ _ hE rE).toE (setO1 D ⟨D.o1.most, D.o1.b⟩, (z :: l)) ⟨hD.setO1 hM (by show D.o1.b.length ≤ _; omega), hl.up⟩ rfl rfl
    · have hE := oput_ok D.o1.most D.o1.b b hO hc (by omega)
      have rE := rsput_ok D.o1.most D.o1.b b hO hc (by omega)
      rcases ls with _ | ⟨z, l⟩
      · exact (outPut_10 D which n width v b (by omega) _ _ hE rE).toE (setO1 D ⟨D.o1.most, D.o1.b ++ b⟩, []) ⟨hD.setO1 hM (by show (D.o1.b ++ b).length ≤ _; rw [List.length_append]; omega), hl.up⟩ rfl rfl
      · exact (outPut_1S D (z :: l) (List.cons_ne_nil _ _) which n width v b (by omega) _ _ hE rE).toE (setO1 D ⟨D.o1.most, D.o1.b ++ b⟩, (z :: l)) ⟨hD.setO1 hM (by show (D.o1.b ++ b).length ≤ _; rw [List.length_append]; omega), hl.up⟩ rfl rfl
  · by_cases he : putE D.o1.b.length n width v = 0
    · obtain ⟨p1, p2, p3, p4, p5⟩ := putE_zero he
      obtain ⟨i, rfl⟩ : ∃ i : Nat, n = i := ⟨n.toNat, by omega⟩
      obtain ⟨k, rfl⟩ : ∃ k : Nat, width = k := ⟨width.toNat, by omega⟩
      have hE := opatch_ok D.o1.most D.o1.b i k v (by omega) (by omega) (by omega) (by omega) hv p5
      have rE := rspatch_ok D.o1.most D.o1.b i k v (by omega) (by omega) (by omega) (by omega) hv p5
      have hpl := putB_len (b := D.o1.b) (at_ := i) (k := k) v (by omega)
      rcases ls with _ | ⟨z, l⟩
      · exact (outPatch_10 D which _ _ v b _ _ hE rE).toE (setO1 D ⟨D.o1.most, putB D.o1.b i v k⟩, []) ⟨hD.setO1 hM (by show (putB D.o1.b i v k).length ≤ _; omega), hl.up⟩ rfl rfl
      · exact (outPatch_1S D (z :: l) (List.cons_ne_nil _ _) which _ _ v b _ _ hE rE).toE (setO1 D ⟨D.o1.most, putB D.o1.b i v k⟩, (z :: l)) ⟨hD.setO1 hM (by show (putB D.o1.b i v k).length ≤ _; omega), hl.up⟩ rfl rfl
    · have hE := opatch_bad D.o1.most D.o1.b n width v (by omega) hv hw he
      have rE := rspatch_bad D.o1.most D.o1.b n width v (by omega) hv he
      rcases ls with _ | ⟨z, l⟩
      · exact (outPatch_10 D which _ _ v b _ _ hE rE).toE (setO1 D ⟨D.o1.most, D.o1.b⟩, []) ⟨hD.setO1 hM (by show D.o1.b.length ≤ _; omega), hl.up⟩ rfl rfl
      · exact (outPatch_1S D (z :: l) (List.cons_ne_nil _ _) which _ _ v b _ _ hE rE).toE (setO1 D ⟨D.o1.most, D.o1.b⟩, (z :: l)) ⟨hD.setO1 hM (by show D.o1.b.length ≤ _; omega), hl.up⟩ rfl rfl
  · have hxx : D.o1.b.length ≤ 1000000 := by omega
    rcases ls with _ | ⟨z, l⟩
    · exact (outBytes_10 D which n width v b (by omega)).toE (D, [D.o1.b.length, D.o1.b.length]) ⟨hD.up, hl.two hxx⟩ rfl rfl
    · exact (outBytes_1S D (z :: l) (List.cons_ne_nil _ _) (by have := hl.1; omega) which n width v b (by omega)).toE (D, (z :: l) ++ [D.o1.b.length, D.o1.b.length]) ⟨hD.up, hl.two hxx⟩ rfl rfl
end Go.Proofs.Ytopcfnlcapibgaa
end
section
namespace Go.Proofs.Ytopcfnlcapibgaa
open Go.RowKit
set_option maxRecDepth 100000
set_option maxHeartbeats 8000000
/-! A table with two of each. -/
theorem begIn0 : GCall Try.prog 6 [.ptr 1 10000 0 0, vI 0, .agg [vI 1, vB false, vI 0, vI 0, .v (.int .u64 0), .v (.slice none 0 0)]] [(10000, .var [.v (.pointer none), .v (.pointer none), .v (.pointer none), .v (.pointer none), .v (.pointer none), .v (.pointer none), .v (.pointer none), .v (.pointer none), .v (.slice none 0 0), .v (.slice none 0 0)])] (vB true) [(10000, .var [.ptr 1 15001 0 0, .v (.pointer none), .ptr 1 15003 0 0, .v (.pointer none), .v (.pointer none), .v (.pointer none), .v (.pointer none), .v (.pointer none), .v (.slice none 0 0), .v (.slice none 0 0)]), (15001, .var [.ref 5 1 15002 0 0, vI 0, vB false]), (15002, .row 5 1 []), (15003, .var [.ref 5 1 15004 0 0, vI 0, vI 0, vB false]), (15004, .row 5 1 [])] := by
  have hE := new_ok 0 (by decide) (by decide)
  have rE := rnew_ok 0 (by decide) (by decide)
  refine go_fnG (tyOf_ok _) Try.func6 rfl rfl (by rw [Try.results6]) Try.ntmps6 rfl fun E => ?_
  (repeat' (first
    | exact trivial
    | (refine aw_nilvar 15001 0 5 1 15002 (.inr (by decide)) (by decide) rfl rfl ?_)
    | (refine aw_nilvar 15003 0 5 1 15004 (.inr (by decide)) (by decide) rfl rfl ?_)
    | (with_reducible first | refine awA ?_ | refine awB ?_ | refine awC ?_ | refine awD ?_ | refine awE ?_ | refine awF ?_ | refine awG ?_ | refine awH ?_ | refine awI ?_ | refine awJ ?_ | refine awK ?_ | refine awL ?_ | refine awM (by decide) ?_)
    | (refine aw_draw (id := 13) (t := (.node [0, 2, 3, 4, 5, 6, 7, 8, 9, 1, 10, 11, 12, 13, 14, 15, 16, 17, 18, 19, 20, 21, 22, 23] [])) (drR [5] [85] [88, 94, 99]) mixed (by kernel_rfl) (by kernel_rfl) (fun _ _ h => h) ?_)
    | (refine aw_draw (id := 15) (t := (.node [0, 1, 2, 3, 4, 5, 8, 9, 10, 11, 12] [(.node [6, 13, 7, 14, 15, 16, 17, 18, 19, 20, 21] []), (.node [13, 6, 7, 14, 15, 16, 17, 18, 19, 20, 21] [])])) (drR [] [108, 116] [109, 117, 122]) mixed (by kernel_rfl) (by kernel_rfl) (fun _ _ h => h) ?_)
    | (refine aw_draw (id := 21) (t := (.node [0, 1, 2, 3, 4, 5, 6, 7, 8, 9, 10, 11, 12, 13] [])) (drR [10000, 5] [] [170]) mixed (by kernel_rfl) (by kernel_rfl) (fun _ _ h => h) ?_)
    | (refine aw_draw (id := 22) (t := (.node [0, 1, 2, 3, 4, 5, 6, 7, 8, 9, 10, 11, 12, 13] [])) (drR [10000, 5] [] [182]) mixed (by kernel_rfl) (by kernel_rfl) (fun _ _ h => h) ?_)
    | (refine aw_draw (id := 23) (t := (.node [0, 1, 2, 3, 4, 5, 6, 7, 8, 9, 10, 11, 12, 13] [])) (drR [10000, 5] [] [194]) mixed (by kernel_rfl) (by kernel_rfl) (fun _ _ h => h) ?_)
    | (refine aw_draw (id := 29) (t := (.node [0, 1, 2, 3, 4, 5, 6, 7, 10, 11, 12, 13, 14, 16, 17] [(.node [8, 15, 9, 18, 19, 20, 21, 22, 23, 24, 25] []), (.node [15, 8, 9, 18, 19, 20, 21, 22, 23, 24, 25] [])])) (drR [5] [242, 252] [245, 255, 260]) mixed (by kernel_rfl) (by kernel_rfl) (fun _ _ h => h) ?_)
    | (refine at_done (by simp only [List.filterMap_cons, List.filterMap_nil, List.getElem?_toArray, List.getElem?_cons_zero, List.getElem?_cons_succ]; exact rfl) ?_) | (refine at_alt (by simp only [List.filterMap_cons, List.filterMap_nil, List.getElem?_toArray, List.getElem?_cons_zero, List.getElem?_cons_succ]; exact rfl) ?_) | refine qalt_normal ?_ | refine ats_cons ?_ ?_ | exact ats_nil
    | ((with_reducible first | refine awN (tyOf_ok _) [] ?_ | refine awO (tyOf_ok _) [] ?_ | refine awP (tyOf_ok _) [] ?_ | refine awQ ?_ | refine awR ?_ | refine awS ?_ | refine awT ?_ | refine awU ?_); intro r hr; simp only [go_sem, Nat.reduceBEq, Nat.reduceBneDiff, Nat.reduceLT, Nat.reduceLeDiff, Nat.reduceAdd, Nat.reduceMul, Nat.reduceSub, Nat.reduceEqDiff, reduceCtorEq, AState.nilvar, List.set_cons_succ, List.set_cons_zero, beq_self_eq_true, decide_true, Int.cast_ofNat_Int, Int.reduceToNat, Int.reduceEq, Int.reduceLT, Int.reduceLE, Int.reduceNe] at hr; subst hr; (first | refine caA (fun _ => num_any _) rfl ?_ ?_ ?_ | refine awV ?_ ?_ | refine awW ?_ ?_ | refine endK ?_ ?_ | refine endGK ?_ ?_ ?_ | (refine condK (fun h => ?_) (fun h => ?_) <;> (try simp only [go_sem, reduceCtorEq] at h) <;> (try (exfalso; omega)))))
    | (refine go_callGE [] [(12, 15001)] [15001] [] ?_; intro r hr; simp only [go_sem, Nat.reduceBEq, Nat.reduceBneDiff, Nat.reduceLT, Nat.reduceLeDiff, Nat.reduceAdd, Nat.reduceMul, Nat.reduceSub, Nat.reduceEqDiff, reduceCtorEq, AState.nilvar, List.set_cons_succ, List.set_cons_zero, beq_self_eq_true, decide_true, Int.cast_ofNat_Int, Int.reduceToNat, Int.reduceEq, Int.reduceLT, Int.reduceLE, Int.reduceNe] at hr; subst hr; refine callGK (hE) rfl rfl (by first | exact .inl rfl | exact .inr rfl) ?_ (.inr ⟨rfl, ?_⟩) ?_)
    | (refine go_callGE [] [(12, 15003)] [15003] [] ?_; intro r hr; simp only [go_sem, Nat.reduceBEq, Nat.reduceBneDiff, Nat.reduceLT, Nat.reduceLeDiff, Nat.reduceAdd, Nat.reduceMul, Nat.reduceSub, Nat.reduceEqDiff, reduceCtorEq, AState.nilvar, List.set_cons_succ, List.set_cons_zero, beq_self_eq_true, decide_true, Int.cast_ofNat_Int, Int.reduceToNat, Int.reduceEq, Int.reduceLT, Int.reduceLE, Int.reduceNe] at hr; subst hr; refine callGK (rE) rfl rfl (by first | exact .inl rfl | exact .inr rfl) ?_ (.inr ⟨rfl, ?_⟩) ?_) | fail)) <;> (try omega)
  all_goals first | exact ⟨rfl, trivial⟩ | exact ⟨rfl, rfl, trivial⟩ | exact AV.up_rfl _ | (repeat first | exact obUp_nil | refine obUp_cons rfl ?_)
theorem begOut0 : GCall Try.prog 7 [.ptr 1 10000 0 0, vI 0, .agg [vI 7, vB false, vI 100, vI 0, .v (.int .u64 0), .v (.slice none 0 0)]] [(10000, .var [.ptr 1 15001 0 0, .v (.pointer none), .ptr 1 15003 0 0, .v (.pointer none), .v (.pointer none), .v (.pointer none), .v (.pointer none), .v (.pointer none), .v (.slice none 0 0), .v (.slice none 0 0)]), (15001, .var [.ref 5 1 15002 0 0, vI 0, vB false]), (15002, .row 5 1 []), (15003, .var [.ref 5 1 15004 0 0, vI 0, vI 0, vB false]), (15004, .row 5 1 [])] (vB true) [(10000, .var [.ptr 1 15001 0 0, .v (.pointer none), .ptr 1 15003 0 0, .v (.pointer none), .ptr 1 15005 0 0, .v (.pointer none), .ptr 1 15007 0 0, .v (.pointer none), .v (.slice none 0 0), .v (.slice none 0 0)]), (15001, .var [.ref 5 1 15002 0 0, vI 0, vB false]), (15002, .row 5 1 []), (15003, .var [.ref 5 1 15004 0 0, vI 0, vI 0, vB false]), (15004, .row 5 1 []), (15005, .var [vI 100, .ref 5 1 15006 0 0]), (15006, .row 5 1 []), (15007, .var [.ref 5 1 15008 0 0, vI 100]), (15008, .row 5 1 [])] := by
  have hE := to_ok 100 (by decide)
  have rE := rto_ok 100 (by decide)
  refine go_fnG (tyOf_ok _) Try.func7 rfl rfl (by rw [Try.results7]) Try.ntmps7 rfl fun E => ?_
  (repeat' (first
    | exact trivial
    | (refine aw_nilvar 15005 1 5 1 15006 (.inr (by decide)) (by decide) rfl rfl ?_)
    | (refine aw_nilvar 15007 0 5 1 15008 (.inr (by decide)) (by decide) rfl rfl ?_)
    | (with_reducible first | refine awA ?_ | refine awB ?_ | refine awC ?_ | refine awD ?_ | refine awE ?_ | refine awF ?_ | refine awG ?_ | refine awH ?_ | refine awI ?_ | refine awJ ?_ | refine awK ?_ | refine awL ?_ | refine awM (by decide) ?_)
    | (refine aw_draw (id := 13) (t := (.node [0, 2, 3, 4, 5, 6, 7, 8, 9, 1, 10, 11, 12, 13, 14, 15, 16, 17, 18, 19, 20, 21, 22, 23, 24, 26, 27, 28, 29, 30, 31, 25, 32, 33, 34, 35] [])) (drR [10000, 5] [] [80, 86, 95, 102]) mixed (by kernel_rfl) (by kernel_rfl) (fun _ _ h => h) ?_)
    | (refine aw_draw (id := 15) (t := (.node [0, 1, 2, 3, 4, 5, 6, 7, 8, 9, 10, 11, 14, 15, 16, 17, 18, 19, 20, 21, 22, 23, 24, 25, 12, 13, 26, 27, 28] [])) (drR [10000, 5] [] [119, 133]) mixed (by kernel_rfl) (by kernel_rfl) (fun _ _ h => h) ?_)
    | (refine aw_draw (id := 19) (t := (.node [0, 1, 2, 3, 4, 5, 6, 7, 8, 9, 10, 11, 12, 13, 14, 15, 16, 17, 18, 19, 20, 21, 22, 23, 24, 25, 26, 28, 29, 27, 30, 31, 32] [])) (drR [10000] [152, 161, 162, 166, 168] [178]) mixed (by kernel_rfl) (by kernel_rfl) (fun _ _ h => h) ?_)
    | (refine at_done (by simp only [List.filterMap_cons, List.filterMap_nil, List.getElem?_toArray, List.getElem?_cons_zero, List.getElem?_cons_succ]; exact rfl) ?_) | (refine at_alt (by simp only [List.filterMap_cons, List.filterMap_nil, List.getElem?_toArray, List.getElem?_cons_zero, List.getElem?_cons_succ]; exact rfl) ?_) | refine qalt_normal ?_ | refine ats_cons ?_ ?_ | exact ats_nil
    | ((with_reducible first | refine awN (tyOf_ok _) [] ?_ | refine awO (tyOf_ok _) [] ?_ | refine awP (tyOf_ok _) [] ?_ | refine awQ ?_ | refine awR ?_ | refine awS ?_ | refine awT ?_ | refine awU ?_); intro r hr; simp only [go_sem, Nat.reduceBEq, Nat.reduceBneDiff, Nat.reduceLT, Nat.reduceLeDiff, Nat.reduceAdd, Nat.reduceMul, Nat.reduceSub, Nat.reduceEqDiff, reduceCtorEq, AState.nilvar, List.set_cons_succ, List.set_cons_zero, beq_self_eq_true, decide_true, Int.cast_ofNat_Int, Int.reduceToNat, Int.reduceEq, Int.reduceLT, Int.reduceLE, Int.reduceNe] at hr; subst hr; (first | refine caA (fun _ => num_any _) rfl ?_ ?_ ?_ | refine awV ?_ ?_ | refine awW ?_ ?_ | refine endK ?_ ?_ | refine endGK ?_ ?_ ?_ | (refine condK (fun h => ?_) (fun h => ?_) <;> (try simp only [go_sem, reduceCtorEq] at h) <;> (try (exfalso; omega)))))
    | (refine go_callGE [] [(8, 15005)] [15005] [] ?_; intro r hr; simp only [go_sem, Nat.reduceBEq, Nat.reduceBneDiff, Nat.reduceLT, Nat.reduceLeDiff, Nat.reduceAdd, Nat.reduceMul, Nat.reduceSub, Nat.reduceEqDiff, reduceCtorEq, AState.nilvar, List.set_cons_succ, List.set_cons_zero, beq_self_eq_true, decide_true, Int.cast_ofNat_Int, Int.reduceToNat, Int.reduceEq, Int.reduceLT, Int.reduceLE, Int.reduceNe] at hr; subst hr; refine callGK (hE) rfl rfl (by first | exact .inl rfl | exact .inr rfl) ?_ (.inr ⟨rfl, ?_⟩) ?_)
    | (refine go_callGE [] [(8, 15007)] [15007] [] ?_; intro r hr; simp only [go_sem, Nat.reduceBEq, Nat.reduceBneDiff, Nat.reduceLT, Nat.reduceLeDiff, Nat.reduceAdd, Nat.reduceMul, Nat.reduceSub, Nat.reduceEqDiff, reduceCtorEq, AState.nilvar, List.set_cons_succ, List.set_cons_zero, beq_self_eq_true, decide_true, Int.cast_ofNat_Int, Int.reduceToNat, Int.reduceEq, Int.reduceLT, Int.reduceLE, Int.reduceNe] at hr; subst hr; refine callGK (rE) rfl rfl (by first | exact .inl rfl | exact .inr rfl) ?_ (.inr ⟨rfl, ?_⟩) ?_) | fail)) <;> (try omega)
  all_goals first | exact ⟨rfl, trivial⟩ | exact ⟨rfl, rfl, trivial⟩ | exact AV.up_rfl _ | (repeat first | exact obUp_nil | refine obUp_cons rfl ?_)
theorem begIn1 : GCall Try.prog 6 [.ptr 1 10000 0 0, vI 1, .agg [vI 1, vB false, vI 0, vI 0, .v (.int .u64 0), .v (.slice none 0 0)]] [(10000, .var [.ptr 1 15001 0 0, .v (.pointer none), .ptr 1 15003 0 0, .v (.pointer none), .ptr 1 15005 0 0, .v (.pointer none), .ptr 1 15007 0 0, .v (.pointer none), .v (.slice none 0 0), .v (.slice none 0 0)]), (15001, .var [.ref 5 1 15002 0 0, vI 0, vB false]), (15002, .row 5 1 []), (15003, .var [.ref 5 1 15004 0 0, vI 0, vI 0, vB false]), (15004, .row 5 1 []), (15005, .var [vI 100, .ref 5 1 15006 0 0]), (15006, .row 5 1 []), (15007, .var [.ref 5 1 15008 0 0, vI 100]), (15008, .row 5 1 [])] (vB true) [(10000, .var [.ptr 1 15001 0 0, .ptr 1 15011 0 0, .ptr 1 15003 0 0, .ptr 1 15013 0 0, .ptr 1 15005 0 0, .v (.pointer none), .ptr 1 15007 0 0, .v (.pointer none), .v (.slice none 0 0), .v (.slice none 0 0)]), (15001, .var [.ref 5 1 15002 0 0, vI 0, vB false]), (15002, .row 5 1 []), (15003, .var [.ref 5 1 15004 0 0, vI 0, vI 0, vB false]), (15004, .row 5 1 []), (15005, .var [vI 100, .ref 5 1 15006 0 0]), (15006, .row 5 1 []), (15007, .var [.ref 5 1 15008 0 0, vI 100]), (15008, .row 5 1 []), (15011, .var [.ref 5 1 15012 0 0, vI 0, vB false]), (15012, .row 5 1 []), (15013, .var [.ref 5 1 15014 0 0, vI 0, vI 0, vB false]), (15014, .row 5 1 [])] := by
  have hE := new_ok 0 (by decide) (by decide)
  have rE := rnew_ok 0 (by decide) (by decide)
  refine go_fnG (tyOf_ok _) Try.func6 rfl rfl (by rw [Try.results6]) Try.ntmps6 rfl fun E => ?_
  (repeat' (first
    | exact trivial
    | (refine aw_nilvar 15011 0 5 1 15012 (.inr (by decide)) (by decide) rfl rfl ?_)
    | (refine aw_nilvar 15013 0 5 1 15014 (.inr (by decide)) (by decide) rfl rfl ?_)
    | (with_reducible first | refine awA ?_ | refine awB ?_ | refine awC ?_ | refine awD ?_ | refine awE ?_ | refine awF ?_ | refine awG ?_ | refine awH ?_ | refine awI ?_ | refine awJ ?_ | refine awK ?_ | refine awL ?_ | refine awM (by decide) ?_)
    | (refine aw_draw (id := 13) (t := (.node [0, 2, 3, 4, 5, 6, 7, 8, 9, 1, 10, 11, 12, 13, 14, 15, 16, 17, 18, 19, 20, 21, 22, 23] [])) (drR [5] [85] [88, 94, 99]) mixed (by kernel_rfl) (by kernel_rfl) (fun _ _ h => h) ?_)
    | (refine aw_draw (id := 15) (t := (.node [0, 1, 2, 3, 4, 5, 8, 9, 10, 11, 12] [(.node [6, 13, 7, 14, 15, 16, 17, 18, 19, 20, 21] []), (.node [13, 6, 7, 14, 15, 16, 17, 18, 19, 20, 21] [])])) (drR [] [108, 116] [109, 117, 122]) mixed (by kernel_rfl) (by kernel_rfl) (fun _ _ h => h) ?_)
    | (refine aw_draw (id := 21) (t := (.node [0, 1, 2, 3, 4, 5, 6, 7, 8, 9, 10, 11, 12, 13] [])) (drR [10000, 5] [] [170]) mixed (by kernel_rfl) (by kernel_rfl) (fun _ _ h => h) ?_)
    | (refine aw_draw (id := 22) (t := (.node [0, 1, 2, 3, 4, 5, 6, 7, 8, 9, 10, 11, 12, 13] [])) (drR [10000, 5] [] [182]) mixed (by kernel_rfl) (by kernel_rfl) (fun _ _ h => h) ?_)
    | (refine aw_draw (id := 23) (t := (.node [0, 1, 2, 3, 4, 5, 6, 7, 8, 9, 10, 11, 12, 13] [])) (drR [10000, 5] [] [194]) mixed (by kernel_rfl) (by kernel_rfl) (fun _ _ h => h) ?_)
    | (refine aw_draw (id := 29) (t := (.node [0, 1, 2, 3, 4, 5, 6, 7, 10, 11, 12, 13, 14, 16, 17] [(.node [8, 15, 9, 18, 19, 20, 21, 22, 23, 24, 25] []), (.node [15, 8, 9, 18, 19, 20, 21, 22, 23, 24, 25] [])])) (drR [5] [242, 252] [245, 255, 260]) mixed (by kernel_rfl) (by kernel_rfl) (fun _ _ h => h) ?_)
    | (refine at_done (by simp only [List.filterMap_cons, List.filterMap_nil, List.getElem?_toArray, List.getElem?_cons_zero, List.getElem?_cons_succ]; exact rfl) ?_) | (refine at_alt (by simp only [List.filterMap_cons, List.filterMap_nil, List.getElem?_toArray, List.getElem?_cons_zero, List.getElem?_cons_succ]; exact rfl) ?_) | refine qalt_normal ?_ | refine ats_cons ?_ ?_ | exact ats_nil
    | ((with_reducible first | refine awN (tyOf_ok _) [] ?_ | refine awO (tyOf_ok _) [] ?_ | refine awP (tyOf_ok _) [] ?_ | refine awQ ?_ | refine awR ?_ | refine awS ?_ | refine awT ?_ | refine awU ?_); intro r hr; simp only [go_sem, Nat.reduceBEq, Nat.reduceBneDiff, Nat.reduceLT, Nat.reduceLeDiff, Nat.reduceAdd, Nat.reduceMul, Nat.reduceSub, Nat.reduceEqDiff, reduceCtorEq, AState.nilvar, List.set_cons_succ, List.set_cons_zero, beq_self_eq_true, decide_true, Int.cast_ofNat_Int, Int.reduceToNat, Int.reduceEq, Int.reduceLT, Int.reduceLE, Int.reduceNe] at hr; subst hr; (first | refine caA (fun _ => num_any _) rfl ?_ ?_ ?_ | refine awV ?_ ?_ | refine awW ?_ ?_ | refine endK ?_ ?_ | refine endGK ?_ ?_ ?_ | (refine condK (fun h => ?_) (fun h => ?_) <;> (try simp only [go_sem, reduceCtorEq] at h) <;> (try (exfalso; omega)))))
    | (refine go_callGE [] [(12, 15011)] [15011] [] ?_; intro r hr; simp only [go_sem, Nat.reduceBEq, Nat.reduceBneDiff, Nat.reduceLT, Nat.reduceLeDiff, Nat.reduceAdd, Nat.reduceMul, Nat.reduceSub, Nat.reduceEqDiff, reduceCtorEq, AState.nilvar, List.set_cons_succ, List.set_cons_zero, beq_self_eq_true, decide_true, Int.cast_ofNat_Int, Int.reduceToNat, Int.reduceEq, Int.reduceLT, Int.reduceLE, Int.reduceNe] at hr; subst hr; refine callGK (hE) rfl rfl (by first | exact .inl rfl | exact .inr rfl) ?_ (.inr ⟨rfl, ?_⟩) ?_)
    | (refine go_callGE [] [(12, 15013)] [15013] [] ?_; intro r hr; simp only [go_sem, Nat.reduceBEq, Nat.reduceBneDiff, Nat.reduceLT, Nat.reduceLeDiff, Nat.reduceAdd, Nat.reduceMul, Nat.reduceSub, Nat.reduceEqDiff, reduceCtorEq, AState.nilvar, List.set_cons_succ, List.set_cons_zero, beq_self_eq_true, decide_true, Int.cast_ofNat_Int, Int.reduceToNat, Int.reduceEq, Int.reduceLT, Int.reduceLE, Int.reduceNe] at hr; subst hr; refine callGK (rE) rfl rfl (by first | exact .inl rfl | exact .inr rfl) ?_ (.inr ⟨rfl, ?_⟩) ?_) | fail)) <;> (try omega)
  all_goals first | exact ⟨rfl, trivial⟩ | exact ⟨rfl, rfl, trivial⟩ | exact AV.up_rfl _ | (repeat first | exact obUp_nil | refine obUp_cons rfl ?_)
theorem begOut1 : GCall Try.prog 7 [.ptr 1 10000 0 0, vI 1, .agg [vI 7, vB false, vI 101, vI 0, .v (.int .u64 0), .v (.slice none 0 0)]] [(10000, .var [.ptr 1 15001 0 0, .ptr 1 15011 0 0, .ptr 1 15003 0 0, .ptr 1 15013 0 0, .ptr 1 15005 0 0, .v (.pointer none), .ptr 1 15007 0 0, .v (.pointer none), .v (.slice none 0 0), .v (.slice none 0 0)]), (15001, .var [.ref 5 1 15002 0 0, vI 0, vB false]), (15002, .row 5 1 []), (15003, .var [.ref 5 1 15004 0 0, vI 0, vI 0, vB false]), (15004, .row 5 1 []), (15005, .var [vI 100, .ref 5 1 15006 0 0]), (15006, .row 5 1 []), (15007, .var [.ref 5 1 15008 0 0, vI 100]), (15008, .row 5 1 []), (15011, .var [.ref 5 1 15012 0 0, vI 0, vB false]), (15012, .row 5 1 []), (15013, .var [.ref 5 1 15014 0 0, vI 0, vI 0, vB false]), (15014, .row 5 1 [])] (vB true) [(10000, .var [.ptr 1 15001 0 0, .ptr 1 15011 0 0, .ptr 1 15003 0 0, .ptr 1 15013 0 0, .ptr 1 15005 0 0, .ptr 1 15015 0 0, .ptr 1 15007 0 0, .ptr 1 15017 0 0, .v (.slice none 0 0), .v (.slice none 0 0)]), (15001, .var [.ref 5 1 15002 0 0, vI 0, vB false]), (15002, .row 5 1 []), (15003, .var [.ref 5 1 15004 0 0, vI 0, vI 0, vB false]), (15004, .row 5 1 []), (15005, .var [vI 100, .ref 5 1 15006 0 0]), (15006, .row 5 1 []), (15007, .var [.ref 5 1 15008 0 0, vI 100]), (15008, .row 5 1 []), (15011, .var [.ref 5 1 15012 0 0, vI 0, vB false]), (15012, .row 5 1 []), (15013, .var [.ref 5 1 15014 0 0, vI 0, vI 0, vB false]), (15014, .row 5 1 []), (15015, .var [vI 101, .ref 5 1 15016 0 0]), (15016, .row 5 1 []), (15017, .var [.ref 5 1 15018 0 0, vI 101]), (15018, .row 5 1 [])] := by
  have hE := to_ok 101 (by decide)
  have rE := rto_ok 101 (by decide)
  refine go_fnG (tyOf_ok _) Try.func7 rfl rfl (by rw [Try.results7]) Try.ntmps7 rfl fun E => ?_
  (repeat' (first
    | exact trivial
    | (refine aw_nilvar 15015 1 5 1 15016 (.inr (by decide)) (by decide) rfl rfl ?_)
    | (refine aw_nilvar 15017 0 5 1 15018 (.inr (by decide)) (by decide) rfl rfl ?_)
    | (with_reducible first | refine awA ?_ | refine awB ?_ | refine awC ?_ | refine awD ?_ | refine awE ?_ | refine awF ?_ | refine awG ?_ | refine awH ?_ | refine awI ?_ | refine awJ ?_ | refine awK ?_ | refine awL ?_ | refine awM (by decide) ?_)
    | (refine aw_draw (id := 13) (t := (.node [0, 2, 3, 4, 5, 6, 7, 8, 9, 1, 10, 11, 12, 13, 14, 15, 16, 17, 18, 19, 20, 21, 22, 23, 24, 26, 27, 28, 29, 30, 31, 25, 32, 33, 34, 35] [])) (drR [10000, 5] [] [80, 86, 95, 102]) mixed (by kernel_rfl) (by kernel_rfl) (fun _ _ h => h) ?_)
    | (refine aw_draw (id := 15) (t := (.node [0, 1, 2, 3, 4, 5, 6, 7, 8, 9, 10, 11, 14, 15, 16, 17, 18, 19, 20, 21, 22, 23, 24, 25, 12, 13, 26, 27, 28] [])) (drR [10000, 5] [] [119, 133]) mixed (by kernel_rfl) (by kernel_rfl) (fun _ _ h => h) ?_)
    | (refine aw_draw (id := 19) (t := (.node [0, 1, 2, 3, 4, 5, 6, 7, 8, 9, 10, 11, 12, 13, 14, 15, 16, 17, 18, 19, 20, 21, 22, 23, 24, 25, 26, 28, 29, 27, 30, 31, 32] [])) (drR [10000] [152, 161, 162, 166, 168] [178]) mixed (by kernel_rfl) (by kernel_rfl) (fun _ _ h => h) ?_)
    | (refine at_done (by simp only [List.filterMap_cons, List.filterMap_nil, List.getElem?_toArray, List.getElem?_cons_zero, List.getElem?_cons_succ]; exact rfl) ?_) | (refine at_alt (by simp only [List.filterMap_cons, List.filterMap_nil, List.getElem?_toArray, List.getElem?_cons_zero, List.getElem?_cons_succ]; exact rfl) ?_) | refine qalt_normal ?_ | refine ats_cons ?_ ?_ | exact ats_nil
    | ((with_reducible first | refine awN (tyOf_ok _) [] ?_ | refine awO (tyOf_ok _) [] ?_ | refine awP (tyOf_ok _) [] ?_ | refine awQ ?_ | refine awR ?_ | refine awS ?_ | refine awT ?_ | refine awU ?_); intro r hr; simp only [go_sem, Nat.reduceBEq, Nat.reduceBneDiff, Nat.reduceLT, Nat.reduceLeDiff, Nat.reduceAdd, Nat.reduceMul, Nat.reduceSub, Nat.reduceEqDiff, reduceCtorEq, AState.nilvar, List.set_cons_succ, List.set_cons_zero, beq_self_eq_true, decide_true, Int.cast_ofNat_Int, Int.reduceToNat, Int.reduceEq, Int.reduceLT, Int.reduceLE, Int.reduceNe] at hr; subst hr; (first | refine caA (fun _ => num_any _) rfl ?_ ?_ ?_ | refine awV ?_ ?_ | refine awW ?_ ?_ | refine endK ?_ ?_ | refine endGK ?_ ?_ ?_ | (refine condK (fun h => ?_) (fun h => ?_) <;> (try simp only [go_sem, reduceCtorEq] at h) <;> (try (exfalso; omega)))))
    | (refine go_callGE [] [(8, 15015)] [15015] [] ?_; intro r hr; simp only [go_sem, Nat.reduceBEq, Nat.reduceBneDiff, Nat.reduceLT, Nat.reduceLeDiff, Nat.reduceAdd, Nat.reduceMul, Nat.reduceSub, Nat.reduceEqDiff, reduceCtorEq, AState.nilvar, List.set_cons_succ, List.set_cons_zero, beq_self_eq_true, decide_true, Int.cast_ofNat_Int, Int.reduceToNat, Int.reduceEq, Int.reduceLT, Int.reduceLE, Int.reduceNe] at hr; subst hr; refine callGK (hE) rfl rfl (by first | exact .inl rfl | exact .inr rfl) ?_ (.inr ⟨rfl, ?_⟩) ?_)
    | (refine go_callGE [] [(8, 15017)] [15017] [] ?_; intro r hr; simp only [go_sem, Nat.reduceBEq, Nat.reduceBneDiff, Nat.reduceLT, Nat.reduceLeDiff, Nat.reduceAdd, Nat.reduceMul, Nat.reduceSub, Nat.reduceEqDiff, reduceCtorEq, AState.nilvar, List.set_cons_succ, List.set_cons_zero, beq_self_eq_true, decide_true, Int.cast_ofNat_Int, Int.reduceToNat, Int.reduceEq, Int.reduceLT, Int.reduceLE, Int.reduceNe] at hr; subst hr; refine callGK (rE) rfl rfl (by first | exact .inl rfl | exact .inr rfl) ?_ (.inr ⟨rfl, ?_⟩) ?_) | fail)) <;> (try omega)
  all_goals first | exact ⟨rfl, trivial⟩ | exact ⟨rfl, rfl, trivial⟩ | exact AV.up_rfl _ | (repeat first | exact obUp_nil | refine obUp_cons rfl ?_)
def begT (k : Nat) : List (Nat × AObj) := match k with
  | 0 => [(6, .var [.v (.pointer none), .v (.pointer none), .v (.pointer none), .v (.pointer none), .v (.pointer none), .v (.pointer none), .v (.pointer none), .v (.pointer none), .v (.slice none 0 0), .v (.slice none 0 0)])]
  | 1 => [(6, .var [.ptr 1 15001 0 0, .v (.pointer none), .ptr 1 15003 0 0, .v (.pointer none), .ptr 1 15005 0 0, .v (.pointer none), .ptr 1 15007 0 0, .v (.pointer none), .v (.slice none 0 0), .v (.slice none 0 0)]), (15001, .var [.ref 5 1 15002 0 0, vI 0, vB false]), (15002, .row 5 1 []), (15003, .var [.ref 5 1 15004 0 0, vI 0, vI 0, vB false]), (15004, .row 5 1 []), (15005, .var [vI 100, .ref 5 1 15006 0 0]), (15006, .row 5 1 []), (15007, .var [.ref 5 1 15008 0 0, vI 100]), (15008, .row 5 1 [])]
  | _ => [(6, .var [.ptr 1 15001 0 0, .ptr 1 15011 0 0, .ptr 1 15003 0 0, .ptr 1 15013 0 0, .ptr 1 15005 0 0, .ptr 1 15015 0 0, .ptr 1 15007 0 0, .ptr 1 15017 0 0, .v (.slice none 0 0), .v (.slice none 0 0)]), (15001, .var [.ref 5 1 15002 0 0, vI 0, vB false]), (15002, .row 5 1 []), (15003, .var [.ref 5 1 15004 0 0, vI 0, vI 0, vB false]), (15004, .row 5 1 []), (15005, .var [vI 100, .ref 5 1 15006 0 0]), (15006, .row 5 1 []), (15007, .var [.ref 5 1 15008 0 0, vI 100]), (15008, .row 5 1 []), (15011, .var [.ref 5 1 15012 0 0, vI 0, vB false]), (15012, .row 5 1 []), (15013, .var [.ref 5 1 15014 0 0, vI 0, vI 0, vB false]), (15014, .row 5 1 []), (15015, .var [vI 101, .ref 5 1 15016 0 0]), (15016, .row 5 1 []), (15017, .var [.ref 5 1 15018 0 0, vI 101]), (15018, .row 5 1 [])]
theorem begun_any : GCall Try.prog 5 [] [] (.tup [.ptr 1 6 0 0, vB true]) (begT 2) := by
  have b0 := begIn0
  have b1 := begOut0
  have b2 := begIn1
  have b3 := begOut1
  have w1 : IntKind.i64.wrap (0 + 1) = 1 := rfl
  have w2 : IntKind.i64.wrap (1 + 1) = 2 := rfl
  have w3 : IntKind.i64.wrap (100 + 1) = 101 := rfl
  have w4 : IntKind.i64.wrap (100 + 0) = 100 := rfl
  unfold begT
  refine go_fnG (tyOf_ok _) Try.func5 rfl rfl (by rw [Try.results5]) Try.ntmps5 rfl fun E => ?_
  (repeat' (first
    | exact trivial
    | (with_reducible first | refine awA ?_ | refine awB ?_ | refine awC ?_ | refine awD ?_ | refine awE ?_ | refine awF ?_ | refine awG ?_ | refine awH ?_ | refine awI ?_ | refine awJ ?_ | refine awK ?_ | refine awL ?_ | refine awM (by decide) ?_)
    | ((with_reducible first | refine awN (tyOf_ok _) [] ?_ | refine awO (tyOf_ok _) [] ?_ | refine awP (tyOf_ok _) [] ?_ | refine awQ ?_ | refine awR ?_ | refine awS ?_ | refine awT ?_ | refine awU ?_); intro r hr; simp only [go_sem, Nat.reduceBEq, Nat.reduceBneDiff, Nat.reduceLT, Nat.reduceLeDiff, Nat.reduceAdd, Nat.reduceMul, Nat.reduceSub, Nat.reduceEqDiff, reduceCtorEq] at hr; subst hr; (first | refine awV ?_ ?_ | refine awW ?_ ?_ | refine endK ?_ ?_ | refine endGK ?_ ?_ ?_ | (refine condK (fun h => ?_) (fun h => ?_) <;> (try simp only [go_sem, reduceCtorEq] at h) <;> (try (exfalso; omega))))) | fail)) <;> (try omega)
  refine go_loop [2, 3] [6, 15001, 15002, 15003, 15004, 15005, 15006, 15007, 15008, 15011, 15012, 15013, 15014, 15015, 15016, 15017, 15018] (fun k : Nat => ⟨[(2, true, .ptr 1 6 0 0), (3, true, vI k)], begT k⟩) (fun k => k ≤ 2) (fun k => 2 - k) 0 (by unfold begT; simp only [go_sem, Nat.reduceBEq, Nat.reduceBneDiff, Nat.reduceLT, Nat.reduceLeDiff, Nat.reduceAdd, Nat.reduceMul, Nat.reduceSub, Nat.reduceEqDiff, reduceCtorEq]; exact rfl) (Nat.zero_le _) ?_
  intro k hk
  match k, hk with
  | 0, _ =>
    unfold begT
    (repeat' (first
    | exact trivial
    | (with_reducible first | refine awA ?_ | refine awB ?_ | refine awC ?_ | refine awD ?_ | refine awE ?_ | refine awF ?_ | refine awG ?_ | refine awH ?_ | refine awI ?_ | refine awJ ?_ | refine awK ?_ | refine awL ?_ | refine awM (by decide) ?_)
    | ((with_reducible first | refine awN (tyOf_ok _) [] ?_ | refine awO (tyOf_ok _) [] ?_ | refine awP (tyOf_ok _) [] ?_ | refine awQ ?_ | refine awR ?_ | refine awS ?_ | refine awT ?_ | refine awU ?_); intro r hr; simp only [go_sem, Nat.reduceBEq, Nat.reduceBneDiff, Nat.reduceLT, Nat.reduceLeDiff, Nat.reduceAdd, Nat.reduceMul, Nat.reduceSub, Nat.reduceEqDiff, reduceCtorEq, w1, w2, w3, w4, Int.cast_ofNat_Int, Int.reduceToNat, Int.reduceEq, Int.reduceLT, Int.reduceLE, Int.reduceNe] at hr; subst hr; (first | refine awV ?_ ?_ | refine awW ?_ ?_ | refine endK ?_ ?_ | refine endGK ?_ ?_ ?_ | (refine condK (fun h => ?_) (fun h => ?_) <;> (try simp only [go_sem, reduceCtorEq] at h) <;> (try (exfalso; omega)))))
    | (refine go_callGd 14 rfl [(6, 10000)] [(10000, 6), (15001, 15001), (15002, 15002), (15003, 15003), (15004, 15004)] [15001, 15002, 15003, 15004] [6] (by simp only [go_sem, Nat.reduceBEq, Nat.reduceBneDiff, Nat.reduceLT, Nat.reduceLeDiff, Nat.reduceAdd, Nat.reduceMul, Nat.reduceSub, Nat.reduceEqDiff, reduceCtorEq, w1, w2, w3, w4, Int.cast_ofNat_Int, Int.reduceToNat, Int.reduceEq, Int.reduceLT, Int.reduceLE, Int.reduceNe]; exact rfl) ?_ rfl rfl (by first | exact .inl rfl | exact .inr rfl) (by simp only [go_sem, Nat.reduceBEq, Nat.reduceBneDiff, Nat.reduceLT, Nat.reduceLeDiff, Nat.reduceAdd, Nat.reduceMul, Nat.reduceSub, Nat.reduceEqDiff, reduceCtorEq, w1, w2, w3, w4, Int.cast_ofNat_Int, Int.reduceToNat, Int.reduceEq, Int.reduceLT, Int.reduceLE, Int.reduceNe] <;> exact rfl) (b0) (.inl rfl) ?_)
    | (refine go_callGd 21 rfl [(6, 10000), (15001, 15001), (15002, 15002), (15003, 15003), (15004, 15004)] [(10000, 6), (15001, 15001), (15002, 15002), (15003, 15003), (15004, 15004), (15005, 15005), (15006, 15006), (15007, 15007), (15008, 15008)] [15001, 15002, 15003, 15004, 15005, 15006, 15007, 15008] [6] (by simp only [go_sem, Nat.reduceBEq, Nat.reduceBneDiff, Nat.reduceLT, Nat.reduceLeDiff, Nat.reduceAdd, Nat.reduceMul, Nat.reduceSub, Nat.reduceEqDiff, reduceCtorEq, w1, w2, w3, w4, Int.cast_ofNat_Int, Int.reduceToNat, Int.reduceEq, Int.reduceLT, Int.reduceLE, Int.reduceNe]; exact rfl) ?_ rfl rfl (by first | exact .inl rfl | exact .inr rfl) (by simp only [go_sem, Nat.reduceBEq, Nat.reduceBneDiff, Nat.reduceLT, Nat.reduceLeDiff, Nat.reduceAdd, Nat.reduceMul, Nat.reduceSub, Nat.reduceEqDiff, reduceCtorEq, w1, w2, w3, w4, Int.cast_ofNat_Int, Int.reduceToNat, Int.reduceEq, Int.reduceLT, Int.reduceLE, Int.reduceNe] <;> exact rfl) (b1) (.inl rfl) ?_) | fail)) <;> (try omega)
    refine ⟨1, ?_, by decide, by decide⟩
    simp only [w1, Int.cast_ofNat_Int, Int.reduceToNat, Int.reduceEq, Int.reduceLT, Int.reduceLE, Int.reduceNe, go_sem, Nat.reduceBEq, Nat.reduceBneDiff, Nat.reduceLT, Nat.reduceLeDiff, Nat.reduceAdd, Nat.reduceMul, Nat.reduceSub, Nat.reduceEqDiff, reduceCtorEq]
  | 1, _ =>
    unfold begT
    (repeat' (first
    | exact trivial
    | (with_reducible first | refine awA ?_ | refine awB ?_ | refine awC ?_ | refine awD ?_ | refine awE ?_ | refine awF ?_ | refine awG ?_ | refine awH ?_ | refine awI ?_ | refine awJ ?_ | refine awK ?_ | refine awL ?_ | refine awM (by decide) ?_)
    | ((with_reducible first | refine awN (tyOf_ok _) [] ?_ | refine awO (tyOf_ok _) [] ?_ | refine awP (tyOf_ok _) [] ?_ | refine awQ ?_ | refine awR ?_ | refine awS ?_ | refine awT ?_ | refine awU ?_); intro r hr; simp only [go_sem, Nat.reduceBEq, Nat.reduceBneDiff, Nat.reduceLT, Nat.reduceLeDiff, Nat.reduceAdd, Nat.reduceMul, Nat.reduceSub, Nat.reduceEqDiff, reduceCtorEq, w1, w2, w3, w4, Int.cast_ofNat_Int, Int.reduceToNat, Int.reduceEq, Int.reduceLT, Int.reduceLE, Int.reduceNe] at hr; subst hr; (first | refine awV ?_ ?_ | refine awW ?_ ?_ | refine endK ?_ ?_ | refine endGK ?_ ?_ ?_ | (refine condK (fun h => ?_) (fun h => ?_) <;> (try simp only [go_sem, reduceCtorEq] at h) <;> (try (exfalso; omega)))))
    | (refine go_callGd 14 rfl [(6, 10000), (15001, 15001), (15002, 15002), (15003, 15003), (15004, 15004), (15005, 15005), (15006, 15006), (15007, 15007), (15008, 15008)] [(10000, 6), (15001, 15001), (15002, 15002), (15003, 15003), (15004, 15004), (15005, 15005), (15006, 15006), (15007, 15007), (15008, 15008), (15011, 15011), (15012, 15012), (15013, 15013), (15014, 15014)] [15001, 15002, 15003, 15004, 15005, 15006, 15007, 15008, 15011, 15012, 15013, 15014] [6] (by simp only [go_sem, Nat.reduceBEq, Nat.reduceBneDiff, Nat.reduceLT, Nat.reduceLeDiff, Nat.reduceAdd, Nat.reduceMul, Nat.reduceSub, Nat.reduceEqDiff, reduceCtorEq, w1, w2, w3, w4, Int.cast_ofNat_Int, Int.reduceToNat, Int.reduceEq, Int.reduceLT, Int.reduceLE, Int.reduceNe]; exact rfl) ?_ rfl rfl (by first | exact .inl rfl | exact .inr rfl) (by simp only [go_sem, Nat.reduceBEq, Nat.reduceBneDiff, Nat.reduceLT, Nat.reduceLeDiff, Nat.reduceAdd, Nat.reduceMul, Nat.reduceSub, Nat.reduceEqDiff, reduceCtorEq, w1, w2, w3, w4, Int.cast_ofNat_Int, Int.reduceToNat, Int.reduceEq, Int.reduceLT, Int.reduceLE, Int.reduceNe] <;> exact rfl) (b2) (.inl rfl) ?_)
    | (refine go_callGd 21 rfl [(6, 10000), (15001, 15001), (15002, 15002), (15003, 15003), (15004, 15004), (15005, 15005), (15006, 15006), (15007, 15007), (15008, 15008), (15011, 15011), (15012, 15012), (15013, 15013), (15014, 15014)] [(10000, 6), (15001, 15001), (15002, 15002), (15003, 15003), (15004, 15004), (15005, 15005), (15006, 15006), (15007, 15007), (15008, 15008), (15011, 15011), (15012, 15012), (15013, 15013), (15014, 15014), (15015, 15015), (15016, 15016), (15017, 15017), (15018, 15018)] [15001, 15002, 15003, 15004, 15005, 15006, 15007, 15008, 15011, 15012, 15013, 15014, 15015, 15016, 15017, 15018] [6] (by simp only [go_sem, Nat.reduceBEq, Nat.reduceBneDiff, Nat.reduceLT, Nat.reduceLeDiff, Nat.reduceAdd, Nat.reduceMul, Nat.reduceSub, Nat.reduceEqDiff, reduceCtorEq, w1, w2, w3, w4, Int.cast_ofNat_Int, Int.reduceToNat, Int.reduceEq, Int.reduceLT, Int.reduceLE, Int.reduceNe]; exact rfl) ?_ rfl rfl (by first | exact .inl rfl | exact .inr rfl) (by simp only [go_sem, Nat.reduceBEq, Nat.reduceBneDiff, Nat.reduceLT, Nat.reduceLeDiff, Nat.reduceAdd, Nat.reduceMul, Nat.reduceSub, Nat.reduceEqDiff, reduceCtorEq, w1, w2, w3, w4, Int.cast_ofNat_Int, Int.reduceToNat, Int.reduceEq, Int.reduceLT, Int.reduceLE, Int.reduceNe] <;> exact rfl) (b3) (.inl rfl) ?_) | fail)) <;> (try omega)
    refine ⟨2, ?_, by decide, by decide⟩
    simp only [w2, Int.cast_ofNat_Int, Int.reduceToNat, Int.reduceEq, Int.reduceLT, Int.reduceLE, Int.reduceNe, go_sem, Nat.reduceBEq, Nat.reduceBneDiff, Nat.reduceLT, Nat.reduceLeDiff, Nat.reduceAdd, Nat.reduceMul, Nat.reduceSub, Nat.reduceEqDiff, reduceCtorEq]
  | 2, _ =>
    unfold begT
    (repeat' (first
    | exact trivial
    | (with_reducible first | refine awA ?_ | refine awB ?_ | refine awC ?_ | refine awD ?_ | refine awE ?_ | refine awF ?_ | refine awG ?_ | refine awH ?_ | refine awI ?_ | refine awJ ?_ | refine awK ?_ | refine awL ?_ | refine awM (by decide) ?_)
    | ((with_reducible first | refine awN (tyOf_ok _) [] ?_ | refine awO (tyOf_ok _) [] ?_ | refine awP (tyOf_ok _) [] ?_ | refine awQ ?_ | refine awR ?_ | refine awS ?_ | refine awT ?_ | refine awU ?_); intro r hr; simp only [go_sem, Nat.reduceBEq, Nat.reduceBneDiff, Nat.reduceLT, Nat.reduceLeDiff, Nat.reduceAdd, Nat.reduceMul, Nat.reduceSub, Nat.reduceEqDiff, reduceCtorEq, Int.cast_ofNat_Int, Int.reduceToNat, Int.reduceEq, Int.reduceLT, Int.reduceLE, Int.reduceNe] at hr; subst hr; (first | refine awV ?_ ?_ | refine awW ?_ ?_ | refine endK ?_ ?_ | refine endGK ?_ ?_ ?_ | (refine condK (fun h => ?_) (fun h => ?_) <;> (try simp only [go_sem, reduceCtorEq] at h) <;> (try (exfalso; omega))))) | fail)) <;> (try omega)
    all_goals first | exact ⟨rfl, trivial⟩ | exact ⟨rfl, rfl, trivial⟩ | exact AV.up_rfl _ | (repeat first | exact obUp_nil | refine obUp_cons rfl ?_)
  | k + 3, hk => exact absurd hk (by omega)
end Go.Proofs.Ytopcfnlcapibgaa
end
section
namespace Go.Proofs.Ytopcfnlcapibgaa
open Go.RowKit
/-! Cuts; goals that wait. -/
section
variable {P : Program} {E : Env} {s : AState} {n : Nat} {Q : Exit → AState → Prop}
/-- a cut behind a block -/
theorem go_cutK {α : Type} {c d : Code} (id : Nat) (ts os : List Nat) (sh : α → AState) (inv : α → Prop)
    (h1 : AWp P E n (.block id c) (ASeq (fun s' => ∃ y, s'.keep ts os = sh y ∧ inv y) Q) s) (h2 : ∀ y, inv y → AWp P E n d Q (sh y)) : AWp P E n (.block id c) (ASeq (AWp P E n d Q) Q) s := fun a w hw => wp_mono (h1 a w hw) fun e a' w' hl => by
  cases e with
  | normal =>
    obtain ⟨s', ⟨y, g1, g2⟩, g3⟩ := hl
    refine ⟨s'.keep ts os, ?_, g3.weaken (fun t p => lk_keep s'.fr t p ts) (fun d o => lk_keep s'.ob d o os)⟩
    rw [g1]
    exact h2 y g2
  | _ => exact hl
end
section
variable {P : Program} {E : Env} {s : AState} {n : Nat} {Q : Exit → AState → Prop}
/-- a cut behind a branching -/
theorem go_cutC {α : Type} {c e d : Code} (o : Operand) (ts os : List Nat) (sh : α → AState) (inv : α → Prop)
    (h1 : AWp P E n (.cond o c e) (ASeq (fun s' => ∃ y, s'.keep ts os = sh y ∧ inv y) Q) s) (h2 : ∀ y, inv y → AWp P E n d Q (sh y)) : AWp P E n (.cond o c e) (ASeq (AWp P E n d Q) Q) s := fun a w hw => wp_mono (h1 a w hw) fun e a' w' hl => by
  cases e with
  | normal =>
    obtain ⟨s', ⟨y, g1, g2⟩, g3⟩ := hl
    refine ⟨s'.keep ts os, ?_, g3.weaken (fun t p => lk_keep s'.fr t p ts) (fun d o => lk_keep s'.ob d o os)⟩
    rw [g1]
    exact h2 y g2
  | _ => exact hl
/-- a goal that waits -/
structure Hold (p : Prop) : Prop where
  out : p
theorem hold {p : Prop} (h : Hold p) : p := h.out
end
end Go.Proofs.Ytopcfnlcapibgaa
end
