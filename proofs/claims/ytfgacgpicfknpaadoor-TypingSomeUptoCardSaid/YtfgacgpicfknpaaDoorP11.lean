import Derived.Test.YtfgacgpicfknpaaDoorRows
import Derived.ProofKit
import Derived.OpenShut
import Derived.ShutString
import Derived.ChangeOld
import Derived.Deep.Slices
import Derived.JoinedCond
import Derived.Test.YtfgacgpicfknpaaDoorP10
set_option linter.all false
section
namespace Go.Proofs.YtfgacgpicfknpaaDoor
open Go.RowKit
set_option maxRecDepth 100000
set_option maxHeartbeats 8000000
/-! mortiselaw11.light: whatever it answers, it answers. -/
theorem light_any (ts : List TypeM) (rs : List RootM) (hts : ts.length ≤ 1000000) (hrs : rs.length ≤ 1000000000) (hp : ∀ t ∈ ts, t.parts.length ≤ 1000000000) (t : Int) :
    PCall Tryd.prog 17 [vSch ts rs, vI t] (fun r => ∃ b, r = vB b) := by
  refine go_fn (tyOf_ok _) Tryd.func17 rfl rfl (by rw [Tryd.results17]) Tryd.ntmps17 rfl fun E => ?_
  have hck := rcheck_any ts rs (by omega) hrs hp
  unfold vF at hck
  by_cases h1 : t < 0
  · have e1 : (t < 0) = True := eq_true h1
    (repeat' (first
    | exact trivial
    | (with_reducible first | refine awA ?_ | refine awB ?_ | refine awC ?_ | refine awD ?_ | refine awE ?_ | refine awF ?_ | refine awG ?_ | refine awH ?_ | refine awI ?_ | refine awJ ?_ | refine awK ?_ | refine awL ?_ | refine awM (by decide) ?_)
    | (refine aw_draw (id := 11) (t := (.node [0, 1, 2, 3, 4, 5, 6, 7, 8, 9] [])) (drR [7] [46] []) mixed (by kernel_rfl) (by kernel_rfl) (fun _ _ h => h) ?_)
    | (refine at_done (by simp only [List.filterMap_cons, List.filterMap_nil, List.getElem?_toArray, List.getElem?_cons_zero, List.getElem?_cons_succ]; exact rfl) ?_) | (refine at_alt (by simp only [List.filterMap_cons, List.filterMap_nil, List.getElem?_toArray, List.getElem?_cons_zero, List.getElem?_cons_succ]; exact rfl) ?_) | refine qalt_normal ?_ | refine ats_cons ?_ ?_ | exact ats_nil
    | ((with_reducible first | refine awN (tyOf_ok _) [] ?_ | refine awO (tyOf_ok _) [] ?_ | refine awP (tyOf_ok _) [] ?_ | refine awQ ?_ | refine awR ?_ | refine awS ?_); intro r hr; simp only [go_sem, Nat.reduceBEq, Nat.reduceBneDiff, Nat.reduceLT, Nat.reduceLeDiff, Nat.reduceAdd, Nat.reduceMul, Nat.reduceSub, Nat.reduceEqDiff, reduceCtorEq, vSch, encTs_len, e1] at hr; subst hr; (first | refine caB 38 (.agg [vI 0, vI 0]) ?_ ?_ ?_ | refine awV ?_ ?_ | refine awW ?_ ?_ | refine endK ?_ ?_ | (refine condK (fun h => ?_) (fun h => ?_) <;> (try simp only [go_sem, reduceCtorEq] at h) <;> (try (exfalso; omega))))) | fail)) <;> (try omega)
    all_goals exact ⟨_, rfl⟩
  have e1 : (t < 0) = False := eq_false h1
  by_cases h2 : (ts.length : Int) ≤ t
  · have e2 : ((ts.length : Int) ≤ t) = True := eq_true h2
    (repeat' (first
    | exact trivial
    | (with_reducible first | refine awA ?_ | refine awB ?_ | refine awC ?_ | refine awD ?_ | refine awE ?_ | refine awF ?_ | refine awG ?_ | refine awH ?_ | refine awI ?_ | refine awJ ?_ | refine awK ?_ | refine awL ?_ | refine awM (by decide) ?_)
    | (refine aw_draw (id := 11) (t := (.node [0, 1, 2, 3, 4, 5, 6, 7, 8, 9] [])) (drR [7] [46] []) mixed (by kernel_rfl) (by kernel_rfl) (fun _ _ h => h) ?_)
    | (refine at_done (by simp only [List.filterMap_cons, List.filterMap_nil, List.getElem?_toArray, List.getElem?_cons_zero, List.getElem?_cons_succ]; exact rfl) ?_) | (refine at_alt (by simp only [List.filterMap_cons, List.filterMap_nil, List.getElem?_toArray, List.getElem?_cons_zero, List.getElem?_cons_succ]; exact rfl) ?_) | refine qalt_normal ?_ | refine ats_cons ?_ ?_ | exact ats_nil
    | ((with_reducible first | refine awN (tyOf_ok _) [] ?_ | refine awO (tyOf_ok _) [] ?_ | refine awP (tyOf_ok _) [] ?_ | refine awQ ?_ | refine awR ?_ | refine awS ?_); intro r hr; simp only [go_sem, Nat.reduceBEq, Nat.reduceBneDiff, Nat.reduceLT, Nat.reduceLeDiff, Nat.reduceAdd, Nat.reduceMul, Nat.reduceSub, Nat.reduceEqDiff, reduceCtorEq, vSch, encTs_len, e1, e2] at hr; subst hr; (first | refine caB 38 (.agg [vI 0, vI 0]) ?_ ?_ ?_ | refine awV ?_ ?_ | refine awW ?_ ?_ | refine endK ?_ ?_ | (refine condK (fun h => ?_) (fun h => ?_) <;> (try simp only [go_sem, reduceCtorEq] at h) <;> (try (exfalso; omega))))) | fail)) <;> (try omega)
    all_goals exact ⟨_, rfl⟩
  have e2 : ((ts.length : Int) ≤ t) = False := eq_false h2
  by_cases h0 : (checkF ts rs).1 = 0
  case neg =>
    have e3 : ((checkF ts rs).1 = 0) = False := eq_false h0
    generalize checkF ts rs = C at *
    (repeat' (first
    | exact trivial
    | (with_reducible first | refine awA ?_ | refine awB ?_ | refine awC ?_ | refine awD ?_ | refine awE ?_ | refine awF ?_ | refine awG ?_ | refine awH ?_ | refine awI ?_ | refine awJ ?_ | refine awK ?_ | refine awL ?_ | refine awM (by decide) ?_)
    | (refine aw_draw (id := 11) (t := (.node [0, 1, 2, 3, 4, 5, 6, 7, 8, 9] [])) (drR [7] [46] []) mixed (by kernel_rfl) (by kernel_rfl) (fun _ _ h => h) ?_)
    | (refine at_done (by simp only [List.filterMap_cons, List.filterMap_nil, List.getElem?_toArray, List.getElem?_cons_zero, List.getElem?_cons_succ]; exact rfl) ?_) | (refine at_alt (by simp only [List.filterMap_cons, List.filterMap_nil, List.getElem?_toArray, List.getElem?_cons_zero, List.getElem?_cons_succ]; exact rfl) ?_) | refine qalt_normal ?_ | refine ats_cons ?_ ?_ | exact ats_nil
    | ((with_reducible first | refine awN (tyOf_ok _) [] ?_ | refine awO (tyOf_ok _) [] ?_ | refine awP (tyOf_ok _) [] ?_ | refine awQ ?_ | refine awR ?_ | refine awS ?_); intro r hr; simp only [go_sem, Nat.reduceBEq, Nat.reduceBneDiff, Nat.reduceLT, Nat.reduceLeDiff, Nat.reduceAdd, Nat.reduceMul, Nat.reduceSub, Nat.reduceEqDiff, reduceCtorEq, vSch, encTs_len, e1, e2, e3] at hr; subst hr; (first | refine caA (fun _ => hck) rfl ?_ ?_ ?_ | refine awV ?_ ?_ | refine awW ?_ ?_ | refine endK ?_ ?_ | (refine condK (fun h => ?_) (fun h => ?_) <;> (try simp only [go_sem, reduceCtorEq] at h) <;> (try (exfalso; omega))))) | fail)) <;> (try omega)
    all_goals exact ⟨_, rfl⟩
  have hr := check_right h0
  rw [h0] at hck
  generalize (checkF ts rs).2 = C2 at *
  (repeat' (first
    | exact trivial
    | (with_reducible first | refine awA ?_ | refine awB ?_ | refine awC ?_ | refine awD ?_ | refine awE ?_ | refine awF ?_ | refine awG ?_ | refine awH ?_ | refine awI ?_ | refine awJ ?_ | refine awK ?_ | refine awL ?_ | refine awM (by decide) ?_)
    | (refine aw_draw (id := 11) (t := (.node [0, 1, 2, 3, 4, 5, 6, 7, 8, 9] [])) (drR [7] [46] []) mixed (by kernel_rfl) (by kernel_rfl) (fun _ _ h => h) ?_)
    | (refine at_done (by simp only [List.filterMap_cons, List.filterMap_nil, List.getElem?_toArray, List.getElem?_cons_zero, List.getElem?_cons_succ]; exact rfl) ?_) | (refine at_alt (by simp only [List.filterMap_cons, List.filterMap_nil, List.getElem?_toArray, List.getElem?_cons_zero, List.getElem?_cons_succ]; exact rfl) ?_) | refine qalt_normal ?_ | refine ats_cons ?_ ?_ | exact ats_nil
    | ((with_reducible first | refine awN (tyOf_ok _) [] ?_ | refine awO (tyOf_ok _) [] ?_ | refine awP (tyOf_ok _) [] ?_ | refine awQ ?_ | refine awR ?_ | refine awS ?_); intro r hr; simp only [go_sem, Nat.reduceBEq, Nat.reduceBneDiff, Nat.reduceLT, Nat.reduceLeDiff, Nat.reduceAdd, Nat.reduceMul, Nat.reduceSub, Nat.reduceEqDiff, reduceCtorEq, vSch, encTs_len, e1, e2] at hr; subst hr; (first | refine caA (fun _ => hck) rfl ?_ ?_ ?_ | refine awV ?_ ?_ | refine awW ?_ ?_ | refine endK ?_ ?_ | (refine condK (fun h => ?_) (fun h => ?_) <;> (try simp only [go_sem, reduceCtorEq] at h) <;> (try (exfalso; omega))))) | fail)) <;> (try omega)
  refine aw_nilrow 5 3 1 8000 (.inl (by decide)) (by simp only [go_sem, Nat.reduceBEq, Nat.reduceBneDiff, Nat.reduceLT, Nat.reduceLeDiff, Nat.reduceAdd, Nat.reduceMul, Nat.reduceSub, Nat.reduceEqDiff, reduceCtorEq]) ?_
  refine go_loop [1, 2, 4, 5, 6] [2, 8000] (fun l : List Int => ⟨[(1, true, vI t), (2, true, .ptr 1 2 0 0), (4, true, vB false), (5, true, .ref 3 1 8000 0 l.length), (6, true, vI l.length)], [(2, .var [.lst 4 (encTs ts), .lst 2 (encRs rs)]), (8000, .row 3 1 (v8 l))]⟩)
    (fun l => (l.length : Int) ≤ t + 1) (fun l => ts.length - l.length) [] (by simp only [AState.nilrow, go_sem, Nat.reduceBEq, Nat.reduceBneDiff, Nat.reduceLT, Nat.reduceLeDiff, Nat.reduceAdd, Nat.reduceMul, Nat.reduceSub, Nat.reduceEqDiff, reduceCtorEq] <;> exact rfl) (by simp only [List.length_nil]; omega) ?_
  intro l hl
  have hw1 := wrap_i64 (n := (l.length : Int) + 1) (by omega)
  by_cases hlt : (l.length : Int) ≤ t
  case neg =>
    have f1 : ((l.length : Int) ≤ t) = False := eq_false hlt
    (repeat' (first
    | exact trivial
    | (with_reducible first | refine awA ?_ | refine awB ?_ | refine awC ?_ | refine awD ?_ | refine awE ?_ | refine awF ?_ | refine awG ?_ | refine awH ?_ | refine awI ?_ | refine awJ ?_ | refine awK ?_ | refine awL ?_ | refine awM (by decide) ?_)
    | (refine aw_draw (id := 11) (t := (.node [0, 1, 2, 3, 4, 5, 6, 7, 8, 9] [])) (drR [7] [46] []) mixed (by kernel_rfl) (by kernel_rfl) (fun _ _ h => h) ?_)
    | (refine at_done (by simp only [List.filterMap_cons, List.filterMap_nil, List.getElem?_toArray, List.getElem?_cons_zero, List.getElem?_cons_succ]; exact rfl) ?_) | (refine at_alt (by simp only [List.filterMap_cons, List.filterMap_nil, List.getElem?_toArray, List.getElem?_cons_zero, List.getElem?_cons_succ]; exact rfl) ?_) | refine qalt_normal ?_ | refine ats_cons ?_ ?_ | exact ats_nil
    | ((with_reducible first | refine awN (tyOf_ok _) [] ?_ | refine awO (tyOf_ok _) [] ?_ | refine awP (tyOf_ok _) [] ?_ | refine awQ ?_ | refine awR ?_ | refine awS ?_); intro r hr; simp only [go_sem, Nat.reduceBEq, Nat.reduceBneDiff, Nat.reduceLT, Nat.reduceLeDiff, Nat.reduceAdd, Nat.reduceMul, Nat.reduceSub, Nat.reduceEqDiff, reduceCtorEq, f1] at hr; subst hr; (first | refine awV ?_ ?_ | refine awW ?_ ?_ | refine endK ?_ ?_ | (refine condK (fun h => ?_) (fun h => ?_) <;> (try simp only [go_sem, reduceCtorEq] at h) <;> (try (exfalso; omega))))) | fail)) <;> (try omega)
    all_goals exact ⟨_, rfl⟩
  have f1 : ((l.length : Int) ≤ t) = True := eq_true hlt
  have g1 := encTs_get (show l.length < ts.length by omega)
  have hrk := hr l.length (show l.length < ts.length by omega)
  have hty := rightOK_ty hrk
  have hpl : ts[l.length].parts.length ≤ 64 ∨ True := .inr trivial
  have hppl := hp _ (List.getElem_mem (show l.length < ts.length by omega))
  generalize ts[l.length] = T at *
  have hv : (v8 l).length = l.length := v8_len l
  (repeat' (first
    | exact trivial
    | (refine go_cutK 2 [1, 2, 4, 5, 6, 8] [2, 8000] (fun y : Int => ⟨[(1, true, vI t), (2, true, .ptr 1 2 0 0), (4, true, vB false), (5, true, .ref 3 1 8000 0 l.length), (6, true, vI l.length), (8, true, vI y)], [(2, .var [.lst 4 (encTs ts), .lst 2 (encRs rs)]), (8000, .row 3 1 (v8 l))]⟩) (fun _ => True) (hold ?_) ?_)
    | (with_reducible first | refine awA ?_ | refine awB ?_ | refine awC ?_ | refine awD ?_ | refine awE ?_ | refine awF ?_ | refine awG ?_ | refine awH ?_ | refine awI ?_ | refine awJ ?_ | refine awK ?_ | refine awL ?_ | refine awM (by decide) ?_)
    | (refine aw_draw (id := 11) (t := (.node [0, 1, 2, 3, 4, 5, 6, 7, 8, 9] [])) (drR [7] [46] []) mixed (by kernel_rfl) (by kernel_rfl) (fun _ _ h => h) ?_)
    | (refine at_done (by simp only [List.filterMap_cons, List.filterMap_nil, List.getElem?_toArray, List.getElem?_cons_zero, List.getElem?_cons_succ]; exact rfl) ?_) | (refine at_alt (by simp only [List.filterMap_cons, List.filterMap_nil, List.getElem?_toArray, List.getElem?_cons_zero, List.getElem?_cons_succ]; exact rfl) ?_) | refine qalt_normal ?_ | refine ats_cons ?_ ?_ | exact ats_nil
    | ((with_reducible first | refine awN (tyOf_ok _) [] ?_ | refine awO (tyOf_ok _) [] ?_ | refine awP (tyOf_ok _) [] ?_ | refine awQ ?_ | refine awR ?_ | refine awS ?_); intro r hr; simp only [go_sem, Nat.reduceBEq, Nat.reduceBneDiff, Nat.reduceLT, Nat.reduceLeDiff, Nat.reduceAdd, Nat.reduceMul, Nat.reduceSub, Nat.reduceEqDiff, reduceCtorEq, encTs_len, f1, g1, hv] at hr; subst hr; (first | refine awV ?_ ?_ | refine awW ?_ ?_ | refine endK ?_ ?_ | (refine condK (fun h => ?_) (fun h => ?_) <;> (try simp only [go_sem, reduceCtorEq] at h) <;> (try (exfalso; omega))))) | fail)) <;> (try omega)
  · refine ⟨?_⟩
    by_cases h4 : T.kind = 4
    · have e4 : (T.kind = 4) = True := eq_true h4
      have hel := hty.1 (.inl h4)
      obtain ⟨en, hen⟩ : ∃ en : Nat, T.elem = en := ⟨T.elem.toNat, by omega⟩
      have g2 := v8_get (zs := l) (k := en) (by omega)
      have z1 : ((en : Int)).toNat = en := by omega
      rw [hen]
      (repeat' (first
    | exact trivial
    | (with_reducible first | refine awA ?_ | refine awB ?_ | refine awC ?_ | refine awD ?_ | refine awE ?_ | refine awF ?_ | refine awG ?_ | refine awH ?_ | refine awI ?_ | refine awJ ?_ | refine awK ?_ | refine awL ?_ | refine awM (by decide) ?_)
    | (refine aw_draw (id := 11) (t := (.node [0, 1, 2, 3, 4, 5, 6, 7, 8, 9] [])) (drR [7] [46] []) mixed (by kernel_rfl) (by kernel_rfl) (fun _ _ h => h) ?_)
    | (refine at_done (by simp only [List.filterMap_cons, List.filterMap_nil, List.getElem?_toArray, List.getElem?_cons_zero, List.getElem?_cons_succ]; exact rfl) ?_) | (refine at_alt (by simp only [List.filterMap_cons, List.filterMap_nil, List.getElem?_toArray, List.getElem?_cons_zero, List.getElem?_cons_succ]; exact rfl) ?_) | refine qalt_normal ?_ | refine ats_cons ?_ ?_ | exact ats_nil
    | ((with_reducible first | refine awN (tyOf_ok _) [] ?_ | refine awO (tyOf_ok _) [] ?_ | refine awP (tyOf_ok _) [] ?_ | refine awQ ?_ | refine awR ?_ | refine awS ?_); intro r hr; simp only [go_sem, Nat.reduceBEq, Nat.reduceBneDiff, Nat.reduceLT, Nat.reduceLeDiff, Nat.reduceAdd, Nat.reduceMul, Nat.reduceSub, Nat.reduceEqDiff, reduceCtorEq, e4, g2, z1, hv] at hr; subst hr; (first | refine awV ?_ ?_ | refine awW ?_ ?_ | refine endK ?_ ?_ | (refine condK (fun h => ?_) (fun h => ?_) <;> (try simp only [go_sem, reduceCtorEq] at h) <;> (try (exfalso; omega))))) | fail)) <;> (try omega)
      all_goals first | exact ⟨_, by simp only [go_sem, Nat.reduceBEq, Nat.reduceBneDiff, Nat.reduceLT, Nat.reduceLeDiff, Nat.reduceAdd, Nat.reduceMul, Nat.reduceSub, Nat.reduceEqDiff, reduceCtorEq] <;> exact rfl, trivial⟩ | omega
    have e4 : (T.kind = 4) = False := eq_false h4
    have hin : ∀ i, (h : i < T.parts.length) → ∃ pn : Nat, T.parts[i].ty = pn ∧ pn < l.length := fun i h => by
      have := hty.2 _ (List.getElem_mem h)
      exact ⟨T.parts[i].ty.toNat, by omega, by omega⟩
    by_cases h7 : T.kind = 7
    · have e7 : (T.kind = 7) = True := eq_true h7
      (repeat' (first
    | exact trivial
    | (with_reducible first | refine awA ?_ | refine awB ?_ | refine awC ?_ | refine awD ?_ | refine awE ?_ | refine awF ?_ | refine awG ?_ | refine awH ?_ | refine awI ?_ | refine awJ ?_ | refine awK ?_ | refine awL ?_ | refine awM (by decide) ?_)
    | (refine aw_draw (id := 11) (t := (.node [0, 1, 2, 3, 4, 5, 6, 7, 8, 9] [])) (drR [7] [46] []) mixed (by kernel_rfl) (by kernel_rfl) (fun _ _ h => h) ?_)
    | (refine at_done (by simp only [List.filterMap_cons, List.filterMap_nil, List.getElem?_toArray, List.getElem?_cons_zero, List.getElem?_cons_succ]; exact rfl) ?_) | (refine at_alt (by simp only [List.filterMap_cons, List.filterMap_nil, List.getElem?_toArray, List.getElem?_cons_zero, List.getElem?_cons_succ]; exact rfl) ?_) | refine qalt_normal ?_ | refine ats_cons ?_ ?_ | exact ats_nil
    | ((with_reducible first | refine awN (tyOf_ok _) [] ?_ | refine awO (tyOf_ok _) [] ?_ | refine awP (tyOf_ok _) [] ?_ | refine awQ ?_ | refine awR ?_ | refine awS ?_); intro r hr; simp only [go_sem, Nat.reduceBEq, Nat.reduceBneDiff, Nat.reduceLT, Nat.reduceLeDiff, Nat.reduceAdd, Nat.reduceMul, Nat.reduceSub, Nat.reduceEqDiff, reduceCtorEq, e4, e7] at hr; subst hr; (first | refine awV ?_ ?_ | refine awW ?_ ?_ | refine endK ?_ ?_ | (refine condK (fun h => ?_) (fun h => ?_) <;> (try simp only [go_sem, reduceCtorEq] at h) <;> (try (exfalso; omega))))) | fail)) <;> (try omega)
      refine go_loop [1, 2, 4, 5, 6, 7, 8, 9] [2, 7, 8000] (fun q : Nat × Int => ⟨[(1, true, vI t), (2, true, .ptr 1 2 0 0), (4, true, vB false), (5, true, .ref 3 1 8000 0 l.length), (6, true, vI l.length), (7, true, .ptr 1 7 0 0), (8, true, vI q.2), (9, true, vI q.1)], [(2, .var [.lst 4 (encTs ts), .lst 2 (encRs rs)]), (7, .var [vI T.kind, vI T.n, vI T.elem, .lst 3 (encPs T.parts)]), (8000, .row 3 1 (v8 l))]⟩)
        (fun q => q.1 ≤ T.parts.length) (fun q => T.parts.length - q.1) (0, 0) (by simp only [go_sem, Nat.reduceBEq, Nat.reduceBneDiff, Nat.reduceLT, Nat.reduceLeDiff, Nat.reduceAdd, Nat.reduceMul, Nat.reduceSub, Nat.reduceEqDiff, reduceCtorEq, h7] <;> exact rfl) (Nat.zero_le _) ?_
      intro ⟨i, m⟩ hi
      simp only at hi
      have hwi := wrap_i64 (n := (i : Int) + 1) (by omega)
      by_cases hlt2 : i < T.parts.length
      · have f2 : ((i : Int) < T.parts.length) = True := eq_true (by omega)
        have g3 := encPs_get hlt2
        obtain ⟨pn, hpn, hpl⟩ := hin i hlt2
        have g2 := v8_get hpl
        have z1 : ((pn : Int)).toNat = pn := by omega
        rw [hpn] at g3
        generalize T.parts[i] = pp at *
        generalize l[pn] = z at *
        (repeat' (first
    | exact trivial
    | (with_reducible first | refine awA ?_ | refine awB ?_ | refine awC ?_ | refine awD ?_ | refine awE ?_ | refine awF ?_ | refine awG ?_ | refine awH ?_ | refine awI ?_ | refine awJ ?_ | refine awK ?_ | refine awL ?_ | refine awM (by decide) ?_)
    | (refine aw_draw (id := 11) (t := (.node [0, 1, 2, 3, 4, 5, 6, 7, 8, 9] [])) (drR [7] [46] []) mixed (by kernel_rfl) (by kernel_rfl) (fun _ _ h => h) ?_)
    | (refine at_done (by simp only [List.filterMap_cons, List.filterMap_nil, List.getElem?_toArray, List.getElem?_cons_zero, List.getElem?_cons_succ]; exact rfl) ?_) | (refine at_alt (by simp only [List.filterMap_cons, List.filterMap_nil, List.getElem?_toArray, List.getElem?_cons_zero, List.getElem?_cons_succ]; exact rfl) ?_) | refine qalt_normal ?_ | refine ats_cons ?_ ?_ | exact ats_nil
    | ((with_reducible first | refine awN (tyOf_ok _) [] ?_ | refine awO (tyOf_ok _) [] ?_ | refine awP (tyOf_ok _) [] ?_ | refine awQ ?_ | refine awR ?_ | refine awS ?_); intro r hr; simp only [go_sem, Nat.reduceBEq, Nat.reduceBneDiff, Nat.reduceLT, Nat.reduceLeDiff, Nat.reduceAdd, Nat.reduceMul, Nat.reduceSub, Nat.reduceEqDiff, reduceCtorEq, encPs_len, f2, g3, g2, z1, hv, hwi] at hr; subst hr; (first | refine awV ?_ ?_ | refine awW ?_ ?_ | refine endK ?_ ?_ | (refine condK (fun h => ?_) (fun h => ?_) <;> (try simp only [go_sem, reduceCtorEq] at h) <;> (try (exfalso; omega))))) | fail)) <;> (try omega)
        all_goals first | exact ⟨(i + 1, max m z), by simp only [go_sem, Nat.reduceBEq, Nat.reduceBneDiff, Nat.reduceLT, Nat.reduceLeDiff, Nat.reduceAdd, Nat.reduceMul, Nat.reduceSub, Nat.reduceEqDiff, reduceCtorEq] <;> exact rfl, hlt2, by simp only; omega⟩ | omega
      · have f2 : ((i : Int) < T.parts.length) = False := eq_false (by omega)
        (repeat' (first
    | exact trivial
    | (with_reducible first | refine awA ?_ | refine awB ?_ | refine awC ?_ | refine awD ?_ | refine awE ?_ | refine awF ?_ | refine awG ?_ | refine awH ?_ | refine awI ?_ | refine awJ ?_ | refine awK ?_ | refine awL ?_ | refine awM (by decide) ?_)
    | (refine aw_draw (id := 11) (t := (.node [0, 1, 2, 3, 4, 5, 6, 7, 8, 9] [])) (drR [7] [46] []) mixed (by kernel_rfl) (by kernel_rfl) (fun _ _ h => h) ?_)
    | (refine at_done (by simp only [List.filterMap_cons, List.filterMap_nil, List.getElem?_toArray, List.getElem?_cons_zero, List.getElem?_cons_succ]; exact rfl) ?_) | (refine at_alt (by simp only [List.filterMap_cons, List.filterMap_nil, List.getElem?_toArray, List.getElem?_cons_zero, List.getElem?_cons_succ]; exact rfl) ?_) | refine qalt_normal ?_ | refine ats_cons ?_ ?_ | exact ats_nil
    | ((with_reducible first | refine awN (tyOf_ok _) [] ?_ | refine awO (tyOf_ok _) [] ?_ | refine awP (tyOf_ok _) [] ?_ | refine awQ ?_ | refine awR ?_ | refine awS ?_); intro r hr; simp only [go_sem, Nat.reduceBEq, Nat.reduceBneDiff, Nat.reduceLT, Nat.reduceLeDiff, Nat.reduceAdd, Nat.reduceMul, Nat.reduceSub, Nat.reduceEqDiff, reduceCtorEq, encPs_len, f2, hwi] at hr; subst hr; (first | refine awV ?_ ?_ | refine awW ?_ ?_ | refine endK ?_ ?_ | (refine condK (fun h => ?_) (fun h => ?_) <;> (try simp only [go_sem, reduceCtorEq] at h) <;> (try (exfalso; omega))))) | fail)) <;> (try omega)
        exact ⟨_, by simp only [go_sem, Nat.reduceBEq, Nat.reduceBneDiff, Nat.reduceLT, Nat.reduceLeDiff, Nat.reduceAdd, Nat.reduceMul, Nat.reduceSub, Nat.reduceEqDiff, reduceCtorEq] <;> exact rfl, trivial⟩
    have e7 : (T.kind = 7) = False := eq_false h7
    by_cases h8 : T.kind = 8
    · have e8 : (T.kind = 8) = True := eq_true h8
      (repeat' (first
    | exact trivial
    | (with_reducible first | refine awA ?_ | refine awB ?_ | refine awC ?_ | refine awD ?_ | refine awE ?_ | refine awF ?_ | refine awG ?_ | refine awH ?_ | refine awI ?_ | refine awJ ?_ | refine awK ?_ | refine awL ?_ | refine awM (by decide) ?_)
    | (refine aw_draw (id := 11) (t := (.node [0, 1, 2, 3, 4, 5, 6, 7, 8, 9] [])) (drR [7] [46] []) mixed (by kernel_rfl) (by kernel_rfl) (fun _ _ h => h) ?_)
    | (refine at_done (by simp only [List.filterMap_cons, List.filterMap_nil, List.getElem?_toArray, List.getElem?_cons_zero, List.getElem?_cons_succ]; exact rfl) ?_) | (refine at_alt (by simp only [List.filterMap_cons, List.filterMap_nil, List.getElem?_toArray, List.getElem?_cons_zero, List.getElem?_cons_succ]; exact rfl) ?_) | refine qalt_normal ?_ | refine ats_cons ?_ ?_ | exact ats_nil
    | ((with_reducible first | refine awN (tyOf_ok _) [] ?_ | refine awO (tyOf_ok _) [] ?_ | refine awP (tyOf_ok _) [] ?_ | refine awQ ?_ | refine awR ?_ | refine awS ?_); intro r hr; simp only [go_sem, Nat.reduceBEq, Nat.reduceBneDiff, Nat.reduceLT, Nat.reduceLeDiff, Nat.reduceAdd, Nat.reduceMul, Nat.reduceSub, Nat.reduceEqDiff, reduceCtorEq, e4, e7, e8] at hr; subst hr; (first | refine awV ?_ ?_ | refine awW ?_ ?_ | refine endK ?_ ?_ | (refine condK (fun h => ?_) (fun h => ?_) <;> (try simp only [go_sem, reduceCtorEq] at h) <;> (try (exfalso; omega))))) | fail)) <;> (try omega)
      refine go_loop [1, 2, 4, 5, 6, 7, 8, 10] [2, 7, 8000] (fun q : Nat × Int => ⟨[(1, true, vI t), (2, true, .ptr 1 2 0 0), (4, true, vB false), (5, true, .ref 3 1 8000 0 l.length), (6, true, vI l.length), (7, true, .ptr 1 7 0 0), (8, true, vI q.2), (10, true, vI q.1)], [(2, .var [.lst 4 (encTs ts), .lst 2 (encRs rs)]), (7, .var [vI T.kind, vI T.n, vI T.elem, .lst 3 (encPs T.parts)]), (8000, .row 3 1 (v8 l))]⟩)
        (fun q => q.1 ≤ T.parts.length) (fun q => T.parts.length - q.1) (0, 0) (by simp only [go_sem, Nat.reduceBEq, Nat.reduceBneDiff, Nat.reduceLT, Nat.reduceLeDiff, Nat.reduceAdd, Nat.reduceMul, Nat.reduceSub, Nat.reduceEqDiff, reduceCtorEq, h8] <;> exact rfl) (Nat.zero_le _) ?_
      intro ⟨i, m⟩ hi
      simp only at hi
      have hwi := wrap_i64 (n := (i : Int) + 1) (by omega)
      by_cases hlt2 : i < T.parts.length
      · have f2 : ((i : Int) < T.parts.length) = True := eq_true (by omega)
        have g3 := encPs_get hlt2
        obtain ⟨pn, hpn, hpl⟩ := hin i hlt2
        have g2 := v8_get hpl
        have z1 : ((pn : Int)).toNat = pn := by omega
        rw [hpn] at g3
        generalize T.parts[i] = pp at *
        generalize l[pn] = z at *
        (repeat' (first
    | exact trivial
    | (with_reducible first | refine awA ?_ | refine awB ?_ | refine awC ?_ | refine awD ?_ | refine awE ?_ | refine awF ?_ | refine awG ?_ | refine awH ?_ | refine awI ?_ | refine awJ ?_ | refine awK ?_ | refine awL ?_ | refine awM (by decide) ?_)
    | (refine aw_draw (id := 11) (t := (.node [0, 1, 2, 3, 4, 5, 6, 7, 8, 9] [])) (drR [7] [46] []) mixed (by kernel_rfl) (by kernel_rfl) (fun _ _ h => h) ?_)
    | (refine at_done (by simp only [List.filterMap_cons, List.filterMap_nil, List.getElem?_toArray, List.getElem?_cons_zero, List.getElem?_cons_succ]; exact rfl) ?_) | (refine at_alt (by simp only [List.filterMap_cons, List.filterMap_nil, List.getElem?_toArray, List.getElem?_cons_zero, List.getElem?_cons_succ]; exact rfl) ?_) | refine qalt_normal ?_ | refine ats_cons ?_ ?_ | exact ats_nil
    | ((with_reducible first | refine awN (tyOf_ok _) [] ?_ | refine awO (tyOf_ok _) [] ?_ | refine awP (tyOf_ok _) [] ?_ | refine awQ ?_ | refine awR ?_ | refine awS ?_); intro r hr; simp only [go_sem, Nat.reduceBEq, Nat.reduceBneDiff, Nat.reduceLT, Nat.reduceLeDiff, Nat.reduceAdd, Nat.reduceMul, Nat.reduceSub, Nat.reduceEqDiff, reduceCtorEq, encPs_len, f2, g3, g2, z1, hv, hwi] at hr; subst hr; (first | refine awV ?_ ?_ | refine awW ?_ ?_ | refine endK ?_ ?_ | (refine condK (fun h => ?_) (fun h => ?_) <;> (try simp only [go_sem, reduceCtorEq] at h) <;> (try (exfalso; omega))))) | fail)) <;> (try omega)
        all_goals first | exact ⟨(i + 1, IntKind.i64.wrap (m + z)), by simp only [go_sem, Nat.reduceBEq, Nat.reduceBneDiff, Nat.reduceLT, Nat.reduceLeDiff, Nat.reduceAdd, Nat.reduceMul, Nat.reduceSub, Nat.reduceEqDiff, reduceCtorEq] <;> exact rfl, hlt2, by simp only; omega⟩ | omega
      · have f2 : ((i : Int) < T.parts.length) = False := eq_false (by omega)
        (repeat' (first
    | exact trivial
    | (with_reducible first | refine awA ?_ | refine awB ?_ | refine awC ?_ | refine awD ?_ | refine awE ?_ | refine awF ?_ | refine awG ?_ | refine awH ?_ | refine awI ?_ | refine awJ ?_ | refine awK ?_ | refine awL ?_ | refine awM (by decide) ?_)
    | (refine aw_draw (id := 11) (t := (.node [0, 1, 2, 3, 4, 5, 6, 7, 8, 9] [])) (drR [7] [46] []) mixed (by kernel_rfl) (by kernel_rfl) (fun _ _ h => h) ?_)
    | (refine at_done (by simp only [List.filterMap_cons, List.filterMap_nil, List.getElem?_toArray, List.getElem?_cons_zero, List.getElem?_cons_succ]; exact rfl) ?_) | (refine at_alt (by simp only [List.filterMap_cons, List.filterMap_nil, List.getElem?_toArray, List.getElem?_cons_zero, List.getElem?_cons_succ]; exact rfl) ?_) | refine qalt_normal ?_ | refine ats_cons ?_ ?_ | exact ats_nil
    | ((with_reducible first | refine awN (tyOf_ok _) [] ?_ | refine awO (tyOf_ok _) [] ?_ | refine awP (tyOf_ok _) [] ?_ | refine awQ ?_ | refine awR ?_ | refine awS ?_); intro r hr; simp only [go_sem, Nat.reduceBEq, Nat.reduceBneDiff, Nat.reduceLT, Nat.reduceLeDiff, Nat.reduceAdd, Nat.reduceMul, Nat.reduceSub, Nat.reduceEqDiff, reduceCtorEq, encPs_len, f2, hwi] at hr; subst hr; (first | refine awV ?_ ?_ | refine awW ?_ ?_ | refine endK ?_ ?_ | (refine condK (fun h => ?_) (fun h => ?_) <;> (try simp only [go_sem, reduceCtorEq] at h) <;> (try (exfalso; omega))))) | fail)) <;> (try omega)
        exact ⟨_, by simp only [go_sem, Nat.reduceBEq, Nat.reduceBneDiff, Nat.reduceLT, Nat.reduceLeDiff, Nat.reduceAdd, Nat.reduceMul, Nat.reduceSub, Nat.reduceEqDiff, reduceCtorEq] <;> exact rfl, trivial⟩
    have e8 : (T.kind = 8) = False := eq_false h8
    (repeat' (first
    | exact trivial
    | (with_reducible first | refine awA ?_ | refine awB ?_ | refine awC ?_ | refine awD ?_ | refine awE ?_ | refine awF ?_ | refine awG ?_ | refine awH ?_ | refine awI ?_ | refine awJ ?_ | refine awK ?_ | refine awL ?_ | refine awM (by decide) ?_)
    | (refine aw_draw (id := 11) (t := (.node [0, 1, 2, 3, 4, 5, 6, 7, 8, 9] [])) (drR [7] [46] []) mixed (by kernel_rfl) (by kernel_rfl) (fun _ _ h => h) ?_)
    | (refine at_done (by simp only [List.filterMap_cons, List.filterMap_nil, List.getElem?_toArray, List.getElem?_cons_zero, List.getElem?_cons_succ]; exact rfl) ?_) | (refine at_alt (by simp only [List.filterMap_cons, List.filterMap_nil, List.getElem?_toArray, List.getElem?_cons_zero, List.getElem?_cons_succ]; exact rfl) ?_) | refine qalt_normal ?_ | refine ats_cons ?_ ?_ | exact ats_nil
    | ((with_reducible first | refine awN (tyOf_ok _) [] ?_ | refine awO (tyOf_ok _) [] ?_ | refine awP (tyOf_ok _) [] ?_ | refine awQ ?_ | refine awR ?_ | refine awS ?_); intro r hr; simp only [go_sem, Nat.reduceBEq, Nat.reduceBneDiff, Nat.reduceLT, Nat.reduceLeDiff, Nat.reduceAdd, Nat.reduceMul, Nat.reduceSub, Nat.reduceEqDiff, reduceCtorEq, e4, e7, e8] at hr; subst hr; (first | refine awV ?_ ?_ | refine awW ?_ ?_ | refine endK ?_ ?_ | (refine condK (fun h => ?_) (fun h => ?_) <;> (try simp only [go_sem, reduceCtorEq] at h) <;> (try (exfalso; omega))))) | fail)) <;> (try omega)
    exact ⟨_, by simp only [go_sem, Nat.reduceBEq, Nat.reduceBneDiff, Nat.reduceLT, Nat.reduceLeDiff, Nat.reduceAdd, Nat.reduceMul, Nat.reduceSub, Nat.reduceEqDiff, reduceCtorEq] <;> exact rfl, trivial⟩
  intro y _
  obtain ⟨z, hzz⟩ : ∃ z, min (IntKind.i64.wrap (1 + y)) 10000 = z := ⟨_, rfl⟩
  have happ : v8 l ++ [[vI z]] = v8 (l ++ [z]) := by simp [v8]
  have htk : (v8 l).take l.length = v8 l := take_len (by omega)
  have hl1 : (l ++ [z]).length = l.length + 1 := by simp
  have hgl : (v8 (l ++ [z]))[l.length]? = some [vI z] := by
    have := v8_get (zs := l ++ [z]) (k := l.length) (by omega)
    rw [this, List.getElem_append_right (Nat.le_refl _)]; simp
  by_cases hz : 2000 < z
  · have ez : (2000 < z) = True := eq_true hz
    (repeat' (first
    | exact trivial
    | (with_reducible first | refine awA ?_ | refine awB ?_ | refine awC ?_ | refine awD ?_ | refine awE ?_ | refine awF ?_ | refine awG ?_ | refine awH ?_ | refine awI ?_ | refine awJ ?_ | refine awK ?_ | refine awL ?_ | refine awM (by decide) ?_)
    | (refine aw_draw (id := 11) (t := (.node [0, 1, 2, 3, 4, 5, 6, 7, 8, 9] [])) (drR [7] [46] []) mixed (by kernel_rfl) (by kernel_rfl) (fun _ _ h => h) ?_)
    | (refine at_done (by simp only [List.filterMap_cons, List.filterMap_nil, List.getElem?_toArray, List.getElem?_cons_zero, List.getElem?_cons_succ]; exact rfl) ?_) | (refine at_alt (by simp only [List.filterMap_cons, List.filterMap_nil, List.getElem?_toArray, List.getElem?_cons_zero, List.getElem?_cons_succ]; exact rfl) ?_) | refine qalt_normal ?_ | refine ats_cons ?_ ?_ | exact ats_nil
    | ((with_reducible first | refine awN (tyOf_ok _) [] ?_ | refine awO (tyOf_ok _) [] ?_ | refine awP (tyOf_ok _) [] ?_ | refine awQ ?_ | refine awR ?_ | refine awS ?_); intro r hr; simp only [go_sem, Nat.reduceBEq, Nat.reduceBneDiff, Nat.reduceLT, Nat.reduceLeDiff, Nat.reduceAdd, Nat.reduceMul, Nat.reduceSub, Nat.reduceEqDiff, reduceCtorEq, hv, hzz, happ, htk, hl1, hgl, ez, hw1] at hr; subst hr; (first | refine awV ?_ ?_ | refine awW ?_ ?_ | refine endK ?_ ?_ | (refine condK (fun h => ?_) (fun h => ?_) <;> (try simp only [go_sem, reduceCtorEq] at h) <;> (try (exfalso; omega))))) | fail)) <;> (try omega)
    all_goals exact ⟨_, rfl⟩
  · have ez : (2000 < z) = False := eq_false hz
    (repeat' (first
    | exact trivial
    | (with_reducible first | refine awA ?_ | refine awB ?_ | refine awC ?_ | refine awD ?_ | refine awE ?_ | refine awF ?_ | refine awG ?_ | refine awH ?_ | refine awI ?_ | refine awJ ?_ | refine awK ?_ | refine awL ?_ | refine awM (by decide) ?_)
    | (refine aw_draw (id := 11) (t := (.node [0, 1, 2, 3, 4, 5, 6, 7, 8, 9] [])) (drR [7] [46] []) mixed (by kernel_rfl) (by kernel_rfl) (fun _ _ h => h) ?_)
    | (refine at_done (by simp only [List.filterMap_cons, List.filterMap_nil, List.getElem?_toArray, List.getElem?_cons_zero, List.getElem?_cons_succ]; exact rfl) ?_) | (refine at_alt (by simp only [List.filterMap_cons, List.filterMap_nil, List.getElem?_toArray, List.getElem?_cons_zero, List.getElem?_cons_succ]; exact rfl) ?_) | refine qalt_normal ?_ | refine ats_cons ?_ ?_ | exact ats_nil
    | ((with_reducible first | refine awN (tyOf_ok _) [] ?_ | refine awO (tyOf_ok _) [] ?_ | refine awP (tyOf_ok _) [] ?_ | refine awQ ?_ | refine awR ?_ | refine awS ?_); intro r hr; simp only [go_sem, Nat.reduceBEq, Nat.reduceBneDiff, Nat.reduceLT, Nat.reduceLeDiff, Nat.reduceAdd, Nat.reduceMul, Nat.reduceSub, Nat.reduceEqDiff, reduceCtorEq, hv, hzz, happ, htk, hl1, hgl, ez, hw1] at hr; subst hr; (first | refine awV ?_ ?_ | refine awW ?_ ?_ | refine endK ?_ ?_ | (refine condK (fun h => ?_) (fun h => ?_) <;> (try simp only [go_sem, reduceCtorEq] at h) <;> (try (exfalso; omega))))) | fail)) <;> (try omega)
    all_goals exact ⟨l ++ [z], by simp only [go_sem, Nat.reduceBEq, Nat.reduceBneDiff, Nat.reduceLT, Nat.reduceLeDiff, Nat.reduceAdd, Nat.reduceMul, Nat.reduceSub, Nat.reduceEqDiff, reduceCtorEq, hl1] <;> exact rfl, by rw [hl1]; omega, by rw [hl1]; omega⟩
end Go.Proofs.YtfgacgpicfknpaaDoor
end
section
namespace Go.Proofs.YtfgacgpicfknpaaDoor
open Go.RowKit
set_option maxRecDepth 100000
set_option maxHeartbeats 8000000
/-! mortiselaw11.example, awake. -/
def eS11 : ByteArray := ⟨#[]⟩
def ts11 : List TypeM := [⟨1, 1, 0, []⟩, ⟨3, 0, 0, []⟩, ⟨5, 2, 1, []⟩, ⟨2, 0, 0, []⟩, ⟨1, 2, 0, []⟩, ⟨7, 0, 0, [⟨eS11, 3, 3⟩, ⟨eS11, 5, 4⟩]⟩, ⟨8, 0, 0, [⟨⟨#[97]⟩, 0, 0⟩, ⟨⟨#[98]⟩, 0, 2⟩, ⟨⟨#[99]⟩, 0, 5⟩]⟩]
def ps11 : List Int := [9, 300, 5, 8, -1, 1, 65537]
def vs11 : List NodeM := [⟨4, 0, 3⟩, ⟨1, 44, 0⟩, ⟨3, 0, 2⟩, ⟨1, 8, 0⟩, ⟨1, 18446744073709551615, 0⟩, ⟨6, 5, 1⟩, ⟨1, 1, 0⟩]
def vt11 : List NodeM := [⟨4, 0, 3⟩, ⟨1, 256, 0⟩, ⟨3, 0, 2⟩, ⟨1, 8, 0⟩, ⟨1, 18446744073709551615, 0⟩, ⟨6, 5, 1⟩, ⟨1, 1, 0⟩]
def cs11 : Tr := .node ⟨4, 0, 3⟩ [.node ⟨1, 44, 0⟩ [], .node ⟨3, 0, 2⟩ [.node ⟨1, 8, 0⟩ [], .node ⟨1, 18446744073709551615, 0⟩ []], .node ⟨6, 5, 1⟩ [.node ⟨1, 1, 0⟩ []]]
def ct11 : Tr := .node ⟨4, 0, 3⟩ [.node ⟨1, 256, 0⟩ [], .node ⟨3, 0, 2⟩ [.node ⟨1, 8, 0⟩ [], .node ⟨1, 18446744073709551615, 0⟩ []], .node ⟨6, 5, 1⟩ [.node ⟨1, 1, 0⟩ []]]
theorem some11 : someF ts11 [] 6 ps11 = (vs11, 0) := by kernel_rfl
theorem types11 : typesF ts11 [] 6 vs11 cs11 = ([6, 0, 2, 1, 1, 5, 4], 0, 0) := by kernel_rfl
theorem types11b : typesF ts11 [] 6 vt11 ct11 = ([], 111, 1) := by kernel_rfl
theorem types11c : typesF ts11 [] 7 vt11 ct11 = ([], 3, 0) := by kernel_rfl
theorem h111 : ∀ t ∈ ts11, t.parts.length ≤ 1000000000 := by decide
theorem h112 : ∀ x ∈ vs11, nodeOK x := by unfold nodeOK; decide
theorem h113 : ∀ x ∈ vt11, nodeOK x := by unfold nodeOK; decide
theorem okc11 : (chkN vs11).1 = 0 → cs11.flat = vs11 ∧ cs11.ok := fun _ => ⟨by kernel_rfl, by repeat (first | exact trivial | refine ⟨by decide, by decide, ?_⟩ | refine ⟨?_, ?_⟩)⟩
theorem okt11 : (chkN vt11).1 = 0 → ct11.flat = vt11 ∧ ct11.ok := fun _ => ⟨by kernel_rfl, by repeat (first | exact trivial | refine ⟨by decide, by decide, ?_⟩ | refine ⟨?_, ?_⟩)⟩
theorem example11_any : PCall Tryd.prog 30 [] (fun r => r = .tup [vSch ts11 [], vI 6]) := by
  refine go_fnU (tyOf_ok _) Tryd.func30 rfl rfl (by rw [Tryd.results30]) Tryd.ntmps30 rfl fun E => ?_
  (repeat' (first
    | exact trivial
    | (with_reducible first | refine awA ?_ | refine awB ?_ | refine awC ?_ | refine awD ?_ | refine awE ?_ | refine awF ?_ | refine awG ?_ | refine awH ?_ | refine awI ?_ | refine awJ ?_ | refine awK ?_ | refine awL ?_ | refine awM (by decide) ?_)
    | ((with_reducible first | refine awN (tyOf_ok _) [] ?_ | refine awO (tyOf_ok _) [] ?_ | refine awP (tyOf_ok _) [] ?_ | refine awQ ?_ | refine awR ?_ | refine awS ?_); intro r hr; simp only [go_sem, Nat.reduceBEq, Nat.reduceBneDiff, Nat.reduceLT, Nat.reduceLeDiff, Nat.reduceAdd, Nat.reduceMul, Nat.reduceSub, Nat.reduceEqDiff, reduceCtorEq, Int.cast_ofNat_Int, Int.reduceToNat, Int.reduceEq, Int.reduceLT, Int.reduceLE, Int.reduceNe] at hr; subst hr; (first | refine awV ?_ ?_ | refine awW ?_ ?_ | refine endK ?_ ?_ | (refine condK (fun h => ?_) (fun h => ?_) <;> (try simp only [go_sem, reduceCtorEq] at h) <;> (try (exfalso; omega))))) | fail)) <;> (try omega)
  refine AV.up_tup (AV.up_cons (Up.up (.agg (.cons (.lst ?_) (.cons (.nil _) .nil)))) (AV.up_cons (AV.up_rfl _) AV.up_nilL))
  repeat (first | exact .nil | refine .cons (.cons (.rfl _) (.cons (.rfl _) (.cons (.rfl _) (.cons (.nil _) .nil)))) ?_ | refine .cons (.cons (.rfl _) (.cons (.rfl _) (.cons (.rfl _) (.cons (.rfl _) .nil)))) ?_)
theorem v8_nm11 (l : List Int) : ∀ cs ∈ v8 l, ∀ u ∈ cs, ∃ x, u = .v x := by
  intro cs hcs u hu
  obtain ⟨z, _, rfl⟩ := List.mem_map.1 hcs
  rw [List.mem_singleton] at hu
  exact ⟨_, hu⟩
theorem awake11 : PCall Tryd.prog 8 [] (fun r => r = vB true) := by
  refine go_fn (tyOf_ok _) Tryd.func8 rfl rfl (by rw [Tryd.results8]) Tryd.ntmps8 rfl fun E => ?_
  have hS := tSome_any ts11 [] (by decide) (by decide) h111 6 ps11 (by decide)
  rw [some11] at hS
  have hC := tCheck_any ts11 [] (by decide) (by decide) h111 6 vs11 (by decide) h112 cs11 okc11
  have hT := tTypes_G ts11 [] (by decide) (by decide) h111 6 vs11 (by decide) h112 cs11 okc11
  rw [types11] at hC hT
  have hC2 := tCheck_any ts11 [] (by decide) (by decide) h111 6 vt11 (by decide) h113 ct11 okt11
  rw [types11b] at hC2
  have hC3 := tCheck_any ts11 [] (by decide) (by decide) h111 7 vt11 (by decide) h113 ct11 okt11
  rw [types11c] at hC3
  have hE := equal04_refl vs11 (by decide)
  have hs := sameInts11_any [6, 0, 2, 1, 1, 5, 4] [6, 0, 2, 1, 1, 5, 4] (by decide)
  have hd : decide (([6, 0, 2, 1, 1, 5, 4] : List Int) = [6, 0, 2, 1, 1, 5, 4]) = true := by decide
  rw [hd] at hs
  have hx := example11_any
  (repeat' (first
    | exact trivial
    | (with_reducible first | refine awA ?_ | refine awB ?_ | refine awC ?_ | refine awD ?_ | refine awE ?_ | refine awF ?_ | refine awG ?_ | refine awH ?_ | refine awI ?_ | refine awJ ?_ | refine awK ?_ | refine awL ?_ | refine awM (by decide) ?_)
    | ((with_reducible first | refine awN (tyOf_ok _) [26] ?_ | refine awO (tyOf_ok _) [26] ?_ | refine awP (tyOf_ok _) [26] ?_ | refine awQ ?_ | refine awR ?_ | refine awS ?_); intro r hr; simp only [go_sem, Nat.reduceBEq, Nat.reduceBneDiff, Nat.reduceLT, Nat.reduceLeDiff, Nat.reduceAdd, Nat.reduceMul, Nat.reduceSub, Nat.reduceEqDiff, reduceCtorEq, vSch, Int.cast_ofNat_Int, Int.reduceToNat, Int.reduceEq, Int.reduceLT, Int.reduceLE, Int.reduceNe, List.set_cons_succ, List.set_cons_zero, nilS] at hr; subst hr; (first | refine caC (hx) rfl ?_ ?_ ?_ | refine caC (hS) rfl ?_ ?_ ?_ | refine caA (fun _ => num11_any _) rfl ?_ ?_ ?_ | refine caA (fun _ => hE) rfl ?_ ?_ ?_ | refine caA (fun _ => hC) rfl ?_ ?_ ?_ | refine caA (fun _ => hs) rfl ?_ ?_ ?_ | refine caA (fun _ => hC2) rfl ?_ ?_ ?_ | refine caA (fun _ => hC3) rfl ?_ ?_ ?_ | refine awV ?_ ?_ | refine awW ?_ ?_ | refine endK ?_ ?_ | (refine condK (fun h => ?_) (fun h => ?_) <;> (try simp only [go_sem, reduceCtorEq] at h) <;> (try (exfalso; omega)))))
    | (refine go_callGd 48 rfl [] [(29, 48)] [48] [] (by simp only [go_sem, Nat.reduceBEq, Nat.reduceBneDiff, Nat.reduceLT, Nat.reduceLeDiff, Nat.reduceAdd, Nat.reduceMul, Nat.reduceSub, Nat.reduceEqDiff, reduceCtorEq, vSch, Int.cast_ofNat_Int, Int.reduceToNat, Int.reduceEq, Int.reduceLT, Int.reduceLE, Int.reduceNe, List.set_cons_succ, List.set_cons_zero, nilS]; exact rfl) ?_ rfl rfl (by first | exact .inl rfl | exact .inr rfl) (by simp only [go_sem, Nat.reduceBEq, Nat.reduceBneDiff, Nat.reduceLT, Nat.reduceLeDiff, Nat.reduceAdd, Nat.reduceMul, Nat.reduceSub, Nat.reduceEqDiff, reduceCtorEq, vSch, Int.cast_ofNat_Int, Int.reduceToNat, Int.reduceEq, Int.reduceLT, Int.reduceLE, Int.reduceNe, List.set_cons_succ, List.set_cons_zero, nilS] <;> exact rfl) (hT) (.inr ⟨rfl, ?_⟩) ?_) | fail)) <;> (try omega)
  all_goals first | exact rfl | exact ⟨v8_nm11 _, trivial⟩
end Go.Proofs.YtfgacgpicfknpaaDoor
end
section
namespace Go.Proofs.YtfgacgpicfknpaaDoor
open Go.RowKit
/-! Trees with one node put in another's place. -/
def Tr.put : Tr → Nat → NodeM → Tr
  | .node _ ks, 0, x => .node x ks
  | .node y ks, k + 1, x => .node y (putL ks k x)
where putL : List Tr → Nat → NodeM → List Tr
  | [], _, _ => []
  | c :: cs, k, x => if k < c.flat.length then c.put k x :: cs else c :: putL cs (k - c.flat.length) x
theorem put_flat : ∀ (n : Nat) (c : Tr), c.flat.length ≤ n → ∀ (k : Nat) (x : NodeM), (c.put k x).flat = c.flat.set k x
  | 0, c, h => absurd (flat_pos c) (by omega)
  | n + 1, .node y ks, h => fun k x => by
    simp only [Tr.flat, List.length_cons] at h
    have hL : ∀ (l : List Tr), (∀ c ∈ l, c.flat.length ≤ n) → ∀ k, Tr.flat.flatL (Tr.put.putL l k x) = (Tr.flat.flatL l).set k x := by
      intro l
      induction l with
      | nil => intro _ k; rfl
      | cons c cs ih =>
        intro hc k
        unfold Tr.put.putL
        split
        · rename_i hk
          simp only [Tr.flat.flatL]
          rw [put_flat n c (hc c (.head _)), List.set_append_left _ _ hk]
        · rename_i hk
          simp only [Tr.flat.flatL]
          rw [ih (fun d hd => hc d (.tail _ hd)), List.set_append_right _ _ (by omega)]
    cases k with
    | zero => simp [Tr.put, Tr.flat]
    | succ k => simp only [Tr.put, Tr.flat, List.set_cons_succ]; rw [hL ks (fun c hc => by have := flatL_mem hc; omega)]
theorem put_len (c : Tr) (k : Nat) (x : NodeM) : (c.put k x).flat.length = c.flat.length := by rw [put_flat _ c (Nat.le_refl _), List.length_set]
theorem putL_len : ∀ (l : List Tr) (k : Nat) (x : NodeM), (Tr.put.putL l k x).length = l.length
  | [], _, _ => rfl
  | c :: cs, k, x => by
    unfold Tr.put.putL
    split
    · rfl
    · simp only [List.length_cons, putL_len cs]
/-- a node as good, with as many kids -/
theorem put_ok : ∀ (n : Nat) (c : Tr), c.flat.length ≤ n → c.ok → ∀ (k : Nat) (x : NodeM), rightN x = true → (∀ y, c.flat[k]? = some y → x.kids = y.kids) → (c.put k x).ok
  | 0, c, h => absurd (flat_pos c) (by omega)
  | n + 1, .node y ks, h => fun ⟨h1, h2, h3⟩ k x hx hk => by
    simp only [Tr.flat, List.length_cons] at h
    have hL : ∀ (l : List Tr), (∀ c ∈ l, c.flat.length ≤ n) → Tr.ok.okL l → ∀ k, (∀ y, (Tr.flat.flatL l)[k]? = some y → x.kids = y.kids) → Tr.ok.okL (Tr.put.putL l k x) := by
      intro l
      induction l with
      | nil => intro _ _ k _; trivial
      | cons c cs ih =>
        intro hc ho k hk
        simp only [Tr.flat.flatL] at hk
        unfold Tr.put.putL
        split
        · rename_i hlt
          exact ⟨put_ok n c (hc c (.head _)) ho.1 k x hx (fun y hy => hk y (by rw [List.getElem?_append_left hlt]; exact hy)), ho.2⟩
        · rename_i hlt
          exact ⟨ho.1, ih (fun d hd => hc d (.tail _ hd)) ho.2 _ (fun y hy => hk y (by rw [List.getElem?_append_right (by omega)]; exact hy))⟩
    cases k with
    | zero => exact ⟨hx, by rw [hk y rfl, h2], h3⟩
    | succ k =>
      refine ⟨h1, by rw [putL_len]; exact h2, hL ks (fun c hc => by have := flatL_mem hc; omega) h3 k fun z hz => hk z ?_⟩
      simpa [Tr.flat] using hz
/-- the look from one node on -/
theorem chkL_set : ∀ (l : List NodeM) (k : Nat) (x : NodeM) (w i : Int), (chkL l w i).1 = 0 → (∀ y, l[k]? = some y → x.kids = y.kids) → k < l.length → chkL (l.set k x) w i = if rightN x = true then (0, 0) else (40, i + k)
  | [], k, x, w, i, h, hk, hl => by cases hl
  | y :: l, k, x, w, i, h, hk, hl => by
    have h' := chkL_at _ _ _ h
    unfold chkL at h h'
    split at h
    · cases h
    · rename_i hn
      rw [if_neg hn] at h'
      cases k with
      | zero =>
        rw [List.set_cons_zero, chkL]
        have hxy := hk y rfl
        have hw : ¬ w = 0 := fun e => hn (.inl e)
        cases hr : rightN x with
        | true =>
          rw [if_neg (by simp [hw]), if_pos rfl, hxy]
          exact Prod.ext h h'
        | false => rw [if_pos (.inr rfl)]; simp
      | succ k =>
        rw [List.set_cons_succ, chkL, if_neg hn, chkL_set l k x _ _ h (fun z hz => hk z (by simpa using hz)) (by simp at hl; omega)]
        split
        · rfl
        · rw [Prod.mk.injEq]; exact ⟨rfl, by omega⟩
theorem walkL_cons (ts : List TypeM) (T : TypeM) (m : Int) (c : Tr) (cs : List Tr) (k : Nat) (p : Int) (o : List Int) : Tr.walk.walkL ts T m (c :: cs) k p o = if (c.walk ts (elemF T m k).toNat p o).2.2.1 ≠ 0 then ([], 0, (c.walk ts (elemF T m k).toNat p o).2.2.1, (c.walk ts (elemF T m k).toNat p o).2.2.2)
    else Tr.walk.walkL ts T m cs (k + 1) (c.walk ts (elemF T m k).toNat p o).2.1 (c.walk ts (elemF T m k).toNat p o).1 := rfl
theorem walk_node (ts : List TypeM) (x : NodeM) (ks : List Tr) (t : Nat) (p : Int) (o : List Int) : (Tr.node x ks).walk ts t p o = if fitsF (tyA ts t) x ≠ 0 then ([], 0, fitsF (tyA ts t) x, p) else Tr.walk.walkL ts (tyA ts t) x.n ks 0 (p + 1) (o ++ [(t : Int)]) := rfl
/-- where the fault is does not hang on what has been told before -/
theorem walk_out {ts : List TypeM} : ∀ (n : Nat) (c : Tr), c.flat.length ≤ n → ∀ (t : Nat) (p q : Int) (o1 o2 : List Int), (c.walk ts t p o1).2.2.1 = (c.walk ts t q o2).2.2.1 ∧ ((c.walk ts t p o1).2.2.1 ≠ 0 → (c.walk ts t p o1).2.2.2 - p = (c.walk ts t q o2).2.2.2 - q ∧ p ≤ (c.walk ts t p o1).2.2.2 ∧ (c.walk ts t p o1).2.2.2 < p + c.flat.length)
  | 0, c, h => absurd (flat_pos c) (by omega)
  | n + 1, .node x ks, h => fun t p q o1 o2 => by
    simp only [Tr.flat, List.length_cons] at h
    have hL : ∀ (l : List Tr), (∀ c ∈ l, c.flat.length ≤ n) → ∀ (T : TypeM) (m : Int) (k : Nat) (p q : Int) (o1 o2 : List Int), (Tr.walk.walkL ts T m l k p o1).2.2.1 = (Tr.walk.walkL ts T m l k q o2).2.2.1 ∧ ((Tr.walk.walkL ts T m l k p o1).2.2.1 ≠ 0 → (Tr.walk.walkL ts T m l k p o1).2.2.2 - p = (Tr.walk.walkL ts T m l k q o2).2.2.2 - q ∧ p ≤ (Tr.walk.walkL ts T m l k p o1).2.2.2 ∧ (Tr.walk.walkL ts T m l k p o1).2.2.2 < p + (Tr.flat.flatL l).length) := by
      intro l
      induction l with
      | nil => intro _ T m k p q o1 o2; exact ⟨rfl, fun h => absurd rfl h⟩
      | cons c cs ih =>
        intro hc T m k p q o1 o2
        have h1 := walk_out (ts := ts) n c (hc c (.head _)) (elemF T m k).toNat p q o1 o2
        simp only [Tr.flat.flatL, List.length_append]
        rw [walkL_cons, walkL_cons]
        by_cases he : (c.walk ts (elemF T m k).toNat p o1).2.2.1 = 0
        · have he2 := h1.1 ▸ he
          have l1 := walk_len ts n c (hc c (.head _)) (elemF T m k).toNat p o1 he
          have l2 := walk_len ts n c (hc c (.head _)) (elemF T m k).toNat q o2 he2
          rw [if_neg (by omega), if_neg (by omega), l1.1, l2.1]
          have h2 := ih (fun d hd => hc d (.tail _ hd)) T m (k + 1) (p + c.flat.length) (q + c.flat.length) (c.walk ts (elemF T m k).toNat p o1).1 (c.walk ts (elemF T m k).toNat q o2).1
          refine ⟨h2.1, fun hn => ?_⟩
          have h3 := h2.2 hn
          exact ⟨by omega, by omega, by omega⟩
        · have he2 := h1.1 ▸ he
          rw [if_pos he, if_pos he2]
          refine ⟨h1.1, fun hn => ?_⟩
          have h3 := h1.2 hn
          exact ⟨h3.1, h3.2.1, by simp only; omega⟩
    simp only [Tr.flat, List.length_cons]
    rw [walk_node, walk_node]
    split
    · exact ⟨rfl, fun _ => ⟨by simp only; omega, by simp only; omega, by simp only; omega⟩⟩
    · have h2 := hL ks (fun c hc => by have := flatL_mem hc; omega) (tyA ts t) x.n 0 (p + 1) (q + 1) (o1 ++ [(t : Int)]) (o2 ++ [(t : Int)])
      refine ⟨h2.1, fun hn => ?_⟩
      have h3 := h2.2 hn
      exact ⟨by omega, by omega, by omega⟩
/-- a node behind the fault may be another one -/
theorem walk_put {ts : List TypeM} : ∀ (n : Nat) (c : Tr), c.flat.length ≤ n → ∀ (t j : Nat) (y : NodeM) (p : Int) (o : List Int), (c.walk ts t p o).2.2.1 ≠ 0 → (c.walk ts t p o).2.2.2 < p + j → ((c.put j y).walk ts t p o).2.2 = (c.walk ts t p o).2.2
  | 0, c, h => absurd (flat_pos c) (by omega)
  | n + 1, .node x ks, h => fun t j y p o h1 h2 => by
    have hb := ((walk_out (ts := ts) _ (.node x ks) (Nat.le_refl _) t p p o o).2 h1).2.1
    simp only [Tr.flat, List.length_cons] at h
    have hL : ∀ (l : List Tr), (∀ c ∈ l, c.flat.length ≤ n) → ∀ (T : TypeM) (m : Int) (k j : Nat) (p : Int) (o : List Int), (Tr.walk.walkL ts T m l k p o).2.2.1 ≠ 0 → (Tr.walk.walkL ts T m l k p o).2.2.2 < p + j → (Tr.walk.walkL ts T m (Tr.put.putL l j y) k p o).2.2 = (Tr.walk.walkL ts T m l k p o).2.2 := by
      intro l
      induction l with
      | nil => intro _ T m k j p o h; exact absurd rfl h
      | cons c cs ih =>
        intro hc T m k j p o h1 h2
        unfold Tr.put.putL
        rw [walkL_cons] at h1 h2 ⊢
        by_cases he : (c.walk ts (elemF T m k).toNat p o).2.2.1 = 0
        · have l1 := walk_len ts n c (hc c (.head _)) (elemF T m k).toNat p o he
          have hne : ¬ ((c.walk ts (elemF T m k).toNat p o).2.2.1 ≠ 0) := by omega
          rw [if_neg hne] at h1 h2 ⊢
          rw [l1.1] at h1 h2 ⊢
          have hb2 : ∀ (l : List Tr) (T : TypeM) (m : Int) (k : Nat) (p : Int) (o : List Int), (Tr.walk.walkL ts T m l k p o).2.2.1 ≠ 0 → p ≤ (Tr.walk.walkL ts T m l k p o).2.2.2 := by
            intro l
            induction l with
            | nil => intro _ _ _ _ _ h; exact absurd rfl h
            | cons d ds ihd =>
              intro T m k p o h
              rw [walkL_cons] at h ⊢
              by_cases hd : (d.walk ts (elemF T m k).toNat p o).2.2.1 = 0
              · have l2 := walk_len ts _ d (Nat.le_refl _) (elemF T m k).toNat p o hd
                rw [if_neg (by omega)] at h ⊢
                rw [l2.1] at h ⊢
                have := ihd _ _ _ _ _ h
                omega
              · rw [if_pos hd]
                exact ((walk_out (ts := ts) _ d (Nat.le_refl _) (elemF T m k).toNat p p o o).2 hd).2.1
          have h3 := hb2 _ _ _ _ _ _ h1
          rw [if_neg (show ¬ j < c.flat.length by omega)]
          rw [walkL_cons]
          rw [if_neg (by omega), l1.1]
          exact ih (fun d hd => hc d (.tail _ hd)) T m (k + 1) (j - c.flat.length) _ _ h1 (by omega)
        · rw [if_pos he] at h1 h2 ⊢
          by_cases hj : j < c.flat.length
          · rw [if_pos hj]
            rw [walkL_cons]
            have h3 := walk_put n c (hc c (.head _)) (elemF T m k).toNat j y p o he h2
            rw [if_pos (by rw [h3]; exact he), h3]
          · rw [if_neg hj]
            rw [walkL_cons]
            rw [if_pos he]
    cases j with
    | zero => exact absurd h2 (by omega)
    | succ j =>
      rw [Tr.put]
      rw [walk_node] at h1 h2 ⊢
      rw [walk_node]
      by_cases hf : fitsF (tyA ts t) x = 0
      · have hne : ¬ (fitsF (tyA ts t) x ≠ 0) := by omega
        rw [if_neg hne] at h1 h2 ⊢
        rw [if_neg hne]
        exact hL ks (fun c hc => by have := flatL_mem hc; omega) _ _ 0 j _ _ h1 (by omega)
      · rw [if_pos hf, if_pos hf]
end Go.Proofs.YtfgacgpicfknpaaDoor
end
section
namespace Go.Proofs.YtfgacgpicfknpaaDoor
open Go.RowKit
set_option maxRecDepth 100000
set_option maxHeartbeats 8000000
/-! mortiseref04.behind, Next; mortiseref11.Some; mortiselaw11.mustSome. -/
theorem behind_any (V : List NodeM) (hV : V.length ≤ 1000000000) (k0 : Nat) (d : Tr) (B : List NodeM) (hd : V.drop k0 = d.flat ++ B) (ho : d.ok) :
    PCall Tryd.prog 42 [.lst 3 (encNs V), vI k0] (fun r => r = vI ((k0 + d.flat.length : Nat) : Int)) := by
  refine go_fn (tyOf_ok _) Tryd.func42 rfl rfl (by rw [Tryd.results42]) Tryd.ntmps42 rfl fun E => ?_
  (repeat' (first
    | exact trivial
    | (with_reducible first | refine awA ?_ | refine awB ?_ | refine awC ?_ | refine awD ?_ | refine awE ?_ | refine awF ?_ | refine awG ?_ | refine awH ?_ | refine awI ?_ | refine awJ ?_ | refine awK ?_ | refine awL ?_ | refine awM (by decide) ?_)
    | ((with_reducible first | refine awN (tyOf_ok _) [] ?_ | refine awO (tyOf_ok _) [] ?_ | refine awP (tyOf_ok _) [] ?_ | refine awQ ?_ | refine awR ?_ | refine awS ?_); intro r hr; simp only [go_sem, Nat.reduceBEq, Nat.reduceBneDiff, Nat.reduceLT, Nat.reduceLeDiff, Nat.reduceAdd, Nat.reduceMul, Nat.reduceSub, Nat.reduceEqDiff, reduceCtorEq] at hr; subst hr; (first | refine awV ?_ ?_ | refine awW ?_ ?_ | refine endK ?_ ?_ | (refine condK (fun h => ?_) (fun h => ?_) <;> (try simp only [go_sem, reduceCtorEq] at h) <;> (try (exfalso; omega))))) | fail)) <;> (try omega)
  have hlen := congrArg List.length hd
  simp only [List.length_drop, List.length_append] at hlen
  have hpos := flat_pos d
  refine go_loop [0, 1, 5] [] (fun q : Nat × Nat => ⟨[(0, true, .lst 3 (encNs V)), (1, true, vI q.1), (5, true, vI q.2)], []⟩)
    (fun q => q.1 ≤ V.length ∧ ∃ cs : List Tr, V.drop q.1 = Tr.flat.flatL cs ++ B ∧ Tr.ok.okL cs ∧ q.2 = cs.length ∧ q.1 + (Tr.flat.flatL cs).length = k0 + d.flat.length) (fun q => V.length - q.1) (k0, 1) (by simp only [go_sem, Nat.reduceBEq, Nat.reduceBneDiff, Nat.reduceLT, Nat.reduceLeDiff, Nat.reduceAdd, Nat.reduceMul, Nat.reduceSub, Nat.reduceEqDiff, reduceCtorEq]; exact rfl)
    ⟨by simp only; omega, [d], by simpa [Tr.flat.flatL] using hd, ⟨ho, trivial⟩, rfl, by simp [Tr.flat.flatL]⟩ ?_
  intro ⟨k, w⟩ ⟨hk, cs, hdr, hok, hw, hs⟩
  simp only at hk hdr hw hs
  cases cs with
  | nil =>
    simp only [List.length_nil] at hw
    simp only [Tr.flat.flatL, List.length_nil, Nat.add_zero] at hs
    subst hw
    subst hs
    (repeat' (first
    | exact trivial
    | (with_reducible first | refine awA ?_ | refine awB ?_ | refine awC ?_ | refine awD ?_ | refine awE ?_ | refine awF ?_ | refine awG ?_ | refine awH ?_ | refine awI ?_ | refine awJ ?_ | refine awK ?_ | refine awL ?_ | refine awM (by decide) ?_)
    | ((with_reducible first | refine awN (tyOf_ok _) [] ?_ | refine awO (tyOf_ok _) [] ?_ | refine awP (tyOf_ok _) [] ?_ | refine awQ ?_ | refine awR ?_ | refine awS ?_); intro r hr; simp only [go_sem, Nat.reduceBEq, Nat.reduceBneDiff, Nat.reduceLT, Nat.reduceLeDiff, Nat.reduceAdd, Nat.reduceMul, Nat.reduceSub, Nat.reduceEqDiff, reduceCtorEq] at hr; subst hr; (first | refine awV ?_ ?_ | refine awW ?_ ?_ | refine endK ?_ ?_ | (refine condK (fun h => ?_) (fun h => ?_) <;> (try simp only [go_sem, reduceCtorEq] at h) <;> (try (exfalso; omega))))) | fail)) <;> (try omega)
    all_goals exact rfl
  | cons c cs =>
    obtain ⟨x, ks⟩ := c
    obtain ⟨⟨o1, o2, o3⟩, o4⟩ := hok
    have hf : Tr.flat.flatL (Tr.node x ks :: cs) = x :: Tr.flat.flatL (ks ++ cs) := by rw [flatL_app]; rfl
    rw [hf] at hdr hs
    have hl2 := congrArg List.length hdr
    simp only [List.length_drop, List.length_append, List.length_cons] at hl2
    have hlt : k < V.length := by omega
    rw [List.drop_eq_getElem_cons hlt, List.cons_append] at hdr
    injection hdr with hx hdr
    have g1 := encNs_get hlt
    rw [hx] at g1
    have hkk := rightN_kids o1
    have ht := tflatL_len (ks ++ cs)
    simp only [List.length_append] at ht
    simp only [List.length_cons] at hw
    subst hw
    have e1 : (0 < (((cs.length + 1 : Nat)) : Int)) = True := eq_true (by omega)
    have hw1 := wrap_i64 (n := ((cs.length + 1 : Nat) : Int) - 1) (by omega)
    have hw2 := wrap_i64 (n := ((cs.length + 1 : Nat) : Int) - 1 + x.kids) (by omega)
    have hw3 := wrap_i64 (n := (k : Int) + 1) (by omega)
    have zk : ((k : Int)).toNat = k := by omega
    have hnx : ((cs.length + 1 : Nat) : Int) - 1 + x.kids = ((ks ++ cs).length : Nat) := by rw [List.length_append]; omega
    rw [hnx] at hw2
    generalize hcl : ((cs.length + 1 : Nat) : Int) = W at *
    (repeat' (first
    | exact trivial
    | (with_reducible first | refine awA ?_ | refine awB ?_ | refine awC ?_ | refine awD ?_ | refine awE ?_ | refine awF ?_ | refine awG ?_ | refine awH ?_ | refine awI ?_ | refine awJ ?_ | refine awK ?_ | refine awL ?_ | refine awM (by decide) ?_)
    | ((with_reducible first | refine awN (tyOf_ok _) [] ?_ | refine awO (tyOf_ok _) [] ?_ | refine awP (tyOf_ok _) [] ?_ | refine awQ ?_ | refine awR ?_ | refine awS ?_); intro r hr; simp only [go_sem, Nat.reduceBEq, Nat.reduceBneDiff, Nat.reduceLT, Nat.reduceLeDiff, Nat.reduceAdd, Nat.reduceMul, Nat.reduceSub, Nat.reduceEqDiff, reduceCtorEq, g1, e1, hw1, hnx, hw2, hw3, zk] at hr; subst hr; (first | refine awV ?_ ?_ | refine awW ?_ ?_ | refine endK ?_ ?_ | (refine condK (fun h => ?_) (fun h => ?_) <;> (try simp only [go_sem, reduceCtorEq] at h) <;> (try (exfalso; omega))))) | fail)) <;> (try omega)
    all_goals exact ⟨(k + 1, (ks ++ cs).length), by simp only [go_sem, Nat.reduceBEq, Nat.reduceBneDiff, Nat.reduceLT, Nat.reduceLeDiff, Nat.reduceAdd, Nat.reduceMul, Nat.reduceSub, Nat.reduceEqDiff, reduceCtorEq] <;> exact rfl, ⟨hlt, ks ++ cs, hdr, okL_appT o3 o4, rfl, by simp only [List.length_cons] at hs ⊢; omega⟩, by simp only; omega⟩
theorem next04_any (V : List NodeM) (hV : V.length ≤ 1000000000) (h0 : (chkN V).1 = 0) (k : Nat) (d : Tr) (B : List NodeM) (hd : V.drop k = d.flat ++ B) (ho : d.ok) :
    PCall Tryd.prog 29 [.lst 3 (encNs V), vI k] (fun r => r = .tup [vI ((k + d.flat.length : Nat) : Int), vI 0]) := by
  refine go_fn (tyOf_ok _) Tryd.func29 rfl rfl (by rw [Tryd.results29]) Tryd.ntmps29 rfl fun E => ?_
  have hlen := congrArg List.length hd
  simp only [List.length_drop, List.length_append] at hlen
  have hpos := flat_pos d
  have hC := check04_any V hV
  have hB := behind_any V hV k d B hd ho
  rw [h0] at hC
  generalize (chkN V).2 = C2 at *
  generalize k + d.flat.length = nx at *
  have e1 : ((k : Int) < 0) = False := eq_false (by omega)
  have e2 : ((V.length : Int) ≤ k) = False := eq_false (by omega)
  (repeat' (first
    | exact trivial
    | (with_reducible first | refine awA ?_ | refine awB ?_ | refine awC ?_ | refine awD ?_ | refine awE ?_ | refine awF ?_ | refine awG ?_ | refine awH ?_ | refine awI ?_ | refine awJ ?_ | refine awK ?_ | refine awL ?_ | refine awM (by decide) ?_)
    | ((with_reducible first | refine awN (tyOf_ok _) [] ?_ | refine awO (tyOf_ok _) [] ?_ | refine awP (tyOf_ok _) [] ?_ | refine awQ ?_ | refine awR ?_ | refine awS ?_); intro r hr; simp only [go_sem, Nat.reduceBEq, Nat.reduceBneDiff, Nat.reduceLT, Nat.reduceLeDiff, Nat.reduceAdd, Nat.reduceMul, Nat.reduceSub, Nat.reduceEqDiff, reduceCtorEq, e1, e2] at hr; subst hr; (first | refine caA (fun _ => hC) rfl ?_ ?_ ?_ | refine caA (fun _ => hB) rfl ?_ ?_ ?_ | refine awV ?_ ?_ | refine awW ?_ ?_ | refine endK ?_ ?_ | (refine condK (fun h => ?_) (fun h => ?_) <;> (try simp only [go_sem, reduceCtorEq] at h) <;> (try (exfalso; omega))))) | fail)) <;> (try omega)
  all_goals exact rfl
theorem rSome11_any (ts : List TypeM) (rs : List RootM) (hts : ts.length ≤ 1000000000) (hrs : rs.length ≤ 1000000000) (hp : ∀ t ∈ ts, t.parts.length ≤ 1000000000) (hg : ∀ t ∈ ts, ∀ p ∈ t.parts, I64 p.tag) (t : Int) (ht : I64 t) (ps : List Int) (hps : ps.length ≤ 1000000000) :
    PCall Tryd.prog 20 [vSch ts rs, vI t, .lst 1 (v8 ps)] (fun r => r = .tup [.lst 3 (encNs (someF ts rs t ps).1), vI (someF ts rs t ps).2]) := by
  refine go_fn (tyOf_ok _) Tryd.func20 rfl rfl (by rw [Tryd.results20]) Tryd.ntmps20 rfl fun E => ?_
  have h := Some_any ts rs hts hrs hp hg t ht ps hps
  generalize someF ts rs t ps = q at *
  unfold vSch at h
  (repeat' (first
    | exact trivial
    | (with_reducible first | refine awA ?_ | refine awB ?_ | refine awC ?_ | refine awD ?_ | refine awE ?_ | refine awF ?_ | refine awG ?_ | refine awH ?_ | refine awI ?_ | refine awJ ?_ | refine awK ?_ | refine awL ?_ | refine awM (by decide) ?_)
    | ((with_reducible first | refine awN (tyOf_ok _) [] ?_ | refine awO (tyOf_ok _) [] ?_ | refine awP (tyOf_ok _) [] ?_ | refine awQ ?_ | refine awR ?_ | refine awS ?_); intro r hr; simp only [go_sem, Nat.reduceBEq, Nat.reduceBneDiff, Nat.reduceLT, Nat.reduceLeDiff, Nat.reduceAdd, Nat.reduceMul, Nat.reduceSub, Nat.reduceEqDiff, reduceCtorEq, vSch] at hr; subst hr; (first | refine caC (h) rfl ?_ ?_ ?_ | refine awV ?_ ?_ | refine awW ?_ ?_ | refine endK ?_ ?_ | (refine condK (fun h => ?_) (fun h => ?_) <;> (try simp only [go_sem, reduceCtorEq] at h) <;> (try (exfalso; omega))))) | fail)) <;> (try omega)
  exact rfl
theorem mustSome_any (ts : List TypeM) (rs : List RootM) (hts : ts.length ≤ 1000000000) (hrs : rs.length ≤ 1000000000) (hp : ∀ t ∈ ts, t.parts.length ≤ 1000000000) (hg : ∀ t ∈ ts, ∀ p ∈ t.parts, I64 p.tag) (t : Int) (ht : I64 t) (ps : List Int) (hps : ps.length ≤ 1000000000) :
    PCall Tryd.prog 28 [vSch ts rs, vI t, .lst 1 (v8 ps)] (fun r => r = .lst 3 (encNs (someF ts rs t ps).1)) := by
  refine go_fn (tyOf_ok _) Tryd.func28 rfl rfl (by rw [Tryd.results28]) Tryd.ntmps28 rfl fun E => ?_
  have h := rSome11_any ts rs hts hrs hp hg t ht ps hps
  generalize someF ts rs t ps = q at *
  unfold vSch at h
  (repeat' (first
    | exact trivial
    | (with_reducible first | refine awA ?_ | refine awB ?_ | refine awC ?_ | refine awD ?_ | refine awE ?_ | refine awF ?_ | refine awG ?_ | refine awH ?_ | refine awI ?_ | refine awJ ?_ | refine awK ?_ | refine awL ?_ | refine awM (by decide) ?_)
    | ((with_reducible first | refine awN (tyOf_ok _) [] ?_ | refine awO (tyOf_ok _) [] ?_ | refine awP (tyOf_ok _) [] ?_ | refine awQ ?_ | refine awR ?_ | refine awS ?_); intro r hr; simp only [go_sem, Nat.reduceBEq, Nat.reduceBneDiff, Nat.reduceLT, Nat.reduceLeDiff, Nat.reduceAdd, Nat.reduceMul, Nat.reduceSub, Nat.reduceEqDiff, reduceCtorEq, vSch] at hr; subst hr; (first | refine caC (h) rfl ?_ ?_ ?_ | refine awV ?_ ?_ | refine awW ?_ ?_ | refine endK ?_ ?_ | (refine condK (fun h => ?_) (fun h => ?_) <;> (try simp only [go_sem, reduceCtorEq] at h) <;> (try (exfalso; omega))))) | fail)) <;> (try omega)
  exact rfl
end Go.Proofs.YtfgacgpicfknpaaDoor
end
section
namespace Go.Proofs.YtfgacgpicfknpaaDoor
open Go.RowKit
set_option maxRecDepth 100000
set_option maxHeartbeats 8000000
/-! mortiselaw11.made: a schema that may be, one of its types, picks. -/
theorem cut11_any (ts : List TypeM) (rs : List RootM) (hts : ts.length ≤ 1000000000) (hrs : rs.length ≤ 1000000000) (hp : ∀ t ∈ ts, t.parts.length ≤ 1000000000) :
    PCall Tryd.prog 9 [vSch ts rs] (fun r => r = vSch (cutT ts) (rs.take 260)) := by
  have h := (cut11_G ts rs hts hrs hp).toP (by simp [cutV, cutO, AV.snapOK, AV.snapOK.snapOKL, lk, encTs_len, encRs_len])
  refine h.mono fun r hr => hr.trans ?_
  have e1 : (encTs (cutT ts)).take (cutT ts).length = encTs (cutT ts) := take_len (by rw [encTs_len]; exact Nat.le_refl _)
  have e2 : (encRs (rs.take 260)).take (rs.take 260).length = encRs (rs.take 260) := take_len (by rw [encRs_len]; exact Nat.le_refl _)
  simp only [cutV, cutO, AV.snap, AV.snap.snapL, lk, vSch, Nat.zero_add, List.drop_zero, Nat.reduceBEq, cond_true, cond_false, e1, e2]
/-- what it answers -/
def Made11 (ts : List TypeM) (rs : List RootM) (a : Int) (ps : List Int) (r : AV) : Prop :=
  r = .tup [vSch ts rs, vI 0, nilS, vB false] ∨
  (r = .tup [vSch ts rs, vI (a % ts.length), .lst 1 (v8 (tameF ts (ps.take 300))), vB true] ∧ (checkF ts rs).1 = 0 ∧ 0 < ts.length)
theorem made_any (ts0 : List TypeM) (rs0 : List RootM) (hts : ts0.length ≤ 1048576) (hrs : rs0.length ≤ 1048576) (hp : ∀ t ∈ ts0, t.parts.length ≤ 1000000000) (a : Int) (ha : I64 a) (ps : List Int) (hps : ps.length ≤ 1048576) :
    PCall Tryd.prog 23 [vSch ts0 rs0, vI a, .lst 1 (v8 ps)] (Made11 (cutT ts0) (rs0.take 260) a ps) := by
  refine go_fn (tyOf_ok _) Tryd.func23 rfl rfl (by rw [Tryd.results23]) Tryd.ntmps23 rfl fun E => ?_
  have hcut := cut11_any ts0 rs0 (by omega) (by omega) hp
  have hl0 := cutT_len ts0
  have hrl0 : (rs0.take 260).length ≤ 260 := by simp; omega
  have hpp := cutT_parts (ts := ts0)
  generalize cutT ts0 = ts at *
  generalize rs0.take 260 = rs at *
  have hpp' : ∀ t ∈ ts, t.parts.length ≤ 1000000000 := fun t ht => by have := hpp t ht; omega
  have hck := rcheck_any ts rs (by omega) (by omega) hpp'
  unfold vF at hck
  unfold vSch at hck
  by_cases h0 : (checkF ts rs).1 = 0
  case neg =>
    have e0 : ((checkF ts rs).1 = 0) = False := eq_false h0
    generalize hF : (checkF ts rs) = F at *
    (repeat' (first
    | exact trivial
    | (with_reducible first | refine awA ?_ | refine awB ?_ | refine awC ?_ | refine awD ?_ | refine awE ?_ | refine awF ?_ | refine awG ?_ | refine awH ?_ | refine awI ?_ | refine awJ ?_ | refine awK ?_ | refine awL ?_ | refine awM (by decide) ?_)
    | (refine aw_draw (id := 7) (t := (.node [0, 1, 2, 3, 4, 5, 6, 7, 8, 9, 10, 11, 12, 13] [])) (drR [10] [] [43]) mixed (by kernel_rfl) (by kernel_rfl) (fun _ _ h => h) ?_)
    | (refine at_done (by simp only [List.filterMap_cons, List.filterMap_nil, List.getElem?_toArray, List.getElem?_cons_zero, List.getElem?_cons_succ]; exact rfl) ?_) | (refine at_alt (by simp only [List.filterMap_cons, List.filterMap_nil, List.getElem?_toArray, List.getElem?_cons_zero, List.getElem?_cons_succ]; exact rfl) ?_) | refine qalt_normal ?_ | refine ats_cons ?_ ?_ | exact ats_nil
    | ((with_reducible first | refine awN (tyOf_ok _) [] ?_ | refine awO (tyOf_ok _) [] ?_ | refine awP (tyOf_ok _) [] ?_ | refine awQ ?_ | refine awR ?_ | refine awS ?_); intro r hr; simp only [go_sem, Nat.reduceBEq, Nat.reduceBneDiff, Nat.reduceLT, Nat.reduceLeDiff, Nat.reduceAdd, Nat.reduceMul, Nat.reduceSub, Nat.reduceEqDiff, reduceCtorEq, vSch, e0] at hr; subst hr; (first | refine caC (hcut) rfl ?_ ?_ ?_ | refine caA (fun _ => hck) rfl ?_ ?_ ?_ | refine awV ?_ ?_ | refine awW ?_ ?_ | refine endK ?_ ?_ | (refine condK (fun h => ?_) (fun h => ?_) <;> (try simp only [go_sem, reduceCtorEq] at h) <;> (try (exfalso; omega))))) | fail)) <;> (try omega)
    all_goals exact .inl rfl
  by_cases he : ts.length = 0
  · have e1 : ((ts.length : Int) = 0) = True := eq_true (by omega)
    rw [h0] at hck
    generalize (checkF ts rs).2 = C2 at *
    (repeat' (first
    | exact trivial
    | (with_reducible first | refine awA ?_ | refine awB ?_ | refine awC ?_ | refine awD ?_ | refine awE ?_ | refine awF ?_ | refine awG ?_ | refine awH ?_ | refine awI ?_ | refine awJ ?_ | refine awK ?_ | refine awL ?_ | refine awM (by decide) ?_)
    | (refine aw_draw (id := 7) (t := (.node [0, 1, 2, 3, 4, 5, 6, 7, 8, 9, 10, 11, 12, 13] [])) (drR [10] [] [43]) mixed (by kernel_rfl) (by kernel_rfl) (fun _ _ h => h) ?_)
    | (refine at_done (by simp only [List.filterMap_cons, List.filterMap_nil, List.getElem?_toArray, List.getElem?_cons_zero, List.getElem?_cons_succ]; exact rfl) ?_) | (refine at_alt (by simp only [List.filterMap_cons, List.filterMap_nil, List.getElem?_toArray, List.getElem?_cons_zero, List.getElem?_cons_succ]; exact rfl) ?_) | refine qalt_normal ?_ | refine ats_cons ?_ ?_ | exact ats_nil
    | ((with_reducible first | refine awN (tyOf_ok _) [] ?_ | refine awO (tyOf_ok _) [] ?_ | refine awP (tyOf_ok _) [] ?_ | refine awQ ?_ | refine awR ?_ | refine awS ?_); intro r hr; simp only [go_sem, Nat.reduceBEq, Nat.reduceBneDiff, Nat.reduceLT, Nat.reduceLeDiff, Nat.reduceAdd, Nat.reduceMul, Nat.reduceSub, Nat.reduceEqDiff, reduceCtorEq, vSch, e1, encTs_len] at hr; subst hr; (first | refine caC (hcut) rfl ?_ ?_ ?_ | refine caA (fun _ => hck) rfl ?_ ?_ ?_ | refine awV ?_ ?_ | refine awW ?_ ?_ | refine endK ?_ ?_ | (refine condK (fun h => ?_) (fun h => ?_) <;> (try simp only [go_sem, reduceCtorEq] at h) <;> (try (exfalso; omega))))) | fail)) <;> (try omega)
    all_goals exact .inl rfl
  have e1 : ((ts.length : Int) = 0) = False := eq_false (by omega)
  have hre := rest11_any a ts.length ha (by omega)
  have hLi := light_any ts rs (by omega) (by omega) hpp' (a % ts.length)
  have hT := tame_G ts rs (by omega) (ps.take 300) (by simp; omega)
  have hmin : ((min (ps.length : Int) 300)).toNat = min 300 ps.length := by omega
  have hR : ps.take (min 300 ps.length) = ps.take 300 := List.take_eq_take_iff.2 (by omega)
  have hl3 : (ps.take 300).length = min 300 ps.length := by simp
  have htl := tameF_len ts (ps.take 300)
  have hok : ∀ r, r = AV.tup [vSch ts rs, vI (a % ts.length), .lst 1 (v8 (tameF ts (ps.take 300))), vB true] → Made11 ts rs a ps r := fun r h => .inr ⟨h, h0, by omega⟩
  rw [h0] at hck
  generalize hC2 : (checkF ts rs).2 = C2 at *
  generalize tameF ts (ps.take 300) = qs at *
  unfold vSch at hLi hT
  rw [hl3] at hT htl
  (repeat' (first
    | exact trivial
    | (obtain ⟨b, rfl⟩ := hr)
    | (with_reducible first | refine awA ?_ | refine awB ?_ | refine awC ?_ | refine awD ?_ | refine awE ?_ | refine awF ?_ | refine awG ?_ | refine awH ?_ | refine awI ?_ | refine awJ ?_ | refine awK ?_ | refine awL ?_ | refine awM (by decide) ?_)
    | (refine aw_draw (id := 7) (t := (.node [0, 1, 2, 3, 4, 5, 6, 7, 8, 9, 10, 11, 12, 13] [])) (drR [10] [] [43]) mixed (by kernel_rfl) (by kernel_rfl) (fun _ _ h => h) ?_)
    | (refine at_done (by simp only [List.filterMap_cons, List.filterMap_nil, List.getElem?_toArray, List.getElem?_cons_zero, List.getElem?_cons_succ]; exact rfl) ?_) | (refine at_alt (by simp only [List.filterMap_cons, List.filterMap_nil, List.getElem?_toArray, List.getElem?_cons_zero, List.getElem?_cons_succ]; exact rfl) ?_) | refine qalt_normal ?_ | refine ats_cons ?_ ?_ | exact ats_nil
    | ((with_reducible first | refine awN (tyOf_ok _) [] ?_ | refine awO (tyOf_ok _) [] ?_ | refine awP (tyOf_ok _) [] ?_ | refine awQ ?_ | refine awR ?_ | refine awS ?_); intro r hr; simp only [go_sem, Nat.reduceBEq, Nat.reduceBneDiff, Nat.reduceLT, Nat.reduceLeDiff, Nat.reduceAdd, Nat.reduceMul, Nat.reduceSub, Nat.reduceEqDiff, reduceCtorEq, vSch, e1, encTs_len, hmin, hR, v8_take, hl3, v8_len, Int.toNat_zero, List.drop_zero] at hr; subst hr; (first | refine caC (hcut) rfl ?_ ?_ ?_ | refine caA (fun _ => hck) rfl ?_ ?_ ?_ | refine caA (fun _ => hre) rfl ?_ ?_ ?_ | refine caD (hLi) rfl ?_ ?_ (fun r hr => ?_) | refine awV ?_ ?_ | refine awW ?_ ?_ | refine endK ?_ ?_ | (refine condK (fun h => ?_) (fun h => ?_) <;> (try simp only [go_sem, reduceCtorEq] at h) <;> (try (exfalso; omega)))))
    | (refine go_callGE [(42, 10000)] [(10000, 42)] [] [42] ?_; intro r hr; simp only [go_sem, Nat.reduceBEq, Nat.reduceBneDiff, Nat.reduceLT, Nat.reduceLeDiff, Nat.reduceAdd, Nat.reduceMul, Nat.reduceSub, Nat.reduceEqDiff, reduceCtorEq, vSch, e1, encTs_len, hmin, hR, v8_take, hl3, v8_len, Int.toNat_zero, List.drop_zero] at hr; subst hr; refine callGK (hT) rfl rfl (by first | exact .inl rfl | exact .inr rfl) ?_ (.inl rfl) ?_) | fail)) <;> (try omega)
  all_goals first | exact .inl rfl | exact hok _ (by rw [take_len (by omega)]; exact rfl)
end Go.Proofs.YtfgacgpicfknpaaDoor
end
section
namespace Go.Proofs.YtfgacgpicfknpaaDoor
open Go.RowKit
set_option maxRecDepth 100000
set_option maxHeartbeats 8000000
/-! TypingMakes. -/
/-- what Some answers under a schema that may be -/
theorem some_cases {ts : List TypeM} {rs : List RootM} (h0 : (checkF ts rs).1 = 0) {t : Nat} (ht : t < ts.length) (ps : List Int) :
    (someF ts rs t ps).2 = 5 ∨ ((someF ts rs t ps).2 = 0 ∧ ∃ c : Tr, c = madeT ts ps t ∧ c.flat = (someF ts rs t ps).1 ∧ c.typed ts t ∧ (∀ x ∈ c.flat, nodeOK x) ∧ c.flat.length ≤ 1048576) := by
  have hr := check_right h0
  unfold someF
  rw [if_neg (by omega), if_neg (by omega)]
  by_cases hb : 1048576 < (madeT ts ps t).flat.length
  · rw [if_pos hb]; exact .inl rfl
  · rw [if_neg hb]
    refine .inr ⟨rfl, _, rfl, rfl, ?_, ?_, by omega⟩
    · unfold madeT; rw [Int.toNat_natCast]; exact mkT_typed hr ts.length t ht ht 0
    · unfold madeT; rw [Int.toNat_natCast]; exact mkT_node hr ts.length t ht ht 0
/-- its picks lead to it -/
theorem some_back {ts : List TypeM} {rs : List RootM} (h0 : (checkF ts rs).1 = 0) {t : Nat} (ht : t < ts.length) {c : Tr} (hc : c.typed ts t) (hn : ∀ x ∈ c.flat, nodeOK x) (hl : c.flat.length ≤ 1048576) :
    someF ts rs t (picksL ts c.flat (c.types ts t)) = (c.flat, 0) := by
  have hr := check_right h0
  have hlen := picksL_len ts c.flat (c.types ts t) (types_len _ c (Nat.le_refl _) t).symm
  have hm : madeT ts (picksL ts c.flat (c.types ts t)) t = c := by
    unfold madeT
    rw [Int.toNat_natCast]
    refine mkT_back hr ts.length t ht ht c hc hn 0 fun i hi => ?_
    rw [pickAt, Nat.zero_add, List.getElem?_eq_getElem (by omega)]
  unfold someF
  rw [if_neg (by omega), if_neg (by omega), hm, if_neg (by omega)]
theorem makes_any (ts0 : List TypeM) (rs0 : List RootM) (hts : ts0.length ≤ 1048576) (hrs : rs0.length ≤ 1048576) (hp : ∀ t ∈ ts0, t.parts.length ≤ 1000000000) (hg : ∀ t ∈ ts0, ∀ p ∈ t.parts, I64 p.tag) (a : Int) (ha : I64 a) (ps : List Int) (hps : ps.length ≤ 1048576) :
    PCall Tryd.prog 5 [vSch ts0 rs0, vI a, .lst 1 (v8 ps)] (fun r => r = vB true) := by
  refine go_fn (tyOf_ok _) Tryd.func5 rfl rfl (by rw [Tryd.results5]) Tryd.ntmps5 rfl fun E => ?_
  have hM := made_any ts0 rs0 hts hrs hp a ha ps hps
  have hl0 := cutT_len ts0
  have hrl0 : (rs0.take 260).length ≤ 260 := by simp; omega
  have hpp := cutT_parts (ts := ts0)
  have hgg : ∀ t ∈ cutT ts0, ∀ p ∈ t.parts, I64 p.tag := fun t ht p hp => by
    obtain ⟨u, hu, rfl⟩ := cutT_mem ht
    exact hg u hu p (List.mem_of_mem_take hp)
  generalize cutT ts0 = ts at *
  generalize rs0.take 260 = rs at *
  have hpp' : ∀ t ∈ ts, t.parts.length ≤ 1000000000 := fun t ht => by have := hpp t ht; omega
  have haw := awake11
  unfold vSch at hM
  (repeat' (first
    | exact trivial
    | (with_reducible first | refine awA ?_ | refine awB ?_ | refine awC ?_ | refine awD ?_ | refine awE ?_ | refine awF ?_ | refine awG ?_ | refine awH ?_ | refine awI ?_ | refine awJ ?_ | refine awK ?_ | refine awL ?_ | refine awM (by decide) ?_)
    | (refine aw_draw (id := 12) (t := (.node [0, 1, 2, 3, 4, 5, 6, 7, 8, 9, 10, 11] [])) (drR [7] [] []) mixed (by kernel_rfl) (by kernel_rfl) (fun _ _ h => h) ?_)
    | (refine at_done (by simp only [List.filterMap_cons, List.filterMap_nil, List.getElem?_toArray, List.getElem?_cons_zero, List.getElem?_cons_succ]; exact rfl) ?_) | (refine at_alt (by simp only [List.filterMap_cons, List.filterMap_nil, List.getElem?_toArray, List.getElem?_cons_zero, List.getElem?_cons_succ]; exact rfl) ?_) | refine qalt_normal ?_ | refine ats_cons ?_ ?_ | exact ats_nil
    | ((with_reducible first | refine awN (tyOf_ok _) [] ?_ | refine awO (tyOf_ok _) [] ?_ | refine awP (tyOf_ok _) [] ?_ | refine awQ ?_ | refine awR ?_ | refine awS ?_); intro r hr; simp only [go_sem, Nat.reduceBEq, Nat.reduceBneDiff, Nat.reduceLT, Nat.reduceLeDiff, Nat.reduceAdd, Nat.reduceMul, Nat.reduceSub, Nat.reduceEqDiff, reduceCtorEq, vSch] at hr; subst hr; (first | refine caA (fun _ => haw) rfl ?_ ?_ ?_ | refine caD (hM) rfl ?_ ?_ (fun r hr => hold ?_) | refine awV ?_ ?_ | refine awW ?_ ?_ | refine endK ?_ ?_ | (refine condK (fun h => ?_) (fun h => ?_) <;> (try simp only [go_sem, reduceCtorEq] at h) <;> (try (exfalso; omega))))) | fail)) <;> (try omega)
  refine ⟨?_⟩
  rcases hr with rfl | ⟨rfl, h0, hn⟩
  · (repeat' (first
    | exact trivial
    | (with_reducible first | refine awA ?_ | refine awB ?_ | refine awC ?_ | refine awD ?_ | refine awE ?_ | refine awF ?_ | refine awG ?_ | refine awH ?_ | refine awI ?_ | refine awJ ?_ | refine awK ?_ | refine awL ?_ | refine awM (by decide) ?_)
    | (refine aw_draw (id := 12) (t := (.node [0, 1, 2, 3, 4, 5, 6, 7, 8, 9, 10, 11] [])) (drR [7] [] []) mixed (by kernel_rfl) (by kernel_rfl) (fun _ _ h => h) ?_)
    | (refine at_done (by simp only [List.filterMap_cons, List.filterMap_nil, List.getElem?_toArray, List.getElem?_cons_zero, List.getElem?_cons_succ]; exact rfl) ?_) | (refine at_alt (by simp only [List.filterMap_cons, List.filterMap_nil, List.getElem?_toArray, List.getElem?_cons_zero, List.getElem?_cons_succ]; exact rfl) ?_) | refine qalt_normal ?_ | refine ats_cons ?_ ?_ | exact ats_nil
    | ((with_reducible first | refine awN (tyOf_ok _) [] ?_ | refine awO (tyOf_ok _) [] ?_ | refine awP (tyOf_ok _) [] ?_ | refine awQ ?_ | refine awR ?_ | refine awS ?_); intro r hr; simp only [go_sem, Nat.reduceBEq, Nat.reduceBneDiff, Nat.reduceLT, Nat.reduceLeDiff, Nat.reduceAdd, Nat.reduceMul, Nat.reduceSub, Nat.reduceEqDiff, reduceCtorEq, vSch] at hr; subst hr; (first | refine awV ?_ ?_ | refine awW ?_ ?_ | refine endK ?_ ?_ | (refine condK (fun h => ?_) (fun h => ?_) <;> (try simp only [go_sem, reduceCtorEq] at h) <;> (try (exfalso; omega))))) | fail)) <;> (try omega)
    all_goals exact rfl
  obtain ⟨j, hj⟩ : ∃ j : Nat, a % (ts.length : Int) = j := ⟨(a % (ts.length : Int)).toNat, by
    have := Int.emod_nonneg a (show (ts.length : Int) ≠ 0 by omega)
    omega⟩
  have hjl : j < ts.length := by
    have := Int.emod_lt_of_pos a (show 0 < (ts.length : Int) by omega)
    omega
  rw [hj]
  have hqs := tameF_len ts (ps.take 300)
  simp only [List.length_take] at hqs
  generalize tameF ts (ps.take 300) = qs at *
  have hS := tSome_any ts rs (by omega) (by omega) hpp' j qs (by omega)
  rcases some_cases (rs := rs) h0 hjl qs with h5 | ⟨h5, c, _, hc1, hty, hnd, hcl⟩
  · rw [h5] at hS
    generalize someF ts rs j qs = F at *
    (repeat' (first
    | exact trivial
    | (with_reducible first | refine awA ?_ | refine awB ?_ | refine awC ?_ | refine awD ?_ | refine awE ?_ | refine awF ?_ | refine awG ?_ | refine awH ?_ | refine awI ?_ | refine awJ ?_ | refine awK ?_ | refine awL ?_ | refine awM (by decide) ?_)
    | (refine aw_draw (id := 12) (t := (.node [0, 1, 2, 3, 4, 5, 6, 7, 8, 9, 10, 11] [])) (drR [7] [] []) mixed (by kernel_rfl) (by kernel_rfl) (fun _ _ h => h) ?_)
    | (refine at_done (by simp only [List.filterMap_cons, List.filterMap_nil, List.getElem?_toArray, List.getElem?_cons_zero, List.getElem?_cons_succ]; exact rfl) ?_) | (refine at_alt (by simp only [List.filterMap_cons, List.filterMap_nil, List.getElem?_toArray, List.getElem?_cons_zero, List.getElem?_cons_succ]; exact rfl) ?_) | refine qalt_normal ?_ | refine ats_cons ?_ ?_ | exact ats_nil
    | ((with_reducible first | refine awN (tyOf_ok _) [] ?_ | refine awO (tyOf_ok _) [] ?_ | refine awP (tyOf_ok _) [] ?_ | refine awQ ?_ | refine awR ?_ | refine awS ?_); intro r hr; simp only [go_sem, Nat.reduceBEq, Nat.reduceBneDiff, Nat.reduceLT, Nat.reduceLeDiff, Nat.reduceAdd, Nat.reduceMul, Nat.reduceSub, Nat.reduceEqDiff, reduceCtorEq, vSch] at hr; subst hr; (first | refine caC (hS) rfl ?_ ?_ ?_ | refine caA (fun _ => num11_any _) rfl ?_ ?_ ?_ | refine awV ?_ ?_ | refine awW ?_ ?_ | refine endK ?_ ?_ | (refine condK (fun h => ?_) (fun h => ?_) <;> (try simp only [go_sem, reduceCtorEq] at h) <;> (try (exfalso; omega))))) | fail)) <;> (try omega)
    all_goals exact rfl
  rw [h5, ← hc1] at hS
  have hC := tCheck_any ts rs (by omega) (by omega) hpp' j c.flat (by omega) hnd c (fun _ => ⟨rfl, typed_ok _ c (Nat.le_refl _) j hty⟩)
  have hT := tTypes_any ts rs (by omega) (by omega) hpp' j c.flat (by omega) hnd c (fun _ => ⟨rfl, typed_ok _ c (Nat.le_refl _) j hty⟩)
  rw [typesF_typed h0 hty] at hC hT
  have hPk := picks11_any ts rs (by omega) (by omega) hpp' hgg h0 j c.flat (by omega) hnd c rfl hty
  have hlen := types_len _ c (Nat.le_refl _) (ts := ts) j
  have hpl := picksL_len ts c.flat (c.types ts j) hlen.symm
  have hS2 := tSome_any ts rs (by omega) (by omega) hpp' j (picksL ts c.flat (c.types ts j)) (by omega)
  rw [some_back h0 hjl hty hnd hcl] at hS2
  have hE := equal04_refl c.flat (by omega)
  have hpos := flat_pos c
  have hg1 : (v8 (c.types ts j))[0]? = some [vI (j : Int)] := by
    cases c with | node x ks => rfl
  have hlv : (v8 (c.types ts j)).length = c.flat.length := by rw [v8_len, hlen]
  have e1 : ((c.flat.length : Int) = 0) = False := eq_false (by omega)
  generalize picksL ts c.flat (c.types ts j) = pk at *
  generalize c.types ts j = ty at *
  generalize c.flat = V at *
  (repeat' (first
    | exact trivial
    | (with_reducible first | refine awA ?_ | refine awB ?_ | refine awC ?_ | refine awD ?_ | refine awE ?_ | refine awF ?_ | refine awG ?_ | refine awH ?_ | refine awI ?_ | refine awJ ?_ | refine awK ?_ | refine awL ?_ | refine awM (by decide) ?_)
    | (refine aw_draw (id := 12) (t := (.node [0, 1, 2, 3, 4, 5, 6, 7, 8, 9, 10, 11] [])) (drR [7] [] []) mixed (by kernel_rfl) (by kernel_rfl) (fun _ _ h => h) ?_)
    | (refine at_done (by simp only [List.filterMap_cons, List.filterMap_nil, List.getElem?_toArray, List.getElem?_cons_zero, List.getElem?_cons_succ]; exact rfl) ?_) | (refine at_alt (by simp only [List.filterMap_cons, List.filterMap_nil, List.getElem?_toArray, List.getElem?_cons_zero, List.getElem?_cons_succ]; exact rfl) ?_) | refine qalt_normal ?_ | refine ats_cons ?_ ?_ | exact ats_nil
    | ((with_reducible first | refine awN (tyOf_ok _) [] ?_ | refine awO (tyOf_ok _) [] ?_ | refine awP (tyOf_ok _) [] ?_ | refine awQ ?_ | refine awR ?_ | refine awS ?_); intro r hr; simp only [go_sem, Nat.reduceBEq, Nat.reduceBneDiff, Nat.reduceLT, Nat.reduceLeDiff, Nat.reduceAdd, Nat.reduceMul, Nat.reduceSub, Nat.reduceEqDiff, reduceCtorEq, vSch, hg1, hlen, hlv, e1, Int.cast_ofNat_Int, Int.reduceToNat, Int.reduceEq, Int.reduceLT, Int.reduceLE, Int.reduceNe] at hr; subst hr; (first | refine caC (hS) rfl ?_ ?_ ?_ | refine caA (fun _ => num11_any _) rfl ?_ ?_ ?_ | refine caA (fun _ => hC) rfl ?_ ?_ ?_ | refine caC (hT) rfl ?_ ?_ ?_ | refine caC (hPk) rfl ?_ ?_ ?_ | refine caC (hS2) rfl ?_ ?_ ?_ | refine caA (fun _ => hE) rfl ?_ ?_ ?_ | refine awV ?_ ?_ | refine awW ?_ ?_ | refine endK ?_ ?_ | (refine condK (fun h => ?_) (fun h => ?_) <;> (try simp only [go_sem, reduceCtorEq] at h) <;> (try (exfalso; omega))))) | fail)) <;> (try omega)
  all_goals exact rfl
end Go.Proofs.YtfgacgpicfknpaaDoor
end
section
namespace Go.Proofs.YtfgacgpicfknpaaDoor
open Go.ChangeShapes Go.WideShapes Go.ChangeAt Go.RowKit

theorem own : ownKnob Tryd.prog.godebug = none := by kernel_rfl
theorem laidOut : laidOutB Tryd.prog = true := by kernel_rfl

/-- a slice of integers that came in: nil, or a row of 'cap' cells, the numbers 'zs' -/
def IsRow (k : IntKind) (w : World) (a : Option Addr) (len cap : Nat) (zs : List Int) : Prop :=
  (a = none ∧ len = 0 ∧ cap = 0 ∧ zs = []) ∨
  ∃ x, a = some x ∧ len ≤ cap ∧ cap ≤ maxLen ∧ zs.length = cap ∧ (∀ i, i < zs.length → w.cell? (x.add i) = some (.int k (zs.getD i 0))) ∧ ∀ n ∈ zs, (Lit.int k n).wf = true

theorem I64.of_wf {n : Int} (h : (Lit.int .i64 n).wf = true) : I64 n := bounds_i64 h
theorem U64.of_wf {n : Int} (h : (Lit.int .u64 n).wf = true) : U64 n := bounds_u64 h
theorem U8.of_wf {n : Int} (h : (Lit.int .u8 n).wf = true) : U8 n := bounds_u8 h

theorem IsRow.row {k : IntKind} {w : World} {a : Option Addr} {len cap : Nat} {zs : List Int} (h : IsRow k w a len cap zs) :
    Row w w.heap.size a ((zs.take len).map (Value.int k)) ∧ len = (zs.take len).length ∧ len ≤ cap ∧ cap ≤ maxLen ∧ ∀ z ∈ zs.take len, (Lit.int k z).wf = true := by
  rcases h with ⟨rfl, rfl, rfl, rfl⟩ | ⟨x, rfl, hl, hm, hz, hcell, hwz⟩
  · exact ⟨fun h => by simp at h, rfl, Nat.le_refl _, by decide, fun z hz => by simp at hz⟩
  · refine ⟨fun hn => ?_, by rw [List.length_take]; omega, hl, hm, fun z hz' => hwz z (List.mem_of_mem_take hz')⟩
    have hn' : 0 < len := by simp at hn; omega
    obtain ⟨b, off, spot⟩ := x
    have hc := hcell 0 (by omega)
    have hspot : spot = none := by simpa [Addr.add] using World.cell?_spot hc
    subst hspot
    refine ⟨b, off, rfl, World.block_lt_of_cell? w _ (by simpa [Addr.add] using hc), fun j u hu => ?_⟩
    have hj : j < len := by
      rcases Nat.lt_or_ge j ((zs.take len).map (Value.int k)).length with h | h
      · simp at h; omega
      · rw [List.getElem?_eq_none h] at hu; cases hu
    have hcj := hcell j (by omega)
    have hplain : (⟨b, off, none⟩ : Addr).add j = ⟨b, off + j, none⟩ := by unfold Addr.add; split <;> simp_all
    rw [hplain] at hcj
    rw [hcj]
    rw [List.getElem?_map, List.getElem?_take_of_lt hj, List.getElem?_eq_getElem (by omega : j < zs.length)] at hu
    simpa [List.getD_eq_getElem?_getD, List.getElem?_eq_getElem (by omega : j < zs.length)] using hu

end Go.Proofs.YtfgacgpicfknpaaDoor
end
section
namespace Go.Proofs.YtfgacgpicfknpaaDoor
open Go.ChangeShapes Go.WideShapes Go.ChangeAt Go.RowKit Go.Deep

theorem addr_plain (b off j : Nat) : (⟨b, off, none⟩ : Addr).add j = ⟨b, off + j, none⟩ := by
  unfold Addr.add; by_cases h : j = 0 <;> simp [h]
theorem flat_get {α : Type} {cells : α → List Value} {k : Nat} (hk : ∀ a, (cells a).length = k) : ∀ (L : List α) (i j : Nat), j < k → (L.flatMap cells)[i * k + j]? = (L[i]?).bind fun a => (cells a)[j]? := by
  intro L
  induction L with
  | nil => intro i j _; simp
  | cons a L ih =>
    intro i j hj
    rw [List.flatMap_cons]
    cases i with
    | zero => rw [Nat.zero_mul, Nat.zero_add, List.getElem?_append_left (by rw [hk]; exact hj)]; simp
    | succ i =>
      rw [Nat.add_mul, Nat.one_mul, List.getElem?_append_right (by rw [hk]; omega), hk]
      rw [show i * k + k + j - k = i * k + j by omega, ih i j hj]
      simp
theorem flat_length {α : Type} {cells : α → List Value} {k : Nat} (hk : ∀ a, (cells a).length = k) (L : List α) : (L.flatMap cells).length = L.length * k := by
  induction L with
  | nil => simp
  | cons a L ih => rw [List.flatMap_cons, List.length_append, hk, ih, List.length_cons, Nat.add_mul]; omega
theorem Row.flat {α : Type} {cells : α → List Value} {k : Nat} (hk : ∀ a, (cells a).length = k) {w : World} {B : Nat} {A : Option Addr} {L : List α} (h : Row w B A (L.flatMap cells)) (hk0 : 0 < k) (hL : 0 < L.length) :
    ∃ b off, A = some ⟨b, off, none⟩ ∧ b < B ∧ ∀ i a j u, L[i]? = some a → (cells a)[j]? = some u → w.cell? ⟨b, off + i * k + j, none⟩ = some u := by
  obtain ⟨b, off, e, hb, hc⟩ := h (by rw [flat_length hk]; exact Nat.mul_pos hL hk0)
  refine ⟨b, off, e, hb, fun i a j u hi hj => ?_⟩
  rw [Nat.add_assoc]
  refine hc _ u ?_
  have hjk : j < k := by
    rcases Nat.lt_or_ge j (cells a).length with h | h
    · rwa [hk] at h
    · rw [List.getElem?_eq_none h] at hj; cases hj
  rw [flat_get hk L i j hjk, hi]
  exact hj

section
variable {H : Type} {enc : TypeId × Value → H} {P : Program} {w : World} {base : Nat} {spare : Nat → Bool} {held : Bool}
/-- a slice that came in, read as a list -/
theorem open_view {α : Type} [Inhabited α] (cells : α → List Value) (ok : α → Prop) (k : Nat) (hk : ∀ a, (cells a).length = k) (hk0 : 0 < k) {t e : TypeId} (ht : P.underlying t = some (.slice e)) (hc : P.cellsOf e = k)
    (elem : ∀ n cs' x, DataW.trod enc P w base spare held n e cs' = some x → ∃ a, cs' = cells a ∧ ok a)
    {fuel : Nat} {v : Value} {x : DataW H × List MemPlace} (h : DataW.trod enc P w base spare held fuel t [v] = some x) :
    ∃ (A : Option Addr) (len cap : Nat) (L : List α), v = .slice A len cap ∧ len = L.length ∧ len ≤ cap ∧ cap ≤ maxLen ∧ Row w w.heap.size A (L.flatMap cells) ∧ ∀ a ∈ L, ok a := by
  rcases open_slice ht h with ⟨h0, _⟩ | ⟨a, len, cap, m, n, D, Pl, hv, hb, hl, hm, hmm, _, hx⟩
  · injection h0 with h0
    exact ⟨none, 0, 0, [], h0, rfl, Nat.le_refl _, by decide, fun h => by simp at h, fun a ha => by simp at ha⟩
  · injection hv with hv
    have hlm : len ≤ m := by rw [hmm]; split <;> omega
    obtain ⟨f, hf⟩ := choose_lt (n := len) (p := fun i (a' : α) => w.cells? base (a.add (i * k)) k = some (cells a') ∧ ok a') (fun i hi => by
      obtain ⟨cs', h1, h2⟩ := hx i (by omega)
      obtain ⟨a', rfl, h3⟩ := elem _ _ _ h2
      rw [hc] at h1
      exact ⟨a', h1, h3⟩)
    refine ⟨some a, len, cap, (List.range len).map f, hv, by simp, hl, hm, ?_, fun y hy => ?_⟩
    · intro h0
      rw [flat_length hk] at h0
      have hlen : 0 < len := by
        rcases Nat.eq_zero_or_pos len with h | h
        · subst h; simp at h0
        · exact h
      have hcell : ∀ i j, i < len → j < k → w.cell? ((a.add (i * k)).add j) = (cells (f i))[j]? := fun i j hi hj => (World.cells?_some (hf i hi).1).2.2 j hj
      obtain ⟨b, off, spot⟩ := a
      have h00 := hcell 0 0 hlen hk0
      rw [Nat.zero_mul] at h00
      have hz : ((⟨b, off, spot⟩ : Addr).add 0).add 0 = ⟨b, off, spot⟩ := by simp [Addr.add]
      rw [hz, List.getElem?_eq_getElem (by rw [hk]; exact hk0)] at h00
      have hspot : spot = none := World.cell?_spot h00
      subst hspot
      refine ⟨b, off, rfl, World.block_lt_of_cell? w _ h00, fun q u hu => ?_⟩
      have hq : q < len * k := by
        rcases Nat.lt_or_ge q (((List.range len).map f).flatMap cells).length with h | h
        · rw [flat_length hk] at h; simpa using h
        · rw [List.getElem?_eq_none h] at hu; cases hu
      have hqi : q / k < len := Nat.div_lt_of_lt_mul (by rw [Nat.mul_comm]; exact hq)
      have hqj : q % k < k := Nat.mod_lt _ hk0
      have hqe : q = q / k * k + q % k := by rw [Nat.mul_comm]; exact (Nat.div_add_mod q k).symm
      rw [hqe, flat_get hk _ _ _ hqj] at hu
      simp only [List.getElem?_map, List.getElem?_range hqi, Option.map_some, Option.bind_some] at hu
      have := hcell (q / k) (q % k) hqi hqj
      rw [hu, add_add] at this
      rw [addr_plain, ← hqe] at this
      exact this
    · obtain ⟨i, hi, rfl⟩ := List.mem_map.1 hy
      exact (hf i (by simpa using hi)).2

/-- a field of one cell of a struct that came in -/
theorem fld {n : Nat} {fs : Array Field} {xs : List (DataW H × List MemPlace)} {cs : List Value} (hxl : xs.length = fs.size)
    (hf : ∀ (i : Nat) (f : Field), fs[i]? = some f → DataW.trod enc P w base spare held n f.type ((cs.drop f.offset).take (P.cellsOf f.type)) = xs[i]?)
    (i T o : Nat) (hi : (fs[i]?).map (fun f => (f.type, f.offset)) = some (T, o)) (hc : P.cellsOf T = 1) (v : Value) (hv : cs[o]? = some v) : ∃ y, DataW.trod enc P w base spare held n T [v] = some y := by
  rw [Option.map_eq_some_iff] at hi
  obtain ⟨f, hfi, he⟩ := hi
  injection he with h1 h2
  have h3 := hf i f hfi
  rw [h1, h2, hc] at h3
  have ho : o < cs.length := by
    rcases Nat.lt_or_ge o cs.length with h | h
    · exact h
    · rw [List.getElem?_eq_none h] at hv; cases hv
  have h4 : (cs.drop o).take 1 = [v] := by
    rw [List.drop_eq_getElem_cons ho]
    rw [List.getElem?_eq_getElem ho] at hv
    injection hv with hv
    simp [hv]
  rw [h4] at h3
  have hix : i < xs.length := by
    rw [hxl]
    rcases Nat.lt_or_ge i fs.size with h | h
    · exact h
    · rw [Array.getElem?_eq_none h] at hfi; cases hfi
  exact ⟨xs[i], by rw [h3, List.getElem?_eq_getElem hix]⟩

/-- a slice of integers inside data that came in -/
def IntsIn (w : World) (k : IntKind) (A : Option Addr) (len cap : Nat) (zs : List Int) : Prop :=
  len = zs.length ∧ len ≤ cap ∧ cap ≤ maxLen ∧ Row w w.heap.size A (zs.map (Value.int k)) ∧ ∀ z ∈ zs, (Lit.int k z).wf = true
theorem open_ints_in {t e : TypeId} {k : IntKind} (ht : P.underlying t = some (.slice e)) (he : P.underlying e = some (.int k)) (hc : P.cellsOf e = 1) {fuel : Nat} {v : Value} {x : DataW H × List MemPlace}
    (h : DataW.trod enc P w base spare held fuel t [v] = some x) : ∃ A len cap zs, v = .slice A len cap ∧ IntsIn w k A len cap zs := by
  obtain ⟨A, len, cap, L, hv, h1, h2, h3, h4, h5⟩ := open_view (α := Int) (fun z => [Value.int k z]) (fun z => (Lit.int k z).wf = true) 1 (fun _ => rfl) (by decide) ht hc
    (fun n cs' x h => by obtain ⟨z, h1, _, h2⟩ := DataW.trod_int he h; exact ⟨z, h1, h2⟩) h
  refine ⟨A, len, cap, L, hv, h1, h2, h3, ?_, h5⟩
  have e : L.flatMap (fun z => [Value.int k z]) = L.map (Value.int k) := by
    clear h1 h2 h3 h4 h5
    induction L with
    | nil => rfl
    | cons a L ih => simp [List.flatMap_cons, ih]
  rwa [e] at h4
end
end Go.Proofs.YtfgacgpicfknpaaDoor
end
section
namespace Go.Proofs.YtfgacgpicfknpaaDoor
open Go.RowKit

/-! From what came in to abstract values. -/
section
variable {P : Program} {w : World}
theorem PCall.row {f : Nat} {args : List AV} (h : PCall P f args (fun r => r = .v (.bool true))) (vs : Array Value) (hl : vs.size = args.length)
    (ha : ∀ (i : Nat) (x : AV) (v : Value), args[i]? = some x → vs[i]? = some v → AVR (fun b => b < w.heap.size) (fun _ => none) w x v) (hg : FOK (fun b => b < w.heap.size) w) :
    Calls P f vs w fun e w' => e = .returned (.bool true) ∧ Below w.heap.size w w' :=
  (h.2 w _ vs hg hl ha).mono fun e w' ⟨v, r, h1, h2, h3, h4⟩ => by
    subst h2
    cases h4 with
    | s h4 =>
    cases h4 with
    | v _ => exact ⟨h1, h3⟩

theorem args_nil : ∀ (i : Nat) (x : AV) (v : Value), ([] : List AV)[i]? = some x → ((#[] : Array Value))[i]? = some v → AVR (fun b => b < w.heap.size) (fun _ => none) w x v := fun i x v h => by simp at h
theorem args_ok {as' : List AV} {vs : List Value} (h : ∀ (i : Nat) (x : AV) (v : Value), as'[i]? = some x → vs[i]? = some v → AVR (fun b => b < w.heap.size) (fun _ => none) w x v) :
    ∀ (i : Nat) (x : AV) (v : Value), as'[i]? = some x → vs.toArray[i]? = some v → AVR (fun b => b < w.heap.size) (fun _ => none) w x v := fun i x v h1 h2 => h i x v h1 (by simpa using h2)
theorem args_cons {F : Nat → Prop} {a : AV} {u : Value} {as' : List AV} {vs : List Value} (h : AVR F (fun _ => none) w a u) (hr : ∀ (i : Nat) (x : AV) (v : Value), as'[i]? = some x → vs[i]? = some v → AVR F (fun _ => none) w x v) :
    ∀ (i : Nat) (x : AV) (v : Value), (a :: as')[i]? = some x → (u :: vs)[i]? = some v → AVR F (fun _ => none) w x v := fun i x v h1 h2 => by
  cases i with
  | zero => simp only [List.getElem?_cons_zero, Option.some.injEq] at h1 h2; subst h1; subst h2; exact h
  | succ i => exact hr i x v (by simpa using h1) (by simpa using h2)
theorem avr_int {F : Nat → Prop} {β : Nat → Option Nat} (k : IntKind) (z : Int) : AVR F β w (.v (.int k z)) (.int k z) := .s (.v rfl)
theorem avr_bool {F : Nat → Prop} {β : Nat → Option Nat} (b : Bool) : AVR F β w (.v (.bool b)) (.bool b) := .s (.v rfl)

/-- a slice read as a list -/
theorem svr_row {α : Type} (enc : α → List AV) (cells : α → List Value) (k : Nat) (hk : ∀ a, (cells a).length = k) (hke : ∀ a, (enc a).length = k) (hk0 : 0 < k) {F : Nat → Prop} (hF : ∀ b, b < w.heap.size → F b)
    {A : Option Addr} {len cap : Nat} {L : List α} (hl : len = L.length) (hlc : len ≤ cap) (hcm : cap ≤ maxLen) (hr : Row w w.heap.size A (L.flatMap cells))
    (hone : ∀ a ∈ L, ∀ (j : Nat) (v : Value), (cells a)[j]? = some v → v.oneCell' = true) (hs : ∀ a ∈ L, ∀ (j : Nat) (x : AV) (v : Value), (enc a)[j]? = some x → (cells a)[j]? = some v → SVR F w x v) :
    SVR F w (.lst k (L.map enc)) (.slice A len cap) := by
  refine .lst (fun i j => ((L[i]?).bind fun a => (cells a)[j]?).getD undef) (by rw [hl, List.length_map]) hlc hcm (fun cs hcs => ?_) (fun hn => ?_) (fun i j hi hj => ?_) (fun i j cs u hc hu => ?_)
  · obtain ⟨a, _, rfl⟩ := List.mem_map.1 hcs
    exact hke a
  · obtain ⟨b, off, hA, hb, hc⟩ := Row.flat hk hr hk0 (by omega)
    refine ⟨b, off, hA, hF b hb, fun i j hi hj => ?_⟩
    have hi' : i < L.length := by omega
    have h2 : j < (cells L[i]).length := by rw [hk]; exact hj
    rw [List.getElem?_eq_getElem hi', Option.bind_some, List.getElem?_eq_getElem h2, Option.getD_some, ← Nat.add_assoc]
    exact hc i _ j _ (List.getElem?_eq_getElem hi') (List.getElem?_eq_getElem h2)
  · have hi' : i < L.length := by omega
    have h2 : j < (cells L[i]).length := by rw [hk]; exact hj
    rw [List.getElem?_eq_getElem hi', Option.bind_some, List.getElem?_eq_getElem h2, Option.getD_some]
    exact hone _ (List.getElem_mem hi') j _ (List.getElem?_eq_getElem h2)
  · rw [List.getElem?_map] at hc
    cases hci : L[i]? with
    | none => rw [hci] at hc; cases hc
    | some a =>
      rw [hci] at hc
      injection hc with hc
      subst hc
      have hj : j < (cells a).length := by
        rw [hk, ← hke a]
        rcases Nat.lt_or_ge j (enc a).length with h | h
        · exact h
        · rw [List.getElem?_eq_none h] at hu; cases hu
      rw [Option.bind_some, List.getElem?_eq_getElem hj, Option.getD_some]
      exact hs a (List.mem_of_getElem? hci) j u _ hu (List.getElem?_eq_getElem hj)
theorem flat_one {α : Type} (f : α → Value) (L : List α) : L.flatMap (fun z => [f z]) = L.map f := by
  induction L with
  | nil => rfl
  | cons a L ih => simp [List.flatMap_cons, ih]
/-- a slice of integers that came in -/
theorem avr_ints {β : Nat → Option Nat} {k : IntKind} {a : Option Addr} {len cap : Nat} {zs : List Int} (h : IsRow k w a len cap zs) :
    AVR (fun b => b < w.heap.size) β w (.lst 1 ((zs.take len).map fun z => [.v (.int k z)])) (.slice a len cap) := by
  obtain ⟨h1, h2, h3, h4, _⟩ := h.row
  refine .s (svr_row (fun z => [.v (.int k z)]) (fun z => [.int k z]) 1 (fun _ => rfl) (fun _ => rfl) (by decide) (fun _ h => h) h2 h3 h4 (by rw [flat_one]; exact h1) (fun a _ j v hv => ?_) (fun a _ j x v hx hv => ?_))
  · cases j with
    | zero => simp at hv; subst hv; rfl
    | succ j => simp at hv
  · cases j with
    | zero => simp at hx hv; subst hx; subst hv; exact .v rfl
    | succ j => simp at hx
end
end Go.Proofs.YtfgacgpicfknpaaDoor
end
section
namespace Go.Proofs.YtfgacgpicfknpaaDoor.bulks
open Go.ChangeShapes Go.WideShapes Go.ChangeAt Go.RowKit

theorem one_le {H : Type} (d : DataW H) : 1 ≤ Rows.uptoBulk d := by
  cases d with
  | lit l => cases l <;> simp [Rows.uptoBulk]
  | nil => simp [Rows.uptoBulk]
  | ptr d => simp [Rows.uptoBulk]
  | slice elems spare => simp [Rows.uptoBulk]
  | agg parts => simp [Rows.uptoBulk]
  | iface t d => simp [Rows.uptoBulk]
  | map entries => simp [Rows.uptoBulk]
  | held h => simp [Rows.uptoBulk]
theorem part_le {H : Type} {d : DataW H} {l : List (DataW H)} (h : d ∈ l) : Rows.uptoBulk d ≤ Rows.uptoBulkAll l := by
  induction l with
  | nil => cases h
  | cons x r ih =>
    simp only [Rows.uptoBulkAll]
    cases List.mem_cons.1 h with
    | inl e => subst e; omega
    | inr e => have := ih e; omega
theorem length_le {H : Type} (l : List (DataW H)) : l.length ≤ Rows.uptoBulkAll l := by
  induction l with
  | nil => simp [Rows.uptoBulkAll]
  | cons x r ih => have := one_le x; simp only [Rows.uptoBulkAll, List.length_cons]; omega
theorem slice_le {H : Type} (elems spare : List (DataW H)) : elems.length + spare.length + 1 ≤ Rows.uptoBulk (.slice elems spare) := by
  have h1 := length_le elems
  have h2 := length_le spare
  simp only [Rows.uptoBulk]
  omega
theorem take_le {H : Type} {k : IntKind} {len cap : Nat} {zs : List Int} (hz : zs.length = cap) (hl : len ≤ cap) : len ≤ Rows.uptoBulk (H := H) (.slice (lits k (zs.take len)) (lits k (zs.drop len))) := by
  refine Nat.le_trans ?_ (slice_le _ _)
  simp [lits]
  omega
theorem bound {H : Type} {l : List (DataW H)} (hk : Rows.uptoSmall H l = true) : Rows.uptoBulkAll l ≤ 1048576 := of_decide_eq_true hk
end Go.Proofs.YtfgacgpicfknpaaDoor.bulks
end
section
namespace Go.Proofs.YtfgacgpicfknpaaDoor
open Go.ChangeShapes Go.WideShapes Go.ChangeAt Go.RowKit Go.Deep

/-! What came in, of any plain type, as abstract values; a law's frame for any plain parameters. -/

def tileB (P : Program) : List Field → Nat → Nat → Bool
  | [], o, n => o == n
  | f :: l, o, n => (f.offset == o) && tileB P l (o + P.cellsOf f.type) n
/-- types of integers, truth values, strings, slices and structs alone -/
def plainTy (P : Program) : Nat → TypeId → Bool
  | 0, _ => false
  | n + 1, t =>
    match P.underlying t with
    | some .bool | some .string => P.cellsOf t == 1
    | some (.int _) => P.cellsOf t == 1
    | some (.slice e) => P.cellsOf t == 1 && Nat.blt 0 (P.cellsOf e) && plainTy P n e
    | some (.struct fs) => tileB P fs.toList 0 (P.cellsOf t) && fs.toList.all fun f => plainTy P n f.type
    | _ => false
/-- what the cells of a value of a type are; no list, no string longer than B -/
def Typed (P : Program) (B : Nat) : Nat → TypeId → List AV → Prop
  | 0, _, _ => False
  | n + 1, t, us =>
    match P.underlying t with
    | some .bool => ∃ b, us = [.v (.bool b)]
    | some (.int k) => ∃ z, us = [.v (.int k z)] ∧ (Lit.int k z).wf = true
    | some .string => ∃ s : ByteArray, us = [.v (.string s)] ∧ s.size ≤ B
    | some (.slice e) => ∃ xs, us = [.lst (P.cellsOf e) xs] ∧ xs.length ≤ B ∧ ∀ cs ∈ xs, cs.length = P.cellsOf e ∧ Typed P B n e cs
    | some (.struct fs) => us.length = P.cellsOf t ∧ ∀ (i : Nat) (f : Field), fs[i]? = some f → Typed P B n f.type ((us.drop f.offset).take (P.cellsOf f.type))
    | _ => False
def TypedA (P : Program) (B n : Nat) (t : TypeId) (x : AV) : Prop :=
  match P.underlying t with
  | some (.struct _) => ∃ us, x = .agg us ∧ Typed P B n t us
  | _ => Typed P B n t [x]
def TypedL (P : Program) (B n : Nat) : List TypeId → List AV → Prop
  | [], [] => True
  | t :: ts, x :: xs => TypedA P B n t x ∧ TypedL P B n ts xs
  | _, _ => False

theorem bulk_slice {H : Type} {elems spare : List (DataW H)} {B : Nat} (h : Rows.uptoBulk (.slice elems spare) ≤ B) : elems.length ≤ B ∧ ∀ d ∈ elems, Rows.uptoBulk d ≤ B := by
  simp only [Rows.uptoBulk] at h
  have h1 := bulks.length_le elems
  exact ⟨by omega, fun d hd => by have := bulks.part_le hd; omega⟩
theorem bulk_agg {H : Type} {parts : List (DataW H)} {B : Nat} (h : Rows.uptoBulk (.agg parts) ≤ B) : ∀ d ∈ parts, Rows.uptoBulk d ≤ B := fun d hd => by
  simp only [Rows.uptoBulk] at h
  have := bulks.part_le hd; omega

section
variable {H : Type} {enc : TypeId × Value → H} {P : Program} {w : World} {base : Nat} {spare : Nat → Bool} {held : Bool}
theorem tile_cover : ∀ (l : List Field) (o n : Nat), tileB P l o n = true → ∀ (us : Nat → List AV), (∀ (i : Nat) (f : Field), l[i]? = some f → (us i).length = P.cellsOf f.type) →
    ∃ r : List AV, r.length = n - o ∧ o ≤ n ∧ (∀ (i : Nat) (f : Field), l[i]? = some f → o ≤ f.offset ∧ (r.drop (f.offset - o)).take (P.cellsOf f.type) = us i) ∧
      ∀ j, j < n - o → ∃ i f q, l[i]? = some f ∧ q < P.cellsOf f.type ∧ o + j = f.offset + q ∧ r[j]? = (us i)[q]? := by
  intro l
  induction l with
  | nil =>
    intro o n h us _
    simp only [tileB, beq_iff_eq] at h
    subst h
    exact ⟨[], by simp, Nat.le_refl _, fun i f h => by simp at h, fun j hj => by omega⟩
  | cons g l ih =>
    intro o n h us hus
    simp only [tileB, Bool.and_eq_true, beq_iff_eq] at h
    obtain ⟨rfl, h⟩ := h
    obtain ⟨r, h1, h2, h3, h4⟩ := ih _ _ h (fun i => us (i + 1)) fun i f hf => hus (i + 1) f (by simpa using hf)
    have hl0 := hus 0 g rfl
    refine ⟨us 0 ++ r, by rw [List.length_append]; omega, by omega, fun i f hf => ?_, fun j hj => ?_⟩
    · cases i with
      | zero =>
        simp only [List.getElem?_cons_zero, Option.some.injEq] at hf
        subst hf
        refine ⟨Nat.le_refl _, ?_⟩
        rw [Nat.sub_self, List.drop_zero, ← hl0, List.take_left]
      | succ i =>
        obtain ⟨g1, g2⟩ := h3 i f (by simpa using hf)
        refine ⟨by omega, ?_⟩
        rw [show f.offset - g.offset = (us 0).length + (f.offset - (g.offset + P.cellsOf g.type)) by omega, List.drop_append, List.drop_of_length_le (by omega), List.nil_append]
        rw [show (us 0).length + (f.offset - (g.offset + P.cellsOf g.type)) - (us 0).length = f.offset - (g.offset + P.cellsOf g.type) by omega]
        exact g2
    · rcases Nat.lt_or_ge j (us 0).length with hlt | hge
      · exact ⟨0, g, j, rfl, by omega, rfl, by rw [List.getElem?_append_left hlt]⟩
      · obtain ⟨i, f, q, g1, g2, g3, g4⟩ := h4 (j - (us 0).length) (by omega)
        exact ⟨i + 1, f, q, by simpa using g1, g2, by omega, by rw [List.getElem?_append_right hge]; exact g4⟩

theorem open_gen (B : Nat) : ∀ (n : Nat) (t : TypeId), plainTy P n t = true → ∀ (fuel : Nat) (cs : List Value) (x : DataW H × List MemPlace), DataW.trod enc P w base spare held fuel t cs = some x → (Rows.uptoBulk x.1 ≤ B ∨ maxLen ≤ B) →
    ∃ us : List AV, us.length = cs.length ∧ cs.length = P.cellsOf t ∧ (∀ (j : Nat) (u : AV) (v : Value), us[j]? = some u → cs[j]? = some v → SVR (fun b => b < w.heap.size) w u v) ∧ Typed P B n t us := by
  intro n
  induction n with
  | zero => intro t h; cases h
  | succ n ih =>
    intro t hp fuel cs x h hB
    have one : ∀ (u : AV) (v : Value), SVR (fun b => b < w.heap.size) w u v → ∀ (j : Nat) (u' : AV) (v' : Value), [u][j]? = some u' → [v][j]? = some v' → SVR (fun b => b < w.heap.size) w u' v' := fun u v hs j u' v' h1 h2 => by
      cases j with
      | zero => simp only [List.getElem?_cons_zero, Option.some.injEq] at h1 h2; subst h1; subst h2; exact hs
      | succ j => simp at h1
    unfold plainTy at hp
    split at hp
    · rename_i ht
      obtain ⟨b, rfl, rfl⟩ := DataW.trod_bool ht h
      simp only [beq_iff_eq] at hp
      exact ⟨[.v (.bool b)], rfl, hp.symm, one _ _ (.v rfl), by unfold Typed; rw [ht]; exact ⟨b, rfl⟩⟩
    · rename_i ht
      obtain ⟨s, rfl, rfl, hs⟩ := DataW.trod_string ht h
      simp only [beq_iff_eq] at hp
      have hsB : s.size ≤ B := by
        rcases hB with hB | hB
        · simp only [Rows.uptoBulk] at hB
          have h1 : s.data.toList.length = s.size := by rw [Array.length_toList]; rfl
          omega
        · exact Nat.le_trans hs hB
      refine ⟨[.v (.string s)], rfl, hp.symm, one _ _ (.v rfl), ?_⟩
      unfold Typed
      rw [ht]
      exact ⟨s, rfl, hsB⟩
    · rename_i k ht
      obtain ⟨z, rfl, rfl, hz⟩ := DataW.trod_int ht h
      simp only [beq_iff_eq] at hp
      exact ⟨[.v (.int k z)], rfl, hp.symm, one _ _ (.v rfl), by unfold Typed; rw [ht]; exact ⟨z, rfl, hz⟩⟩
    · rename_i e ht
      simp only [Bool.and_eq_true, beq_iff_eq] at hp
      obtain ⟨⟨hp1, hp2⟩, hp3⟩ := hp
      have hk0 : 0 < P.cellsOf e := Nat.le_of_ble_eq_true hp2
      rcases open_slice ht h with ⟨h0, _⟩ | ⟨a, len, cap, m, f', D, Pl, rfl, hb, hl, hm, hmm, hx0, hx⟩
      · subst h0
        refine ⟨[.lst (P.cellsOf e) []], rfl, hp1.symm, one _ _ (.lst (fun _ _ => .nilFunc) rfl (Nat.le_refl _) (by decide) (fun cs h => by cases h) (fun h => absurd h (Nat.lt_irrefl _)) (fun i j hi => absurd hi (Nat.not_lt_zero _)) (fun i j cs u h => by simp at h)), ?_⟩
        unfold Typed
        rw [ht]
        exact ⟨[], rfl, Nat.zero_le _, fun cs h => by cases h⟩
      · have hlm : len ≤ m := by rw [hmm]; split <;> omega
        have hBe : ∀ i, i < len → Rows.uptoBulk (D i) ≤ B ∨ maxLen ≤ B := fun i hi => by
          rcases hB with hB | hB
          · rw [hx0] at hB
            exact .inl ((bulk_slice hB).2 _ (List.mem_map.2 ⟨i, List.mem_range.2 hi, rfl⟩))
          · exact .inr hB
        have hBl : len ≤ B := by
          rcases hB with hB | hB
          · rw [hx0] at hB
            have := (bulk_slice hB).1
            simpa using this
          · omega
        obtain ⟨f, hf⟩ := choose_lt (n := len) (p := fun i (y : List AV × List Value) => w.cells? base (a.add (i * P.cellsOf e)) (P.cellsOf e) = some y.2 ∧ y.1.length = y.2.length ∧ y.2.length = P.cellsOf e ∧
            (∀ (j : Nat) (u : AV) (v : Value), y.1[j]? = some u → y.2[j]? = some v → SVR (fun b => b < w.heap.size) w u v) ∧ Typed P B n e y.1) (fun i hi => by
          obtain ⟨cs', h1, h2⟩ := hx i (by omega)
          obtain ⟨us, g1, g2, g3, g4⟩ := ih e hp3 _ _ _ h2 (hBe i hi)
          exact ⟨(us, cs'), h1, g1, g2, g3, g4⟩)
        refine ⟨[.lst (P.cellsOf e) ((List.range len).map fun i => (f i).1)], rfl, hp1.symm, one _ _ ?_, ?_⟩
        · refine .lst (fun i j => ((f i).2[j]?).getD undef) (by simp) hl hm (fun cs hcs => ?_) (fun hn => ?_) (fun i j hi hj => ?_) (fun i j cs u hc hu => ?_)
          · obtain ⟨i, hi, rfl⟩ := List.mem_map.1 hcs
            have := hf i (List.mem_range.1 hi)
            omega
          · have hcell : ∀ i j, i < len → j < P.cellsOf e → w.cell? ((a.add (i * P.cellsOf e)).add j) = (f i).2[j]? := fun i j hi hj => (World.cells?_some (hf i hi).1).2.2 j hj
            obtain ⟨b, off, spot⟩ := a
            have h00 := hcell 0 0 hn hk0
            rw [Nat.zero_mul] at h00
            have hz : ((⟨b, off, spot⟩ : Addr).add 0).add 0 = ⟨b, off, spot⟩ := by simp [Addr.add]
            rw [hz, List.getElem?_eq_getElem (by have := hf 0 hn; omega)] at h00
            have hspot : spot = none := World.cell?_spot h00
            subst hspot
            refine ⟨b, off, rfl, World.block_lt_of_cell? w _ h00, fun i j hi hj => ?_⟩
            have h5 := hcell i j hi hj
            rw [add_add, addr_plain] at h5
            rw [h5, List.getElem?_eq_getElem (by have := hf i hi; omega)]
            rfl
          · have h5 := hf i hi
            have hj1 : j < (f i).1.length := by omega
            have hj2 : j < (f i).2.length := by omega
            rw [List.getElem?_eq_getElem hj2, Option.getD_some]
            exact (h5.2.2.2.1 j _ _ (List.getElem?_eq_getElem hj1) (List.getElem?_eq_getElem hj2)).one
          · rw [List.getElem?_map] at hc
            rcases Nat.lt_or_ge i len with hi | hi
            · rw [List.getElem?_range hi] at hc
              simp only [Option.map_some, Option.some.injEq] at hc
              subst hc
              have h5 := hf i hi
              have hj1 : j < (f i).1.length := lt_of_get hu
              have hj2 : j < (f i).2.length := by omega
              rw [List.getElem?_eq_getElem hj2, Option.getD_some]
              exact h5.2.2.2.1 j _ _ hu (List.getElem?_eq_getElem hj2)
            · rw [List.getElem?_eq_none (by simpa using hi)] at hc; cases hc
        · unfold Typed
          rw [ht]
          refine ⟨_, rfl, by simpa using hBl, fun cs hcs => ?_⟩
          obtain ⟨i, hi, rfl⟩ := List.mem_map.1 hcs
          have := hf i (List.mem_range.1 hi)
          exact ⟨by omega, this.2.2.2.2⟩
    · rename_i fs ht
      simp only [Bool.and_eq_true, List.all_eq_true] at hp
      obtain ⟨hp1, hp2⟩ := hp
      obtain ⟨xs, n', rfl, hx0, hlen, hxl, hf⟩ := DataW.trod_struct ht h
      have hBe : ∀ (i : Nat) (y : DataW H × List MemPlace), xs[i]? = some y → Rows.uptoBulk y.1 ≤ B ∨ maxLen ≤ B := fun i y hy => by
        rcases hB with hB | hB
        · rw [hx0] at hB
          exact .inl (bulk_agg hB _ (List.mem_map.2 ⟨y, List.mem_of_getElem? hy, rfl⟩))
        · exact .inr hB
      obtain ⟨us, hus⟩ := choose_lt (n := fs.size) (p := fun i (u : List AV) => ∀ f, fs[i]? = some f → u.length = P.cellsOf f.type ∧ ((cs.drop f.offset).take (P.cellsOf f.type)).length = P.cellsOf f.type ∧
          (∀ (j : Nat) (a : AV) (v : Value), u[j]? = some a → ((cs.drop f.offset).take (P.cellsOf f.type))[j]? = some v → SVR (fun b => b < w.heap.size) w a v) ∧ Typed P B n f.type u) (fun i hi => by
        have hix : i < xs.length := by omega
        have hfi := hf i fs[i] (Array.getElem?_eq_getElem hi)
        rw [List.getElem?_eq_getElem hix] at hfi
        obtain ⟨u, g1, g2, g3, g4⟩ := ih (fs[i]).type (hp2 _ (by simp)) _ _ _ hfi (hBe i _ (List.getElem?_eq_getElem hix))
        refine ⟨u, fun f hf' => ?_⟩
        rw [Array.getElem?_eq_getElem hi] at hf'
        injection hf' with hf'
        subst hf'
        exact ⟨by omega, g2, g3, g4⟩)
      have lt_of : ∀ (i : Nat) (f : Field), fs[i]? = some f → i < fs.size := fun i f h => by
        rcases Nat.lt_or_ge i fs.size with h' | h'
        · exact h'
        · rw [Array.getElem?_eq_none h'] at h; cases h
      obtain ⟨r, r1, r2, r3, r4⟩ := tile_cover fs.toList 0 (P.cellsOf t) hp1 us fun i f hf' => by
        have hf'' : fs[i]? = some f := by simpa using hf'
        exact (hus i (lt_of i f hf'') f hf'').1
      refine ⟨r, by omega, hlen, fun j u v hu hv => ?_, ?_⟩
      · obtain ⟨i, f, q, g1, g2, g3, g4⟩ := r4 j (by have := lt_of_get hu; omega)
        have g1' : fs[i]? = some f := by simpa using g1
        rw [hu] at g4
        refine (hus i (lt_of i f g1') f g1').2.2.1 q u v g4.symm ?_
        rw [List.getElem?_take_of_lt g2, List.getElem?_drop, ← g3, Nat.zero_add]
        exact hv
      · unfold Typed
        rw [ht]
        refine ⟨by omega, fun i f hf' => ?_⟩
        have := (r3 i f (by simpa using hf')).2
        rw [Nat.sub_zero] at this
        rw [this]
        exact (hus i (lt_of i f hf') f hf').2.2.2
    · cases hp

theorem open_arg {B n : Nat} {t : TypeId} (hp : plainTy P n t = true) {v : Value} {d : DataW H} {p : List MemPlace} (h : DataW.Trod enc P w base spare held t v d p) {r : Reach} {b0 : Nat} (ho : Value.okWide P w r b0 t v) (hB : Rows.uptoBulk d ≤ B ∨ maxLen ≤ B) :
    ∃ x, AVR (fun b => b < w.heap.size) (fun _ => none) w x v ∧ TypedA P B n t x := by
  obtain ⟨fuel, hf⟩ := h
  obtain ⟨us, h1, h2, h3, h4⟩ := open_gen B n t hp fuel _ _ hf hB
  have leaf : v.cells = #[v] → (∀ fs, P.underlying t ≠ some (.struct fs)) → ∃ x, AVR (fun b => b < w.heap.size) (fun _ => none) w x v ∧ TypedA P B n t x := fun hv hns => by
    rw [hv] at h1 h3
    obtain ⟨u, rfl⟩ := List.length_eq_one_iff.1 (show us.length = 1 by simpa using h1)
    refine ⟨u, .s (h3 0 u v rfl rfl), ?_⟩
    unfold TypedA
    split
    · rename_i fs ht; exact absurd ht (hns fs)
    · exact h4
  have hp' := hp
  cases n with
  | zero => cases hp
  | succ n =>
  unfold plainTy at hp'
  split at hp'
  · rename_i ht
    obtain ⟨b, rfl⟩ := okWide_bool ht ho
    exact leaf rfl fun fs h => by rw [ht] at h; cases h
  · rename_i ht
    obtain ⟨b, rfl⟩ := okWide_string ht ho
    exact leaf rfl fun fs h => by rw [ht] at h; cases h
  · rename_i k ht
    obtain ⟨b, rfl⟩ := okWide_int ht ho
    exact leaf rfl fun fs h => by rw [ht] at h; cases h
  · rename_i e ht
    obtain ⟨a, l, c, rfl⟩ := okWide_slice ht ho
    exact leaf rfl fun fs h => by rw [ht] at h; cases h
  · rename_i fs ht
    obtain ⟨cs, rfl, hcs⟩ := okWide_struct ht ho
    have hc : (Value.agg cs).cells = cs := rfl
    rw [hc] at h1 h3
    refine ⟨.agg us, .agg (by simpa using h1.symm) (fun i u hu => ?_) (fun i c u hc hu => .s (h3 i c u hc (by simpa using hu))), ?_⟩
    · have hi : i < us.length := by
        rw [h1]
        have := lt_of_get (l := cs.toList) (i := i) (x := u) (by simpa using hu)
        exact this
      exact (h3 i _ u (List.getElem?_eq_getElem hi) (by simpa using hu)).one
    · unfold TypedA
      rw [ht]
      exact ⟨us, rfl, h4⟩
  · cases hp'

theorem open_args {B n : Nat} {r : Reach} {b0 : Nat} : ∀ (ts : List TypeId) (vs : List Value) (ds : List (DataW H)) (p : List MemPlace), DataW.TrodAll enc P w base spare held ts vs ds p → (∀ t ∈ ts, plainTy P n t = true) →
    (∀ (j : Nat) t v, ts[j]? = some t → vs[j]? = some v → Value.okWide P w r b0 t v) → (Rows.uptoBulkAll ds ≤ B ∨ maxLen ≤ B) →
    ds.length = ts.length ∧ vs.length = ts.length ∧ ∃ as' : List AV, as'.length = vs.length ∧ (∀ (i : Nat) (x : AV) (v : Value), as'[i]? = some x → vs[i]? = some v → AVR (fun b => b < w.heap.size) (fun _ => none) w x v) ∧ TypedL P B n ts as' := by
  intro ts
  induction ts with
  | nil =>
    intro vs ds p h _ _ _
    obtain ⟨rfl, rfl, rfl⟩ := trodAll_nil h
    exact ⟨rfl, rfl, [], rfl, fun i x v h => by simp at h, trivial⟩
  | cons t ts ih =>
    intro vs ds p h hp ho hB
    obtain ⟨v, vs', d, ds', p1, q, rfl, rfl, rfl, h1, h2⟩ := trodAll_cons h
    have hB1 : Rows.uptoBulk d ≤ B ∨ maxLen ≤ B := hB.imp (fun h => by simp only [Rows.uptoBulkAll] at h; omega) id
    have hB2 : Rows.uptoBulkAll ds' ≤ B ∨ maxLen ≤ B := hB.imp (fun h => by simp only [Rows.uptoBulkAll] at h; omega) id
    obtain ⟨x, g1, g2⟩ := open_arg (hp t (.head _)) h1 (ho 0 t v rfl rfl) hB1
    obtain ⟨e1, e2, as', g3, g4, g5⟩ := ih vs' ds' q h2 (fun t ht => hp t (.tail _ ht)) (fun j t v h1 h2 => ho (j + 1) t v (by simpa using h1) (by simpa using h2)) hB2
    refine ⟨by simp [e1], by simp [e2], x :: as', by simp [g3], fun i y u hy hu => ?_, g2, g5⟩
    cases i with
    | zero => simp only [List.getElem?_cons_zero, Option.some.injEq] at hy hu; subst hy; subst hu; exact g1
    | succ i => exact g4 i y u (by simpa using hy) (by simpa using hu)
end

theorem trodAll_stays {H : Type} {enc : TypeId × Value → H} {P : Program} (hl : laidOutB P = true) {W W' : World} (hb : Below W.heap.size W W') : ∀ (ts : List TypeId) (vs : List Value) (ds : List (DataW H)) (p : List MemPlace),
    (∀ t ∈ ts, P.readableRec t = true ∧ t < P.types.size) → DataW.TrodAll enc P W 0 (fun _ => true) true ts vs ds p → DataW.TrodAll enc P W' 0 (fun b => decide (b < W.heap.size)) true ts vs ds p := by
  intro ts
  induction ts with
  | nil =>
    intro vs ds p _ h
    obtain ⟨rfl, rfl, rfl⟩ := trodAll_nil h
    exact trodAll_mk0
  | cons t ts ih =>
    intro vs ds p hr h
    obtain ⟨v, vs', d, ds', p1, q, rfl, rfl, rfl, h1, h2⟩ := trodAll_cons h
    have hlt : ∀ x ∈ p1, x.block < W.heap.size := by obtain ⟨m, hm⟩ := h1; exact DataW.trod_lt m _ _ _ hm
    exact trodAll_cons_mk (Below.trod hl (hr t (.head _)).1 (hr t (.head _)).2 h1 hb hlt) (ih vs' ds' q (fun t ht => hr t (.tail _ ht)) h2)

/-- a law's contract, of inputs of bulk at most B -/
theorem law_contractF {P : Program} (hl : laidOutB P = true) {f : FuncId} {fn : Func} {spec : ChangeSpec} {tb B n : Nat} (hvars : spec.vars = []) (hres : fn.resultTypes = #[tb]) (htb : P.underlying tb = some .bool)
    (hfn : ∀ (H : Type) (ds : List (DataW H)), ds.length = fn.params.toList.length → spec.fn H ds = { results := [.lit (.bool true)], args := ds, vars := [] })
    (hplain : (fn.params.toList.all fun t => plainTy P n t && P.readableRec t && decide (t < P.types.size)) = true)
    (walk : ∀ as', TypedL P B n fn.params.toList as' → PCall P f as' (fun r => r = .v (.bool true)))
    (H : Type) (enc : TypeId × Value → H) (W : World) (base : Nat) (args : Array Value) (ds gs : List (DataW H)) (before : List MemPlace)
    (hval : ∀ (j : Nat) t v, fn.params[j]? = some t → args[j]? = some v → Value.okWide P W .any base t v)
    (hW : DataW.Whole enc P fn.params.toList spec.vars false W args.toList ds gs before) (hk : Rows.uptoBulkAll (ds ++ gs) ≤ B ∨ maxLen ≤ B) (hF : FOK (fun b => b < W.heap.size) W) :
    Calls P f args W fun e W' => ∃ v, e = .returned v ∧ spec.post enc P fn false true false false W args v W' := by
  have hW' := hW
  obtain ⟨p, q, hA, hV, rfl, hfz, hnd⟩ := hW
  rw [hvars] at hV
  obtain ⟨rfl, rfl⟩ := trodVars_none hV
  rw [List.append_nil] at hk
  simp only [List.all_eq_true, Bool.and_eq_true, decide_eq_true_eq] at hplain
  obtain ⟨e1, e2, as', g1, g2, g3⟩ := open_args _ _ _ _ hA (fun t ht => (hplain t ht).1.1) (fun j t v h1 h2 => hval j t v (by simpa using h1) (by simpa using h2)) hk
  refine (PCall.row (walk as' g3) args (by simpa using g1.symm) (fun i x v hx hv => g2 i x v hx (by simpa using hv)) hF).mono fun e W' ⟨he, bel⟩ => ?_
  subst he
  have hs : spec.fn H (ds ++ []) = { results := [.lit (.bool true)], args := ds, vars := [] } := by rw [List.append_nil]; exact hfn H ds e1
  refine ⟨_, rfl, ds, [], _, [], p, [], hW', ?_, ?_, ?_, bel.frame _, fun h => by cases h⟩
  · rw [hs, hres]
    exact trodAll_mk1 (shut_bool htb _)
  · rw [hs]
    exact trodAll_stays hl bel _ _ _ _ (fun t ht => ⟨(hplain t ht).1.2, (hplain t ht).2⟩) hA
  · rw [hs, hvars]; rfl
end Go.Proofs.YtfgacgpicfknpaaDoor
end
