import Derived.Laws.BitsLemmas
import Derived.Test.YtfgacgpicfknpaaDoorRows
import Derived.ProofKit
import Derived.OpenShut
import Derived.ShutString
import Derived.ChangeOld
import Derived.Deep.Slices
import Derived.Test.YtfgacgpicfknpaaDoorP9
set_option linter.all false
section
namespace Go.Proofs.YtfgacgpicfknpaaDoor
open Go.RowKit
set_option maxRecDepth 100000
set_option maxHeartbeats 8000000
/-! mortiselaw11.light: whatever it answers, it answers. -/
theorem light_any (ts : List TypeM) (rs : List RootM) (hts : ts.length ≤ 1000000) (hrs : rs.length ≤ 1000000000) (hp : ∀ t ∈ ts, t.parts.length ≤ 1000000000) (t : Int) :
    PCall Tryd.prog 17 [vSch ts rs, vI t] (fun r => ∃ b, r = vB b) := by
  refine go_fn (tyOf_ok _) Tryd.func17 rfl rfl (by rw [Tryd.results17]) Tryd.ntmps17 rfl fun E => ?_
  have hck := rcheck_any ts rs (by omega) hrs hp
  unfold vF at hck
  by_cases h1 : t < 0
  · have e1 : (t < 0) = True := eq_true h1
    (repeat' (first
    | exact trivial
    | (with_reducible first | refine awA ?_ | refine awB ?_ | refine awC ?_ | refine awD ?_ | refine awE ?_ | refine awF ?_ | refine awG ?_ | refine awH ?_ | refine awI ?_ | refine awJ ?_ | refine awK ?_ | refine awL ?_ | refine awM (by decide) ?_)
    | (refine aw_draw (id := 11) (t := (.node [0, 1, 2, 3, 4, 5, 6, 7, 8, 9] [])) (drR [7] [46] []) mixed (by kernel_rfl) (by kernel_rfl) (fun _ _ h => h) ?_)
    | (refine at_done (by simp only [List.filterMap_cons, List.filterMap_nil, List.getElem?_toArray, List.getElem?_cons_zero, List.getElem?_cons_succ]; exact rfl) ?_) | (refine at_alt (by simp only [List.filterMap_cons, List.filterMap_nil, List.getElem?_toArray, List.getElem?_cons_zero, List.getElem?_cons_succ]; exact rfl) ?_) | refine qalt_normal ?_ | refine ats_cons ?_ ?_ | exact ats_nil
    | ((with_reducible first | refine awN (tyOf_ok _) [] ?_ | refine awO (tyOf_ok _) [] ?_ | refine awP (tyOf_ok _) [] ?_ | refine awQ ?_ | refine awR ?_ | refine awS ?_); intro r hr; simp only [go_sem, Nat.reduceBEq, Nat.reduceBneDiff, Nat.reduceLT, Nat.reduceLeDiff, Nat.reduceAdd, Nat.reduceMul, Nat.reduceSub, Nat.reduceEqDiff, reduceCtorEq, vSch, encTs_len, e1] at hr; subst hr; (first | refine caB 38 (.agg [vI 0, vI 0]) ?_ ?_ ?_ | refine awV ?_ ?_ | refine awW ?_ ?_ | refine endK ?_ ?_ | (refine condK (fun h => ?_) (fun h => ?_) <;> (try simp only [go_sem, reduceCtorEq] at h) <;> (try (exfalso; omega))))) | fail)) <;> (try omega)
    all_goals exact ⟨_, rfl⟩
  have e1 : (t < 0) = False := eq_false h1
  by_cases h2 : (ts.length : Int) ≤ t
  · have e2 : ((ts.length : Int) ≤ t) = True := eq_true h2
    (repeat' (first
    | exact trivial
    | (with_reducible first | refine awA ?_ | refine awB ?_ | refine awC ?_ | refine awD ?_ | refine awE ?_ | refine awF ?_ | refine awG ?_ | refine awH ?_ | refine awI ?_ | refine awJ ?_ | refine awK ?_ | refine awL ?_ | refine awM (by decide) ?_)
    | (refine aw_draw (id := 11) (t := (.node [0, 1, 2, 3, 4, 5, 6, 7, 8, 9] [])) (drR [7] [46] []) mixed (by kernel_rfl) (by kernel_rfl) (fun _ _ h => h) ?_)
    | (refine at_done (by simp only [List.filterMap_cons, List.filterMap_nil, List.getElem?_toArray, List.getElem?_cons_zero, List.getElem?_cons_succ]; exact rfl) ?_) | (refine at_alt (by simp only [List.filterMap_cons, List.filterMap_nil, List.getElem?_toArray, List.getElem?_cons_zero, List.getElem?_cons_succ]; exact rfl) ?_) | refine qalt_normal ?_ | refine ats_cons ?_ ?_ | exact ats_nil
    | ((with_reducible first | refine awN (tyOf_ok _) [] ?_ | refine awO (tyOf_ok _) [] ?_ | refine awP (tyOf_ok _) [] ?_ | refine awQ ?_ | refine awR ?_ | refine awS ?_); intro r hr; simp only [go_sem, Nat.reduceBEq, Nat.reduceBneDiff, Nat.reduceLT, Nat.reduceLeDiff, Nat.reduceAdd, Nat.reduceMul, Nat.reduceSub, Nat.reduceEqDiff, reduceCtorEq, vSch, encTs_len, e1, e2] at hr; subst hr; (first | refine caB 38 (.agg [vI 0, vI 0]) ?_ ?_ ?_ | refine awV ?_ ?_ | refine awW ?_ ?_ | refine endK ?_ ?_ | (refine condK (fun h => ?_) (fun h => ?_) <;> (try simp only [go_sem, reduceCtorEq] at h) <;> (try (exfalso; omega))))) | fail)) <;> (try omega)
    all_goals exact ⟨_, rfl⟩
  have e2 : ((ts.length : Int) ≤ t) = False := eq_false h2
  by_cases h0 : (checkF ts rs).1 = 0
  case neg =>
    have e3 : ((checkF ts rs).1 = 0) = False := eq_false h0
    generalize checkF ts rs = C at *
    (repeat' (first
    | exact trivial
    | (with_reducible first | refine awA ?_ | refine awB ?_ | refine awC ?_ | refine awD ?_ | refine awE ?_ | refine awF ?_ | refine awG ?_ | refine awH ?_ | refine awI ?_ | refine awJ ?_ | refine awK ?_ | refine awL ?_ | refine awM (by decide) ?_)
    | (refine aw_draw (id := 11) (t := (.node [0, 1, 2, 3, 4, 5, 6, 7, 8, 9] [])) (drR [7] [46] []) mixed (by kernel_rfl) (by kernel_rfl) (fun _ _ h => h) ?_)
    | (refine at_done (by simp only [List.filterMap_cons, List.filterMap_nil, List.getElem?_toArray, List.getElem?_cons_zero, List.getElem?_cons_succ]; exact rfl) ?_) | (refine at_alt (by simp only [List.filterMap_cons, List.filterMap_nil, List.getElem?_toArray, List.getElem?_cons_zero, List.getElem?_cons_succ]; exact rfl) ?_) | refine qalt_normal ?_ | refine ats_cons ?_ ?_ | exact ats_nil
    | ((with_reducible first | refine awN (tyOf_ok _) [] ?_ | refine awO (tyOf_ok _) [] ?_ | refine awP (tyOf_ok _) [] ?_ | refine awQ ?_ | refine awR ?_ | refine awS ?_); intro r hr; simp only [go_sem, Nat.reduceBEq, Nat.reduceBneDiff, Nat.reduceLT, Nat.reduceLeDiff, Nat.reduceAdd, Nat.reduceMul, Nat.reduceSub, Nat.reduceEqDiff, reduceCtorEq, vSch, encTs_len, e1, e2, e3] at hr; subst hr; (first | refine caA (fun _ => hck) rfl ?_ ?_ ?_ | refine awV ?_ ?_ | refine awW ?_ ?_ | refine endK ?_ ?_ | (refine condK (fun h => ?_) (fun h => ?_) <;> (try simp only [go_sem, reduceCtorEq] at h) <;> (try (exfalso; omega))))) | fail)) <;> (try omega)
    all_goals exact ⟨_, rfl⟩
  have hr := check_right h0
  rw [h0] at hck
  generalize (checkF ts rs).2 = C2 at *
  (repeat' (first
    | exact trivial
    | (with_reducible first | refine awA ?_ | refine awB ?_ | refine awC ?_ | refine awD ?_ | refine awE ?_ | refine awF ?_ | refine awG ?_ | refine awH ?_ | refine awI ?_ | refine awJ ?_ | refine awK ?_ | refine awL ?_ | refine awM (by decide) ?_)
    | (refine aw_draw (id := 11) (t := (.node [0, 1, 2, 3, 4, 5, 6, 7, 8, 9] [])) (drR [7] [46] []) mixed (by kernel_rfl) (by kernel_rfl) (fun _ _ h => h) ?_)
    | (refine at_done (by simp only [List.filterMap_cons, List.filterMap_nil, List.getElem?_toArray, List.getElem?_cons_zero, List.getElem?_cons_succ]; exact rfl) ?_) | (refine at_alt (by simp only [List.filterMap_cons, List.filterMap_nil, List.getElem?_toArray, List.getElem?_cons_zero, List.getElem?_cons_succ]; exact rfl) ?_) | refine qalt_normal ?_ | refine ats_cons ?_ ?_ | exact ats_nil
    | ((with_reducible first | refine awN (tyOf_ok _) [] ?_ | refine awO (tyOf_ok _) [] ?_ | refine awP (tyOf_ok _) [] ?_ | refine awQ ?_ | refine awR ?_ | refine awS ?_); intro r hr; simp only [go_sem, Nat.reduceBEq, Nat.reduceBneDiff, Nat.reduceLT, Nat.reduceLeDiff, Nat.reduceAdd, Nat.reduceMul, Nat.reduceSub, Nat.reduceEqDiff, reduceCtorEq, vSch, encTs_len, e1, e2] at hr; subst hr; (first | refine caA (fun _ => hck) rfl ?_ ?_ ?_ | refine awV ?_ ?_ | refine awW ?_ ?_ | refine endK ?_ ?_ | (refine condK (fun h => ?_) (fun h => ?_) <;> (try simp only [go_sem, reduceCtorEq] at h) <;> (try (exfalso; omega))))) | fail)) <;> (try omega)
  refine aw_nilrow 5 3 1 8000 (.inl (by decide)) (by simp only [go_sem, Nat.reduceBEq, Nat.reduceBneDiff, Nat.reduceLT, Nat.reduceLeDiff, Nat.reduceAdd, Nat.reduceMul, Nat.reduceSub, Nat.reduceEqDiff, reduceCtorEq]) ?_
  refine go_loop [1, 2, 4, 5, 6] [2, 8000] (fun l : List Int => ⟨[(1, true, vI t), (2, true, .ptr 1 2 0 0), (4, true, vB false), (5, true, .ref 3 1 8000 0 l.length), (6, true, vI l.length)], [(2, .var [.lst 4 (encTs ts), .lst 2 (encRs rs)]), (8000, .row 3 1 (v8 l))]⟩)
    (fun l => (l.length : Int) ≤ t + 1) (fun l => ts.length - l.length) [] (by simp only [AState.nilrow, go_sem, Nat.reduceBEq, Nat.reduceBneDiff, Nat.reduceLT, Nat.reduceLeDiff, Nat.reduceAdd, Nat.reduceMul, Nat.reduceSub, Nat.reduceEqDiff, reduceCtorEq] <;> exact rfl) (by simp only [List.length_nil]; omega) ?_
  intro l hl
  have hw1 := wrap_i64 (n := (l.length : Int) + 1) (by omega)
  by_cases hlt : (l.length : Int) ≤ t
  case neg =>
    have f1 : ((l.length : Int) ≤ t) = False := eq_false hlt
    (repeat' (first
    | exact trivial
    | (with_reducible first | refine awA ?_ | refine awB ?_ | refine awC ?_ | refine awD ?_ | refine awE ?_ | refine awF ?_ | refine awG ?_ | refine awH ?_ | refine awI ?_ | refine awJ ?_ | refine awK ?_ | refine awL ?_ | refine awM (by decide) ?_)
    | (refine aw_draw (id := 11) (t := (.node [0, 1, 2, 3, 4, 5, 6, 7, 8, 9] [])) (drR [7] [46] []) mixed (by kernel_rfl) (by kernel_rfl) (fun _ _ h => h) ?_)
    | (refine at_done (by simp only [List.filterMap_cons, List.filterMap_nil, List.getElem?_toArray, List.getElem?_cons_zero, List.getElem?_cons_succ]; exact rfl) ?_) | (refine at_alt (by simp only [List.filterMap_cons, List.filterMap_nil, List.getElem?_toArray, List.getElem?_cons_zero, List.getElem?_cons_succ]; exact rfl) ?_) | refine qalt_normal ?_ | refine ats_cons ?_ ?_ | exact ats_nil
    | ((with_reducible first | refine awN (tyOf_ok _) [] ?_ | refine awO (tyOf_ok _) [] ?_ | refine awP (tyOf_ok _) [] ?_ | refine awQ ?_ | refine awR ?_ | refine awS ?_); intro r hr; simp only [go_sem, Nat.reduceBEq, Nat.reduceBneDiff, Nat.reduceLT, Nat.reduceLeDiff, Nat.reduceAdd, Nat.reduceMul, Nat.reduceSub, Nat.reduceEqDiff, reduceCtorEq, f1] at hr; subst hr; (first | refine awV ?_ ?_ | refine awW ?_ ?_ | refine endK ?_ ?_ | (refine condK (fun h => ?_) (fun h => ?_) <;> (try simp only [go_sem, reduceCtorEq] at h) <;> (try (exfalso; omega))))) | fail)) <;> (try omega)
    all_goals exact ⟨_, rfl⟩
  have f1 : ((l.length : Int) ≤ t) = True := eq_true hlt
  have g1 := encTs_get (show l.length < ts.length by omega)
  have hrk := hr l.length (show l.length < ts.length by omega)
  have hty := rightOK_ty hrk
  have hpl : ts[l.length].parts.length ≤ 64 ∨ True := .inr trivial
  have hppl := hp _ (List.getElem_mem (show l.length < ts.length by omega))
  generalize ts[l.length] = T at *
  have hv : (v8 l).length = l.length := v8_len l
  (repeat' (first
    | exact trivial
    | (refine go_cutK 2 [1, 2, 4, 5, 6, 8] [2, 8000] (fun y : Int => ⟨[(1, true, vI t), (2, true, .ptr 1 2 0 0), (4, true, vB false), (5, true, .ref 3 1 8000 0 l.length), (6, true, vI l.length), (8, true, vI y)], [(2, .var [.lst 4 (encTs ts), .lst 2 (encRs rs)]), (8000, .row 3 1 (v8 l))]⟩) (fun _ => True) (hold ?_) ?_)
    | (with_reducible first | refine awA ?_ | refine awB ?_ | refine awC ?_ | refine awD ?_ | refine awE ?_ | refine awF ?_ | refine awG ?_ | refine awH ?_ | refine awI ?_ | refine awJ ?_ | refine awK ?_ | refine awL ?_ | refine awM (by decide) ?_)
    | (refine aw_draw (id := 11) (t := (.node [0, 1, 2, 3, 4, 5, 6, 7, 8, 9] [])) (drR [7] [46] []) mixed (by kernel_rfl) (by kernel_rfl) (fun _ _ h => h) ?_)
    | (refine at_done (by simp only [List.filterMap_cons, List.filterMap_nil, List.getElem?_toArray, List.getElem?_cons_zero, List.getElem?_cons_succ]; exact rfl) ?_) | (refine at_alt (by simp only [List.filterMap_cons, List.filterMap_nil, List.getElem?_toArray, List.getElem?_cons_zero, List.getElem?_cons_succ]; exact rfl) ?_) | refine qalt_normal ?_ | refine ats_cons ?_ ?_ | exact ats_nil
    | ((with_reducible first | refine awN (tyOf_ok _) [] ?_ | refine awO (tyOf_ok _) [] ?_ | refine awP (tyOf_ok _) [] ?_ | refine awQ ?_ | refine awR ?_ | refine awS ?_); intro r hr; simp only [go_sem, Nat.reduceBEq, Nat.reduceBneDiff, Nat.reduceLT, Nat.reduceLeDiff, Nat.reduceAdd, Nat.reduceMul, Nat.reduceSub, Nat.reduceEqDiff, reduceCtorEq, encTs_len, f1, g1, hv] at hr; subst hr; (first | refine awV ?_ ?_ | refine awW ?_ ?_ | refine endK ?_ ?_ | (refine condK (fun h => ?_) (fun h => ?_) <;> (try simp only [go_sem, reduceCtorEq] at h) <;> (try (exfalso; omega))))) | fail)) <;> (try omega)
  · refine ⟨?_⟩
    by_cases h4 : T.kind = 4
    · have e4 : (T.kind = 4) = True := eq_true h4
      have hel := hty.1 (.inl h4)
      obtain ⟨en, hen⟩ : ∃ en : Nat, T.elem = en := ⟨T.elem.toNat, by omega⟩
      have g2 := v8_get (zs := l) (k := en) (by omega)
      have z1 : ((en : Int)).toNat = en := by omega
      rw [hen]
      (repeat' (first
    | exact trivial
    | (with_reducible first | refine awA ?_ | refine awB ?_ | refine awC ?_ | refine awD ?_ | refine awE ?_ | refine awF ?_ | refine awG ?_ | refine awH ?_ | refine awI ?_ | refine awJ ?_ | refine awK ?_ | refine awL ?_ | refine awM (by decide) ?_)
    | (refine aw_draw (id := 11) (t := (.node [0, 1, 2, 3, 4, 5, 6, 7, 8, 9] [])) (drR [7] [46] []) mixed (by kernel_rfl) (by kernel_rfl) (fun _ _ h => h) ?_)
    | (refine at_done (by simp only [List.filterMap_cons, List.filterMap_nil, List.getElem?_toArray, List.getElem?_cons_zero, List.getElem?_cons_succ]; exact rfl) ?_) | (refine at_alt (by simp only [List.filterMap_cons, List.filterMap_nil, List.getElem?_toArray, List.getElem?_cons_zero, List.getElem?_cons_succ]; exact rfl) ?_) | refine qalt_normal ?_ | refine ats_cons ?_ ?_ | exact ats_nil
    | ((with_reducible first | refine awN (tyOf_ok _) [] ?_ | refine awO (tyOf_ok _) [] ?_ | refine awP (tyOf_ok _) [] ?_ | refine awQ ?_ | refine awR ?_ | refine awS ?_); intro r hr; simp only [go_sem, Nat.reduceBEq, Nat.reduceBneDiff, Nat.reduceLT, Nat.reduceLeDiff, Nat.reduceAdd, Nat.reduceMul, Nat.reduceSub, Nat.reduceEqDiff, reduceCtorEq, e4, g2, z1, hv] at hr; subst hr; (first | refine awV ?_ ?_ | refine awW ?_ ?_ | refine endK ?_ ?_ | (refine condK (fun h => ?_) (fun h => ?_) <;> (try simp only [go_sem, reduceCtorEq] at h) <;> (try (exfalso; omega))))) | fail)) <;> (try omega)
      all_goals first | exact ⟨_, by simp only [go_sem, Nat.reduceBEq, Nat.reduceBneDiff, Nat.reduceLT, Nat.reduceLeDiff, Nat.reduceAdd, Nat.reduceMul, Nat.reduceSub, Nat.reduceEqDiff, reduceCtorEq] <;> exact rfl, trivial⟩ | omega
    have e4 : (T.kind = 4) = False := eq_false h4
    have hin : ∀ i, (h : i < T.parts.length) → ∃ pn : Nat, T.parts[i].ty = pn ∧ pn < l.length := fun i h => by
      have := hty.2 _ (List.getElem_mem h)
      exact ⟨T.parts[i].ty.toNat, by omega, by omega⟩
    by_cases h7 : T.kind = 7
    · have e7 : (T.kind = 7) = True := eq_true h7
      (repeat' (first
    | exact trivial
    | (with_reducible first | refine awA ?_ | refine awB ?_ | refine awC ?_ | refine awD ?_ | refine awE ?_ | refine awF ?_ | refine awG ?_ | refine awH ?_ | refine awI ?_ | refine awJ ?_ | refine awK ?_ | refine awL ?_ | refine awM (by decide) ?_)
    | (refine aw_draw (id := 11) (t := (.node [0, 1, 2, 3, 4, 5, 6, 7, 8, 9] [])) (drR [7] [46] []) mixed (by kernel_rfl) (by kernel_rfl) (fun _ _ h => h) ?_)
    | (refine at_done (by simp only [List.filterMap_cons, List.filterMap_nil, List.getElem?_toArray, List.getElem?_cons_zero, List.getElem?_cons_succ]; exact rfl) ?_) | (refine at_alt (by simp only [List.filterMap_cons, List.filterMap_nil, List.getElem?_toArray, List.getElem?_cons_zero, List.getElem?_cons_succ]; exact rfl) ?_) | refine qalt_normal ?_ | refine ats_cons ?_ ?_ | exact ats_nil
    | ((with_reducible first | refine awN (tyOf_ok _) [] ?_ | refine awO (tyOf_ok _) [] ?_ | refine awP (tyOf_ok _) [] ?_ | refine awQ ?_ | refine awR ?_ | refine awS ?_); intro r hr; simp only [go_sem, Nat.reduceBEq, Nat.reduceBneDiff, Nat.reduceLT, Nat.reduceLeDiff, Nat.reduceAdd, Nat.reduceMul, Nat.reduceSub, Nat.reduceEqDiff, reduceCtorEq, e4, e7] at hr; subst hr; (first | refine awV ?_ ?_ | refine awW ?_ ?_ | refine endK ?_ ?_ | (refine condK (fun h => ?_) (fun h => ?_) <;> (try simp only [go_sem, reduceCtorEq] at h) <;> (try (exfalso; omega))))) | fail)) <;> (try omega)
      refine go_loop [1, 2, 4, 5, 6, 7, 8, 9] [2, 7, 8000] (fun q : Nat × Int => ⟨[(1, true, vI t), (2, true, .ptr 1 2 0 0), (4, true, vB false), (5, true, .ref 3 1 8000 0 l.length), (6, true, vI l.length), (7, true, .ptr 1 7 0 0), (8, true, vI q.2), (9, true, vI q.1)], [(2, .var [.lst 4 (encTs ts), .lst 2 (encRs rs)]), (7, .var [vI T.kind, vI T.n, vI T.elem, .lst 3 (encPs T.parts)]), (8000, .row 3 1 (v8 l))]⟩)
        (fun q => q.1 ≤ T.parts.length) (fun q => T.parts.length - q.1) (0, 0) (by simp only [go_sem, Nat.reduceBEq, Nat.reduceBneDiff, Nat.reduceLT, Nat.reduceLeDiff, Nat.reduceAdd, Nat.reduceMul, Nat.reduceSub, Nat.reduceEqDiff, reduceCtorEq, h7] <;> exact rfl) (Nat.zero_le _) ?_
      intro ⟨i, m⟩ hi
      simp only at hi
      have hwi := wrap_i64 (n := (i : Int) + 1) (by omega)
      by_cases hlt2 : i < T.parts.length
      · have f2 : ((i : Int) < T.parts.length) = True := eq_true (by omega)
        have g3 := encPs_get hlt2
        obtain ⟨pn, hpn, hpl⟩ := hin i hlt2
        have g2 := v8_get hpl
        have z1 : ((pn : Int)).toNat = pn := by omega
        rw [hpn] at g3
        generalize T.parts[i] = pp at *
        generalize l[pn] = z at *
        (repeat' (first
    | exact trivial
    | (with_reducible first | refine awA ?_ | refine awB ?_ | refine awC ?_ | refine awD ?_ | refine awE ?_ | refine awF ?_ | refine awG ?_ | refine awH ?_ | refine awI ?_ | refine awJ ?_ | refine awK ?_ | refine awL ?_ | refine awM (by decide) ?_)
    | (refine aw_draw (id := 11) (t := (.node [0, 1, 2, 3, 4, 5, 6, 7, 8, 9] [])) (drR [7] [46] []) mixed (by kernel_rfl) (by kernel_rfl) (fun _ _ h => h) ?_)
    | (refine at_done (by simp only [List.filterMap_cons, List.filterMap_nil, List.getElem?_toArray, List.getElem?_cons_zero, List.getElem?_cons_succ]; exact rfl) ?_) | (refine at_alt (by simp only [List.filterMap_cons, List.filterMap_nil, List.getElem?_toArray, List.getElem?_cons_zero, List.getElem?_cons_succ]; exact rfl) ?_) | refine qalt_normal ?_ | refine ats_cons ?_ ?_ | exact ats_nil
    | ((with_reducible first | refine awN (tyOf_ok _) [] ?_ | refine awO (tyOf_ok _) [] ?_ | refine awP (tyOf_ok _) [] ?_ | refine awQ ?_ | refine awR ?_ | refine awS ?_); intro r hr; simp only [go_sem, Nat.reduceBEq, Nat.reduceBneDiff, Nat.reduceLT, Nat.reduceLeDiff, Nat.reduceAdd, Nat.reduceMul, Nat.reduceSub, Nat.reduceEqDiff, reduceCtorEq, encPs_len, f2, g3, g2, z1, hv, hwi] at hr; subst hr; (first | refine awV ?_ ?_ | refine awW ?_ ?_ | refine endK ?_ ?_ | (refine condK (fun h => ?_) (fun h => ?_) <;> (try simp only [go_sem, reduceCtorEq] at h) <;> (try (exfalso; omega))))) | fail)) <;> (try omega)
        all_goals first | exact ⟨(i + 1, max m z), by simp only [go_sem, Nat.reduceBEq, Nat.reduceBneDiff, Nat.reduceLT, Nat.reduceLeDiff, Nat.reduceAdd, Nat.reduceMul, Nat.reduceSub, Nat.reduceEqDiff, reduceCtorEq] <;> exact rfl, hlt2, by simp only; omega⟩ | omega
      · have f2 : ((i : Int) < T.parts.length) = False := eq_false (by omega)
        (repeat' (first
    | exact trivial
    | (with_reducible first | refine awA ?_ | refine awB ?_ | refine awC ?_ | refine awD ?_ | refine awE ?_ | refine awF ?_ | refine awG ?_ | refine awH ?_ | refine awI ?_ | refine awJ ?_ | refine awK ?_ | refine awL ?_ | refine awM (by decide) ?_)
    | (refine aw_draw (id := 11) (t := (.node [0, 1, 2, 3, 4, 5, 6, 7, 8, 9] [])) (drR [7] [46] []) mixed (by kernel_rfl) (by kernel_rfl) (fun _ _ h => h) ?_)
    | (refine at_done (by simp only [List.filterMap_cons, List.filterMap_nil, List.getElem?_toArray, List.getElem?_cons_zero, List.getElem?_cons_succ]; exact rfl) ?_) | (refine at_alt (by simp only [List.filterMap_cons, List.filterMap_nil, List.getElem?_toArray, List.getElem?_cons_zero, List.getElem?_cons_succ]; exact rfl) ?_) | refine qalt_normal ?_ | refine ats_cons ?_ ?_ | exact ats_nil
    | ((with_reducible first | refine awN (tyOf_ok _) [] ?_ | refine awO (tyOf_ok _) [] ?_ | refine awP (tyOf_ok _) [] ?_ | refine awQ ?_ | refine awR ?_ | refine awS ?_); intro r hr; simp only [go_sem, Nat.reduceBEq, Nat.reduceBneDiff, Nat.reduceLT, Nat.reduceLeDiff, Nat.reduceAdd, Nat.reduceMul, Nat.reduceSub, Nat.reduceEqDiff, reduceCtorEq, encPs_len, f2, hwi] at hr; subst hr; (first | refine awV ?_ ?_ | refine awW ?_ ?_ | refine endK ?_ ?_ | (refine condK (fun h => ?_) (fun h => ?_) <;> (try simp only [go_sem, reduceCtorEq] at h) <;> (try (exfalso; omega))))) | fail)) <;> (try omega)
        exact ⟨_, by simp only [go_sem, Nat.reduceBEq, Nat.reduceBneDiff, Nat.reduceLT, Nat.reduceLeDiff, Nat.reduceAdd, Nat.reduceMul, Nat.reduceSub, Nat.reduceEqDiff, reduceCtorEq] <;> exact rfl, trivial⟩
    have e7 : (T.kind = 7) = False := eq_false h7
    by_cases h8 : T.kind = 8
    · have e8 : (T.kind = 8) = True := eq_true h8
      (repeat' (first
    | exact trivial
    | (with_reducible first | refine awA ?_ | refine awB ?_ | refine awC ?_ | refine awD ?_ | refine awE ?_ | refine awF ?_ | refine awG ?_ | refine awH ?_ | refine awI ?_ | refine awJ ?_ | refine awK ?_ | refine awL ?_ | refine awM (by decide) ?_)
    | (refine aw_draw (id := 11) (t := (.node [0, 1, 2, 3, 4, 5, 6, 7, 8, 9] [])) (drR [7] [46] []) mixed (by kernel_rfl) (by kernel_rfl) (fun _ _ h => h) ?_)
    | (refine at_done (by simp only [List.filterMap_cons, List.filterMap_nil, List.getElem?_toArray, List.getElem?_cons_zero, List.getElem?_cons_succ]; exact rfl) ?_) | (refine at_alt (by simp only [List.filterMap_cons, List.filterMap_nil, List.getElem?_toArray, List.getElem?_cons_zero, List.getElem?_cons_succ]; exact rfl) ?_) | refine qalt_normal ?_ | refine ats_cons ?_ ?_ | exact ats_nil
    | ((with_reducible first | refine awN (tyOf_ok _) [] ?_ | refine awO (tyOf_ok _) [] ?_ | refine awP (tyOf_ok _) [] ?_ | refine awQ ?_ | refine awR ?_ | refine awS ?_); intro r hr; simp only [go_sem, Nat.reduceBEq, Nat.reduceBneDiff, Nat.reduceLT, Nat.reduceLeDiff, Nat.reduceAdd, Nat.reduceMul, Nat.reduceSub, Nat.reduceEqDiff, reduceCtorEq, e4, e7, e8] at hr; subst hr; (first | refine awV ?_ ?_ | refine awW ?_ ?_ | refine endK ?_ ?_ | (refine condK (fun h => ?_) (fun h => ?_) <;> (try simp only [go_sem, reduceCtorEq] at h) <;> (try (exfalso; omega))))) | fail)) <;> (try omega)
      refine go_loop [1, 2, 4, 5, 6, 7, 8, 10] [2, 7, 8000] (fun q : Nat × Int => ⟨[(1, true, vI t), (2, true, .ptr 1 2 0 0), (4, true, vB false), (5, true, .ref 3 1 8000 0 l.length), (6, true, vI l.length), (7, true, .ptr 1 7 0 0), (8, true, vI q.2), (10, true, vI q.1)], [(2, .var [.lst 4 (encTs ts), .lst 2 (encRs rs)]), (7, .var [vI T.kind, vI T.n, vI T.elem, .lst 3 (encPs T.parts)]), (8000, .row 3 1 (v8 l))]⟩)
        (fun q => q.1 ≤ T.parts.length) (fun q => T.parts.length - q.1) (0, 0) (by simp only [go_sem, Nat.reduceBEq, Nat.reduceBneDiff, Nat.reduceLT, Nat.reduceLeDiff, Nat.reduceAdd, Nat.reduceMul, Nat.reduceSub, Nat.reduceEqDiff, reduceCtorEq, h8] <;> exact rfl) (Nat.zero_le _) ?_
      intro ⟨i, m⟩ hi
      simp only at hi
      have hwi := wrap_i64 (n := (i : Int) + 1) (by omega)
      by_cases hlt2 : i < T.parts.length
      · have f2 : ((i : Int) < T.parts.length) = True := eq_true (by omega)
        have g3 := encPs_get hlt2
        obtain ⟨pn, hpn, hpl⟩ := hin i hlt2
        have g2 := v8_get hpl
        have z1 : ((pn : Int)).toNat = pn := by omega
        rw [hpn] at g3
        generalize T.parts[i] = pp at *
        generalize l[pn] = z at *
        (repeat' (first
    | exact trivial
    | (with_reducible first | refine awA ?_ | refine awB ?_ | refine awC ?_ | refine awD ?_ | refine awE ?_ | refine awF ?_ | refine awG ?_ | refine awH ?_ | refine awI ?_ | refine awJ ?_ | refine awK ?_ | refine awL ?_ | refine awM (by decide) ?_)
    | (refine aw_draw (id := 11) (t := (.node [0, 1, 2, 3, 4, 5, 6, 7, 8, 9] [])) (drR [7] [46] []) mixed (by kernel_rfl) (by kernel_rfl) (fun _ _ h => h) ?_)
    | (refine at_done (by simp only [List.filterMap_cons, List.filterMap_nil, List.getElem?_toArray, List.getElem?_cons_zero, List.getElem?_cons_succ]; exact rfl) ?_) | (refine at_alt (by simp only [List.filterMap_cons, List.filterMap_nil, List.getElem?_toArray, List.getElem?_cons_zero, List.getElem?_cons_succ]; exact rfl) ?_) | refine qalt_normal ?_ | refine ats_cons ?_ ?_ | exact ats_nil
    | ((with_reducible first | refine awN (tyOf_ok _) [] ?_ | refine awO (tyOf_ok _) [] ?_ | refine awP (tyOf_ok _) [] ?_ | refine awQ ?_ | refine awR ?_ | refine awS ?_); intro r hr; simp only [go_sem, Nat.reduceBEq, Nat.reduceBneDiff, Nat.reduceLT, Nat.reduceLeDiff, Nat.reduceAdd, Nat.reduceMul, Nat.reduceSub, Nat.reduceEqDiff, reduceCtorEq, encPs_len, f2, g3, g2, z1, hv, hwi] at hr; subst hr; (first | refine awV ?_ ?_ | refine awW ?_ ?_ | refine endK ?_ ?_ | (refine condK (fun h => ?_) (fun h => ?_) <;> (try simp only [go_sem, reduceCtorEq] at h) <;> (try (exfalso; omega))))) | fail)) <;> (try omega)
        all_goals first | exact ⟨(i + 1, IntKind.i64.wrap (m + z)), by simp only [go_sem, Nat.reduceBEq, Nat.reduceBneDiff, Nat.reduceLT, Nat.reduceLeDiff, Nat.reduceAdd, Nat.reduceMul, Nat.reduceSub, Nat.reduceEqDiff, reduceCtorEq] <;> exact rfl, hlt2, by simp only; omega⟩ | omega
      · have f2 : ((i : Int) < T.parts.length) = False := eq_false (by omega)
        (repeat' (first
    | exact trivial
    | (with_reducible first | refine awA ?_ | refine awB ?_ | refine awC ?_ | refine awD ?_ | refine awE ?_ | refine awF ?_ | refine awG ?_ | refine awH ?_ | refine awI ?_ | refine awJ ?_ | refine awK ?_ | refine awL ?_ | refine awM (by decide) ?_)
    | (refine aw_draw (id := 11) (t := (.node [0, 1, 2, 3, 4, 5, 6, 7, 8, 9] [])) (drR [7] [46] []) mixed (by kernel_rfl) (by kernel_rfl) (fun _ _ h => h) ?_)
    | (refine at_done (by simp only [List.filterMap_cons, List.filterMap_nil, List.getElem?_toArray, List.getElem?_cons_zero, List.getElem?_cons_succ]; exact rfl) ?_) | (refine at_alt (by simp only [List.filterMap_cons, List.filterMap_nil, List.getElem?_toArray, List.getElem?_cons_zero, List.getElem?_cons_succ]; exact rfl) ?_) | refine qalt_normal ?_ | refine ats_cons ?_ ?_ | exact ats_nil
    | ((with_reducible first | refine awN (tyOf_ok _) [] ?_ | refine awO (tyOf_ok _) [] ?_ | refine awP (tyOf_ok _) [] ?_ | refine awQ ?_ | refine awR ?_ | refine awS ?_); intro r hr; simp only [go_sem, Nat.reduceBEq, Nat.reduceBneDiff, Nat.reduceLT, Nat.reduceLeDiff, Nat.reduceAdd, Nat.reduceMul, Nat.reduceSub, Nat.reduceEqDiff, reduceCtorEq, encPs_len, f2, hwi] at hr; subst hr; (first | refine awV ?_ ?_ | refine awW ?_ ?_ | refine endK ?_ ?_ | (refine condK (fun h => ?_) (fun h => ?_) <;> (try simp only [go_sem, reduceCtorEq] at h) <;> (try (exfalso; omega))))) | fail)) <;> (try omega)
        exact ⟨_, by simp only [go_sem, Nat.reduceBEq, Nat.reduceBneDiff, Nat.reduceLT, Nat.reduceLeDiff, Nat.reduceAdd, Nat.reduceMul, Nat.reduceSub, Nat.reduceEqDiff, reduceCtorEq] <;> exact rfl, trivial⟩
    have e8 : (T.kind = 8) = False := eq_false h8
    (repeat' (first
    | exact trivial
    | (with_reducible first | refine awA ?_ | refine awB ?_ | refine awC ?_ | refine awD ?_ | refine awE ?_ | refine awF ?_ | refine awG ?_ | refine awH ?_ | refine awI ?_ | refine awJ ?_ | refine awK ?_ | refine awL ?_ | refine awM (by decide) ?_)
    | (refine aw_draw (id := 11) (t := (.node [0, 1, 2, 3, 4, 5, 6, 7, 8, 9] [])) (drR [7] [46] []) mixed (by kernel_rfl) (by kernel_rfl) (fun _ _ h => h) ?_)
    | (refine at_done (by simp only [List.filterMap_cons, List.filterMap_nil, List.getElem?_toArray, List.getElem?_cons_zero, List.getElem?_cons_succ]; exact rfl) ?_) | (refine at_alt (by simp only [List.filterMap_cons, List.filterMap_nil, List.getElem?_toArray, List.getElem?_cons_zero, List.getElem?_cons_succ]; exact rfl) ?_) | refine qalt_normal ?_ | refine ats_cons ?_ ?_ | exact ats_nil
    | ((with_reducible first | refine awN (tyOf_ok _) [] ?_ | refine awO (tyOf_ok _) [] ?_ | refine awP (tyOf_ok _) [] ?_ | refine awQ ?_ | refine awR ?_ | refine awS ?_); intro r hr; simp only [go_sem, Nat.reduceBEq, Nat.reduceBneDiff, Nat.reduceLT, Nat.reduceLeDiff, Nat.reduceAdd, Nat.reduceMul, Nat.reduceSub, Nat.reduceEqDiff, reduceCtorEq, e4, e7, e8] at hr; subst hr; (first | refine awV ?_ ?_ | refine awW ?_ ?_ | refine endK ?_ ?_ | (refine condK (fun h => ?_) (fun h => ?_) <;> (try simp only [go_sem, reduceCtorEq] at h) <;> (try (exfalso; omega))))) | fail)) <;> (try omega)
    exact ⟨_, by simp only [go_sem, Nat.reduceBEq, Nat.reduceBneDiff, Nat.reduceLT, Nat.reduceLeDiff, Nat.reduceAdd, Nat.reduceMul, Nat.reduceSub, Nat.reduceEqDiff, reduceCtorEq] <;> exact rfl, trivial⟩
  intro y _
  obtain ⟨z, hzz⟩ : ∃ z, min (IntKind.i64.wrap (1 + y)) 10000 = z := ⟨_, rfl⟩
  have happ : v8 l ++ [[vI z]] = v8 (l ++ [z]) := by simp [v8]
  have htk : (v8 l).take l.length = v8 l := take_len (by omega)
  have hl1 : (l ++ [z]).length = l.length + 1 := by simp
  have hgl : (v8 (l ++ [z]))[l.length]? = some [vI z] := by
    have := v8_get (zs := l ++ [z]) (k := l.length) (by omega)
    rw [this, List.getElem_append_right (Nat.le_refl _)]; simp
  by_cases hz : 2000 < z
  · have ez : (2000 < z) = True := eq_true hz
    (repeat' (first
    | exact trivial
    | (with_reducible first | refine awA ?_ | refine awB ?_ | refine awC ?_ | refine awD ?_ | refine awE ?_ | refine awF ?_ | refine awG ?_ | refine awH ?_ | refine awI ?_ | refine awJ ?_ | refine awK ?_ | refine awL ?_ | refine awM (by decide) ?_)
    | (refine aw_draw (id := 11) (t := (.node [0, 1, 2, 3, 4, 5, 6, 7, 8, 9] [])) (drR [7] [46] []) mixed (by kernel_rfl) (by kernel_rfl) (fun _ _ h => h) ?_)
    | (refine at_done (by simp only [List.filterMap_cons, List.filterMap_nil, List.getElem?_toArray, List.getElem?_cons_zero, List.getElem?_cons_succ]; exact rfl) ?_) | (refine at_alt (by simp only [List.filterMap_cons, List.filterMap_nil, List.getElem?_toArray, List.getElem?_cons_zero, List.getElem?_cons_succ]; exact rfl) ?_) | refine qalt_normal ?_ | refine ats_cons ?_ ?_ | exact ats_nil
    | ((with_reducible first | refine awN (tyOf_ok _) [] ?_ | refine awO (tyOf_ok _) [] ?_ | refine awP (tyOf_ok _) [] ?_ | refine awQ ?_ | refine awR ?_ | refine awS ?_); intro r hr; simp only [go_sem, Nat.reduceBEq, Nat.reduceBneDiff, Nat.reduceLT, Nat.reduceLeDiff, Nat.reduceAdd, Nat.reduceMul, Nat.reduceSub, Nat.reduceEqDiff, reduceCtorEq, hv, hzz, happ, htk, hl1, hgl, ez, hw1] at hr; subst hr; (first | refine awV ?_ ?_ | refine awW ?_ ?_ | refine endK ?_ ?_ | (refine condK (fun h => ?_) (fun h => ?_) <;> (try simp only [go_sem, reduceCtorEq] at h) <;> (try (exfalso; omega))))) | fail)) <;> (try omega)
    all_goals exact ⟨_, rfl⟩
  · have ez : (2000 < z) = False := eq_false hz
    (repeat' (first
    | exact trivial
    | (with_reducible first | refine awA ?_ | refine awB ?_ | refine awC ?_ | refine awD ?_ | refine awE ?_ | refine awF ?_ | refine awG ?_ | refine awH ?_ | refine awI ?_ | refine awJ ?_ | refine awK ?_ | refine awL ?_ | refine awM (by decide) ?_)
    | (refine aw_draw (id := 11) (t := (.node [0, 1, 2, 3, 4, 5, 6, 7, 8, 9] [])) (drR [7] [46] []) mixed (by kernel_rfl) (by kernel_rfl) (fun _ _ h => h) ?_)
    | (refine at_done (by simp only [List.filterMap_cons, List.filterMap_nil, List.getElem?_toArray, List.getElem?_cons_zero, List.getElem?_cons_succ]; exact rfl) ?_) | (refine at_alt (by simp only [List.filterMap_cons, List.filterMap_nil, List.getElem?_toArray, List.getElem?_cons_zero, List.getElem?_cons_succ]; exact rfl) ?_) | refine qalt_normal ?_ | refine ats_cons ?_ ?_ | exact ats_nil
    | ((with_reducible first | refine awN (tyOf_ok _) [] ?_ | refine awO (tyOf_ok _) [] ?_ | refine awP (tyOf_ok _) [] ?_ | refine awQ ?_ | refine awR ?_ | refine awS ?_); intro r hr; simp only [go_sem, Nat.reduceBEq, Nat.reduceBneDiff, Nat.reduceLT, Nat.reduceLeDiff, Nat.reduceAdd, Nat.reduceMul, Nat.reduceSub, Nat.reduceEqDiff, reduceCtorEq, hv, hzz, happ, htk, hl1, hgl, ez, hw1] at hr; subst hr; (first | refine awV ?_ ?_ | refine awW ?_ ?_ | refine endK ?_ ?_ | (refine condK (fun h => ?_) (fun h => ?_) <;> (try simp only [go_sem, reduceCtorEq] at h) <;> (try (exfalso; omega))))) | fail)) <;> (try omega)
    all_goals exact ⟨l ++ [z], by simp only [go_sem, Nat.reduceBEq, Nat.reduceBneDiff, Nat.reduceLT, Nat.reduceLeDiff, Nat.reduceAdd, Nat.reduceMul, Nat.reduceSub, Nat.reduceEqDiff, reduceCtorEq, hl1] <;> exact rfl, by rw [hl1]; omega, by rw [hl1]; omega⟩
end Go.Proofs.YtfgacgpicfknpaaDoor
end
section
namespace Go.Proofs.YtfgacgpicfknpaaDoor
open Go.RowKit
set_option maxRecDepth 100000
set_option maxHeartbeats 8000000
/-! mortiselaw11.example, awake. -/
def eS11 : ByteArray := ⟨#[]⟩
def ts11 : List TypeM := [⟨1, 1, 0, []⟩, ⟨3, 0, 0, []⟩, ⟨5, 2, 1, []⟩, ⟨2, 0, 0, []⟩, ⟨1, 2, 0, []⟩, ⟨7, 0, 0, [⟨eS11, 3, 3⟩, ⟨eS11, 5, 4⟩]⟩, ⟨8, 0, 0, [⟨⟨#[97]⟩, 0, 0⟩, ⟨⟨#[98]⟩, 0, 2⟩, ⟨⟨#[99]⟩, 0, 5⟩]⟩]
def ps11 : List Int := [9, 300, 5, 8, -1, 1, 65537]
def vs11 : List NodeM := [⟨4, 0, 3⟩, ⟨1, 44, 0⟩, ⟨3, 0, 2⟩, ⟨1, 8, 0⟩, ⟨1, 18446744073709551615, 0⟩, ⟨6, 5, 1⟩, ⟨1, 1, 0⟩]
def vt11 : List NodeM := [⟨4, 0, 3⟩, ⟨1, 256, 0⟩, ⟨3, 0, 2⟩, ⟨1, 8, 0⟩, ⟨1, 18446744073709551615, 0⟩, ⟨6, 5, 1⟩, ⟨1, 1, 0⟩]
def cs11 : Tr := .node ⟨4, 0, 3⟩ [.node ⟨1, 44, 0⟩ [], .node ⟨3, 0, 2⟩ [.node ⟨1, 8, 0⟩ [], .node ⟨1, 18446744073709551615, 0⟩ []], .node ⟨6, 5, 1⟩ [.node ⟨1, 1, 0⟩ []]]
def ct11 : Tr := .node ⟨4, 0, 3⟩ [.node ⟨1, 256, 0⟩ [], .node ⟨3, 0, 2⟩ [.node ⟨1, 8, 0⟩ [], .node ⟨1, 18446744073709551615, 0⟩ []], .node ⟨6, 5, 1⟩ [.node ⟨1, 1, 0⟩ []]]
theorem some11 : someF ts11 [] 6 ps11 = (vs11, 0) := by kernel_rfl
theorem types11 : typesF ts11 [] 6 vs11 cs11 = ([6, 0, 2, 1, 1, 5, 4], 0, 0) := by kernel_rfl
theorem types11b : typesF ts11 [] 6 vt11 ct11 = ([], 111, 1) := by kernel_rfl
theorem types11c : typesF ts11 [] 7 vt11 ct11 = ([], 3, 0) := by kernel_rfl
theorem h111 : ∀ t ∈ ts11, t.parts.length ≤ 1000000000 := by decide
theorem h112 : ∀ x ∈ vs11, nodeOK x := by unfold nodeOK; decide
theorem h113 : ∀ x ∈ vt11, nodeOK x := by unfold nodeOK; decide
theorem okc11 : (chkN vs11).1 = 0 → cs11.flat = vs11 ∧ cs11.ok := fun _ => ⟨by kernel_rfl, by repeat (first | exact trivial | refine ⟨by decide, by decide, ?_⟩ | refine ⟨?_, ?_⟩)⟩
theorem okt11 : (chkN vt11).1 = 0 → ct11.flat = vt11 ∧ ct11.ok := fun _ => ⟨by kernel_rfl, by repeat (first | exact trivial | refine ⟨by decide, by decide, ?_⟩ | refine ⟨?_, ?_⟩)⟩
theorem example11_any : PCall Tryd.prog 30 [] (fun r => r = .tup [vSch ts11 [], vI 6]) := by
  refine go_fnU (tyOf_ok _) Tryd.func30 rfl rfl (by rw [Tryd.results30]) Tryd.ntmps30 rfl fun E => ?_
  (repeat' (first
    | exact trivial
    | (with_reducible first | refine awA ?_ | refine awB ?_ | refine awC ?_ | refine awD ?_ | refine awE ?_ | refine awF ?_ | refine awG ?_ | refine awH ?_ | refine awI ?_ | refine awJ ?_ | refine awK ?_ | refine awL ?_ | refine awM (by decide) ?_)
    | ((with_reducible first | refine awN (tyOf_ok _) [] ?_ | refine awO (tyOf_ok _) [] ?_ | refine awP (tyOf_ok _) [] ?_ | refine awQ ?_ | refine awR ?_ | refine awS ?_); intro r hr; simp only [go_sem, Nat.reduceBEq, Nat.reduceBneDiff, Nat.reduceLT, Nat.reduceLeDiff, Nat.reduceAdd, Nat.reduceMul, Nat.reduceSub, Nat.reduceEqDiff, reduceCtorEq, Int.cast_ofNat_Int, Int.reduceToNat, Int.reduceEq, Int.reduceLT, Int.reduceLE, Int.reduceNe] at hr; subst hr; (first | refine awV ?_ ?_ | refine awW ?_ ?_ | refine endK ?_ ?_ | (refine condK (fun h => ?_) (fun h => ?_) <;> (try simp only [go_sem, reduceCtorEq] at h) <;> (try (exfalso; omega))))) | fail)) <;> (try omega)
  refine AV.up_tup (AV.up_cons (Up.up (.agg (.cons (.lst ?_) (.cons (.nil _) .nil)))) (AV.up_cons (AV.up_rfl _) AV.up_nilL))
  repeat (first | exact .nil | refine .cons (.cons (.rfl _) (.cons (.rfl _) (.cons (.rfl _) (.cons (.nil _) .nil)))) ?_ | refine .cons (.cons (.rfl _) (.cons (.rfl _) (.cons (.rfl _) (.cons (.rfl _) .nil)))) ?_)
theorem v8_nm11 (l : List Int) : ∀ cs ∈ v8 l, ∀ u ∈ cs, ∃ x, u = .v x := by
  intro cs hcs u hu
  obtain ⟨z, _, rfl⟩ := List.mem_map.1 hcs
  rw [List.mem_singleton] at hu
  exact ⟨_, hu⟩
theorem awake11 : PCall Tryd.prog 8 [] (fun r => r = vB true) := by
  refine go_fn (tyOf_ok _) Tryd.func8 rfl rfl (by rw [Tryd.results8]) Tryd.ntmps8 rfl fun E => ?_
  have hS := tSome_any ts11 [] (by decide) (by decide) h111 6 ps11 (by decide)
  rw [some11] at hS
  have hC := tCheck_any ts11 [] (by decide) (by decide) h111 6 vs11 (by decide) h112 cs11 okc11
  have hT := tTypes_G ts11 [] (by decide) (by decide) h111 6 vs11 (by decide) h112 cs11 okc11
  rw [types11] at hC hT
  have hC2 := tCheck_any ts11 [] (by decide) (by decide) h111 6 vt11 (by decide) h113 ct11 okt11
  rw [types11b] at hC2
  have hC3 := tCheck_any ts11 [] (by decide) (by decide) h111 7 vt11 (by decide) h113 ct11 okt11
  rw [types11c] at hC3
  have hE := equal04_refl vs11 (by decide)
  have hs := sameInts11_any [6, 0, 2, 1, 1, 5, 4] [6, 0, 2, 1, 1, 5, 4] (by decide)
  have hd : decide (([6, 0, 2, 1, 1, 5, 4] : List Int) = [6, 0, 2, 1, 1, 5, 4]) = true := by decide
  rw [hd] at hs
  have hx := example11_any
  (repeat' (first
    | exact trivial
    | (with_reducible first | refine awA ?_ | refine awB ?_ | refine awC ?_ | refine awD ?_ | refine awE ?_ | refine awF ?_ | refine awG ?_ | refine awH ?_ | refine awI ?_ | refine awJ ?_ | refine awK ?_ | refine awL ?_ | refine awM (by decide) ?_)
    | ((with_reducible first | refine awN (tyOf_ok _) [26] ?_ | refine awO (tyOf_ok _) [26] ?_ | refine awP (tyOf_ok _) [26] ?_ | refine awQ ?_ | refine awR ?_ | refine awS ?_); intro r hr; simp only [go_sem, Nat.reduceBEq, Nat.reduceBneDiff, Nat.reduceLT, Nat.reduceLeDiff, Nat.reduceAdd, Nat.reduceMul, Nat.reduceSub, Nat.reduceEqDiff, reduceCtorEq, vSch, Int.cast_ofNat_Int, Int.reduceToNat, Int.reduceEq, Int.reduceLT, Int.reduceLE, Int.reduceNe, List.set_cons_succ, List.set_cons_zero, nilS] at hr; subst hr; (first | refine caC (hx) rfl ?_ ?_ ?_ | refine caC (hS) rfl ?_ ?_ ?_ | refine caA (fun _ => num11_any _) rfl ?_ ?_ ?_ | refine caA (fun _ => hE) rfl ?_ ?_ ?_ | refine caA (fun _ => hC) rfl ?_ ?_ ?_ | refine caA (fun _ => hs) rfl ?_ ?_ ?_ | refine caA (fun _ => hC2) rfl ?_ ?_ ?_ | refine caA (fun _ => hC3) rfl ?_ ?_ ?_ | refine awV ?_ ?_ | refine awW ?_ ?_ | refine endK ?_ ?_ | (refine condK (fun h => ?_) (fun h => ?_) <;> (try simp only [go_sem, reduceCtorEq] at h) <;> (try (exfalso; omega)))))
    | (refine go_callGd 48 rfl [] [(29, 48)] [48] [] (by simp only [go_sem, Nat.reduceBEq, Nat.reduceBneDiff, Nat.reduceLT, Nat.reduceLeDiff, Nat.reduceAdd, Nat.reduceMul, Nat.reduceSub, Nat.reduceEqDiff, reduceCtorEq, vSch, Int.cast_ofNat_Int, Int.reduceToNat, Int.reduceEq, Int.reduceLT, Int.reduceLE, Int.reduceNe, List.set_cons_succ, List.set_cons_zero, nilS]; exact rfl) ?_ rfl rfl (by first | exact .inl rfl | exact .inr rfl) (by simp only [go_sem, Nat.reduceBEq, Nat.reduceBneDiff, Nat.reduceLT, Nat.reduceLeDiff, Nat.reduceAdd, Nat.reduceMul, Nat.reduceSub, Nat.reduceEqDiff, reduceCtorEq, vSch, Int.cast_ofNat_Int, Int.reduceToNat, Int.reduceEq, Int.reduceLT, Int.reduceLE, Int.reduceNe, List.set_cons_succ, List.set_cons_zero, nilS] <;> exact rfl) (hT) (.inr ⟨rfl, ?_⟩) ?_) | fail)) <;> (try omega)
  all_goals first | exact rfl | exact ⟨v8_nm11 _, trivial⟩
end Go.Proofs.YtfgacgpicfknpaaDoor
end
section
namespace Go.Proofs.YtfgacgpicfknpaaDoor
open Go.RowKit
set_option maxRecDepth 100000
set_option maxHeartbeats 8000000
/-! mortiselaw11.made: a schema that may be, one of its types, picks. -/
theorem cut11_any (ts : List TypeM) (rs : List RootM) (hts : ts.length ≤ 1000000000) (hrs : rs.length ≤ 1000000000) (hp : ∀ t ∈ ts, t.parts.length ≤ 1000000000) :
    PCall Tryd.prog 9 [vSch ts rs] (fun r => r = vSch (cutT ts) (rs.take 260)) := by
  have h := (cut11_G ts rs hts hrs hp).toP (by simp [cutV, cutO, AV.snapOK, AV.snapOK.snapOKL, lk, encTs_len, encRs_len])
  refine h.mono fun r hr => hr.trans ?_
  have e1 : (encTs (cutT ts)).take (cutT ts).length = encTs (cutT ts) := take_len (by rw [encTs_len]; exact Nat.le_refl _)
  have e2 : (encRs (rs.take 260)).take (rs.take 260).length = encRs (rs.take 260) := take_len (by rw [encRs_len]; exact Nat.le_refl _)
  simp only [cutV, cutO, AV.snap, AV.snap.snapL, lk, vSch, Nat.zero_add, List.drop_zero, Nat.reduceBEq, cond_true, cond_false, e1, e2]
/-- what it answers -/
def Made11 (ts : List TypeM) (rs : List RootM) (a : Int) (ps : List Int) (r : AV) : Prop :=
  r = .tup [vSch ts rs, vI 0, nilS, vB false] ∨
  (r = .tup [vSch ts rs, vI (a % ts.length), .lst 1 (v8 (tameF ts (ps.take 300))), vB true] ∧ (checkF ts rs).1 = 0 ∧ 0 < ts.length)
theorem made_any (ts0 : List TypeM) (rs0 : List RootM) (hts : ts0.length ≤ 1048576) (hrs : rs0.length ≤ 1048576) (hp : ∀ t ∈ ts0, t.parts.length ≤ 1000000000) (a : Int) (ha : I64 a) (ps : List Int) (hps : ps.length ≤ 1048576) :
    PCall Tryd.prog 23 [vSch ts0 rs0, vI a, .lst 1 (v8 ps)] (Made11 (cutT ts0) (rs0.take 260) a ps) := by
  refine go_fn (tyOf_ok _) Tryd.func23 rfl rfl (by rw [Tryd.results23]) Tryd.ntmps23 rfl fun E => ?_
  have hcut := cut11_any ts0 rs0 (by omega) (by omega) hp
  have hl0 := cutT_len ts0
  have hrl0 : (rs0.take 260).length ≤ 260 := by simp; omega
  have hpp := cutT_parts (ts := ts0)
  generalize cutT ts0 = ts at *
  generalize rs0.take 260 = rs at *
  have hpp' : ∀ t ∈ ts, t.parts.length ≤ 1000000000 := fun t ht => by have := hpp t ht; omega
  have hck := rcheck_any ts rs (by omega) (by omega) hpp'
  unfold vF at hck
  unfold vSch at hck
  by_cases h0 : (checkF ts rs).1 = 0
  case neg =>
    have e0 : ((checkF ts rs).1 = 0) = False := eq_false h0
    generalize hF : (checkF ts rs) = F at *
    (repeat' (first
    | exact trivial
    | (with_reducible first | refine awA ?_ | refine awB ?_ | refine awC ?_ | refine awD ?_ | refine awE ?_ | refine awF ?_ | refine awG ?_ | refine awH ?_ | refine awI ?_ | refine awJ ?_ | refine awK ?_ | refine awL ?_ | refine awM (by decide) ?_)
    | (refine aw_draw (id := 7) (t := (.node [0, 1, 2, 3, 4, 5, 6, 7, 8, 9, 10, 11, 12, 13] [])) (drR [10] [] [43]) mixed (by kernel_rfl) (by kernel_rfl) (fun _ _ h => h) ?_)
    | (refine at_done (by simp only [List.filterMap_cons, List.filterMap_nil, List.getElem?_toArray, List.getElem?_cons_zero, List.getElem?_cons_succ]; exact rfl) ?_) | (refine at_alt (by simp only [List.filterMap_cons, List.filterMap_nil, List.getElem?_toArray, List.getElem?_cons_zero, List.getElem?_cons_succ]; exact rfl) ?_) | refine qalt_normal ?_ | refine ats_cons ?_ ?_ | exact ats_nil
    | ((with_reducible first | refine awN (tyOf_ok _) [] ?_ | refine awO (tyOf_ok _) [] ?_ | refine awP (tyOf_ok _) [] ?_ | refine awQ ?_ | refine awR ?_ | refine awS ?_); intro r hr; simp only [go_sem, Nat.reduceBEq, Nat.reduceBneDiff, Nat.reduceLT, Nat.reduceLeDiff, Nat.reduceAdd, Nat.reduceMul, Nat.reduceSub, Nat.reduceEqDiff, reduceCtorEq, vSch, e0] at hr; subst hr; (first | refine caC (hcut) rfl ?_ ?_ ?_ | refine caA (fun _ => hck) rfl ?_ ?_ ?_ | refine awV ?_ ?_ | refine awW ?_ ?_ | refine endK ?_ ?_ | (refine condK (fun h => ?_) (fun h => ?_) <;> (try simp only [go_sem, reduceCtorEq] at h) <;> (try (exfalso; omega))))) | fail)) <;> (try omega)
    all_goals exact .inl rfl
  by_cases he : ts.length = 0
  · have e1 : ((ts.length : Int) = 0) = True := eq_true (by omega)
    rw [h0] at hck
    generalize (checkF ts rs).2 = C2 at *
    (repeat' (first
    | exact trivial
    | (with_reducible first | refine awA ?_ | refine awB ?_ | refine awC ?_ | refine awD ?_ | refine awE ?_ | refine awF ?_ | refine awG ?_ | refine awH ?_ | refine awI ?_ | refine awJ ?_ | refine awK ?_ | refine awL ?_ | refine awM (by decide) ?_)
    | (refine aw_draw (id := 7) (t := (.node [0, 1, 2, 3, 4, 5, 6, 7, 8, 9, 10, 11, 12, 13] [])) (drR [10] [] [43]) mixed (by kernel_rfl) (by kernel_rfl) (fun _ _ h => h) ?_)
    | (refine at_done (by simp only [List.filterMap_cons, List.filterMap_nil, List.getElem?_toArray, List.getElem?_cons_zero, List.getElem?_cons_succ]; exact rfl) ?_) | (refine at_alt (by simp only [List.filterMap_cons, List.filterMap_nil, List.getElem?_toArray, List.getElem?_cons_zero, List.getElem?_cons_succ]; exact rfl) ?_) | refine qalt_normal ?_ | refine ats_cons ?_ ?_ | exact ats_nil
    | ((with_reducible first | refine awN (tyOf_ok _) [] ?_ | refine awO (tyOf_ok _) [] ?_ | refine awP (tyOf_ok _) [] ?_ | refine awQ ?_ | refine awR ?_ | refine awS ?_); intro r hr; simp only [go_sem, Nat.reduceBEq, Nat.reduceBneDiff, Nat.reduceLT, Nat.reduceLeDiff, Nat.reduceAdd, Nat.reduceMul, Nat.reduceSub, Nat.reduceEqDiff, reduceCtorEq, vSch, e1, encTs_len] at hr; subst hr; (first | refine caC (hcut) rfl ?_ ?_ ?_ | refine caA (fun _ => hck) rfl ?_ ?_ ?_ | refine awV ?_ ?_ | refine awW ?_ ?_ | refine endK ?_ ?_ | (refine condK (fun h => ?_) (fun h => ?_) <;> (try simp only [go_sem, reduceCtorEq] at h) <;> (try (exfalso; omega))))) | fail)) <;> (try omega)
    all_goals exact .inl rfl
  have e1 : ((ts.length : Int) = 0) = False := eq_false (by omega)
  have hre := rest11_any a ts.length ha (by omega)
  have hLi := light_any ts rs (by omega) (by omega) hpp' (a % ts.length)
  have hT := tame_G ts rs (by omega) (ps.take 300) (by simp; omega)
  have hmin : ((min (ps.length : Int) 300)).toNat = min 300 ps.length := by omega
  have hR : ps.take (min 300 ps.length) = ps.take 300 := List.take_eq_take_iff.2 (by omega)
  have hl3 : (ps.take 300).length = min 300 ps.length := by simp
  have htl := tameF_len ts (ps.take 300)
  have hok : ∀ r, r = AV.tup [vSch ts rs, vI (a % ts.length), .lst 1 (v8 (tameF ts (ps.take 300))), vB true] → Made11 ts rs a ps r := fun r h => .inr ⟨h, h0, by omega⟩
  rw [h0] at hck
  generalize hC2 : (checkF ts rs).2 = C2 at *
  generalize tameF ts (ps.take 300) = qs at *
  unfold vSch at hLi hT
  rw [hl3] at hT htl
  (repeat' (first
    | exact trivial
    | (obtain ⟨b, rfl⟩ := hr)
    | (with_reducible first | refine awA ?_ | refine awB ?_ | refine awC ?_ | refine awD ?_ | refine awE ?_ | refine awF ?_ | refine awG ?_ | refine awH ?_ | refine awI ?_ | refine awJ ?_ | refine awK ?_ | refine awL ?_ | refine awM (by decide) ?_)
    | (refine aw_draw (id := 7) (t := (.node [0, 1, 2, 3, 4, 5, 6, 7, 8, 9, 10, 11, 12, 13] [])) (drR [10] [] [43]) mixed (by kernel_rfl) (by kernel_rfl) (fun _ _ h => h) ?_)
    | (refine at_done (by simp only [List.filterMap_cons, List.filterMap_nil, List.getElem?_toArray, List.getElem?_cons_zero, List.getElem?_cons_succ]; exact rfl) ?_) | (refine at_alt (by simp only [List.filterMap_cons, List.filterMap_nil, List.getElem?_toArray, List.getElem?_cons_zero, List.getElem?_cons_succ]; exact rfl) ?_) | refine qalt_normal ?_ | refine ats_cons ?_ ?_ | exact ats_nil
    | ((with_reducible first | refine awN (tyOf_ok _) [] ?_ | refine awO (tyOf_ok _) [] ?_ | refine awP (tyOf_ok _) [] ?_ | refine awQ ?_ | refine awR ?_ | refine awS ?_); intro r hr; simp only [go_sem, Nat.reduceBEq, Nat.reduceBneDiff, Nat.reduceLT, Nat.reduceLeDiff, Nat.reduceAdd, Nat.reduceMul, Nat.reduceSub, Nat.reduceEqDiff, reduceCtorEq, vSch, e1, encTs_len, hmin, hR, v8_take, hl3, v8_len, Int.toNat_zero, List.drop_zero] at hr; subst hr; (first | refine caC (hcut) rfl ?_ ?_ ?_ | refine caA (fun _ => hck) rfl ?_ ?_ ?_ | refine caA (fun _ => hre) rfl ?_ ?_ ?_ | refine caD (hLi) rfl ?_ ?_ (fun r hr => ?_) | refine awV ?_ ?_ | refine awW ?_ ?_ | refine endK ?_ ?_ | (refine condK (fun h => ?_) (fun h => ?_) <;> (try simp only [go_sem, reduceCtorEq] at h) <;> (try (exfalso; omega)))))
    | (refine go_callGE [(42, 10000)] [(10000, 42)] [] [42] ?_; intro r hr; simp only [go_sem, Nat.reduceBEq, Nat.reduceBneDiff, Nat.reduceLT, Nat.reduceLeDiff, Nat.reduceAdd, Nat.reduceMul, Nat.reduceSub, Nat.reduceEqDiff, reduceCtorEq, vSch, e1, encTs_len, hmin, hR, v8_take, hl3, v8_len, Int.toNat_zero, List.drop_zero] at hr; subst hr; refine callGK (hT) rfl rfl (by first | exact .inl rfl | exact .inr rfl) ?_ (.inl rfl) ?_) | fail)) <;> (try omega)
  all_goals first | exact .inl rfl | exact hok _ (by rw [take_len (by omega)]; exact rfl)
end Go.Proofs.YtfgacgpicfknpaaDoor
end
section
namespace Go.Proofs.YtfgacgpicfknpaaDoor
open Go.RowKit
set_option maxRecDepth 100000
set_option maxHeartbeats 4000000
/-! The picks that stand in a value. -/
def tagP (n : Int) (p : PartM) : Bool := decide (p.tag % 18446744073709551616 = n)
def pickOf (T : TypeM) (x : NodeM) : Int :=
  if T.kind = 1 ∨ T.kind = 3 ∨ T.kind = 2 then IntKind.i64.wrap x.n
  else if T.kind = 5 ∨ T.kind = 6 then x.kids
  else if T.kind = 7 then ((T.parts.findIdx (tagP x.n) : Nat) : Int) else 0
theorem arm_idx {l : List PartM} {n : Int} (h : armOf l n ≠ none) : l.findIdx (tagP n) < l.length ∧ ∀ (g : l.findIdx (tagP n) < l.length), u64 (l[l.findIdx (tagP n)]).tag = n := by
  have h1 : l.findIdx (tagP n) < l.length := by
    rw [List.findIdx_lt_length]
    cases hf : armOf l n with
    | none => exact absurd hf h
    | some p => exact ⟨p, List.mem_of_find?_eq_some hf, List.find?_some hf⟩
  refine ⟨h1, fun g => ?_⟩
  have := List.findIdx_getElem (w := h1)
  unfold tagP at this
  rw [decide_eq_true_eq] at this
  exact this
theorem u64_id {n : Int} (h : 0 ≤ n) (h' : n < 18446744073709551616) : u64 n = n := by unfold u64; omega
/-- it leads to the node again -/
theorem pick_back {T : TypeM} {k : Nat} (hr : rightOK T k = true) {x : NodeM} (hx : nodeOK x) (hxr : rightN x = true) (hf : fitsF T x = 0) : pickN T (u64 (pickOf T x)) = x := by
  obtain ⟨f1, f2, f3, f4, f5, f6⟩ := fits_parts hf
  have hb := hx.2.2
  have hw : u64 (IntKind.i64.wrap x.n) = x.n := by rw [IntKind.wrap_i64]; unfold u64; omega
  have hkc : T.kind = 1 ∨ T.kind = 2 ∨ T.kind = 3 ∨ T.kind = 4 ∨ T.kind = 5 ∨ T.kind = 6 ∨ T.kind = 7 ∨ T.kind = 8 := by rcases rightOK_kind hr with h | h | h <;> omega
  obtain ⟨xk, xn, xm⟩ := x
  simp only at *
  rcases hkc with h | h | h | h | h | h | h | h
  · have hk : xk = 1 := by rw [f1, h]; rfl
    subst hk
    have h0 := (right_zero hxr (.inl rfl)).1
    simp only at h0
    have hP : pickOf T ⟨1, xn, xm⟩ = IntKind.i64.wrap xn := by rw [pickOf, if_pos (.inl h)]
    rw [hP, hw, pickN, if_pos h]
    have hfb := f2 h
    simp only [fitsB, Bool.and_eq_true, decide_eq_true_eq] at hfb
    have hm0 := Int.emod_eq_of_lt hb.1 hfb.2
    by_cases h8 : T.n < 8
    · rw [if_pos h8, hm0, h0]
    · rw [if_neg h8, h0]
  · have hk : xk = 2 := by rw [f1, h]; rfl
    subst hk
    have h0 := right_zero hxr (.inr rfl)
    have h2 := h0.2 rfl
    have hP : pickOf T ⟨2, xn, xm⟩ = IntKind.i64.wrap xn := by rw [pickOf, if_pos (.inr (.inr h))]
    rw [hP, hw, pickN, if_neg (by omega), if_neg (by omega), if_pos h]
    simp only at h0 h2
    rw [Int.emod_eq_of_lt hb.1 (by omega), h0.1]
  · have hk : xk = 1 := by rw [f1, h]; rfl
    subst hk
    have h0 := (right_zero hxr (.inl rfl)).1
    simp only at h0
    have hP : pickOf T ⟨1, xn, xm⟩ = IntKind.i64.wrap xn := by rw [pickOf, if_pos (.inr (.inl h))]
    rw [hP, hw, pickN, if_neg (by omega), if_pos h, h0]
  · have hk : xk = 3 := by rw [f1, h]; rfl
    subst hk
    have h0 := right_seq hxr (.inl rfl)
    simp only at h0
    rw [pickN, if_neg (by omega), if_neg (by omega), if_neg (by omega), if_pos h, h0, ← f3 h]
  · have hk : xk = 3 := by rw [f1, h]; rfl
    subst hk
    have h0 := right_seq hxr (.inl rfl)
    have hkk := rightN_kids hxr
    have h4 := f4 h
    simp only at h0 hkk
    have hP : pickOf T ⟨3, xn, xm⟩ = xm := by rw [pickOf, if_neg (by omega), if_pos (.inl h)]
    rw [hP, u64_id hkk.1 (by omega), pickN, if_neg (by omega), if_neg (by omega), if_neg (by omega), if_neg (by omega), if_pos h, Int.emod_eq_of_lt hkk.1 (by omega), h0]
  · have hk : xk = 5 := by rw [f1, h]; rfl
    subst hk
    have h0 := right_seq hxr (.inr (.inr rfl))
    have h4 := right_opt hxr rfl
    simp only at h0 h4
    have hP : pickOf T ⟨5, xn, xm⟩ = xm := by rw [pickOf, if_neg (by omega), if_pos (.inr h)]
    rw [hP, u64_id (by omega) (by omega), pickN, if_neg (by omega), if_neg (by omega), if_neg (by omega), if_neg (by omega), if_neg (by omega), if_pos h, Int.emod_eq_of_lt (by omega) (by omega), h0]
  · have hk : xk = 6 := by rw [f1, h]; rfl
    subst hk
    have h4 := right_uni hxr rfl
    simp only at h4
    obtain ⟨g1, g2⟩ := arm_idx (f6 h)
    have hpl := right_parts hr (.inl h)
    have hP : pickOf T ⟨6, xn, xm⟩ = ((T.parts.findIdx (tagP xn) : Nat) : Int) := by rw [pickOf, if_neg (by omega), if_neg (by omega), if_pos h]
    have g3 := g2 g1
    rw [hP, u64_id (by omega) (by omega), pickN, if_neg (by omega), if_neg (by omega), if_neg (by omega), if_neg (by omega), if_neg (by omega), if_neg (by omega), if_pos h, Int.emod_eq_of_lt (by omega) (by omega), Int.toNat_natCast, List.getElem?_eq_getElem g1, Option.getD_some, g3, h4]
  · have hk : xk = 4 := by rw [f1, h]; rfl
    subst hk
    have h0 := right_seq hxr (.inr (.inl rfl))
    simp only at h0
    rw [pickN, if_neg (by omega), if_neg (by omega), if_neg (by omega), if_neg (by omega), if_neg (by omega), if_neg (by omega), if_neg (by omega), h0, ← f5 h]
/-- the picks of a list of nodes, by their types -/
def picksL (ts : List TypeM) : List NodeM → List Int → List Int
  | x :: V, t :: l => pickOf (tyA ts t.toNat) x :: picksL ts V l
  | _, _ => []
theorem picksL_app (ts : List TypeM) : ∀ (V : List NodeM) (l : List Int) (V' : List NodeM) (l' : List Int), V.length = l.length → picksL ts (V ++ V') (l ++ l') = picksL ts V l ++ picksL ts V' l'
  | [], [], _, _, _ => rfl
  | [], _ :: _, _, _, h => by cases h
  | _ :: _, [], _, _, h => by cases h
  | x :: V, t :: l, V', l', h => by
    simp only [List.cons_append, picksL, picksL_app ts V l V' l' (by simpa using h)]
theorem picksL_len (ts : List TypeM) : ∀ (V : List NodeM) (l : List Int), V.length = l.length → (picksL ts V l).length = V.length
  | [], [], _ => rfl
  | [], _ :: _, h => by cases h
  | _ :: _, [], h => by cases h
  | x :: V, t :: l, h => by simp only [picksL, List.length_cons, picksL_len ts V l (by simpa using h)]
theorem picksL_get (ts : List TypeM) : ∀ (V : List NodeM) (l : List Int) (h : V.length = l.length) (i : Nat) (hi : i < V.length), (picksL ts V l)[i]'(by rw [picksL_len ts V l h]; exact hi) = pickOf (tyA ts (l[i]'(by omega)).toNat) V[i]
  | [], _, _, _, hi => absurd hi (Nat.not_lt_zero _)
  | _ :: _, [], h, _, _ => by cases h
  | x :: V, t :: l, h, 0, _ => rfl
  | x :: V, t :: l, h, i + 1, hi => by
    simp only [picksL, List.getElem_cons_succ]
    exact picksL_get ts V l (by simpa using h) i (by simpa using hi)
theorem typesL_len (ts : List TypeM) (T : TypeM) (m : Int) : ∀ (l : List Tr) (k : Nat), (Tr.types.typesL ts T m l k).length = (Tr.flat.flatL l).length
  | [], _ => rfl
  | c :: cs, k => by simp only [Tr.types.typesL, Tr.flat.flatL, List.length_append, types_len _ c (Nat.le_refl _), typesL_len ts T m cs (k + 1)]
/-- picks that lead to a tree of the type lead to it -/
theorem mkT_back {ts : List TypeM} {ps : List Int} (hr : ∀ (k : Nat) (h : k < ts.length), rightOK ts[k] k = true) : ∀ (f t : Nat), t < f → t < ts.length → ∀ (c : Tr), c.typed ts t → (∀ x ∈ c.flat, nodeOK x) → ∀ pos : Nat, (∀ i (hi : i < c.flat.length), pickAt ps (pos + i) = u64 ((picksL ts c.flat (c.types ts t))[i]'(by rw [picksL_len _ _ _ (types_len _ c (Nat.le_refl _) t).symm]; exact hi))) → mkT ts ps f t pos = c
  | 0, _, h, _ => absurd h (Nat.not_lt_zero _)
  | f + 1, t, hf, ht => fun c hc hn pos hp => by
    obtain ⟨x, ks⟩ := c
    obtain ⟨hc1, hc2, hc3, hc4, hc5⟩ := hc
    have hrt := hr t ht
    have h0 := hp 0 (by simp [Tr.flat])
    simp only [Tr.flat, Tr.types, picksL, Int.toNat_natCast, List.getElem_cons_zero, Nat.add_zero] at h0
    rw [tyA_lt ht] at hc2 hc5 h0
    have hxn : nodeOK x := hn x (by simp [Tr.flat])
    have hpk : pickN ts[t] (pickAt ps pos) = x := by rw [h0]; exact pick_back hrt hxn hc3 hc2
    rw [mkT, tyA_lt ht, hpk]
    congr 1
    have hkn : x.kids.toNat = ks.length := by omega
    rw [hkn]
    have hp' : ∀ i (hi : i < (Tr.flat.flatL ks).length), pickAt ps (pos + 1 + i) = u64 ((picksL ts (Tr.flat.flatL ks) (Tr.types.typesL ts ts[t] x.n ks 0))[i]'(by rw [picksL_len _ _ _ (typesL_len ts _ _ ks 0).symm]; exact hi)) := fun i hi => by
      have := hp (i + 1) (by simp only [Tr.flat, List.length_cons]; omega)
      simp only [Tr.flat, Tr.types, picksL, List.getElem_cons_succ, tyA_lt ht] at this
      rw [← this]; congr 1; omega
    have hn' : ∀ y ∈ Tr.flat.flatL ks, nodeOK y := fun y hy => hn y (by simp only [Tr.flat, List.mem_cons]; exact .inr hy)
    have hL : ∀ (l : List Tr) (k pos : Nat), (k : Int) + l.length ≤ x.kids → Tr.typed.typedL ts ts[t] x.n l k → (∀ y ∈ Tr.flat.flatL l, nodeOK y) →
        (∀ i (hi : i < (Tr.flat.flatL l).length), pickAt ps (pos + i) = u64 ((picksL ts (Tr.flat.flatL l) (Tr.types.typesL ts ts[t] x.n l k))[i]'(by rw [picksL_len _ _ _ (typesL_len ts _ _ l k).symm]; exact hi))) → mkL ts[t] x (mkT ts ps f) l.length k pos = l := by
      intro l
      induction l with
      | nil => intro _ _ _ _ _ _; rfl
      | cons c cs ih =>
        intro k pos hk ⟨g1, g2⟩ hny hpi
        simp only [List.length_cons] at hk
        obtain ⟨he, _⟩ := elem_ok hrt hc3 hc2 (i := k) (by omega)
        have hlen := types_len _ c (Nat.le_refl _) (ts := ts) (elemF ts[t] x.n k).toNat
        have hx1 : picksL ts (Tr.flat.flatL (c :: cs)) (Tr.types.typesL ts ts[t] x.n (c :: cs) k) = picksL ts c.flat (c.types ts (elemF ts[t] x.n k).toNat) ++ picksL ts (Tr.flat.flatL cs) (Tr.types.typesL ts ts[t] x.n cs (k + 1)) := picksL_app ts _ _ _ _ hlen.symm
        have hl1 := picksL_len ts c.flat (c.types ts (elemF ts[t] x.n k).toNat) hlen.symm
        have hmc := mkT_back hr f _ (by omega) (by omega) c g1 (fun y hy => hny y (by simp only [Tr.flat.flatL, List.mem_append]; exact .inl hy)) pos fun i hi => by
          rw [hpi i (by simp only [Tr.flat.flatL, List.length_append]; omega)]
          congr 1
          simp only [hx1]
          rw [List.getElem_append_left]
        have hmr := ih (k + 1) (pos + c.flat.length) (by omega) g2 (fun y hy => hny y (by simp only [Tr.flat.flatL, List.mem_append]; exact .inr hy)) fun i hi => by
          have := hpi (c.flat.length + i) (by simp only [Tr.flat.flatL, List.length_append]; omega)
          rw [Nat.add_assoc, this]
          congr 1
          simp only [hx1]
          rw [List.getElem_append_right (by omega)]
          congr 1
          omega
        rw [List.length_cons, mkL, hmc, hmr]
    exact hL ks 0 (pos + 1) (by omega) hc5 hn' hp'
theorem types_rng {ts : List TypeM} : ∀ (n : Nat) (c : Tr), c.flat.length ≤ n → ∀ t, c.typed ts t → ∀ z ∈ c.types ts t, 0 ≤ z ∧ z < ts.length
  | 0, c, h => absurd (flat_pos c) (by omega)
  | n + 1, .node x ks, h => fun t ⟨h1, _, _, _, h5⟩ z hz => by
    simp only [Tr.flat, List.length_cons] at h
    have hL : ∀ (l : List Tr), (∀ c ∈ l, c.flat.length ≤ n) → ∀ (T : TypeM) (m : Int) (k : Nat), Tr.typed.typedL ts T m l k → ∀ z ∈ Tr.types.typesL ts T m l k, 0 ≤ z ∧ z < ts.length := by
      intro l
      induction l with
      | nil => intro _ _ _ _ _ z hz; cases hz
      | cons c cs ih =>
        intro hc T m k ⟨g1, g2⟩ z hz
        simp only [Tr.types.typesL, List.mem_append] at hz
        rcases hz with hz | hz
        · exact types_rng n c (hc c (.head _)) _ g1 z hz
        · exact ih (fun d hd => hc d (.tail _ hd)) T m (k + 1) g2 z hz
    simp only [Tr.types, List.mem_cons] at hz
    rcases hz with rfl | hz
    · omega
    · exact hL ks (fun c hc => by have := flatL_mem hc; omega) _ _ _ h5 z hz
/-- each node of a tree of the type fits its type -/
theorem typed_fits {ts : List TypeM} : ∀ (n : Nat) (c : Tr), c.flat.length ≤ n → ∀ t, c.typed ts t → ∀ (i : Nat) (x : NodeM) (z : Int), c.flat[i]? = some x → (c.types ts t)[i]? = some z → fitsF (tyA ts z.toNat) x = 0 ∧ rightN x = true
  | 0, c, h => absurd (flat_pos c) (by omega)
  | n + 1, .node y ks, h => fun t ⟨h1, h2, h3, _, h5⟩ i x z hx hz => by
    simp only [Tr.flat, List.length_cons] at h
    have hL : ∀ (l : List Tr), (∀ c ∈ l, c.flat.length ≤ n) → ∀ (T : TypeM) (m : Int) (k : Nat), Tr.typed.typedL ts T m l k → ∀ (i : Nat) (x : NodeM) (z : Int), (Tr.flat.flatL l)[i]? = some x → (Tr.types.typesL ts T m l k)[i]? = some z → fitsF (tyA ts z.toNat) x = 0 ∧ rightN x = true := by
      intro l
      induction l with
      | nil => intro _ _ _ _ _ i x z hx; simp [Tr.flat.flatL] at hx
      | cons c cs ih =>
        intro hc T m k ⟨g1, g2⟩ i x z hx hz
        have hlen := types_len _ c (Nat.le_refl _) (ts := ts) (elemF T m k).toNat
        simp only [Tr.types.typesL, Tr.flat.flatL, List.getElem?_append, hlen] at hx hz
        split at hx
        · rename_i hlt
          rw [if_pos hlt] at hz
          exact typed_fits n c (hc c (.head _)) _ g1 i x z hx hz
        · rename_i hlt
          rw [if_neg hlt] at hz
          exact ih (fun d hd => hc d (.tail _ hd)) T m (k + 1) g2 _ x z hx hz
    cases i with
    | zero =>
      simp only [Tr.flat, Tr.types, List.getElem?_cons_zero, Option.some.injEq] at hx hz
      subst hx; subst hz
      exact ⟨by rw [Int.toNat_natCast]; exact h2, h3⟩
    | succ i =>
      simp only [Tr.flat, Tr.types, List.getElem?_cons_succ] at hx hz
      exact hL ks (fun c hc => by have := flatL_mem hc; omega) _ _ _ h5 i x z hx hz
theorem chk_flat11 {c : Tr} (h : c.ok) : (chkN c.flat).1 = 0 := by
  have main : ∀ (n : Nat) (c : Tr), c.flat.length ≤ n → c.ok → ∀ (l : List NodeM) (w i : Int), 0 ≤ w → ∃ j, chkL (c.flat ++ l) (w + 1) i = chkL l w j := by
    intro n
    induction n with
    | zero => intro c hc; exact absurd (flat_pos c) (by omega)
    | succ n ih =>
      intro c hc hok l w i hw
      obtain ⟨x, ks⟩ := c
      obtain ⟨h1, h2, h3⟩ := hok
      simp only [Tr.flat, List.length_cons] at hc
      have hL : ∀ (ks : List Tr), (∀ c ∈ ks, c.flat.length ≤ n) → Tr.ok.okL ks → ∀ (l : List NodeM) (w i : Int), 0 ≤ w → ∃ j, chkL (Tr.flat.flatL ks ++ l) (w + ks.length) i = chkL l w j := by
        intro ks
        induction ks with
        | nil => intro _ _ l w i _; exact ⟨i, by simp [Tr.flat.flatL]⟩
        | cons c cs ih2 =>
          intro hcs hok l w i hw
          obtain ⟨j1, e1⟩ := ih c (hcs c (.head _)) hok.1 (Tr.flat.flatL cs ++ l) (w + cs.length) i (by omega)
          obtain ⟨j2, e2⟩ := ih2 (fun d hd => hcs d (.tail _ hd)) hok.2 l w j1 hw
          refine ⟨j2, ?_⟩
          rw [← e2, ← e1]
          simp only [Tr.flat.flatL, List.append_assoc, List.length_cons]
          congr 1
          omega
      obtain ⟨j, e⟩ := hL ks (fun d hd => by have := flatL_mem hd; omega) h3 l w (i + 1) hw
      refine ⟨j, ?_⟩
      rw [← e]
      simp only [Tr.flat, List.cons_append]
      rw [chkL, if_neg (by rw [h1]; simp; omega)]
      congr 1
      omega
  obtain ⟨j, e⟩ := main _ c (Nat.le_refl _) h [] 0 0 (by omega)
  rw [List.append_nil] at e
  unfold chkN
  rw [show (1 : Int) = 0 + 1 by omega, e]
  rfl
end Go.Proofs.YtfgacgpicfknpaaDoor
end
section
namespace Go.Proofs.YtfgacgpicfknpaaDoor
open Go.RowKit
set_option maxRecDepth 100000
set_option maxHeartbeats 8000000
/-! mortiseref11.Types, Picks. -/
theorem rTypes11_any (ts : List TypeM) (rs : List RootM) (hts : ts.length ≤ 1000000000) (hrs : rs.length ≤ 1000000000) (hp : ∀ t ∈ ts, t.parts.length ≤ 1000000000) (hg : ∀ t ∈ ts, ∀ p ∈ t.parts, I64 p.tag) (t : Int) (ht : I64 t) (V : List NodeM) (hV : V.length ≤ 1000000000) (hv : ∀ x ∈ V, nodeOK x)
    (c : Tr) (hc : (chkN V).1 = 0 → c.flat = V ∧ c.ok) :
    PCall Tryd.prog 13 [vSch ts rs, vI t, .lst 3 (encNs V)] (fun r => r = .tup [.lst 1 (v8 (typesF ts rs t V c).1), .agg [vI (typesF ts rs t V c).2.1, vI (typesF ts rs t V c).2.2]]) := by
  refine go_fn (tyOf_ok _) Tryd.func13 rfl rfl (by rw [Tryd.results13]) Tryd.ntmps13 rfl fun E => ?_
  have h := Types_any ts rs hts hrs hp hg t ht V hV hv c hc
  generalize typesF ts rs t V c = q at *
  unfold vSch at h
  (repeat' (first
    | exact trivial
    | (with_reducible first | refine awA ?_ | refine awB ?_ | refine awC ?_ | refine awD ?_ | refine awE ?_ | refine awF ?_ | refine awG ?_ | refine awH ?_ | refine awI ?_ | refine awJ ?_ | refine awK ?_ | refine awL ?_ | refine awM (by decide) ?_)
    | ((with_reducible first | refine awN (tyOf_ok _) [] ?_ | refine awO (tyOf_ok _) [] ?_ | refine awP (tyOf_ok _) [] ?_ | refine awQ ?_ | refine awR ?_ | refine awS ?_); intro r hr; simp only [go_sem, Nat.reduceBEq, Nat.reduceBneDiff, Nat.reduceLT, Nat.reduceLeDiff, Nat.reduceAdd, Nat.reduceMul, Nat.reduceSub, Nat.reduceEqDiff, reduceCtorEq, vSch] at hr; subst hr; (first | refine caC (h) rfl ?_ ?_ ?_ | refine awV ?_ ?_ | refine awW ?_ ?_ | refine endK ?_ ?_ | (refine condK (fun h => ?_) (fun h => ?_) <;> (try simp only [go_sem, reduceCtorEq] at h) <;> (try (exfalso; omega))))) | fail)) <;> (try omega)
  exact rfl
theorem typesF_typed {ts : List TypeM} {rs : List RootM} (h0 : (checkF ts rs).1 = 0) {t : Nat} {c : Tr} (hc : c.typed ts t) : typesF ts rs t c.flat c = (c.types ts t, 0, 0) := by
  have hok := typed_ok _ c (Nat.le_refl _) t hc
  have htl : t < ts.length := by cases c; exact hc.1
  unfold typesF
  rw [if_neg (by omega), if_neg (by omega), if_neg (by have := chk_flat11 hok; omega), Int.toNat_natCast, typed_walk _ c (Nat.le_refl _) t hc]
  rfl
theorem picks11_any (ts : List TypeM) (rs : List RootM) (hts : ts.length ≤ 1000000) (hrs : rs.length ≤ 1000000000) (hp : ∀ t ∈ ts, t.parts.length ≤ 1000000000) (hg : ∀ t ∈ ts, ∀ p ∈ t.parts, I64 p.tag) (h0 : (checkF ts rs).1 = 0) (t : Nat)
    (V : List NodeM) (hV : V.length ≤ 1000000000) (hv : ∀ x ∈ V, nodeOK x) (c : Tr) (hcV : c.flat = V) (hc : c.typed ts t) :
    PCall Tryd.prog 25 [vSch ts rs, vI t, .lst 3 (encNs V)] (fun r => r = .lst 1 (v8 (picksL ts V (c.types ts t)))) := by
  refine go_fnU (tyOf_ok _) Tryd.func25 rfl rfl (by rw [Tryd.results25]) Tryd.ntmps25 rfl fun E => ?_
  have htl : t < ts.length := by cases c; exact hc.1
  have hT := rTypes11_any ts rs (by omega) hrs hp hg t (by unfold I64; omega) V hV hv c fun _ => ⟨hcV, typed_ok _ c (Nat.le_refl _) t hc⟩
  have htF := typesF_typed h0 hc
  rw [hcV] at htF
  rw [htF] at hT
  have hr := check_right h0
  have hlen := types_len _ c (Nat.le_refl _) (ts := ts) t
  rw [hcV] at hlen
  have hrng := types_rng _ c (Nat.le_refl _) t hc
  have hfit := typed_fits _ c (Nat.le_refl _) t hc
  rw [hcV] at hfit
  clear htF
  generalize c.types ts t = l at *
  unfold vSch at hT
  simp only at hT
  (repeat' (first
    | exact trivial
    | (with_reducible first | refine awA ?_ | refine awB ?_ | refine awC ?_ | refine awD ?_ | refine awE ?_ | refine awF ?_ | refine awG ?_ | refine awH ?_ | refine awI ?_ | refine awJ ?_ | refine awK ?_ | refine awL ?_ | refine awM (by decide) ?_)
    | (refine aw_draw (id := 6) (t := (.node [0, 1, 2, 3, 4, 5, 6, 7, 8, 9] [])) (drR [3] [31, 33] []) mixed (by kernel_rfl) (by kernel_rfl) (fun _ _ h => h) ?_)
    | (refine aw_draw (id := 17) (t := (.node [0, 1, 2, 3, 4, 5, 6, 7, 8, 9, 10, 11, 12] [])) (drR [11] [61, 67] []) mixed (by kernel_rfl) (by kernel_rfl) (fun _ _ h => h) ?_)
    | (refine at_done (by simp only [List.filterMap_cons, List.filterMap_nil, List.getElem?_toArray, List.getElem?_cons_zero, List.getElem?_cons_succ]; exact rfl) ?_) | (refine at_alt (by simp only [List.filterMap_cons, List.filterMap_nil, List.getElem?_toArray, List.getElem?_cons_zero, List.getElem?_cons_succ]; exact rfl) ?_) | refine qalt_normal ?_ | refine ats_cons ?_ ?_ | exact ats_nil
    | ((with_reducible first | refine awN (tyOf_ok _) [] ?_ | refine awO (tyOf_ok _) [] ?_ | refine awP (tyOf_ok _) [] ?_ | refine awQ ?_ | refine awR ?_ | refine awS ?_); intro r hr; simp only [go_sem, Nat.reduceBEq, Nat.reduceBneDiff, Nat.reduceLT, Nat.reduceLeDiff, Nat.reduceAdd, Nat.reduceMul, Nat.reduceSub, Nat.reduceEqDiff, reduceCtorEq, vSch] at hr; subst hr; (first | refine caC (hT) rfl ?_ ?_ ?_ | refine awV ?_ ?_ | refine awW ?_ ?_ | refine endK ?_ ?_ | (refine condK (fun h => ?_) (fun h => ?_) <;> (try simp only [go_sem, reduceCtorEq] at h) <;> (try (exfalso; omega))))) | fail)) <;> (try omega)
  refine aw_nilrow 9 3 1 8000 (.inl (by decide)) (by simp only [go_sem, Nat.reduceBEq, Nat.reduceBneDiff, Nat.reduceLT, Nat.reduceLeDiff, Nat.reduceAdd, Nat.reduceMul, Nat.reduceSub, Nat.reduceEqDiff, reduceCtorEq]) ?_
  have hPl := picksL_len ts V l hlen.symm
  have hPg : ∀ (i : Nat) (hi : i < V.length) (z : Int), l[i]? = some z → (picksL ts V l)[i]? = some (pickOf (tyA ts z.toNat) V[i]) := fun i hi z hz => by
    rw [List.getElem?_eq_getElem (by omega)] at hz
    injection hz with hz
    rw [List.getElem?_eq_getElem (by omega), picksL_get ts V l hlen.symm i hi, hz]
  generalize picksL ts V l = P at *
  refine go_loop [2, 3, 6, 7, 9, 10] [3, 8000] (fun k : Nat => ⟨[(2, true, .lst 3 (encNs V)), (3, true, .ptr 1 3 0 0), (6, true, .v (.slice none 0 0)), (7, true, .lst 1 (v8 l)), (9, true, .ref 3 1 8000 0 k), (10, true, vI k)], [(3, .var [.lst 4 (encTs ts), .lst 2 (encRs rs)]), (8000, .row 3 1 (v8 (P.take k)))]⟩)
    (fun k => k ≤ V.length) (fun k => V.length - k) 0 (by simp only [AState.nilrow, go_sem, Nat.reduceBEq, Nat.reduceBneDiff, Nat.reduceLT, Nat.reduceLeDiff, Nat.reduceAdd, Nat.reduceMul, Nat.reduceSub, Nat.reduceEqDiff, reduceCtorEq] <;> exact rfl) (Nat.zero_le _) ?_
  intro k hk
  have hw1 := wrap_i64 (n := (k : Int) + 1) (by omega)
  have hkl : (v8 (P.take k)).length = k := by rw [v8_len, List.length_take]; omega
  have htk : (v8 (P.take k)).take k = v8 (P.take k) := take_len (by omega)
  by_cases hlt : k < V.length
  case neg =>
    have f1 : ((k : Int) < V.length) = False := eq_false (by omega)
    have hke : P.take k = P := List.take_of_length_le (by omega)
    rw [hke] at htk ⊢
    (repeat' (first
    | exact trivial
    | (with_reducible first | refine awA ?_ | refine awB ?_ | refine awC ?_ | refine awD ?_ | refine awE ?_ | refine awF ?_ | refine awG ?_ | refine awH ?_ | refine awI ?_ | refine awJ ?_ | refine awK ?_ | refine awL ?_ | refine awM (by decide) ?_)
    | (refine aw_draw (id := 6) (t := (.node [0, 1, 2, 3, 4, 5, 6, 7, 8, 9] [])) (drR [3] [31, 33] []) mixed (by kernel_rfl) (by kernel_rfl) (fun _ _ h => h) ?_)
    | (refine aw_draw (id := 17) (t := (.node [0, 1, 2, 3, 4, 5, 6, 7, 8, 9, 10, 11, 12] [])) (drR [11] [61, 67] []) mixed (by kernel_rfl) (by kernel_rfl) (fun _ _ h => h) ?_)
    | (refine at_done (by simp only [List.filterMap_cons, List.filterMap_nil, List.getElem?_toArray, List.getElem?_cons_zero, List.getElem?_cons_succ]; exact rfl) ?_) | (refine at_alt (by simp only [List.filterMap_cons, List.filterMap_nil, List.getElem?_toArray, List.getElem?_cons_zero, List.getElem?_cons_succ]; exact rfl) ?_) | refine qalt_normal ?_ | refine ats_cons ?_ ?_ | exact ats_nil
    | ((with_reducible first | refine awN (tyOf_ok _) [] ?_ | refine awO (tyOf_ok _) [] ?_ | refine awP (tyOf_ok _) [] ?_ | refine awQ ?_ | refine awR ?_ | refine awS ?_); intro r hr; simp only [go_sem, Nat.reduceBEq, Nat.reduceBneDiff, Nat.reduceLT, Nat.reduceLeDiff, Nat.reduceAdd, Nat.reduceMul, Nat.reduceSub, Nat.reduceEqDiff, reduceCtorEq, f1, htk] at hr; subst hr; (first | refine awV ?_ ?_ | refine awW ?_ ?_ | refine endK ?_ ?_ | (refine condK (fun h => ?_) (fun h => ?_) <;> (try simp only [go_sem, reduceCtorEq] at h) <;> (try (exfalso; omega))))) | fail)) <;> (try omega)
    exact AV.up_rfl _
  have f1 : ((k : Int) < V.length) = True := eq_true (by omega)
  have hkl2 : k < l.length := by omega
  have g1 := v8_get hkl2
  have g3 := encNs_get hlt
  have hb := hrng _ (List.getElem_mem hkl2)
  have hft := hfit k V[k] l[k] (List.getElem?_eq_getElem hlt) (List.getElem?_eq_getElem hkl2)
  have hxo := hv _ (List.getElem_mem hlt)
  have hPk := hPg k hlt l[k] (List.getElem?_eq_getElem hkl2)
  obtain ⟨tn, htn⟩ : ∃ tn : Nat, l[k] = tn := ⟨l[k].toNat, by omega⟩
  rw [htn] at g1 hft hPk hb
  rw [Int.toNat_natCast] at hft hPk
  have htn2 : tn < ts.length := by omega
  have g2 := encTs_get htn2
  have hrt := hr tn htn2
  rw [tyA_lt htn2] at hft hPk
  have hppl := hp _ (List.getElem_mem htn2)
  have zt : ((tn : Int)).toNat = tn := by omega
  have hnext : v8 (P.take k) ++ [[vI (pickOf ts[tn] V[k])]] = v8 (P.take (k + 1)) := by rw [List.take_succ, hPk]; simp [v8]
  have hkl1 : (v8 (P.take (k + 1))).length = k + 1 := by rw [v8_len, List.length_take]; omega
  generalize V[k] = x at *
  generalize ts[tn] = T at *
  clear hPk hPg hrng hfit
  (repeat' (first
    | exact trivial
    | (refine go_cutK 2 [2, 3, 6, 7, 9, 10, 12] [3, 8000] (fun y : Int => ⟨[(2, true, .lst 3 (encNs V)), (3, true, .ptr 1 3 0 0), (6, true, .v (.slice none 0 0)), (7, true, .lst 1 (v8 l)), (9, true, .ref 3 1 8000 0 k), (10, true, vI k), (12, true, vI y)], [(3, .var [.lst 4 (encTs ts), .lst 2 (encRs rs)]), (8000, .row 3 1 (v8 (P.take k)))]⟩) (fun y => y = pickOf T x) (hold ?_) ?_)
    | (with_reducible first | refine awA ?_ | refine awB ?_ | refine awC ?_ | refine awD ?_ | refine awE ?_ | refine awF ?_ | refine awG ?_ | refine awH ?_ | refine awI ?_ | refine awJ ?_ | refine awK ?_ | refine awL ?_ | refine awM (by decide) ?_)
    | (refine aw_draw (id := 6) (t := (.node [0, 1, 2, 3, 4, 5, 6, 7, 8, 9] [])) (drR [3] [31, 33] []) mixed (by kernel_rfl) (by kernel_rfl) (fun _ _ h => h) ?_)
    | (refine aw_draw (id := 17) (t := (.node [0, 1, 2, 3, 4, 5, 6, 7, 8, 9, 10, 11, 12] [])) (drR [11] [61, 67] []) mixed (by kernel_rfl) (by kernel_rfl) (fun _ _ h => h) ?_)
    | (refine at_done (by simp only [List.filterMap_cons, List.filterMap_nil, List.getElem?_toArray, List.getElem?_cons_zero, List.getElem?_cons_succ]; exact rfl) ?_) | (refine at_alt (by simp only [List.filterMap_cons, List.filterMap_nil, List.getElem?_toArray, List.getElem?_cons_zero, List.getElem?_cons_succ]; exact rfl) ?_) | refine qalt_normal ?_ | refine ats_cons ?_ ?_ | exact ats_nil
    | ((with_reducible first | refine awN (tyOf_ok _) [] ?_ | refine awO (tyOf_ok _) [] ?_ | refine awP (tyOf_ok _) [] ?_ | refine awQ ?_ | refine awR ?_ | refine awS ?_); intro r hr; simp only [go_sem, Nat.reduceBEq, Nat.reduceBneDiff, Nat.reduceLT, Nat.reduceLeDiff, Nat.reduceAdd, Nat.reduceMul, Nat.reduceSub, Nat.reduceEqDiff, reduceCtorEq, f1, g1, g2, zt] at hr; subst hr; (first | refine awV ?_ ?_ | refine awW ?_ ?_ | refine endK ?_ ?_ | (refine condK (fun h => ?_) (fun h => ?_) <;> (try simp only [go_sem, reduceCtorEq] at h) <;> (try (exfalso; omega))))) | fail)) <;> (try omega)
  · refine ⟨?_⟩
    have zk : ((k : Int)).toNat = k := by omega
    by_cases h1 : T.kind = 1
    · have e1 : (T.kind = 1) = True := eq_true h1
      (repeat' (first
    | exact trivial
    | (with_reducible first | refine awA ?_ | refine awB ?_ | refine awC ?_ | refine awD ?_ | refine awE ?_ | refine awF ?_ | refine awG ?_ | refine awH ?_ | refine awI ?_ | refine awJ ?_ | refine awK ?_ | refine awL ?_ | refine awM (by decide) ?_)
    | (refine aw_draw (id := 6) (t := (.node [0, 1, 2, 3, 4, 5, 6, 7, 8, 9] [])) (drR [3] [31, 33] []) mixed (by kernel_rfl) (by kernel_rfl) (fun _ _ h => h) ?_)
    | (refine aw_draw (id := 17) (t := (.node [0, 1, 2, 3, 4, 5, 6, 7, 8, 9, 10, 11, 12] [])) (drR [11] [61, 67] []) mixed (by kernel_rfl) (by kernel_rfl) (fun _ _ h => h) ?_)
    | (refine at_done (by simp only [List.filterMap_cons, List.filterMap_nil, List.getElem?_toArray, List.getElem?_cons_zero, List.getElem?_cons_succ]; exact rfl) ?_) | (refine at_alt (by simp only [List.filterMap_cons, List.filterMap_nil, List.getElem?_toArray, List.getElem?_cons_zero, List.getElem?_cons_succ]; exact rfl) ?_) | refine qalt_normal ?_ | refine ats_cons ?_ ?_ | exact ats_nil
    | ((with_reducible first | refine awN (tyOf_ok _) [] ?_ | refine awO (tyOf_ok _) [] ?_ | refine awP (tyOf_ok _) [] ?_ | refine awQ ?_ | refine awR ?_ | refine awS ?_); intro r hr; simp only [go_sem, Nat.reduceBEq, Nat.reduceBneDiff, Nat.reduceLT, Nat.reduceLeDiff, Nat.reduceAdd, Nat.reduceMul, Nat.reduceSub, Nat.reduceEqDiff, reduceCtorEq, e1, g3, zk] at hr; subst hr; (first | refine awV ?_ ?_ | refine awW ?_ ?_ | refine endK ?_ ?_ | (refine condK (fun h => ?_) (fun h => ?_) <;> (try simp only [go_sem, reduceCtorEq] at h) <;> (try (exfalso; omega))))) | fail)) <;> (try omega)
      exact ⟨_, by simp only [go_sem, Nat.reduceBEq, Nat.reduceBneDiff, Nat.reduceLT, Nat.reduceLeDiff, Nat.reduceAdd, Nat.reduceMul, Nat.reduceSub, Nat.reduceEqDiff, reduceCtorEq] <;> exact rfl, by rw [pickOf, if_pos (.inl h1)]⟩
    have e1 : (T.kind = 1) = False := eq_false h1
    by_cases h3 : T.kind = 3
    · have e3 : (T.kind = 3) = True := eq_true h3
      (repeat' (first
    | exact trivial
    | (with_reducible first | refine awA ?_ | refine awB ?_ | refine awC ?_ | refine awD ?_ | refine awE ?_ | refine awF ?_ | refine awG ?_ | refine awH ?_ | refine awI ?_ | refine awJ ?_ | refine awK ?_ | refine awL ?_ | refine awM (by decide) ?_)
    | (refine aw_draw (id := 6) (t := (.node [0, 1, 2, 3, 4, 5, 6, 7, 8, 9] [])) (drR [3] [31, 33] []) mixed (by kernel_rfl) (by kernel_rfl) (fun _ _ h => h) ?_)
    | (refine aw_draw (id := 17) (t := (.node [0, 1, 2, 3, 4, 5, 6, 7, 8, 9, 10, 11, 12] [])) (drR [11] [61, 67] []) mixed (by kernel_rfl) (by kernel_rfl) (fun _ _ h => h) ?_)
    | (refine at_done (by simp only [List.filterMap_cons, List.filterMap_nil, List.getElem?_toArray, List.getElem?_cons_zero, List.getElem?_cons_succ]; exact rfl) ?_) | (refine at_alt (by simp only [List.filterMap_cons, List.filterMap_nil, List.getElem?_toArray, List.getElem?_cons_zero, List.getElem?_cons_succ]; exact rfl) ?_) | refine qalt_normal ?_ | refine ats_cons ?_ ?_ | exact ats_nil
    | ((with_reducible first | refine awN (tyOf_ok _) [] ?_ | refine awO (tyOf_ok _) [] ?_ | refine awP (tyOf_ok _) [] ?_ | refine awQ ?_ | refine awR ?_ | refine awS ?_); intro r hr; simp only [go_sem, Nat.reduceBEq, Nat.reduceBneDiff, Nat.reduceLT, Nat.reduceLeDiff, Nat.reduceAdd, Nat.reduceMul, Nat.reduceSub, Nat.reduceEqDiff, reduceCtorEq, e1, e3, g3, zk] at hr; subst hr; (first | refine awV ?_ ?_ | refine awW ?_ ?_ | refine endK ?_ ?_ | (refine condK (fun h => ?_) (fun h => ?_) <;> (try simp only [go_sem, reduceCtorEq] at h) <;> (try (exfalso; omega))))) | fail)) <;> (try omega)
      exact ⟨_, by simp only [go_sem, Nat.reduceBEq, Nat.reduceBneDiff, Nat.reduceLT, Nat.reduceLeDiff, Nat.reduceAdd, Nat.reduceMul, Nat.reduceSub, Nat.reduceEqDiff, reduceCtorEq] <;> exact rfl, by rw [pickOf, if_pos (.inr (.inl h3))]⟩
    have e3 : (T.kind = 3) = False := eq_false h3
    by_cases h2 : T.kind = 2
    · have e2 : (T.kind = 2) = True := eq_true h2
      (repeat' (first
    | exact trivial
    | (with_reducible first | refine awA ?_ | refine awB ?_ | refine awC ?_ | refine awD ?_ | refine awE ?_ | refine awF ?_ | refine awG ?_ | refine awH ?_ | refine awI ?_ | refine awJ ?_ | refine awK ?_ | refine awL ?_ | refine awM (by decide) ?_)
    | (refine aw_draw (id := 6) (t := (.node [0, 1, 2, 3, 4, 5, 6, 7, 8, 9] [])) (drR [3] [31, 33] []) mixed (by kernel_rfl) (by kernel_rfl) (fun _ _ h => h) ?_)
    | (refine aw_draw (id := 17) (t := (.node [0, 1, 2, 3, 4, 5, 6, 7, 8, 9, 10, 11, 12] [])) (drR [11] [61, 67] []) mixed (by kernel_rfl) (by kernel_rfl) (fun _ _ h => h) ?_)
    | (refine at_done (by simp only [List.filterMap_cons, List.filterMap_nil, List.getElem?_toArray, List.getElem?_cons_zero, List.getElem?_cons_succ]; exact rfl) ?_) | (refine at_alt (by simp only [List.filterMap_cons, List.filterMap_nil, List.getElem?_toArray, List.getElem?_cons_zero, List.getElem?_cons_succ]; exact rfl) ?_) | refine qalt_normal ?_ | refine ats_cons ?_ ?_ | exact ats_nil
    | ((with_reducible first | refine awN (tyOf_ok _) [] ?_ | refine awO (tyOf_ok _) [] ?_ | refine awP (tyOf_ok _) [] ?_ | refine awQ ?_ | refine awR ?_ | refine awS ?_); intro r hr; simp only [go_sem, Nat.reduceBEq, Nat.reduceBneDiff, Nat.reduceLT, Nat.reduceLeDiff, Nat.reduceAdd, Nat.reduceMul, Nat.reduceSub, Nat.reduceEqDiff, reduceCtorEq, e1, e3, e2, g3, zk] at hr; subst hr; (first | refine awV ?_ ?_ | refine awW ?_ ?_ | refine endK ?_ ?_ | (refine condK (fun h => ?_) (fun h => ?_) <;> (try simp only [go_sem, reduceCtorEq] at h) <;> (try (exfalso; omega))))) | fail)) <;> (try omega)
      exact ⟨_, by simp only [go_sem, Nat.reduceBEq, Nat.reduceBneDiff, Nat.reduceLT, Nat.reduceLeDiff, Nat.reduceAdd, Nat.reduceMul, Nat.reduceSub, Nat.reduceEqDiff, reduceCtorEq] <;> exact rfl, by rw [pickOf, if_pos (.inr (.inr h2))]⟩
    have e2 : (T.kind = 2) = False := eq_false h2
    by_cases h5 : T.kind = 5
    · have e5 : (T.kind = 5) = True := eq_true h5
      (repeat' (first
    | exact trivial
    | (with_reducible first | refine awA ?_ | refine awB ?_ | refine awC ?_ | refine awD ?_ | refine awE ?_ | refine awF ?_ | refine awG ?_ | refine awH ?_ | refine awI ?_ | refine awJ ?_ | refine awK ?_ | refine awL ?_ | refine awM (by decide) ?_)
    | (refine aw_draw (id := 6) (t := (.node [0, 1, 2, 3, 4, 5, 6, 7, 8, 9] [])) (drR [3] [31, 33] []) mixed (by kernel_rfl) (by kernel_rfl) (fun _ _ h => h) ?_)
    | (refine aw_draw (id := 17) (t := (.node [0, 1, 2, 3, 4, 5, 6, 7, 8, 9, 10, 11, 12] [])) (drR [11] [61, 67] []) mixed (by kernel_rfl) (by kernel_rfl) (fun _ _ h => h) ?_)
    | (refine at_done (by simp only [List.filterMap_cons, List.filterMap_nil, List.getElem?_toArray, List.getElem?_cons_zero, List.getElem?_cons_succ]; exact rfl) ?_) | (refine at_alt (by simp only [List.filterMap_cons, List.filterMap_nil, List.getElem?_toArray, List.getElem?_cons_zero, List.getElem?_cons_succ]; exact rfl) ?_) | refine qalt_normal ?_ | refine ats_cons ?_ ?_ | exact ats_nil
    | ((with_reducible first | refine awN (tyOf_ok _) [] ?_ | refine awO (tyOf_ok _) [] ?_ | refine awP (tyOf_ok _) [] ?_ | refine awQ ?_ | refine awR ?_ | refine awS ?_); intro r hr; simp only [go_sem, Nat.reduceBEq, Nat.reduceBneDiff, Nat.reduceLT, Nat.reduceLeDiff, Nat.reduceAdd, Nat.reduceMul, Nat.reduceSub, Nat.reduceEqDiff, reduceCtorEq, e1, e3, e2, e5, g3, zk] at hr; subst hr; (first | refine awV ?_ ?_ | refine awW ?_ ?_ | refine endK ?_ ?_ | (refine condK (fun h => ?_) (fun h => ?_) <;> (try simp only [go_sem, reduceCtorEq] at h) <;> (try (exfalso; omega))))) | fail)) <;> (try omega)
      exact ⟨_, by simp only [go_sem, Nat.reduceBEq, Nat.reduceBneDiff, Nat.reduceLT, Nat.reduceLeDiff, Nat.reduceAdd, Nat.reduceMul, Nat.reduceSub, Nat.reduceEqDiff, reduceCtorEq] <;> exact rfl, by rw [pickOf, if_neg (by omega), if_pos (.inl h5)]⟩
    have e5 : (T.kind = 5) = False := eq_false h5
    by_cases h6 : T.kind = 6
    · have e6 : (T.kind = 6) = True := eq_true h6
      (repeat' (first
    | exact trivial
    | (with_reducible first | refine awA ?_ | refine awB ?_ | refine awC ?_ | refine awD ?_ | refine awE ?_ | refine awF ?_ | refine awG ?_ | refine awH ?_ | refine awI ?_ | refine awJ ?_ | refine awK ?_ | refine awL ?_ | refine awM (by decide) ?_)
    | (refine aw_draw (id := 6) (t := (.node [0, 1, 2, 3, 4, 5, 6, 7, 8, 9] [])) (drR [3] [31, 33] []) mixed (by kernel_rfl) (by kernel_rfl) (fun _ _ h => h) ?_)
    | (refine aw_draw (id := 17) (t := (.node [0, 1, 2, 3, 4, 5, 6, 7, 8, 9, 10, 11, 12] [])) (drR [11] [61, 67] []) mixed (by kernel_rfl) (by kernel_rfl) (fun _ _ h => h) ?_)
    | (refine at_done (by simp only [List.filterMap_cons, List.filterMap_nil, List.getElem?_toArray, List.getElem?_cons_zero, List.getElem?_cons_succ]; exact rfl) ?_) | (refine at_alt (by simp only [List.filterMap_cons, List.filterMap_nil, List.getElem?_toArray, List.getElem?_cons_zero, List.getElem?_cons_succ]; exact rfl) ?_) | refine qalt_normal ?_ | refine ats_cons ?_ ?_ | exact ats_nil
    | ((with_reducible first | refine awN (tyOf_ok _) [] ?_ | refine awO (tyOf_ok _) [] ?_ | refine awP (tyOf_ok _) [] ?_ | refine awQ ?_ | refine awR ?_ | refine awS ?_); intro r hr; simp only [go_sem, Nat.reduceBEq, Nat.reduceBneDiff, Nat.reduceLT, Nat.reduceLeDiff, Nat.reduceAdd, Nat.reduceMul, Nat.reduceSub, Nat.reduceEqDiff, reduceCtorEq, e1, e3, e2, e5, e6, g3, zk] at hr; subst hr; (first | refine awV ?_ ?_ | refine awW ?_ ?_ | refine endK ?_ ?_ | (refine condK (fun h => ?_) (fun h => ?_) <;> (try simp only [go_sem, reduceCtorEq] at h) <;> (try (exfalso; omega))))) | fail)) <;> (try omega)
      exact ⟨_, by simp only [go_sem, Nat.reduceBEq, Nat.reduceBneDiff, Nat.reduceLT, Nat.reduceLeDiff, Nat.reduceAdd, Nat.reduceMul, Nat.reduceSub, Nat.reduceEqDiff, reduceCtorEq] <;> exact rfl, by rw [pickOf, if_neg (by omega), if_pos (.inr h6)]⟩
    have e6 : (T.kind = 6) = False := eq_false h6
    by_cases h7 : T.kind = 7
    · have e7 : (T.kind = 7) = True := eq_true h7
      obtain ⟨a1, a2⟩ := arm_idx ((fits_parts hft.1).2.2.2.2.2 h7)
      have hP : pickOf T x = ((T.parts.findIdx (tagP x.n) : Nat) : Int) := by rw [pickOf, if_neg (by omega), if_neg (by omega), if_pos h7]
      rw [hP]
      have hnot : ∀ j, j < T.parts.findIdx (tagP x.n) → (h : j < T.parts.length) → tagP x.n T.parts[j] = false := fun j hj h => by
        have := List.not_of_lt_findIdx hj
        simpa using this
      have hyes : ∀ j, j = T.parts.findIdx (tagP x.n) → (h : j < T.parts.length) → tagP x.n T.parts[j] = true := fun j hj h => by
        subst hj
        exact List.findIdx_getElem (w := h)
      generalize T.parts.findIdx (tagP x.n) = ix at *
      (repeat' (first
    | exact trivial
    | (with_reducible first | refine awA ?_ | refine awB ?_ | refine awC ?_ | refine awD ?_ | refine awE ?_ | refine awF ?_ | refine awG ?_ | refine awH ?_ | refine awI ?_ | refine awJ ?_ | refine awK ?_ | refine awL ?_ | refine awM (by decide) ?_)
    | (refine aw_draw (id := 6) (t := (.node [0, 1, 2, 3, 4, 5, 6, 7, 8, 9] [])) (drR [3] [31, 33] []) mixed (by kernel_rfl) (by kernel_rfl) (fun _ _ h => h) ?_)
    | (refine aw_draw (id := 17) (t := (.node [0, 1, 2, 3, 4, 5, 6, 7, 8, 9, 10, 11, 12] [])) (drR [11] [61, 67] []) mixed (by kernel_rfl) (by kernel_rfl) (fun _ _ h => h) ?_)
    | (refine at_done (by simp only [List.filterMap_cons, List.filterMap_nil, List.getElem?_toArray, List.getElem?_cons_zero, List.getElem?_cons_succ]; exact rfl) ?_) | (refine at_alt (by simp only [List.filterMap_cons, List.filterMap_nil, List.getElem?_toArray, List.getElem?_cons_zero, List.getElem?_cons_succ]; exact rfl) ?_) | refine qalt_normal ?_ | refine ats_cons ?_ ?_ | exact ats_nil
    | ((with_reducible first | refine awN (tyOf_ok _) [] ?_ | refine awO (tyOf_ok _) [] ?_ | refine awP (tyOf_ok _) [] ?_ | refine awQ ?_ | refine awR ?_ | refine awS ?_); intro r hr; simp only [go_sem, Nat.reduceBEq, Nat.reduceBneDiff, Nat.reduceLT, Nat.reduceLeDiff, Nat.reduceAdd, Nat.reduceMul, Nat.reduceSub, Nat.reduceEqDiff, reduceCtorEq, e1, e3, e2, e5, e6, e7] at hr; subst hr; (first | refine awV ?_ ?_ | refine awW ?_ ?_ | refine endK ?_ ?_ | (refine condK (fun h => ?_) (fun h => ?_) <;> (try simp only [go_sem, reduceCtorEq] at h) <;> (try (exfalso; omega))))) | fail)) <;> (try omega)
      refine go_loop [2, 3, 6, 7, 9, 10, 11, 12] [3, 11, 8000] (fun j : Nat => ⟨[(2, true, .lst 3 (encNs V)), (3, true, .ptr 1 3 0 0), (6, true, .v (.slice none 0 0)), (7, true, .lst 1 (v8 l)), (9, true, .ref 3 1 8000 0 k), (10, true, vI k), (11, true, .ptr 1 11 0 0), (12, true, vI j)], [(3, .var [.lst 4 (encTs ts), .lst 2 (encRs rs)]), (11, .var [vI T.kind, vI T.n, vI T.elem, .lst 3 (encPs T.parts)]), (8000, .row 3 1 (v8 (P.take k)))]⟩)
        (fun j => j ≤ ix) (fun j => ix - j) 0 (by simp only [go_sem, Nat.reduceBEq, Nat.reduceBneDiff, Nat.reduceLT, Nat.reduceLeDiff, Nat.reduceAdd, Nat.reduceMul, Nat.reduceSub, Nat.reduceEqDiff, reduceCtorEq, h7] <;> exact rfl) (Nat.zero_le _) ?_
      intro j hj
      have hwj := wrap_i64 (n := (j : Int) + 1) (by omega)
      have g4 := encPs_get (show j < T.parts.length by omega)
      have hcv : IntKind.u64.wrap (T.parts[j]'(by omega)).tag = (T.parts[j]'(by omega)).tag % 18446744073709551616 := IntKind.wrap_u64 _
      have zj : ((j : Int)).toNat = j := by omega
      have hjl : j < T.parts.length := by omega
      by_cases hje : j = ix
      · have hy := hyes j hje hjl
        rw [tagP, decide_eq_true_eq] at hy
        generalize T.parts[j] = pp at *
        have f2 : (pp.tag % 18446744073709551616 = x.n) = True := eq_true hy
        (repeat' (first
    | exact trivial
    | (with_reducible first | refine awA ?_ | refine awB ?_ | refine awC ?_ | refine awD ?_ | refine awE ?_ | refine awF ?_ | refine awG ?_ | refine awH ?_ | refine awI ?_ | refine awJ ?_ | refine awK ?_ | refine awL ?_ | refine awM (by decide) ?_)
    | (refine aw_draw (id := 6) (t := (.node [0, 1, 2, 3, 4, 5, 6, 7, 8, 9] [])) (drR [3] [31, 33] []) mixed (by kernel_rfl) (by kernel_rfl) (fun _ _ h => h) ?_)
    | (refine aw_draw (id := 17) (t := (.node [0, 1, 2, 3, 4, 5, 6, 7, 8, 9, 10, 11, 12] [])) (drR [11] [61, 67] []) mixed (by kernel_rfl) (by kernel_rfl) (fun _ _ h => h) ?_)
    | (refine at_done (by simp only [List.filterMap_cons, List.filterMap_nil, List.getElem?_toArray, List.getElem?_cons_zero, List.getElem?_cons_succ]; exact rfl) ?_) | (refine at_alt (by simp only [List.filterMap_cons, List.filterMap_nil, List.getElem?_toArray, List.getElem?_cons_zero, List.getElem?_cons_succ]; exact rfl) ?_) | refine qalt_normal ?_ | refine ats_cons ?_ ?_ | exact ats_nil
    | ((with_reducible first | refine awN (tyOf_ok _) [] ?_ | refine awO (tyOf_ok _) [] ?_ | refine awP (tyOf_ok _) [] ?_ | refine awQ ?_ | refine awR ?_ | refine awS ?_); intro r hr; simp only [go_sem, Nat.reduceBEq, Nat.reduceBneDiff, Nat.reduceLT, Nat.reduceLeDiff, Nat.reduceAdd, Nat.reduceMul, Nat.reduceSub, Nat.reduceEqDiff, reduceCtorEq, encPs_len, g3, g4, zk, zj, hcv, f2] at hr; subst hr; (first | refine awV ?_ ?_ | refine awW ?_ ?_ | refine endK ?_ ?_ | (refine condK (fun h => ?_) (fun h => ?_) <;> (try simp only [go_sem, reduceCtorEq] at h) <;> (try (exfalso; omega))))) | fail)) <;> (try omega)
        all_goals first | exact ⟨_, by simp only [go_sem, Nat.reduceBEq, Nat.reduceBneDiff, Nat.reduceLT, Nat.reduceLeDiff, Nat.reduceAdd, Nat.reduceMul, Nat.reduceSub, Nat.reduceEqDiff, reduceCtorEq] <;> exact rfl, by rw [hje]⟩ | omega
      · have hy := hnot j (by omega) hjl
        rw [tagP, decide_eq_false_iff_not] at hy
        generalize T.parts[j] = pp at *
        have f2 : (pp.tag % 18446744073709551616 = x.n) = False := eq_false hy
        (repeat' (first
    | exact trivial
    | (with_reducible first | refine awA ?_ | refine awB ?_ | refine awC ?_ | refine awD ?_ | refine awE ?_ | refine awF ?_ | refine awG ?_ | refine awH ?_ | refine awI ?_ | refine awJ ?_ | refine awK ?_ | refine awL ?_ | refine awM (by decide) ?_)
    | (refine aw_draw (id := 6) (t := (.node [0, 1, 2, 3, 4, 5, 6, 7, 8, 9] [])) (drR [3] [31, 33] []) mixed (by kernel_rfl) (by kernel_rfl) (fun _ _ h => h) ?_)
    | (refine aw_draw (id := 17) (t := (.node [0, 1, 2, 3, 4, 5, 6, 7, 8, 9, 10, 11, 12] [])) (drR [11] [61, 67] []) mixed (by kernel_rfl) (by kernel_rfl) (fun _ _ h => h) ?_)
    | (refine at_done (by simp only [List.filterMap_cons, List.filterMap_nil, List.getElem?_toArray, List.getElem?_cons_zero, List.getElem?_cons_succ]; exact rfl) ?_) | (refine at_alt (by simp only [List.filterMap_cons, List.filterMap_nil, List.getElem?_toArray, List.getElem?_cons_zero, List.getElem?_cons_succ]; exact rfl) ?_) | refine qalt_normal ?_ | refine ats_cons ?_ ?_ | exact ats_nil
    | ((with_reducible first | refine awN (tyOf_ok _) [] ?_ | refine awO (tyOf_ok _) [] ?_ | refine awP (tyOf_ok _) [] ?_ | refine awQ ?_ | refine awR ?_ | refine awS ?_); intro r hr; simp only [go_sem, Nat.reduceBEq, Nat.reduceBneDiff, Nat.reduceLT, Nat.reduceLeDiff, Nat.reduceAdd, Nat.reduceMul, Nat.reduceSub, Nat.reduceEqDiff, reduceCtorEq, encPs_len, g3, g4, zk, zj, hcv, f2, hwj] at hr; subst hr; (first | refine awV ?_ ?_ | refine awW ?_ ?_ | refine endK ?_ ?_ | (refine condK (fun h => ?_) (fun h => ?_) <;> (try simp only [go_sem, reduceCtorEq] at h) <;> (try (exfalso; omega))))) | fail)) <;> (try omega)
        all_goals first | exact ⟨j + 1, by simp only [go_sem, Nat.reduceBEq, Nat.reduceBneDiff, Nat.reduceLT, Nat.reduceLeDiff, Nat.reduceAdd, Nat.reduceMul, Nat.reduceSub, Nat.reduceEqDiff, reduceCtorEq] <;> exact rfl, by omega, by omega⟩ | omega
    have e7 : (T.kind = 7) = False := eq_false h7
    (repeat' (first
    | exact trivial
    | (with_reducible first | refine awA ?_ | refine awB ?_ | refine awC ?_ | refine awD ?_ | refine awE ?_ | refine awF ?_ | refine awG ?_ | refine awH ?_ | refine awI ?_ | refine awJ ?_ | refine awK ?_ | refine awL ?_ | refine awM (by decide) ?_)
    | (refine aw_draw (id := 6) (t := (.node [0, 1, 2, 3, 4, 5, 6, 7, 8, 9] [])) (drR [3] [31, 33] []) mixed (by kernel_rfl) (by kernel_rfl) (fun _ _ h => h) ?_)
    | (refine aw_draw (id := 17) (t := (.node [0, 1, 2, 3, 4, 5, 6, 7, 8, 9, 10, 11, 12] [])) (drR [11] [61, 67] []) mixed (by kernel_rfl) (by kernel_rfl) (fun _ _ h => h) ?_)
    | (refine at_done (by simp only [List.filterMap_cons, List.filterMap_nil, List.getElem?_toArray, List.getElem?_cons_zero, List.getElem?_cons_succ]; exact rfl) ?_) | (refine at_alt (by simp only [List.filterMap_cons, List.filterMap_nil, List.getElem?_toArray, List.getElem?_cons_zero, List.getElem?_cons_succ]; exact rfl) ?_) | refine qalt_normal ?_ | refine ats_cons ?_ ?_ | exact ats_nil
    | ((with_reducible first | refine awN (tyOf_ok _) [] ?_ | refine awO (tyOf_ok _) [] ?_ | refine awP (tyOf_ok _) [] ?_ | refine awQ ?_ | refine awR ?_ | refine awS ?_); intro r hr; simp only [go_sem, Nat.reduceBEq, Nat.reduceBneDiff, Nat.reduceLT, Nat.reduceLeDiff, Nat.reduceAdd, Nat.reduceMul, Nat.reduceSub, Nat.reduceEqDiff, reduceCtorEq, e1, e3, e2, e5, e6, e7] at hr; subst hr; (first | refine awV ?_ ?_ | refine awW ?_ ?_ | refine endK ?_ ?_ | (refine condK (fun h => ?_) (fun h => ?_) <;> (try simp only [go_sem, reduceCtorEq] at h) <;> (try (exfalso; omega))))) | fail)) <;> (try omega)
    exact ⟨_, by simp only [go_sem, Nat.reduceBEq, Nat.reduceBneDiff, Nat.reduceLT, Nat.reduceLeDiff, Nat.reduceAdd, Nat.reduceMul, Nat.reduceSub, Nat.reduceEqDiff, reduceCtorEq] <;> exact rfl, by rw [pickOf, if_neg (by omega), if_neg (by omega), if_neg h7]⟩
  intro y hy
  subst hy
  (repeat' (first
    | exact trivial
    | (with_reducible first | refine awA ?_ | refine awB ?_ | refine awC ?_ | refine awD ?_ | refine awE ?_ | refine awF ?_ | refine awG ?_ | refine awH ?_ | refine awI ?_ | refine awJ ?_ | refine awK ?_ | refine awL ?_ | refine awM (by decide) ?_)
    | (refine aw_draw (id := 6) (t := (.node [0, 1, 2, 3, 4, 5, 6, 7, 8, 9] [])) (drR [3] [31, 33] []) mixed (by kernel_rfl) (by kernel_rfl) (fun _ _ h => h) ?_)
    | (refine aw_draw (id := 17) (t := (.node [0, 1, 2, 3, 4, 5, 6, 7, 8, 9, 10, 11, 12] [])) (drR [11] [61, 67] []) mixed (by kernel_rfl) (by kernel_rfl) (fun _ _ h => h) ?_)
    | (refine at_done (by simp only [List.filterMap_cons, List.filterMap_nil, List.getElem?_toArray, List.getElem?_cons_zero, List.getElem?_cons_succ]; exact rfl) ?_) | (refine at_alt (by simp only [List.filterMap_cons, List.filterMap_nil, List.getElem?_toArray, List.getElem?_cons_zero, List.getElem?_cons_succ]; exact rfl) ?_) | refine qalt_normal ?_ | refine ats_cons ?_ ?_ | exact ats_nil
    | ((with_reducible first | refine awN (tyOf_ok _) [] ?_ | refine awO (tyOf_ok _) [] ?_ | refine awP (tyOf_ok _) [] ?_ | refine awQ ?_ | refine awR ?_ | refine awS ?_); intro r hr; simp only [go_sem, Nat.reduceBEq, Nat.reduceBneDiff, Nat.reduceLT, Nat.reduceLeDiff, Nat.reduceAdd, Nat.reduceMul, Nat.reduceSub, Nat.reduceEqDiff, reduceCtorEq, hkl, htk, hnext, hkl1, hw1] at hr; subst hr; (first | refine awV ?_ ?_ | refine awW ?_ ?_ | refine endK ?_ ?_ | (refine condK (fun h => ?_) (fun h => ?_) <;> (try simp only [go_sem, reduceCtorEq] at h) <;> (try (exfalso; omega))))) | fail)) <;> (try omega)
  all_goals exact ⟨k + 1, by simp only [go_sem, Nat.reduceBEq, Nat.reduceBneDiff, Nat.reduceLT, Nat.reduceLeDiff, Nat.reduceAdd, Nat.reduceMul, Nat.reduceSub, Nat.reduceEqDiff, reduceCtorEq] <;> exact rfl, hlt, by omega⟩
end Go.Proofs.YtfgacgpicfknpaaDoor
end
section
namespace Go.Proofs.YtfgacgpicfknpaaDoor
open Go.RowKit
set_option maxRecDepth 100000
set_option maxHeartbeats 8000000
/-! TypingMakes. -/
/-- what Some answers under a schema that may be -/
theorem some_cases {ts : List TypeM} {rs : List RootM} (h0 : (checkF ts rs).1 = 0) {t : Nat} (ht : t < ts.length) (ps : List Int) :
    (someF ts rs t ps).2 = 5 ∨ ((someF ts rs t ps).2 = 0 ∧ ∃ c : Tr, c = madeT ts ps t ∧ c.flat = (someF ts rs t ps).1 ∧ c.typed ts t ∧ (∀ x ∈ c.flat, nodeOK x) ∧ c.flat.length ≤ 1048576) := by
  have hr := check_right h0
  unfold someF
  rw [if_neg (by omega), if_neg (by omega)]
  by_cases hb : 1048576 < (madeT ts ps t).flat.length
  · rw [if_pos hb]; exact .inl rfl
  · rw [if_neg hb]
    refine .inr ⟨rfl, _, rfl, rfl, ?_, ?_, by omega⟩
    · unfold madeT; rw [Int.toNat_natCast]; exact mkT_typed hr ts.length t ht ht 0
    · unfold madeT; rw [Int.toNat_natCast]; exact mkT_node hr ts.length t ht ht 0
/-- its picks lead to it -/
theorem some_back {ts : List TypeM} {rs : List RootM} (h0 : (checkF ts rs).1 = 0) {t : Nat} (ht : t < ts.length) {c : Tr} (hc : c.typed ts t) (hn : ∀ x ∈ c.flat, nodeOK x) (hl : c.flat.length ≤ 1048576) :
    someF ts rs t (picksL ts c.flat (c.types ts t)) = (c.flat, 0) := by
  have hr := check_right h0
  have hlen := picksL_len ts c.flat (c.types ts t) (types_len _ c (Nat.le_refl _) t).symm
  have hm : madeT ts (picksL ts c.flat (c.types ts t)) t = c := by
    unfold madeT
    rw [Int.toNat_natCast]
    refine mkT_back hr ts.length t ht ht c hc hn 0 fun i hi => ?_
    rw [pickAt, Nat.zero_add, List.getElem?_eq_getElem (by omega)]
  unfold someF
  rw [if_neg (by omega), if_neg (by omega), hm, if_neg (by omega)]
theorem makes_any (ts0 : List TypeM) (rs0 : List RootM) (hts : ts0.length ≤ 1048576) (hrs : rs0.length ≤ 1048576) (hp : ∀ t ∈ ts0, t.parts.length ≤ 1000000000) (hg : ∀ t ∈ ts0, ∀ p ∈ t.parts, I64 p.tag) (a : Int) (ha : I64 a) (ps : List Int) (hps : ps.length ≤ 1048576) :
    PCall Tryd.prog 5 [vSch ts0 rs0, vI a, .lst 1 (v8 ps)] (fun r => r = vB true) := by
  refine go_fn (tyOf_ok _) Tryd.func5 rfl rfl (by rw [Tryd.results5]) Tryd.ntmps5 rfl fun E => ?_
  have hM := made_any ts0 rs0 hts hrs hp a ha ps hps
  have hl0 := cutT_len ts0
  have hrl0 : (rs0.take 260).length ≤ 260 := by simp; omega
  have hpp := cutT_parts (ts := ts0)
  have hgg : ∀ t ∈ cutT ts0, ∀ p ∈ t.parts, I64 p.tag := fun t ht p hp => by
    obtain ⟨u, hu, rfl⟩ := cutT_mem ht
    exact hg u hu p (List.mem_of_mem_take hp)
  generalize cutT ts0 = ts at *
  generalize rs0.take 260 = rs at *
  have hpp' : ∀ t ∈ ts, t.parts.length ≤ 1000000000 := fun t ht => by have := hpp t ht; omega
  have haw := awake11
  unfold vSch at hM
  (repeat' (first
    | exact trivial
    | (with_reducible first | refine awA ?_ | refine awB ?_ | refine awC ?_ | refine awD ?_ | refine awE ?_ | refine awF ?_ | refine awG ?_ | refine awH ?_ | refine awI ?_ | refine awJ ?_ | refine awK ?_ | refine awL ?_ | refine awM (by decide) ?_)
    | (refine aw_draw (id := 12) (t := (.node [0, 1, 2, 3, 4, 5, 6, 7, 8, 9, 10, 11] [])) (drR [7] [] []) mixed (by kernel_rfl) (by kernel_rfl) (fun _ _ h => h) ?_)
    | (refine at_done (by simp only [List.filterMap_cons, List.filterMap_nil, List.getElem?_toArray, List.getElem?_cons_zero, List.getElem?_cons_succ]; exact rfl) ?_) | (refine at_alt (by simp only [List.filterMap_cons, List.filterMap_nil, List.getElem?_toArray, List.getElem?_cons_zero, List.getElem?_cons_succ]; exact rfl) ?_) | refine qalt_normal ?_ | refine ats_cons ?_ ?_ | exact ats_nil
    | ((with_reducible first | refine awN (tyOf_ok _) [] ?_ | refine awO (tyOf_ok _) [] ?_ | refine awP (tyOf_ok _) [] ?_ | refine awQ ?_ | refine awR ?_ | refine awS ?_); intro r hr; simp only [go_sem, Nat.reduceBEq, Nat.reduceBneDiff, Nat.reduceLT, Nat.reduceLeDiff, Nat.reduceAdd, Nat.reduceMul, Nat.reduceSub, Nat.reduceEqDiff, reduceCtorEq, vSch] at hr; subst hr; (first | refine caA (fun _ => haw) rfl ?_ ?_ ?_ | refine caD (hM) rfl ?_ ?_ (fun r hr => hold ?_) | refine awV ?_ ?_ | refine awW ?_ ?_ | refine endK ?_ ?_ | (refine condK (fun h => ?_) (fun h => ?_) <;> (try simp only [go_sem, reduceCtorEq] at h) <;> (try (exfalso; omega))))) | fail)) <;> (try omega)
  refine ⟨?_⟩
  rcases hr with rfl | ⟨rfl, h0, hn⟩
  · (repeat' (first
    | exact trivial
    | (with_reducible first | refine awA ?_ | refine awB ?_ | refine awC ?_ | refine awD ?_ | refine awE ?_ | refine awF ?_ | refine awG ?_ | refine awH ?_ | refine awI ?_ | refine awJ ?_ | refine awK ?_ | refine awL ?_ | refine awM (by decide) ?_)
    | (refine aw_draw (id := 12) (t := (.node [0, 1, 2, 3, 4, 5, 6, 7, 8, 9, 10, 11] [])) (drR [7] [] []) mixed (by kernel_rfl) (by kernel_rfl) (fun _ _ h => h) ?_)
    | (refine at_done (by simp only [List.filterMap_cons, List.filterMap_nil, List.getElem?_toArray, List.getElem?_cons_zero, List.getElem?_cons_succ]; exact rfl) ?_) | (refine at_alt (by simp only [List.filterMap_cons, List.filterMap_nil, List.getElem?_toArray, List.getElem?_cons_zero, List.getElem?_cons_succ]; exact rfl) ?_) | refine qalt_normal ?_ | refine ats_cons ?_ ?_ | exact ats_nil
    | ((with_reducible first | refine awN (tyOf_ok _) [] ?_ | refine awO (tyOf_ok _) [] ?_ | refine awP (tyOf_ok _) [] ?_ | refine awQ ?_ | refine awR ?_ | refine awS ?_); intro r hr; simp only [go_sem, Nat.reduceBEq, Nat.reduceBneDiff, Nat.reduceLT, Nat.reduceLeDiff, Nat.reduceAdd, Nat.reduceMul, Nat.reduceSub, Nat.reduceEqDiff, reduceCtorEq, vSch] at hr; subst hr; (first | refine awV ?_ ?_ | refine awW ?_ ?_ | refine endK ?_ ?_ | (refine condK (fun h => ?_) (fun h => ?_) <;> (try simp only [go_sem, reduceCtorEq] at h) <;> (try (exfalso; omega))))) | fail)) <;> (try omega)
    all_goals exact rfl
  obtain ⟨j, hj⟩ : ∃ j : Nat, a % (ts.length : Int) = j := ⟨(a % (ts.length : Int)).toNat, by
    have := Int.emod_nonneg a (show (ts.length : Int) ≠ 0 by omega)
    omega⟩
  have hjl : j < ts.length := by
    have := Int.emod_lt_of_pos a (show 0 < (ts.length : Int) by omega)
    omega
  rw [hj]
  have hqs := tameF_len ts (ps.take 300)
  simp only [List.length_take] at hqs
  generalize tameF ts (ps.take 300) = qs at *
  have hS := tSome_any ts rs (by omega) (by omega) hpp' j qs (by omega)
  rcases some_cases (rs := rs) h0 hjl qs with h5 | ⟨h5, c, _, hc1, hty, hnd, hcl⟩
  · rw [h5] at hS
    generalize someF ts rs j qs = F at *
    (repeat' (first
    | exact trivial
    | (with_reducible first | refine awA ?_ | refine awB ?_ | refine awC ?_ | refine awD ?_ | refine awE ?_ | refine awF ?_ | refine awG ?_ | refine awH ?_ | refine awI ?_ | refine awJ ?_ | refine awK ?_ | refine awL ?_ | refine awM (by decide) ?_)
    | (refine aw_draw (id := 12) (t := (.node [0, 1, 2, 3, 4, 5, 6, 7, 8, 9, 10, 11] [])) (drR [7] [] []) mixed (by kernel_rfl) (by kernel_rfl) (fun _ _ h => h) ?_)
    | (refine at_done (by simp only [List.filterMap_cons, List.filterMap_nil, List.getElem?_toArray, List.getElem?_cons_zero, List.getElem?_cons_succ]; exact rfl) ?_) | (refine at_alt (by simp only [List.filterMap_cons, List.filterMap_nil, List.getElem?_toArray, List.getElem?_cons_zero, List.getElem?_cons_succ]; exact rfl) ?_) | refine qalt_normal ?_ | refine ats_cons ?_ ?_ | exact ats_nil
    | ((with_reducible first | refine awN (tyOf_ok _) [] ?_ | refine awO (tyOf_ok _) [] ?_ | refine awP (tyOf_ok _) [] ?_ | refine awQ ?_ | refine awR ?_ | refine awS ?_); intro r hr; simp only [go_sem, Nat.reduceBEq, Nat.reduceBneDiff, Nat.reduceLT, Nat.reduceLeDiff, Nat.reduceAdd, Nat.reduceMul, Nat.reduceSub, Nat.reduceEqDiff, reduceCtorEq, vSch] at hr; subst hr; (first | refine caC (hS) rfl ?_ ?_ ?_ | refine caA (fun _ => num11_any _) rfl ?_ ?_ ?_ | refine awV ?_ ?_ | refine awW ?_ ?_ | refine endK ?_ ?_ | (refine condK (fun h => ?_) (fun h => ?_) <;> (try simp only [go_sem, reduceCtorEq] at h) <;> (try (exfalso; omega))))) | fail)) <;> (try omega)
    all_goals exact rfl
  rw [h5, ← hc1] at hS
  have hC := tCheck_any ts rs (by omega) (by omega) hpp' j c.flat (by omega) hnd c (fun _ => ⟨rfl, typed_ok _ c (Nat.le_refl _) j hty⟩)
  have hT := tTypes_any ts rs (by omega) (by omega) hpp' j c.flat (by omega) hnd c (fun _ => ⟨rfl, typed_ok _ c (Nat.le_refl _) j hty⟩)
  rw [typesF_typed h0 hty] at hC hT
  have hPk := picks11_any ts rs (by omega) (by omega) hpp' hgg h0 j c.flat (by omega) hnd c rfl hty
  have hlen := types_len _ c (Nat.le_refl _) (ts := ts) j
  have hpl := picksL_len ts c.flat (c.types ts j) hlen.symm
  have hS2 := tSome_any ts rs (by omega) (by omega) hpp' j (picksL ts c.flat (c.types ts j)) (by omega)
  rw [some_back h0 hjl hty hnd hcl] at hS2
  have hE := equal04_refl c.flat (by omega)
  have hpos := flat_pos c
  have hg1 : (v8 (c.types ts j))[0]? = some [vI (j : Int)] := by
    cases c with | node x ks => rfl
  have hlv : (v8 (c.types ts j)).length = c.flat.length := by rw [v8_len, hlen]
  have e1 : ((c.flat.length : Int) = 0) = False := eq_false (by omega)
  generalize picksL ts c.flat (c.types ts j) = pk at *
  generalize c.types ts j = ty at *
  generalize c.flat = V at *
  (repeat' (first
    | exact trivial
    | (with_reducible first | refine awA ?_ | refine awB ?_ | refine awC ?_ | refine awD ?_ | refine awE ?_ | refine awF ?_ | refine awG ?_ | refine awH ?_ | refine awI ?_ | refine awJ ?_ | refine awK ?_ | refine awL ?_ | refine awM (by decide) ?_)
    | (refine aw_draw (id := 12) (t := (.node [0, 1, 2, 3, 4, 5, 6, 7, 8, 9, 10, 11] [])) (drR [7] [] []) mixed (by kernel_rfl) (by kernel_rfl) (fun _ _ h => h) ?_)
    | (refine at_done (by simp only [List.filterMap_cons, List.filterMap_nil, List.getElem?_toArray, List.getElem?_cons_zero, List.getElem?_cons_succ]; exact rfl) ?_) | (refine at_alt (by simp only [List.filterMap_cons, List.filterMap_nil, List.getElem?_toArray, List.getElem?_cons_zero, List.getElem?_cons_succ]; exact rfl) ?_) | refine qalt_normal ?_ | refine ats_cons ?_ ?_ | exact ats_nil
    | ((with_reducible first | refine awN (tyOf_ok _) [] ?_ | refine awO (tyOf_ok _) [] ?_ | refine awP (tyOf_ok _) [] ?_ | refine awQ ?_ | refine awR ?_ | refine awS ?_); intro r hr; simp only [go_sem, Nat.reduceBEq, Nat.reduceBneDiff, Nat.reduceLT, Nat.reduceLeDiff, Nat.reduceAdd, Nat.reduceMul, Nat.reduceSub, Nat.reduceEqDiff, reduceCtorEq, vSch, hg1, hlen, hlv, e1, Int.cast_ofNat_Int, Int.reduceToNat, Int.reduceEq, Int.reduceLT, Int.reduceLE, Int.reduceNe] at hr; subst hr; (first | refine caC (hS) rfl ?_ ?_ ?_ | refine caA (fun _ => num11_any _) rfl ?_ ?_ ?_ | refine caA (fun _ => hC) rfl ?_ ?_ ?_ | refine caC (hT) rfl ?_ ?_ ?_ | refine caC (hPk) rfl ?_ ?_ ?_ | refine caC (hS2) rfl ?_ ?_ ?_ | refine caA (fun _ => hE) rfl ?_ ?_ ?_ | refine awV ?_ ?_ | refine awW ?_ ?_ | refine endK ?_ ?_ | (refine condK (fun h => ?_) (fun h => ?_) <;> (try simp only [go_sem, reduceCtorEq] at h) <;> (try (exfalso; omega))))) | fail)) <;> (try omega)
  all_goals exact rfl
end Go.Proofs.YtfgacgpicfknpaaDoor
end
section
namespace Go.Proofs.YtfgacgpicfknpaaDoor
open Go.ChangeShapes Go.WideShapes Go.ChangeAt Go.RowKit

theorem own : ownKnob Tryd.prog.godebug = none := by kernel_rfl
theorem laidOut : laidOutB Tryd.prog = true := by kernel_rfl

/-- a slice of integers that came in: nil, or a row of 'cap' cells, the numbers 'zs' -/
def IsRow (k : IntKind) (w : World) (a : Option Addr) (len cap : Nat) (zs : List Int) : Prop :=
  (a = none ∧ len = 0 ∧ cap = 0 ∧ zs = []) ∨
  ∃ x, a = some x ∧ len ≤ cap ∧ cap ≤ maxLen ∧ zs.length = cap ∧ (∀ i, i < zs.length → w.cell? (x.add i) = some (.int k (zs.getD i 0))) ∧ ∀ n ∈ zs, (Lit.int k n).wf = true

theorem I64.of_wf {n : Int} (h : (Lit.int .i64 n).wf = true) : I64 n := bounds_i64 h
theorem U64.of_wf {n : Int} (h : (Lit.int .u64 n).wf = true) : U64 n := bounds_u64 h
theorem U8.of_wf {n : Int} (h : (Lit.int .u8 n).wf = true) : U8 n := bounds_u8 h

theorem IsRow.row {k : IntKind} {w : World} {a : Option Addr} {len cap : Nat} {zs : List Int} (h : IsRow k w a len cap zs) :
    Row w w.heap.size a ((zs.take len).map (Value.int k)) ∧ len = (zs.take len).length ∧ len ≤ cap ∧ cap ≤ maxLen ∧ ∀ z ∈ zs.take len, (Lit.int k z).wf = true := by
  rcases h with ⟨rfl, rfl, rfl, rfl⟩ | ⟨x, rfl, hl, hm, hz, hcell, hwz⟩
  · exact ⟨fun h => by simp at h, rfl, Nat.le_refl _, by decide, fun z hz => by simp at hz⟩
  · refine ⟨fun hn => ?_, by rw [List.length_take]; omega, hl, hm, fun z hz' => hwz z (List.mem_of_mem_take hz')⟩
    have hn' : 0 < len := by simp at hn; omega
    obtain ⟨b, off, spot⟩ := x
    have hc := hcell 0 (by omega)
    have hspot : spot = none := by simpa [Addr.add] using World.cell?_spot hc
    subst hspot
    refine ⟨b, off, rfl, World.block_lt_of_cell? w _ (by simpa [Addr.add] using hc), fun j u hu => ?_⟩
    have hj : j < len := by
      rcases Nat.lt_or_ge j ((zs.take len).map (Value.int k)).length with h | h
      · simp at h; omega
      · rw [List.getElem?_eq_none h] at hu; cases hu
    have hcj := hcell j (by omega)
    have hplain : (⟨b, off, none⟩ : Addr).add j = ⟨b, off + j, none⟩ := by unfold Addr.add; split <;> simp_all
    rw [hplain] at hcj
    rw [hcj]
    rw [List.getElem?_map, List.getElem?_take_of_lt hj, List.getElem?_eq_getElem (by omega : j < zs.length)] at hu
    simpa [List.getD_eq_getElem?_getD, List.getElem?_eq_getElem (by omega : j < zs.length)] using hu

end Go.Proofs.YtfgacgpicfknpaaDoor
end
section
namespace Go.Proofs.YtfgacgpicfknpaaDoor
open Go.ChangeShapes Go.WideShapes Go.ChangeAt Go.RowKit Go.Deep

theorem addr_plain (b off j : Nat) : (⟨b, off, none⟩ : Addr).add j = ⟨b, off + j, none⟩ := by
  unfold Addr.add; by_cases h : j = 0 <;> simp [h]
theorem flat_get {α : Type} {cells : α → List Value} {k : Nat} (hk : ∀ a, (cells a).length = k) : ∀ (L : List α) (i j : Nat), j < k → (L.flatMap cells)[i * k + j]? = (L[i]?).bind fun a => (cells a)[j]? := by
  intro L
  induction L with
  | nil => intro i j _; simp
  | cons a L ih =>
    intro i j hj
    rw [List.flatMap_cons]
    cases i with
    | zero => rw [Nat.zero_mul, Nat.zero_add, List.getElem?_append_left (by rw [hk]; exact hj)]; simp
    | succ i =>
      rw [Nat.add_mul, Nat.one_mul, List.getElem?_append_right (by rw [hk]; omega), hk]
      rw [show i * k + k + j - k = i * k + j by omega, ih i j hj]
      simp
theorem flat_length {α : Type} {cells : α → List Value} {k : Nat} (hk : ∀ a, (cells a).length = k) (L : List α) : (L.flatMap cells).length = L.length * k := by
  induction L with
  | nil => simp
  | cons a L ih => rw [List.flatMap_cons, List.length_append, hk, ih, List.length_cons, Nat.add_mul]; omega
theorem Row.flat {α : Type} {cells : α → List Value} {k : Nat} (hk : ∀ a, (cells a).length = k) {w : World} {B : Nat} {A : Option Addr} {L : List α} (h : Row w B A (L.flatMap cells)) (hk0 : 0 < k) (hL : 0 < L.length) :
    ∃ b off, A = some ⟨b, off, none⟩ ∧ b < B ∧ ∀ i a j u, L[i]? = some a → (cells a)[j]? = some u → w.cell? ⟨b, off + i * k + j, none⟩ = some u := by
  obtain ⟨b, off, e, hb, hc⟩ := h (by rw [flat_length hk]; exact Nat.mul_pos hL hk0)
  refine ⟨b, off, e, hb, fun i a j u hi hj => ?_⟩
  rw [Nat.add_assoc]
  refine hc _ u ?_
  have hjk : j < k := by
    rcases Nat.lt_or_ge j (cells a).length with h | h
    · rwa [hk] at h
    · rw [List.getElem?_eq_none h] at hj; cases hj
  rw [flat_get hk L i j hjk, hi]
  exact hj

section
variable {H : Type} {enc : TypeId × Value → H} {P : Program} {w : World} {base : Nat} {spare : Nat → Bool} {held : Bool}
/-- a slice that came in, read as a list -/
theorem open_view {α : Type} [Inhabited α] (cells : α → List Value) (ok : α → Prop) (k : Nat) (hk : ∀ a, (cells a).length = k) (hk0 : 0 < k) {t e : TypeId} (ht : P.underlying t = some (.slice e)) (hc : P.cellsOf e = k)
    (elem : ∀ n cs' x, DataW.trod enc P w base spare held n e cs' = some x → ∃ a, cs' = cells a ∧ ok a)
    {fuel : Nat} {v : Value} {x : DataW H × List MemPlace} (h : DataW.trod enc P w base spare held fuel t [v] = some x) :
    ∃ (A : Option Addr) (len cap : Nat) (L : List α), v = .slice A len cap ∧ len = L.length ∧ len ≤ cap ∧ cap ≤ maxLen ∧ Row w w.heap.size A (L.flatMap cells) ∧ ∀ a ∈ L, ok a := by
  rcases open_slice ht h with ⟨h0, _⟩ | ⟨a, len, cap, m, n, D, Pl, hv, hb, hl, hm, hmm, _, hx⟩
  · injection h0 with h0
    exact ⟨none, 0, 0, [], h0, rfl, Nat.le_refl _, by decide, fun h => by simp at h, fun a ha => by simp at ha⟩
  · injection hv with hv
    have hlm : len ≤ m := by rw [hmm]; split <;> omega
    obtain ⟨f, hf⟩ := choose_lt (n := len) (p := fun i (a' : α) => w.cells? base (a.add (i * k)) k = some (cells a') ∧ ok a') (fun i hi => by
      obtain ⟨cs', h1, h2⟩ := hx i (by omega)
      obtain ⟨a', rfl, h3⟩ := elem _ _ _ h2
      rw [hc] at h1
      exact ⟨a', h1, h3⟩)
    refine ⟨some a, len, cap, (List.range len).map f, hv, by simp, hl, hm, ?_, fun y hy => ?_⟩
    · intro h0
      rw [flat_length hk] at h0
      have hlen : 0 < len := by
        rcases Nat.eq_zero_or_pos len with h | h
        · subst h; simp at h0
        · exact h
      have hcell : ∀ i j, i < len → j < k → w.cell? ((a.add (i * k)).add j) = (cells (f i))[j]? := fun i j hi hj => (World.cells?_some (hf i hi).1).2.2 j hj
      obtain ⟨b, off, spot⟩ := a
      have h00 := hcell 0 0 hlen hk0
      rw [Nat.zero_mul] at h00
      have hz : ((⟨b, off, spot⟩ : Addr).add 0).add 0 = ⟨b, off, spot⟩ := by simp [Addr.add]
      rw [hz, List.getElem?_eq_getElem (by rw [hk]; exact hk0)] at h00
      have hspot : spot = none := World.cell?_spot h00
      subst hspot
      refine ⟨b, off, rfl, World.block_lt_of_cell? w _ h00, fun q u hu => ?_⟩
      have hq : q < len * k := by
        rcases Nat.lt_or_ge q (((List.range len).map f).flatMap cells).length with h | h
        · rw [flat_length hk] at h; simpa using h
        · rw [List.getElem?_eq_none h] at hu; cases hu
      have hqi : q / k < len := Nat.div_lt_of_lt_mul (by rw [Nat.mul_comm]; exact hq)
      have hqj : q % k < k := Nat.mod_lt _ hk0
      have hqe : q = q / k * k + q % k := by rw [Nat.mul_comm]; exact (Nat.div_add_mod q k).symm
      rw [hqe, flat_get hk _ _ _ hqj] at hu
      simp only [List.getElem?_map, List.getElem?_range hqi, Option.map_some, Option.bind_some] at hu
      have := hcell (q / k) (q % k) hqi hqj
      rw [hu, add_add] at this
      rw [addr_plain, ← hqe] at this
      exact this
    · obtain ⟨i, hi, rfl⟩ := List.mem_map.1 hy
      exact (hf i (by simpa using hi)).2

/-- a field of one cell of a struct that came in -/
theorem fld {n : Nat} {fs : Array Field} {xs : List (DataW H × List MemPlace)} {cs : List Value} (hxl : xs.length = fs.size)
    (hf : ∀ (i : Nat) (f : Field), fs[i]? = some f → DataW.trod enc P w base spare held n f.type ((cs.drop f.offset).take (P.cellsOf f.type)) = xs[i]?)
    (i T o : Nat) (hi : (fs[i]?).map (fun f => (f.type, f.offset)) = some (T, o)) (hc : P.cellsOf T = 1) (v : Value) (hv : cs[o]? = some v) : ∃ y, DataW.trod enc P w base spare held n T [v] = some y := by
  rw [Option.map_eq_some_iff] at hi
  obtain ⟨f, hfi, he⟩ := hi
  injection he with h1 h2
  have h3 := hf i f hfi
  rw [h1, h2, hc] at h3
  have ho : o < cs.length := by
    rcases Nat.lt_or_ge o cs.length with h | h
    · exact h
    · rw [List.getElem?_eq_none h] at hv; cases hv
  have h4 : (cs.drop o).take 1 = [v] := by
    rw [List.drop_eq_getElem_cons ho]
    rw [List.getElem?_eq_getElem ho] at hv
    injection hv with hv
    simp [hv]
  rw [h4] at h3
  have hix : i < xs.length := by
    rw [hxl]
    rcases Nat.lt_or_ge i fs.size with h | h
    · exact h
    · rw [Array.getElem?_eq_none h] at hfi; cases hfi
  exact ⟨xs[i], by rw [h3, List.getElem?_eq_getElem hix]⟩

/-- a slice of integers inside data that came in -/
def IntsIn (w : World) (k : IntKind) (A : Option Addr) (len cap : Nat) (zs : List Int) : Prop :=
  len = zs.length ∧ len ≤ cap ∧ cap ≤ maxLen ∧ Row w w.heap.size A (zs.map (Value.int k)) ∧ ∀ z ∈ zs, (Lit.int k z).wf = true
theorem open_ints_in {t e : TypeId} {k : IntKind} (ht : P.underlying t = some (.slice e)) (he : P.underlying e = some (.int k)) (hc : P.cellsOf e = 1) {fuel : Nat} {v : Value} {x : DataW H × List MemPlace}
    (h : DataW.trod enc P w base spare held fuel t [v] = some x) : ∃ A len cap zs, v = .slice A len cap ∧ IntsIn w k A len cap zs := by
  obtain ⟨A, len, cap, L, hv, h1, h2, h3, h4, h5⟩ := open_view (α := Int) (fun z => [Value.int k z]) (fun z => (Lit.int k z).wf = true) 1 (fun _ => rfl) (by decide) ht hc
    (fun n cs' x h => by obtain ⟨z, h1, _, h2⟩ := DataW.trod_int he h; exact ⟨z, h1, h2⟩) h
  refine ⟨A, len, cap, L, hv, h1, h2, h3, ?_, h5⟩
  have e : L.flatMap (fun z => [Value.int k z]) = L.map (Value.int k) := by
    clear h1 h2 h3 h4 h5
    induction L with
    | nil => rfl
    | cons a L ih => simp [List.flatMap_cons, ih]
  rwa [e] at h4
end
end Go.Proofs.YtfgacgpicfknpaaDoor
end
