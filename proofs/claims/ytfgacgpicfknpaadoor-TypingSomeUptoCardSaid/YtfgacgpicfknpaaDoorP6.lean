import Derived.Test.YtfgacgpicfknpaaDoorP5
set_option linter.all false
section
namespace Go.Proofs.YtfgacgpicfknpaaDoor
open Go.RowKit
set_option maxRecDepth 100000
set_option maxHeartbeats 4000000
theorem foldl_deps (l : List TypeM) : ∀ ds : List Int, ∃ t, l.foldl (fun ds t => ds ++ [dep ds t]) ds = ds ++ t := by
  induction l with
  | nil => intro ds; exact ⟨[], by simp⟩
  | cons a l ih =>
    intro ds
    obtain ⟨t, ht⟩ := ih (ds ++ [dep ds a])
    exact ⟨dep ds a :: t, by rw [List.foldl_cons, ht]; simp⟩
theorem deps_at {l : List TypeM} {k : Nat} (h : k < l.length) : (deps l)[k]? = some (dep (deps (l.take k)) l[k]) := by
  obtain ⟨t, ht⟩ := foldl_deps (l.drop (k + 1)) (deps (l.take (k + 1)))
  have h1 : deps l = deps (l.take (k + 1)) ++ t := by
    rw [← ht]
    conv => lhs; rw [← List.take_append_drop (k + 1) l]
    rw [deps, List.foldl_append]; rfl
  rw [h1, deps_succ h, List.append_assoc]
  have := deps_len l k (by omega)
  rw [List.getElem?_append_right (by omega), this, Nat.sub_self]; rfl
theorem rcheck_any (ts : List TypeM) (rs : List RootM) (hts : ts.length ≤ 1000000000) (hrs : rs.length ≤ 1000000000) (hp : ∀ t ∈ ts, t.parts.length ≤ 1000000000) : PCall Tryd.prog 38 [vSch ts rs] (fun r => r = vF (checkF ts rs)) := by
  refine go_fn (tyOf_ok _) Tryd.func38 rfl rfl (by rw [Tryd.results38]) Tryd.ntmps38 rfl fun E => ?_
  (repeat' (first
    | exact trivial
    | (with_reducible first | refine awA ?_ | refine awB ?_ | refine awC ?_ | refine awD ?_ | refine awE ?_ | refine awF ?_ | refine awG ?_ | refine awH ?_ | refine awI ?_ | refine awJ ?_ | refine awK ?_ | refine awL ?_ | refine awM (by decide) ?_)
    | (refine aw_draw (id := 15) (t := (.node [0, 1, 2, 3, 4, 5, 6, 7, 8, 9, 10, 11, 12, 13, 14, 15, 16, 17, 18, 19, 20, 21, 22, 23, 24] [])) (drR [1] [56, 65] []) mixed (by kernel_rfl) (by kernel_rfl) (fun _ _ h => h) ?_)
    | (refine aw_draw (id := 19) (t := (.node [0, 1, 2, 3, 4, 5, 6, 7, 8, 9, 10, 11, 12, 13, 14, 15, 16] [])) (drR [1] [84, 90] []) mixed (by kernel_rfl) (by kernel_rfl) (fun _ _ h => h) ?_)
    | (refine at_done (by simp only [List.filterMap_cons, List.filterMap_nil, List.getElem?_toArray, List.getElem?_cons_zero, List.getElem?_cons_succ]; exact rfl) ?_) | (refine at_alt (by simp only [List.filterMap_cons, List.filterMap_nil, List.getElem?_toArray, List.getElem?_cons_zero, List.getElem?_cons_succ]; exact rfl) ?_) | refine qalt_normal ?_ | refine ats_cons ?_ ?_ | exact ats_nil
    | ((with_reducible first | refine awN (tyOf_ok _) [] ?_ | refine awO (tyOf_ok _) [] ?_ | refine awP (tyOf_ok _) [] ?_ | refine awQ ?_ | refine awR ?_ | refine awS ?_); intro r hr; simp only [go_sem, Nat.reduceBEq, Nat.reduceBneDiff, Nat.reduceLT, Nat.reduceLeDiff, Nat.reduceAdd, Nat.reduceMul, Nat.reduceSub, Nat.reduceEqDiff, reduceCtorEq, encTs_len, vSch] at hr; subst hr; (first | refine awV ?_ ?_ | refine awW ?_ ?_ | refine endK ?_ ?_ | (refine condK (fun h => ?_) (fun h => ?_) <;> (try simp only [go_sem, reduceCtorEq] at h) <;> (try (exfalso; omega))))) | fail)) <;> (try omega)
  refine go_loop [1, 2, 3] [1, 2] (fun k : Nat => ⟨[(1, true, .ptr 1 1 0 0), (2, true, .ptr 1 2 0 0), (3, true, vI k)],
    [(1, .var [.lst 4 (encTs ts), .lst 2 (encRs rs)]), (2, .var [vI 0, vI 0])]⟩)
    (fun k => k ≤ ts.length ∧ ∀ i, i < k → wrongType ts i = false) (fun k => ts.length - k) 0 (by simp only [go_sem, Nat.reduceBEq, Nat.reduceBneDiff, Nat.reduceLT, Nat.reduceLeDiff, Nat.reduceAdd, Nat.reduceMul, Nat.reduceSub, Nat.reduceEqDiff, reduceCtorEq]; exact rfl) ⟨Nat.zero_le _, fun i h => by omega⟩ ?_
  intro k ⟨hk, hno⟩
  have hw1 := wrap_i64 (n := (k : Int) + 1) (by omega)
  by_cases hlt : k < ts.length
  · have e1 : ((k : Int) < ts.length) = True := eq_true (by omega)
    have g1 := encTs_get hlt
    have hpl := hp _ (List.getElem_mem hlt)
    have hwt : wrongType ts k = !rightOK ts[k] k := by rw [wrongType, List.getElem?_eq_getElem hlt]
    (repeat' (first
    | exact trivial
    | (with_reducible first | refine awA ?_ | refine awB ?_ | refine awC ?_ | refine awD ?_ | refine awE ?_ | refine awF ?_ | refine awG ?_ | refine awH ?_ | refine awI ?_ | refine awJ ?_ | refine awK ?_ | refine awL ?_ | refine awM (by decide) ?_)
    | (refine aw_draw (id := 15) (t := (.node [0, 1, 2, 3, 4, 5, 6, 7, 8, 9, 10, 11, 12, 13, 14, 15, 16, 17, 18, 19, 20, 21, 22, 23, 24] [])) (drR [1] [56, 65] []) mixed (by kernel_rfl) (by kernel_rfl) (fun _ _ h => h) ?_)
    | (refine aw_draw (id := 19) (t := (.node [0, 1, 2, 3, 4, 5, 6, 7, 8, 9, 10, 11, 12, 13, 14, 15, 16] [])) (drR [1] [84, 90] []) mixed (by kernel_rfl) (by kernel_rfl) (fun _ _ h => h) ?_)
    | (refine at_done (by simp only [List.filterMap_cons, List.filterMap_nil, List.getElem?_toArray, List.getElem?_cons_zero, List.getElem?_cons_succ]; exact rfl) ?_) | (refine at_alt (by simp only [List.filterMap_cons, List.filterMap_nil, List.getElem?_toArray, List.getElem?_cons_zero, List.getElem?_cons_succ]; exact rfl) ?_) | refine qalt_normal ?_ | refine ats_cons ?_ ?_ | exact ats_nil
    | ((with_reducible first | refine awN (tyOf_ok _) [] ?_ | refine awO (tyOf_ok _) [] ?_ | refine awP (tyOf_ok _) [] ?_ | refine awQ ?_ | refine awR ?_ | refine awS ?_); intro r hr; simp only [go_sem, Nat.reduceBEq, Nat.reduceBneDiff, Nat.reduceLT, Nat.reduceLeDiff, Nat.reduceAdd, Nat.reduceMul, Nat.reduceSub, Nat.reduceEqDiff, reduceCtorEq, hw1, e1, g1, encTs_len] at hr; subst hr; (first | refine caA (fun _ => rright_any ts[k] k (by omega) hpl) rfl ?_ ?_ ?_ | refine awV ?_ ?_ | refine awW ?_ ?_ | refine endK ?_ ?_ | (refine condK (fun h => ?_) (fun h => ?_) <;> (try simp only [go_sem, reduceCtorEq] at h) <;> (try (exfalso; omega))))) | fail)) <;> (try omega)
    · show vF (92, (k : Int)) = vF (checkF ts rs)
      rw [checkF, find_some hlt hno (by rw [hwt, h]; rfl)]
    · refine ⟨k + 1, by simp only [go_sem, Nat.reduceBEq, Nat.reduceBneDiff, Nat.reduceLT, Nat.reduceLeDiff, Nat.reduceAdd, Nat.reduceMul, Nat.reduceSub, Nat.reduceEqDiff, reduceCtorEq]; exact rfl, ⟨hlt, fun i hi => ?_⟩, by omega⟩
      rcases Nat.lt_or_ge i k with h' | h'
      · exact hno i h'
      · have : i = k := by omega
        subst this
        rw [hwt, h]; rfl
  · have e1 : ((k : Int) < ts.length) = False := eq_false (by omega)
    have hall : ∀ (k : Nat) (h : k < ts.length), tyOK ts[k] k := fun k h => rightOK_ty (by
      have := hno k (by omega)
      rw [wrongType, List.getElem?_eq_getElem h] at this
      simpa using this)
    have hnone := find_none fun i (hi : i < ts.length) => hno i (by omega)
    have hdl : (deps ts).length = ts.length := by have := deps_len ts ts.length (Nat.le_refl _); rwa [take_len (Nat.le_refl _)] at this
    (repeat' (first
    | exact trivial
    | (with_reducible first | refine awA ?_ | refine awB ?_ | refine awC ?_ | refine awD ?_ | refine awE ?_ | refine awF ?_ | refine awG ?_ | refine awH ?_ | refine awI ?_ | refine awJ ?_ | refine awK ?_ | refine awL ?_ | refine awM (by decide) ?_)
    | (refine aw_draw (id := 15) (t := (.node [0, 1, 2, 3, 4, 5, 6, 7, 8, 9, 10, 11, 12, 13, 14, 15, 16, 17, 18, 19, 20, 21, 22, 23, 24] [])) (drR [1] [56, 65] []) mixed (by kernel_rfl) (by kernel_rfl) (fun _ _ h => h) ?_)
    | (refine aw_draw (id := 19) (t := (.node [0, 1, 2, 3, 4, 5, 6, 7, 8, 9, 10, 11, 12, 13, 14, 15, 16] [])) (drR [1] [84, 90] []) mixed (by kernel_rfl) (by kernel_rfl) (fun _ _ h => h) ?_)
    | (refine at_done (by simp only [List.filterMap_cons, List.filterMap_nil, List.getElem?_toArray, List.getElem?_cons_zero, List.getElem?_cons_succ]; exact rfl) ?_) | (refine at_alt (by simp only [List.filterMap_cons, List.filterMap_nil, List.getElem?_toArray, List.getElem?_cons_zero, List.getElem?_cons_succ]; exact rfl) ?_) | refine qalt_normal ?_ | refine ats_cons ?_ ?_ | exact ats_nil
    | ((with_reducible first | refine awN (tyOf_ok _) [] ?_ | refine awO (tyOf_ok _) [] ?_ | refine awP (tyOf_ok _) [] ?_ | refine awQ ?_ | refine awR ?_ | refine awS ?_); intro r hr; simp only [go_sem, Nat.reduceBEq, Nat.reduceBneDiff, Nat.reduceLT, Nat.reduceLeDiff, Nat.reduceAdd, Nat.reduceMul, Nat.reduceSub, Nat.reduceEqDiff, reduceCtorEq, hw1, e1, encTs_len, encRs_len] at hr; subst hr; (first | refine caC (rdepths_any ts rs hts hp hall) rfl ?_ ?_ ?_ | refine awV ?_ ?_ | refine awW ?_ ?_ | refine endK ?_ ?_ | (refine condK (fun h => ?_) (fun h => ?_) <;> (try simp only [go_sem, reduceCtorEq] at h) <;> (try (exfalso; omega))))) | fail)) <;> (try omega)
    refine go_loop [1, 2, 4, 5] [1, 2] (fun k : Nat => ⟨[(1, true, .ptr 1 1 0 0), (2, true, .ptr 1 2 0 0), (4, true, .lst 1 (v8 (deps ts))), (5, true, vI k)],
      [(1, .var [.lst 4 (encTs ts), .lst 2 (encRs rs)]), (2, .var [vI 0, vI 0])]⟩)
      (fun k => k ≤ ts.length ∧ ∀ i, i < k → tooDeep ts i = false) (fun k => ts.length - k) 0 (by simp only [go_sem, Nat.reduceBEq, Nat.reduceBneDiff, Nat.reduceLT, Nat.reduceLeDiff, Nat.reduceAdd, Nat.reduceMul, Nat.reduceSub, Nat.reduceEqDiff, reduceCtorEq]; exact rfl) ⟨Nat.zero_le _, fun i h => by omega⟩ ?_
    clear hno hw1 hlt e1 hk h k
    intro k ⟨hk, hno⟩
    have hw1 := wrap_i64 (n := (k : Int) + 1) (by omega)
    by_cases hlt : k < ts.length
    · have e1 : ((k : Int) < ts.length) = True := eq_true (by omega)
      have g1 : (v8 (deps ts))[k]? = some [vI (dep (deps (ts.take k)) ts[k])] := by rw [v8, List.getElem?_map, deps_at hlt]; rfl
      have htd : tooDeep ts k = decide (64 < dep (deps (ts.take k)) ts[k]) := by rw [tooDeep, List.getElem?_eq_getElem hlt]; rfl
      (repeat' (first
    | exact trivial
    | (with_reducible first | refine awA ?_ | refine awB ?_ | refine awC ?_ | refine awD ?_ | refine awE ?_ | refine awF ?_ | refine awG ?_ | refine awH ?_ | refine awI ?_ | refine awJ ?_ | refine awK ?_ | refine awL ?_ | refine awM (by decide) ?_)
    | (refine aw_draw (id := 15) (t := (.node [0, 1, 2, 3, 4, 5, 6, 7, 8, 9, 10, 11, 12, 13, 14, 15, 16, 17, 18, 19, 20, 21, 22, 23, 24] [])) (drR [1] [56, 65] []) mixed (by kernel_rfl) (by kernel_rfl) (fun _ _ h => h) ?_)
    | (refine aw_draw (id := 19) (t := (.node [0, 1, 2, 3, 4, 5, 6, 7, 8, 9, 10, 11, 12, 13, 14, 15, 16] [])) (drR [1] [84, 90] []) mixed (by kernel_rfl) (by kernel_rfl) (fun _ _ h => h) ?_)
    | (refine at_done (by simp only [List.filterMap_cons, List.filterMap_nil, List.getElem?_toArray, List.getElem?_cons_zero, List.getElem?_cons_succ]; exact rfl) ?_) | (refine at_alt (by simp only [List.filterMap_cons, List.filterMap_nil, List.getElem?_toArray, List.getElem?_cons_zero, List.getElem?_cons_succ]; exact rfl) ?_) | refine qalt_normal ?_ | refine ats_cons ?_ ?_ | exact ats_nil
    | ((with_reducible first | refine awN (tyOf_ok _) [] ?_ | refine awO (tyOf_ok _) [] ?_ | refine awP (tyOf_ok _) [] ?_ | refine awQ ?_ | refine awR ?_ | refine awS ?_); intro r hr; simp only [go_sem, Nat.reduceBEq, Nat.reduceBneDiff, Nat.reduceLT, Nat.reduceLeDiff, Nat.reduceAdd, Nat.reduceMul, Nat.reduceSub, Nat.reduceEqDiff, reduceCtorEq, hw1, e1, g1, v8_len, hdl] at hr; subst hr; (first | refine awV ?_ ?_ | refine awW ?_ ?_ | refine endK ?_ ?_ | (refine condK (fun h => ?_) (fun h => ?_) <;> (try simp only [go_sem, reduceCtorEq] at h) <;> (try (exfalso; omega))))) | fail)) <;> (try omega)
      · have hdf : deepF ts = (83, (k : Int)) := by rw [deepF, find_some hlt hno (by rw [htd]; exact decide_eq_true h)]
        have hc : checkF ts rs = (83, (k : Int)) := by
          rw [checkF, hnone]
          show (if (deepF ts).1 ≠ 0 then deepF ts else _) = _
          rw [hdf]; rfl
        rw [hc]; exact rfl
      · refine ⟨k + 1, by simp only [go_sem, Nat.reduceBEq, Nat.reduceBneDiff, Nat.reduceLT, Nat.reduceLeDiff, Nat.reduceAdd, Nat.reduceMul, Nat.reduceSub, Nat.reduceEqDiff, reduceCtorEq]; exact rfl, ⟨hlt, fun i hi => ?_⟩, by omega⟩
        rcases Nat.lt_or_ge i k with h' | h'
        · exact hno i h'
        · have : i = k := by omega
          subst this
          rw [htd]; exact decide_eq_false h
    · have e1 : ((k : Int) < ts.length) = False := eq_false (by omega)
      (repeat' (first
    | exact trivial
    | (with_reducible first | refine awA ?_ | refine awB ?_ | refine awC ?_ | refine awD ?_ | refine awE ?_ | refine awF ?_ | refine awG ?_ | refine awH ?_ | refine awI ?_ | refine awJ ?_ | refine awK ?_ | refine awL ?_ | refine awM (by decide) ?_)
    | (refine aw_draw (id := 15) (t := (.node [0, 1, 2, 3, 4, 5, 6, 7, 8, 9, 10, 11, 12, 13, 14, 15, 16, 17, 18, 19, 20, 21, 22, 23, 24] [])) (drR [1] [56, 65] []) mixed (by kernel_rfl) (by kernel_rfl) (fun _ _ h => h) ?_)
    | (refine aw_draw (id := 19) (t := (.node [0, 1, 2, 3, 4, 5, 6, 7, 8, 9, 10, 11, 12, 13, 14, 15, 16] [])) (drR [1] [84, 90] []) mixed (by kernel_rfl) (by kernel_rfl) (fun _ _ h => h) ?_)
    | (refine at_done (by simp only [List.filterMap_cons, List.filterMap_nil, List.getElem?_toArray, List.getElem?_cons_zero, List.getElem?_cons_succ]; exact rfl) ?_) | (refine at_alt (by simp only [List.filterMap_cons, List.filterMap_nil, List.getElem?_toArray, List.getElem?_cons_zero, List.getElem?_cons_succ]; exact rfl) ?_) | refine qalt_normal ?_ | refine ats_cons ?_ ?_ | exact ats_nil
    | ((with_reducible first | refine awN (tyOf_ok _) [] ?_ | refine awO (tyOf_ok _) [] ?_ | refine awP (tyOf_ok _) [] ?_ | refine awQ ?_ | refine awR ?_ | refine awS ?_); intro r hr; simp only [go_sem, Nat.reduceBEq, Nat.reduceBneDiff, Nat.reduceLT, Nat.reduceLeDiff, Nat.reduceAdd, Nat.reduceMul, Nat.reduceSub, Nat.reduceEqDiff, reduceCtorEq, hw1, e1, v8_len, hdl] at hr; subst hr; (first | refine awV ?_ ?_ | refine awW ?_ ?_ | refine endK ?_ ?_ | (refine condK (fun h => ?_) (fun h => ?_) <;> (try simp only [go_sem, reduceCtorEq] at h) <;> (try (exfalso; omega))))) | fail)) <;> (try omega)
      have hdf : deepF ts = (0, 0) := by rw [deepF, find_none fun i (hi : i < ts.length) => hno i (by omega)]
      have hc : checkF ts rs = match (List.range rs.length).find? (wrongRoot ts.length rs) with
        | some k => (92, (ts.length : Int) + k)
        | none => (0, 0) := by
          rw [checkF, hnone]
          show (if (deepF ts).1 ≠ 0 then deepF ts else _) = _
          rw [hdf]; rfl
      refine go_loop [1, 2, 6] [1, 2] (fun k : Nat => ⟨[(1, true, .ptr 1 1 0 0), (2, true, .ptr 1 2 0 0), (6, true, vI k)],
        [(1, .var [.lst 4 (encTs ts), .lst 2 (encRs rs)]), (2, .var [vI 0, vI 0])]⟩)
        (fun k => k ≤ rs.length ∧ ∀ i, i < k → wrongRoot ts.length rs i = false) (fun k => rs.length - k) 0 (by simp only [go_sem, Nat.reduceBEq, Nat.reduceBneDiff, Nat.reduceLT, Nat.reduceLeDiff, Nat.reduceAdd, Nat.reduceMul, Nat.reduceSub, Nat.reduceEqDiff, reduceCtorEq]; exact rfl) ⟨Nat.zero_le _, fun i h => by omega⟩ ?_
      clear hno hw1 hlt e1 hk h k
      intro k ⟨hk, hno⟩
      have hw1 := wrap_i64 (n := (k : Int) + 1) (by omega)
      have hw4 := wrap_i64 (n := (ts.length : Int) + k) (by omega)
      have hw5 := wrap_i64 (n := (ts.length : Int) - 1) (by omega)
      by_cases hlt : k < rs.length
      · have e1 : ((k : Int) < rs.length) = True := eq_true (by omega)
        have g1 := encRs_get hlt
        have hwr : wrongRoot ts.length rs k = (!isName rs[k].name || ((rs.take k).any fun q => decide (q.name = rs[k].name)) || decide (rs[k].ty < 0) || decide ((ts.length : Int) ≤ rs[k].ty) || decide (256 ≤ k)) := by rw [wrongRoot, List.getElem?_eq_getElem hlt]
        (repeat' (first
    | exact trivial
    | (with_reducible first | refine awA ?_ | refine awB ?_ | refine awC ?_ | refine awD ?_ | refine awE ?_ | refine awF ?_ | refine awG ?_ | refine awH ?_ | refine awI ?_ | refine awJ ?_ | refine awK ?_ | refine awL ?_ | refine awM (by decide) ?_)
    | (refine aw_draw (id := 15) (t := (.node [0, 1, 2, 3, 4, 5, 6, 7, 8, 9, 10, 11, 12, 13, 14, 15, 16, 17, 18, 19, 20, 21, 22, 23, 24] [])) (drR [1] [56, 65] []) mixed (by kernel_rfl) (by kernel_rfl) (fun _ _ h => h) ?_)
    | (refine aw_draw (id := 19) (t := (.node [0, 1, 2, 3, 4, 5, 6, 7, 8, 9, 10, 11, 12, 13, 14, 15, 16] [])) (drR [1] [84, 90] []) mixed (by kernel_rfl) (by kernel_rfl) (fun _ _ h => h) ?_)
    | (refine at_done (by simp only [List.filterMap_cons, List.filterMap_nil, List.getElem?_toArray, List.getElem?_cons_zero, List.getElem?_cons_succ]; exact rfl) ?_) | (refine at_alt (by simp only [List.filterMap_cons, List.filterMap_nil, List.getElem?_toArray, List.getElem?_cons_zero, List.getElem?_cons_succ]; exact rfl) ?_) | refine qalt_normal ?_ | refine ats_cons ?_ ?_ | exact ats_nil
    | ((with_reducible first | refine awN (tyOf_ok _) [] ?_ | refine awO (tyOf_ok _) [] ?_ | refine awP (tyOf_ok _) [] ?_ | refine awQ ?_ | refine awR ?_ | refine awS ?_); intro r hr; simp only [go_sem, Nat.reduceBEq, Nat.reduceBneDiff, Nat.reduceLT, Nat.reduceLeDiff, Nat.reduceAdd, Nat.reduceMul, Nat.reduceSub, Nat.reduceEqDiff, reduceCtorEq, hw1, hw4, hw5, e1, g1, encTs_len, encRs_len] at hr; subst hr; (first | refine caA (fun _ => name5_any _) rfl ?_ ?_ ?_ | refine caA (fun _ => in_any _ _ _) rfl ?_ ?_ ?_ | refine awV ?_ ?_ | refine awW ?_ ?_ | refine endK ?_ ?_ | (refine condK (fun h => ?_) (fun h => ?_) <;> (try simp only [go_sem, reduceCtorEq] at h) <;> (try (exfalso; omega))))) | fail)) <;> (try omega)
        · exact fun g => ⟨g, by omega⟩
        generalize hok : (decide ((k : Int) < 256) && isName rs[k].name && (decide (0 ≤ rs[k].ty) && decide (rs[k].ty ≤ (ts.length : Int) - 1))) = ok0
        refine go_loop [1, 2, 6, 7, 8] [1, 2] (fun x : Nat × Bool => ⟨[(1, true, .ptr 1 1 0 0), (2, true, .ptr 1 2 0 0), (6, true, vI k), (7, true, vB x.2), (8, true, vI x.1)],
          [(1, .var [.lst 4 (encTs ts), .lst 2 (encRs rs)]), (2, .var [vI 0, vI 0])]⟩)
          (fun x => x.1 ≤ k ∧ x.2 = (ok0 && !((rs.take x.1).any fun q => decide (q.name = rs[k].name)))) (fun x => k - x.1) (0, ok0) (by simp only [go_sem, Nat.reduceBEq, Nat.reduceBneDiff, Nat.reduceLT, Nat.reduceLeDiff, Nat.reduceAdd, Nat.reduceMul, Nat.reduceSub, Nat.reduceEqDiff, reduceCtorEq]; exact rfl) ⟨Nat.zero_le _, by simp⟩ ?_
        intro ⟨j, b⟩ ⟨hj, hb⟩
        simp only at hj hb ⊢
        have hw2 := wrap_i64 (n := (j : Int) + 1) (by omega)
        by_cases hjk : j < k
        · have e2 : ((j : Int) < k) = True := eq_true (by omega)
          have g2 := encRs_get (l := rs) (k := j) (by omega)
          (repeat' (first
    | exact trivial
    | (with_reducible first | refine awA ?_ | refine awB ?_ | refine awC ?_ | refine awD ?_ | refine awE ?_ | refine awF ?_ | refine awG ?_ | refine awH ?_ | refine awI ?_ | refine awJ ?_ | refine awK ?_ | refine awL ?_ | refine awM (by decide) ?_)
    | (refine aw_draw (id := 15) (t := (.node [0, 1, 2, 3, 4, 5, 6, 7, 8, 9, 10, 11, 12, 13, 14, 15, 16, 17, 18, 19, 20, 21, 22, 23, 24] [])) (drR [1] [56, 65] []) mixed (by kernel_rfl) (by kernel_rfl) (fun _ _ h => h) ?_)
    | (refine aw_draw (id := 19) (t := (.node [0, 1, 2, 3, 4, 5, 6, 7, 8, 9, 10, 11, 12, 13, 14, 15, 16] [])) (drR [1] [84, 90] []) mixed (by kernel_rfl) (by kernel_rfl) (fun _ _ h => h) ?_)
    | (refine at_done (by simp only [List.filterMap_cons, List.filterMap_nil, List.getElem?_toArray, List.getElem?_cons_zero, List.getElem?_cons_succ]; exact rfl) ?_) | (refine at_alt (by simp only [List.filterMap_cons, List.filterMap_nil, List.getElem?_toArray, List.getElem?_cons_zero, List.getElem?_cons_succ]; exact rfl) ?_) | refine qalt_normal ?_ | refine ats_cons ?_ ?_ | exact ats_nil
    | ((with_reducible first | refine awN (tyOf_ok _) [] ?_ | refine awO (tyOf_ok _) [] ?_ | refine awP (tyOf_ok _) [] ?_ | refine awQ ?_ | refine awR ?_ | refine awS ?_); intro r hr; simp only [go_sem, Nat.reduceBEq, Nat.reduceBneDiff, Nat.reduceLT, Nat.reduceLeDiff, Nat.reduceAdd, Nat.reduceMul, Nat.reduceSub, Nat.reduceEqDiff, reduceCtorEq, hw2, e2, g1, g2, encRs_len] at hr; subst hr; (first | refine awV ?_ ?_ | refine awW ?_ ?_ | refine endK ?_ ?_ | (refine condK (fun h => ?_) (fun h => ?_) <;> (try simp only [go_sem, reduceCtorEq] at h) <;> (try (exfalso; omega))))) | fail)) <;> (try omega)
          · exact ⟨fun g => ⟨g, by omega⟩, fun g => ⟨g, by omega⟩⟩
          · refine ⟨(j + 1, _), by simp only [go_sem, Nat.reduceBEq, Nat.reduceBneDiff, Nat.reduceLT, Nat.reduceLeDiff, Nat.reduceAdd, Nat.reduceMul, Nat.reduceSub, Nat.reduceEqDiff, reduceCtorEq]; exact rfl, ⟨hjk, ?_⟩, by simp only; omega⟩
            rw [List.take_succ_eq_append_getElem (by omega), List.any_append, hb]
            simp only [List.any_cons, List.any_nil, Bool.or_false]
            cases ok0 <;> simp
        · have e2 : ((j : Int) < k) = False := eq_false (by omega)
          (repeat' (first
    | exact trivial
    | (with_reducible first | refine awA ?_ | refine awB ?_ | refine awC ?_ | refine awD ?_ | refine awE ?_ | refine awF ?_ | refine awG ?_ | refine awH ?_ | refine awI ?_ | refine awJ ?_ | refine awK ?_ | refine awL ?_ | refine awM (by decide) ?_)
    | (refine aw_draw (id := 15) (t := (.node [0, 1, 2, 3, 4, 5, 6, 7, 8, 9, 10, 11, 12, 13, 14, 15, 16, 17, 18, 19, 20, 21, 22, 23, 24] [])) (drR [1] [56, 65] []) mixed (by kernel_rfl) (by kernel_rfl) (fun _ _ h => h) ?_)
    | (refine aw_draw (id := 19) (t := (.node [0, 1, 2, 3, 4, 5, 6, 7, 8, 9, 10, 11, 12, 13, 14, 15, 16] [])) (drR [1] [84, 90] []) mixed (by kernel_rfl) (by kernel_rfl) (fun _ _ h => h) ?_)
    | (refine at_done (by simp only [List.filterMap_cons, List.filterMap_nil, List.getElem?_toArray, List.getElem?_cons_zero, List.getElem?_cons_succ]; exact rfl) ?_) | (refine at_alt (by simp only [List.filterMap_cons, List.filterMap_nil, List.getElem?_toArray, List.getElem?_cons_zero, List.getElem?_cons_succ]; exact rfl) ?_) | refine qalt_normal ?_ | refine ats_cons ?_ ?_ | exact ats_nil
    | ((with_reducible first | refine awN (tyOf_ok _) [] ?_ | refine awO (tyOf_ok _) [] ?_ | refine awP (tyOf_ok _) [] ?_ | refine awQ ?_ | refine awR ?_ | refine awS ?_); intro r hr; simp only [go_sem, Nat.reduceBEq, Nat.reduceBneDiff, Nat.reduceLT, Nat.reduceLeDiff, Nat.reduceAdd, Nat.reduceMul, Nat.reduceSub, Nat.reduceEqDiff, reduceCtorEq, hw1, hw2, hw4, e2, encTs_len, encRs_len] at hr; subst hr; (first | refine awV ?_ ?_ | refine awW ?_ ?_ | refine endK ?_ ?_ | (refine condK (fun h => ?_) (fun h => ?_) <;> (try simp only [go_sem, reduceCtorEq] at h) <;> (try (exfalso; omega))))) | fail)) <;> (try omega)
          all_goals
            have hje : j = k := by omega
            subst hje
            have hrel : wrongRoot ts.length rs j = !b := by
              rw [hwr, hb, ← hok, show decide (rs[j].ty ≤ (ts.length : Int) - 1) = !decide ((ts.length : Int) ≤ rs[j].ty) by rw [← decide_not]; exact decide_eq_decide.2 (by omega), show decide (0 ≤ rs[j].ty) = !decide (rs[j].ty < 0) by rw [← decide_not]; exact decide_eq_decide.2 (by omega),
                show decide (256 ≤ j) = !decide ((j : Int) < 256) by rw [← decide_not]; exact decide_eq_decide.2 (by omega)]
              generalize ((rs.take j).any fun q => decide (q.name = rs[j].name)) = a
              cases isName rs[j].name <;> cases a <;> cases decide (rs[j].ty < 0) <;> cases decide ((ts.length : Int) ≤ rs[j].ty) <;> cases decide ((j : Int) < 256) <;> rfl
          · show vF (92, (ts.length : Int) + j) = vF (checkF ts rs)
            rw [hc, find_some hlt hno (by rw [hrel, h]; rfl)]
          · refine ⟨j + 1, by simp only [go_sem, Nat.reduceBEq, Nat.reduceBneDiff, Nat.reduceLT, Nat.reduceLeDiff, Nat.reduceAdd, Nat.reduceMul, Nat.reduceSub, Nat.reduceEqDiff, reduceCtorEq]; exact rfl, ⟨hlt, fun i hi => ?_⟩, by omega⟩
            rcases Nat.lt_or_ge i j with h' | h'
            · exact hno i h'
            · have : i = j := by omega
              subst this
              rw [hrel, h]; rfl
      · have e1 : ((k : Int) < rs.length) = False := eq_false (by omega)
        (repeat' (first
    | exact trivial
    | (with_reducible first | refine awA ?_ | refine awB ?_ | refine awC ?_ | refine awD ?_ | refine awE ?_ | refine awF ?_ | refine awG ?_ | refine awH ?_ | refine awI ?_ | refine awJ ?_ | refine awK ?_ | refine awL ?_ | refine awM (by decide) ?_)
    | (refine aw_draw (id := 15) (t := (.node [0, 1, 2, 3, 4, 5, 6, 7, 8, 9, 10, 11, 12, 13, 14, 15, 16, 17, 18, 19, 20, 21, 22, 23, 24] [])) (drR [1] [56, 65] []) mixed (by kernel_rfl) (by kernel_rfl) (fun _ _ h => h) ?_)
    | (refine aw_draw (id := 19) (t := (.node [0, 1, 2, 3, 4, 5, 6, 7, 8, 9, 10, 11, 12, 13, 14, 15, 16] [])) (drR [1] [84, 90] []) mixed (by kernel_rfl) (by kernel_rfl) (fun _ _ h => h) ?_)
    | (refine at_done (by simp only [List.filterMap_cons, List.filterMap_nil, List.getElem?_toArray, List.getElem?_cons_zero, List.getElem?_cons_succ]; exact rfl) ?_) | (refine at_alt (by simp only [List.filterMap_cons, List.filterMap_nil, List.getElem?_toArray, List.getElem?_cons_zero, List.getElem?_cons_succ]; exact rfl) ?_) | refine qalt_normal ?_ | refine ats_cons ?_ ?_ | exact ats_nil
    | ((with_reducible first | refine awN (tyOf_ok _) [] ?_ | refine awO (tyOf_ok _) [] ?_ | refine awP (tyOf_ok _) [] ?_ | refine awQ ?_ | refine awR ?_ | refine awS ?_); intro r hr; simp only [go_sem, Nat.reduceBEq, Nat.reduceBneDiff, Nat.reduceLT, Nat.reduceLeDiff, Nat.reduceAdd, Nat.reduceMul, Nat.reduceSub, Nat.reduceEqDiff, reduceCtorEq, hw1, e1, encRs_len] at hr; subst hr; (first | refine awV ?_ ?_ | refine awW ?_ ?_ | refine endK ?_ ?_ | (refine condK (fun h => ?_) (fun h => ?_) <;> (try simp only [go_sem, reduceCtorEq] at h) <;> (try (exfalso; omega))))) | fail)) <;> (try omega)
        rw [hc, find_none fun i (hi : i < rs.length) => hno i (by omega)]
        exact rfl
end Go.Proofs.YtfgacgpicfknpaaDoor
end
section
namespace Go.Proofs.YtfgacgpicfknpaaDoor
open Go.RowKit
/-! More of what a walk needs: nil that grows within a variable; values of which less is said. -/
instance (n : Int) : Decidable (I64 n) := by unfold I64; exact inferInstance
theorem AV.up_agg {l m : List AV} (h : AV.upL l m) : (AV.agg l).up (.agg m) := fun F β w x hx => by
  obtain ⟨g1, g2⟩ := AV.upL_get h
  cases hx with
  | s h => cases h
  | agg h1 h2 h3 =>
    refine .agg (h1.trans g1) h2 fun i c u hc hu => ?_
    obtain ⟨a, ha, hu'⟩ := g2 i c hc
    exact hu' _ _ _ _ (h3 i a u ha hu)
theorem AV.up_cons' {a b : AV} {l m : List AV} (h : a.up b) (h' : AV.upL l m) : AV.upL (a :: l) (b :: m) := ⟨h, h'⟩
theorem AV.upL_rfl : ∀ l : List AV, AV.upL l l
  | [] => trivial
  | a :: l => ⟨AV.up_rfl a, AV.upL_rfl l⟩
theorem AV.up_trans {a b c : AV} (h : a.up b) (h' : b.up c) : a.up c := fun F β w x hx => h' F β w x (h F β w x hx)
mutual
/-- the same, but for nil where an empty list is read -/
inductive Up : AV → AV → Prop
  | rfl (a : AV) : Up a a
  | nil (k : Nat) : Up (.v (.slice none 0 0)) (.lst k [])
  | agg {l m : List AV} : UpL l m → Up (.agg l) (.agg m)
  | tup {l m : List AV} : UpL l m → Up (.tup l) (.tup m)
  | lst {k : Nat} {xs ys : List (List AV)} : UpLL xs ys → Up (.lst k xs) (.lst k ys)
  | lsx {k : Nat} {xs ys zs : List (List AV)} : UpLL xs ys → Up (.lsx k xs zs) (.lst k ys)
inductive UpL : List AV → List AV → Prop
  | nil : UpL [] []
  | cons {a b : AV} {l m : List AV} : Up a b → UpL l m → UpL (a :: l) (b :: m)
inductive UpLL : List (List AV) → List (List AV) → Prop
  | nil : UpLL [] []
  | cons {a b : List AV} {l m : List (List AV)} : UpL a b → UpLL l m → UpLL (a :: l) (b :: m)
end
section
variable {F : Nat → Prop} {w : World}
mutual
theorem Up.svr : ∀ {a b : AV}, Up a b → ∀ {x : Value}, SVR F w a x → SVR F w b x
  | _, _, .rfl _, _, h => h
  | _, _, .nil k, x, h => by
    have := AV.up_nil k F (fun _ => none) w x (.s h)
    cases this with
    | s h => exact h
  | _, _, .agg _, _, h => by cases h
  | _, _, .tup _, _, h => by cases h
  | _, _, .lst hu, _, h => by
    cases h with
    | lst g h1 h2 h3 h4 h5 h6 h7 =>
      have hl := UpLL.svr hu
      refine .lst g (h1.trans hl.1) h2 h3 (fun cs hcs => ?_) h5 h6 fun i j cs u hc hu => ?_
      · obtain ⟨i, hi⟩ := List.getElem?_of_mem hcs
        obtain ⟨cs', h8, h9, _⟩ := hl.2 i cs hi
        rw [← h9]; exact h4 cs' (List.mem_of_getElem? h8)
      · obtain ⟨cs', h8, _, h10⟩ := hl.2 i cs hc
        obtain ⟨u', h11, h12⟩ := h10 j u hu
        exact h12 _ (h7 i j cs' u' h8 h11)
  | _, _, .lsx hu, _, h => by
    replace h := h.lsx_lst
    cases h with
    | lst g h1 h2 h3 h4 h5 h6 h7 =>
      have hl := UpLL.svr hu
      refine .lst g (h1.trans hl.1) h2 h3 (fun cs hcs => ?_) h5 h6 fun i j cs u hc hu => ?_
      · obtain ⟨i, hi⟩ := List.getElem?_of_mem hcs
        obtain ⟨cs', h8, h9, _⟩ := hl.2 i cs hi
        rw [← h9]; exact h4 cs' (List.mem_of_getElem? h8)
      · obtain ⟨cs', h8, _, h10⟩ := hl.2 i cs hc
        obtain ⟨u', h11, h12⟩ := h10 j u hu
        exact h12 _ (h7 i j cs' u' h8 h11)
theorem UpL.svr : ∀ {l m : List AV}, UpL l m → l.length = m.length ∧ ∀ (j : Nat) (u : AV), m[j]? = some u → ∃ u', l[j]? = some u' ∧ ∀ x, SVR F w u' x → SVR F w u x
  | _, _, .nil => ⟨Eq.refl _, fun j u h => by simp at h⟩
  | _, _, .cons h hl => by
    have h1 := fun x => Up.svr h (x := x)
    have h2 := UpL.svr hl
    refine ⟨by simp [h2.1], fun j u hu => ?_⟩
    cases j with
    | zero => simp only [List.getElem?_cons_zero, Option.some.injEq] at hu; subst hu; exact ⟨_, by simp, fun x hx => h1 x hx⟩
    | succ j => exact h2.2 j u (by simpa using hu)
theorem UpLL.svr : ∀ {l m : List (List AV)}, UpLL l m → l.length = m.length ∧ ∀ (i : Nat) (cs : List AV), m[i]? = some cs → ∃ cs', l[i]? = some cs' ∧ cs'.length = cs.length ∧ ∀ (j : Nat) (u : AV), cs[j]? = some u → ∃ u', cs'[j]? = some u' ∧ ∀ x, SVR F w u' x → SVR F w u x
  | _, _, .nil => ⟨Eq.refl _, fun j u h => by simp at h⟩
  | _, _, .cons h hl => by
    have h1 := UpL.svr h
    have h2 := UpLL.svr hl
    refine ⟨by simp [h2.1], fun j u hu => ?_⟩
    cases j with
    | zero => simp only [List.getElem?_cons_zero, Option.some.injEq] at hu; subst hu; exact ⟨_, by simp, h1.1, h1.2⟩
    | succ j => exact h2.2 j u (by simpa using hu)
end
end
mutual
theorem Up.up : ∀ {a b : AV}, Up a b → a.up b
  | _, _, .rfl a => AV.up_rfl a
  | _, _, .nil k => AV.up_nil k
  | _, _, .agg h => AV.up_agg (UpL.up h)
  | _, _, .tup h => AV.up_tup (UpL.up h)
  | _, _, .lst h => fun F β w x hx => by
    cases hx with
    | s hx => exact .s (Up.svr (.lst h) hx)
  | _, _, .lsx h => fun F β w x hx => by
    cases hx with
    | s hx => exact .s (Up.svr (.lsx h) hx)
theorem UpL.up : ∀ {l m : List AV}, UpL l m → AV.upL l m
  | _, _, .nil => trivial
  | _, _, .cons h hl => ⟨Up.up h, UpL.up hl⟩
end
theorem PCall.args {P : Program} {f : Nat} {as' bs : List AV} {R : AV → Prop} (hu : UpL as' bs) (h : PCall P f bs R) : PCall P f as' R :=
  ⟨h.1, fun w F vs h1 h2 h3 => h.2 w F vs h1 (by
    have := (AV.upL_get hu.up).1
    omega) fun i x v hx hv => by
    obtain ⟨a, ha, hau⟩ := (AV.upL_get hu.up).2 i x hx
    exact hau _ _ _ _ (h3 i a v ha hv)⟩
section
variable {P : Program} {T : Nat → Option TyD} {E : Env} {s s' : AState} {n : Nat} {Q : Exit → AState → Prop}
/-- nil within a variable, as an empty row of an object that has no block yet -/
def AState.nilvar (s : AState) (o j ty k d : Nat) (cs : List AV) : AState := { fr := (s.drop d).fr, ob := (o, .var ((AV.kill.killL d cs).set j (.ref ty k d 0 0))) :: (d, .row ty k []) :: (s.drop d).ob }
theorem aw_nilvar {c : Code} (o j ty k d : Nat) {cs : List AV} (hd : ownN d) (hne : o ≠ d) (ho : lk s.ob o = some (.var cs)) (hj : cs[j]? = some (.v (.slice none 0 0))) (h : AWp P E n c Q (s.nilvar o j ty k d cs)) : AWp P E n c Q s := fun a w ⟨hn, hdf, β, hs⟩ => by
  refine h a w ⟨hn, hdf, upd β d none, ?_⟩
  have h1 := hs.turn (β' := upd β d none) (w' := w) d hd (fun e he => upd_other β _ he) (fun b hb => by rw [upd_same] at hb; cases hb) (Keeps.refl _ _)
  have h2 := h1.add d (.row ty k []) ⟨fun cs h => (by cases h), .inl rfl⟩
  refine h2.add o _ ?_
  have h3 := h1.ob o (.var (AV.kill.killL d cs)) (by rw [lk_drop_ob, bif_ne hne, ho]; rfl)
  obtain ⟨b, arr, t, g1, g2, g3, g4⟩ := h3
  refine ⟨b, arr, t, g1, g2, by simpa using g3, fun i u hu => ?_⟩
  by_cases hij : j = i
  · subst hij
    have hlt : j < (AV.kill.killL d cs).length := by
      rw [AV.killL_eq, List.length_map]
      rcases Nat.lt_or_ge j cs.length with h | h
      · exact h
      · rw [List.getElem?_eq_none h] at hj; cases hj
    rw [List.getElem?_set_self hlt] at hu
    injection hu with hu
    subst hu
    obtain ⟨x, hx, hr, ho⟩ := g4 j (.v (.slice none 0 0)) (by rw [AV.killL_eq, List.getElem?_map, hj]; rfl)
    refine ⟨x, hx, ?_, ho⟩
    cases hr with
    | s h =>
    cases h with
    | v h => exact .nil
  · rw [List.getElem?_set_ne hij] at hu
    exact g4 i u hu
end
end Go.Proofs.YtfgacgpicfknpaaDoor
end
section
namespace Go.Proofs.YtfgacgpicfknpaaDoor
open Go.RowKit
section
variable {P : Program} {E : Env} {s : AState} {n : Nat} {ops : Array Oper} {Q : Exit → AState → Prop} {D : Dr} {rest : List Oper} {o : Oper}
/-- 'go_callG' of the call whose answer has this name -/
theorem go_callGd (d : Nat) (_ : o.dst = some d) (hi bk : List (Nat × Nat)) (K V : List Nat) {f : Nat} {as' : List AV} {p : Prop} {ob ob1 : List (Nat × AObj)} {r : AV} (h : callG n ops s o hi = some (f, as', p)) (hp : p) (hk : handOK hi bk K V = true)
    (hD : hi.all (fun p => D.W p.1) = true) (hds : D.ds o = true ∨ hi = []) (hob : obIn s hi hi = ob) (hc : GCall P f as' ob r ob1) (hm : AV.allIn.allInL hi (o.op.operands.toList.map s.ev) = true ∨ (r.nm = true ∧ obNm ob1))
    (hr : AListD P E n ops D rest Q ((s.back K V bk ob1).put o.dst true (r.ren bk))) : AListR P E n ops D (o :: rest) Q s := go_callG hi bk K V h hp hk hD hds hob hc hm hr
end
end Go.Proofs.YtfgacgpicfknpaaDoor
end
section
namespace Go.Proofs.YtfgacgpicfknpaaDoor
open Go.RowKit
section
variable {P : Program} {T : Nat → Option TyD} {E : Env} {s s' : AState} {tm : Array Value} {w : World} {β : Nat → Option Nat} {F F' : Nat → Prop} {n : Nat} {Q : Exit → AState → Prop}
theorem aw_frz {c : Code} (d : Nat) {t k : Nat} {xs : List (List AV)} (ho : lk s.ob d = some (.row t k xs)) (hd : d < 10000) (h : AWp P E n c Q (s.frz d t k xs)) : AWp P E n c Q s := fun a w ⟨hn, hdf, β, hs⟩ =>
  h a w ⟨hn, hdf, upd β d none, hs.frz hd ho⟩
theorem aw_say {c : Code} (t : Nat) {x : AV} (y : AV) (ht : lk s.fr t = some (true, x)) (hu : x.up y) (h : AWp P E n c Q (s.say t y)) : AWp P E n c Q s := fun a w ⟨hn, hdf, β, hs⟩ => h a w ⟨hn, hdf, β, hs.say ht hu⟩
end
end Go.Proofs.YtfgacgpicfknpaaDoor
end
section
namespace Go.Proofs.YtfgacgpicfknpaaDoor
open Go.RowKit
set_option maxRecDepth 100000
set_option maxHeartbeats 4000000
/-! Nodes; what is known of a type that is right. -/
/-- does so wide a number hold n? -/
def fitsB (n wd : Int) : Bool := decide (1 ≤ wd) && decide (wd ≤ 8) && decide (n < 256 ^ wd.toNat)
theorem rightOK_kind {t : TypeM} {k : Int} (h : rightOK t k = true) : (t.kind = 1 ∨ t.kind = 2 ∨ t.kind = 3) ∨ (t.kind = 4 ∨ t.kind = 5 ∨ t.kind = 6) ∨ (t.kind = 7 ∨ t.kind = 8) := by
  rw [rightOK, Bool.and_eq_true] at h
  obtain ⟨_, h⟩ := h
  split at h
  · exact .inl ‹_›
  · split at h
    · exact .inr (.inl ‹_›)
    · split at h
      · rename_i h3
        exact .inr (.inr (by omega))
      · cases h
theorem rightOK_n {t : TypeM} {k : Int} (h : rightOK t k = true) (hk : t.kind = 4 ∨ t.kind = 5 ∨ t.kind = 6) : 0 ≤ t.n ∧ t.n ≤ 1048576 := by
  rw [rightOK, Bool.and_eq_true] at h
  obtain ⟨h, _⟩ := h
  rw [numberOK, if_neg (by omega)] at h
  split at h
  · simp only [Bool.and_eq_true, decide_eq_true_eq] at h; omega
  · simp only [decide_eq_true_eq] at h; omega
theorem check_right {ts : List TypeM} {rs : List RootM} (h : (checkF ts rs).1 = 0) : ∀ (k : Nat) (hk : k < ts.length), rightOK ts[k] k = true := by
  intro k hk
  cases hf : (List.range ts.length).find? (wrongType ts) with
  | some j => rw [checkF, hf] at h; exact absurd (show (92 : Int) = 0 from h) (by decide)
  | none =>
    rw [List.find?_range_eq_none] at hf
    have := hf k hk
    rw [wrongType, List.getElem?_eq_getElem hk] at this
    simpa using this
/-- what the walk needs of a type that is right -/
theorem right_1 {x : TypeM} {k : Int} (h : rightOK x k = true) (hk : x.kind = 1) : 1 ≤ x.n ∧ x.n ≤ 8 := by
  rw [rightOK, Bool.and_eq_true] at h
  have := h.1
  rw [numberOK, if_pos hk] at this
  simp only [Bool.or_eq_true, decide_eq_true_eq] at this
  omega
theorem goodFrom_tag {at_ : Int} : ∀ (l pre : List PartM), goodFrom 7 at_ pre l = true → ∀ p ∈ l, 0 ≤ p.tag ∧ p.tag ≤ 255
  | [], _, _ => fun p hp => by cases hp
  | q :: l, pre, h => fun p hp => by
    simp only [goodFrom, Bool.and_eq_true] at h
    rcases List.mem_cons.1 hp with rfl | hp
    · have := h.1
      rw [good, if_neg (by decide)] at this
      simp only [Bool.and_eq_true, decide_eq_true_eq] at this
      omega
    · exact goodFrom_tag l _ h.2 p hp
theorem right_parts {x : TypeM} {k : Int} (h : rightOK x k = true) (hk : x.kind = 7 ∨ x.kind = 8) : x.parts.length ≤ 64 ∧ 1 ≤ x.parts.length := by
  rw [rightOK, Bool.and_eq_true, if_neg (by omega), if_neg (by omega), if_pos (by omega), partsOK] at h
  simp only [Bool.and_eq_true, decide_eq_true_eq] at h
  omega
theorem right_tag {x : TypeM} {k : Int} (h : rightOK x k = true) (hk : x.kind = 7) : ∀ p ∈ x.parts, 0 ≤ p.tag ∧ p.tag ≤ 255 := by
  rw [rightOK, Bool.and_eq_true, if_neg (by omega), if_neg (by omega), if_pos (by omega), Bool.and_eq_true, partsOK, Bool.and_eq_true, hk] at h
  exact goodFrom_tag _ _ h.2.2.2
structure NodeM where
  kind : Int
  n : Int
  kids : Int
deriving DecidableEq
def vU (n : Int) : AV := .v (.int .u64 n)
def encN (x : NodeM) : List AV := [vI x.kind, vU x.n, vI x.kids]
def encNs (l : List NodeM) : List (List AV) := l.map encN
theorem encNs_len (l : List NodeM) : (encNs l).length = l.length := by simp [encNs]
theorem encNs_get {l : List NodeM} {k : Nat} (h : k < l.length) : (encNs l)[k]? = some [vI l[k].kind, vU l[k].n, vI l[k].kids] := by simp [encNs, encN, h]
def vN (x : NodeM) : AV := .agg [vI x.kind, vU x.n, vI x.kids]
def nodeOK (x : NodeM) : Prop := I64 x.kind ∧ I64 x.kids ∧ 0 ≤ x.n ∧ x.n < 18446744073709551616
def armOf (l : List PartM) (n : Int) : Option PartM := l.find? fun p => decide (p.tag % 18446744073709551616 = n)
attribute [go_sem] encNs_len vU vN v8_len encPs_len encTs_len encRs_len
end Go.Proofs.YtfgacgpicfknpaaDoor
end
section
namespace Go.Proofs.YtfgacgpicfknpaaDoor
open Go.RowKit
set_option maxRecDepth 100000
set_option maxHeartbeats 8000000
/-! Which values are of a type: what the document says of one node. -/
def elemF (t : TypeM) (n : Int) (k : Nat) : Int :=
  if t.kind = 4 ∨ t.kind = 5 ∨ t.kind = 6 then t.elem
  else if t.kind = 8 then (match t.parts[k]? with | some p => p.ty | none => 0)
  else if t.kind = 7 then (match armOf t.parts n with | some p => p.ty | none => -1)
  else -1
theorem elem8 {t : TypeM} (hk : t.kind = 8) {k : Nat} (h : k < t.parts.length) (n : Int) : elemF t n k = t.parts[k].ty := by
  unfold elemF; rw [if_neg (by omega), if_pos hk, List.getElem?_eq_getElem h]
theorem Elem_any (t : TypeM) (hl : t.parts.length ≤ 1000000000) (hI : ∀ p ∈ t.parts, I64 p.tag) (x : NodeM) (hn : 0 ≤ x.n ∧ x.n < 18446744073709551616) (k : Nat) (hk : t.kind = 8 → k < t.parts.length) :
    PCall Tryd.prog 60 [.agg [vI t.kind, vI t.n, vI t.elem, .lst 3 (encPs t.parts)], .agg [vI x.kind, .v (.int .u64 x.n), vI x.kids], vI k] (fun r => r = vI (elemF t x.n k)) := by
  refine go_fn (tyOf_ok _) Tryd.func60 rfl rfl (by rw [Tryd.results60]) Tryd.ntmps60 rfl fun E => ?_
  by_cases h8 : t.kind = 8
  · have g1 := encPs_get (hk h8)
    have he := elem8 h8 (hk h8) x.n
    have k4 : (t.kind = 4) = False := eq_false (by omega)
    have k5 : (t.kind = 5) = False := eq_false (by omega)
    have k6 : (t.kind = 6) = False := eq_false (by omega)
    have k8 : (t.kind = 8) = True := eq_true h8
    have z0 : ((k : Int)).toNat = k := by omega
    have hk' := hk h8
    (repeat' (first
    | exact trivial
    | (with_reducible first | refine awA ?_ | refine awB ?_ | refine awC ?_ | refine awD ?_ | refine awE ?_ | refine awF ?_ | refine awG ?_ | refine awH ?_ | refine awI ?_ | refine awJ ?_ | refine awK ?_ | refine awL ?_ | refine awM (by decide) ?_)
    | (refine aw_draw (id := 12) (t := (.node [0, 1, 2, 3, 4, 5, 6, 7, 8, 9] [])) (drR [3, 4] [38] []) mixed (by kernel_rfl) (by kernel_rfl) (fun _ _ h => h) ?_)
    | (refine at_done (by simp only [List.filterMap_cons, List.filterMap_nil, List.getElem?_toArray, List.getElem?_cons_zero, List.getElem?_cons_succ]; exact rfl) ?_) | (refine at_alt (by simp only [List.filterMap_cons, List.filterMap_nil, List.getElem?_toArray, List.getElem?_cons_zero, List.getElem?_cons_succ]; exact rfl) ?_) | refine qalt_normal ?_ | refine ats_cons ?_ ?_ | exact ats_nil
    | ((with_reducible first | refine awN (tyOf_ok _) [] ?_ | refine awO (tyOf_ok _) [] ?_ | refine awP (tyOf_ok _) [] ?_ | refine awQ ?_ | refine awR ?_ | refine awS ?_); intro r hr; simp only [go_sem, Nat.reduceBEq, Nat.reduceBneDiff, Nat.reduceLT, Nat.reduceLeDiff, Nat.reduceAdd, Nat.reduceMul, Nat.reduceSub, Nat.reduceEqDiff, reduceCtorEq, encPs_len, g1, k4, k5, k6, k8, z0] at hr; subst hr; (first | refine awV ?_ ?_ | refine awW ?_ ?_ | refine endK ?_ ?_ | (refine condK (fun h => ?_) (fun h => ?_) <;> (try simp only [go_sem, reduceCtorEq] at h) <;> (try (exfalso; omega))))) | fail)) <;> (try omega)
    rw [he]; exact rfl
  by_cases h456 : t.kind = 4 ∨ t.kind = 5 ∨ t.kind = 6
  · have he : elemF t x.n k = t.elem := by unfold elemF; rw [if_pos h456]
    rw [he]
    rcases h456 with h | h | h
    · have k4 : (t.kind = 4) = True := eq_true h
      (repeat' (first
    | exact trivial
    | (with_reducible first | refine awA ?_ | refine awB ?_ | refine awC ?_ | refine awD ?_ | refine awE ?_ | refine awF ?_ | refine awG ?_ | refine awH ?_ | refine awI ?_ | refine awJ ?_ | refine awK ?_ | refine awL ?_ | refine awM (by decide) ?_)
    | (refine aw_draw (id := 12) (t := (.node [0, 1, 2, 3, 4, 5, 6, 7, 8, 9] [])) (drR [3, 4] [38] []) mixed (by kernel_rfl) (by kernel_rfl) (fun _ _ h => h) ?_)
    | (refine at_done (by simp only [List.filterMap_cons, List.filterMap_nil, List.getElem?_toArray, List.getElem?_cons_zero, List.getElem?_cons_succ]; exact rfl) ?_) | (refine at_alt (by simp only [List.filterMap_cons, List.filterMap_nil, List.getElem?_toArray, List.getElem?_cons_zero, List.getElem?_cons_succ]; exact rfl) ?_) | refine qalt_normal ?_ | refine ats_cons ?_ ?_ | exact ats_nil
    | ((with_reducible first | refine awN (tyOf_ok _) [] ?_ | refine awO (tyOf_ok _) [] ?_ | refine awP (tyOf_ok _) [] ?_ | refine awQ ?_ | refine awR ?_ | refine awS ?_); intro r hr; simp only [go_sem, Nat.reduceBEq, Nat.reduceBneDiff, Nat.reduceLT, Nat.reduceLeDiff, Nat.reduceAdd, Nat.reduceMul, Nat.reduceSub, Nat.reduceEqDiff, reduceCtorEq, encPs_len, k4] at hr; subst hr; (first | refine awV ?_ ?_ | refine awW ?_ ?_ | refine endK ?_ ?_ | (refine condK (fun h => ?_) (fun h => ?_) <;> (try simp only [go_sem, reduceCtorEq] at h) <;> (try (exfalso; omega))))) | fail)) <;> (try omega)
      exact rfl
    · have k4 : (t.kind = 4) = False := eq_false (by omega)
      have k5 : (t.kind = 5) = True := eq_true h
      (repeat' (first
    | exact trivial
    | (with_reducible first | refine awA ?_ | refine awB ?_ | refine awC ?_ | refine awD ?_ | refine awE ?_ | refine awF ?_ | refine awG ?_ | refine awH ?_ | refine awI ?_ | refine awJ ?_ | refine awK ?_ | refine awL ?_ | refine awM (by decide) ?_)
    | (refine aw_draw (id := 12) (t := (.node [0, 1, 2, 3, 4, 5, 6, 7, 8, 9] [])) (drR [3, 4] [38] []) mixed (by kernel_rfl) (by kernel_rfl) (fun _ _ h => h) ?_)
    | (refine at_done (by simp only [List.filterMap_cons, List.filterMap_nil, List.getElem?_toArray, List.getElem?_cons_zero, List.getElem?_cons_succ]; exact rfl) ?_) | (refine at_alt (by simp only [List.filterMap_cons, List.filterMap_nil, List.getElem?_toArray, List.getElem?_cons_zero, List.getElem?_cons_succ]; exact rfl) ?_) | refine qalt_normal ?_ | refine ats_cons ?_ ?_ | exact ats_nil
    | ((with_reducible first | refine awN (tyOf_ok _) [] ?_ | refine awO (tyOf_ok _) [] ?_ | refine awP (tyOf_ok _) [] ?_ | refine awQ ?_ | refine awR ?_ | refine awS ?_); intro r hr; simp only [go_sem, Nat.reduceBEq, Nat.reduceBneDiff, Nat.reduceLT, Nat.reduceLeDiff, Nat.reduceAdd, Nat.reduceMul, Nat.reduceSub, Nat.reduceEqDiff, reduceCtorEq, encPs_len, k4, k5] at hr; subst hr; (first | refine awV ?_ ?_ | refine awW ?_ ?_ | refine endK ?_ ?_ | (refine condK (fun h => ?_) (fun h => ?_) <;> (try simp only [go_sem, reduceCtorEq] at h) <;> (try (exfalso; omega))))) | fail)) <;> (try omega)
      exact rfl
    · have k4 : (t.kind = 4) = False := eq_false (by omega)
      have k5 : (t.kind = 5) = False := eq_false (by omega)
      have k6 : (t.kind = 6) = True := eq_true h
      (repeat' (first
    | exact trivial
    | (with_reducible first | refine awA ?_ | refine awB ?_ | refine awC ?_ | refine awD ?_ | refine awE ?_ | refine awF ?_ | refine awG ?_ | refine awH ?_ | refine awI ?_ | refine awJ ?_ | refine awK ?_ | refine awL ?_ | refine awM (by decide) ?_)
    | (refine aw_draw (id := 12) (t := (.node [0, 1, 2, 3, 4, 5, 6, 7, 8, 9] [])) (drR [3, 4] [38] []) mixed (by kernel_rfl) (by kernel_rfl) (fun _ _ h => h) ?_)
    | (refine at_done (by simp only [List.filterMap_cons, List.filterMap_nil, List.getElem?_toArray, List.getElem?_cons_zero, List.getElem?_cons_succ]; exact rfl) ?_) | (refine at_alt (by simp only [List.filterMap_cons, List.filterMap_nil, List.getElem?_toArray, List.getElem?_cons_zero, List.getElem?_cons_succ]; exact rfl) ?_) | refine qalt_normal ?_ | refine ats_cons ?_ ?_ | exact ats_nil
    | ((with_reducible first | refine awN (tyOf_ok _) [] ?_ | refine awO (tyOf_ok _) [] ?_ | refine awP (tyOf_ok _) [] ?_ | refine awQ ?_ | refine awR ?_ | refine awS ?_); intro r hr; simp only [go_sem, Nat.reduceBEq, Nat.reduceBneDiff, Nat.reduceLT, Nat.reduceLeDiff, Nat.reduceAdd, Nat.reduceMul, Nat.reduceSub, Nat.reduceEqDiff, reduceCtorEq, encPs_len, k4, k5, k6] at hr; subst hr; (first | refine awV ?_ ?_ | refine awW ?_ ?_ | refine endK ?_ ?_ | (refine condK (fun h => ?_) (fun h => ?_) <;> (try simp only [go_sem, reduceCtorEq] at h) <;> (try (exfalso; omega))))) | fail)) <;> (try omega)
      exact rfl
  have k4 : (t.kind = 4) = False := eq_false (by omega)
  have k5 : (t.kind = 5) = False := eq_false (by omega)
  have k6 : (t.kind = 6) = False := eq_false (by omega)
  have k8 : (t.kind = 8) = False := eq_false h8
  by_cases h7 : t.kind = 7
  · have k7 : (t.kind = 7) = True := eq_true h7
    generalize hR : elemF t x.n k = R
    unfold elemF at hR
    rw [if_neg h456, if_neg h8, if_pos h7] at hR
    (repeat' (first
    | exact trivial
    | (with_reducible first | refine awA ?_ | refine awB ?_ | refine awC ?_ | refine awD ?_ | refine awE ?_ | refine awF ?_ | refine awG ?_ | refine awH ?_ | refine awI ?_ | refine awJ ?_ | refine awK ?_ | refine awL ?_ | refine awM (by decide) ?_)
    | (refine aw_draw (id := 12) (t := (.node [0, 1, 2, 3, 4, 5, 6, 7, 8, 9] [])) (drR [3, 4] [38] []) mixed (by kernel_rfl) (by kernel_rfl) (fun _ _ h => h) ?_)
    | (refine at_done (by simp only [List.filterMap_cons, List.filterMap_nil, List.getElem?_toArray, List.getElem?_cons_zero, List.getElem?_cons_succ]; exact rfl) ?_) | (refine at_alt (by simp only [List.filterMap_cons, List.filterMap_nil, List.getElem?_toArray, List.getElem?_cons_zero, List.getElem?_cons_succ]; exact rfl) ?_) | refine qalt_normal ?_ | refine ats_cons ?_ ?_ | exact ats_nil
    | ((with_reducible first | refine awN (tyOf_ok _) [] ?_ | refine awO (tyOf_ok _) [] ?_ | refine awP (tyOf_ok _) [] ?_ | refine awQ ?_ | refine awR ?_ | refine awS ?_); intro r hr; simp only [go_sem, Nat.reduceBEq, Nat.reduceBneDiff, Nat.reduceLT, Nat.reduceLeDiff, Nat.reduceAdd, Nat.reduceMul, Nat.reduceSub, Nat.reduceEqDiff, reduceCtorEq, encPs_len, k4, k5, k6, k8, k7] at hr; subst hr; (first | refine awV ?_ ?_ | refine awW ?_ ?_ | refine endK ?_ ?_ | (refine condK (fun h => ?_) (fun h => ?_) <;> (try simp only [go_sem, reduceCtorEq] at h) <;> (try (exfalso; omega))))) | fail)) <;> (try omega)
    refine go_loop [3, 4, 7] [3, 4] (fun i : Nat => ⟨[(3, true, .ptr 1 3 0 0), (4, true, .ptr 1 4 0 0), (7, true, vI i)], [(3, .var [vI t.kind, vI t.n, vI t.elem, .lst 3 (encPs t.parts)]), (4, .var [vI x.kind, .v (.int .u64 x.n), vI x.kids])]⟩)
      (fun i => i ≤ t.parts.length ∧ ((t.parts.take i).find? fun p => decide (p.tag % 18446744073709551616 = x.n)) = none) (fun i => t.parts.length - i) 0 (by simp only [go_sem, Nat.reduceBEq, Nat.reduceBneDiff, Nat.reduceLT, Nat.reduceLeDiff, Nat.reduceAdd, Nat.reduceMul, Nat.reduceSub, Nat.reduceEqDiff, reduceCtorEq]; exact rfl) ⟨Nat.zero_le _, rfl⟩ ?_
    intro i ⟨hi, hf⟩
    have hw1 := wrap_i64 (n := (i : Int) + 1) (by omega)
    by_cases hlt : i < t.parts.length
    · have e1 : ((i : Int) < t.parts.length) = True := eq_true (by omega)
      have g1 := encPs_get hlt
      have ht : IntKind.u64.wrap t.parts[i].tag = t.parts[i].tag % 18446744073709551616 := IntKind.wrap_u64 _
      by_cases heq : t.parts[i].tag % 18446744073709551616 = x.n
      · have e2 : (t.parts[i].tag % 18446744073709551616 = x.n) = True := eq_true heq
        have harm : armOf t.parts x.n = some t.parts[i] := by
          have hs : armOf (t.parts.take i ++ t.parts[i] :: t.parts.drop (i + 1)) x.n = some t.parts[i] := by
            unfold armOf
            rw [List.find?_append, hf, Option.none_or, List.find?_cons_of_pos]
            simp only [decide_eq_true_eq]
            exact heq
          rw [← List.drop_eq_getElem_cons hlt, List.take_append_drop] at hs
          exact hs
        rw [harm] at hR
        subst hR
        (repeat' (first
    | exact trivial
    | (with_reducible first | refine awA ?_ | refine awB ?_ | refine awC ?_ | refine awD ?_ | refine awE ?_ | refine awF ?_ | refine awG ?_ | refine awH ?_ | refine awI ?_ | refine awJ ?_ | refine awK ?_ | refine awL ?_ | refine awM (by decide) ?_)
    | (refine aw_draw (id := 12) (t := (.node [0, 1, 2, 3, 4, 5, 6, 7, 8, 9] [])) (drR [3, 4] [38] []) mixed (by kernel_rfl) (by kernel_rfl) (fun _ _ h => h) ?_)
    | (refine at_done (by simp only [List.filterMap_cons, List.filterMap_nil, List.getElem?_toArray, List.getElem?_cons_zero, List.getElem?_cons_succ]; exact rfl) ?_) | (refine at_alt (by simp only [List.filterMap_cons, List.filterMap_nil, List.getElem?_toArray, List.getElem?_cons_zero, List.getElem?_cons_succ]; exact rfl) ?_) | refine qalt_normal ?_ | refine ats_cons ?_ ?_ | exact ats_nil
    | ((with_reducible first | refine awN (tyOf_ok _) [] ?_ | refine awO (tyOf_ok _) [] ?_ | refine awP (tyOf_ok _) [] ?_ | refine awQ ?_ | refine awR ?_ | refine awS ?_); intro r hr; simp only [go_sem, Nat.reduceBEq, Nat.reduceBneDiff, Nat.reduceLT, Nat.reduceLeDiff, Nat.reduceAdd, Nat.reduceMul, Nat.reduceSub, Nat.reduceEqDiff, reduceCtorEq, encPs_len, hw1, e1, g1, ht, e2] at hr; subst hr; (first | refine awV ?_ ?_ | refine awW ?_ ?_ | refine endK ?_ ?_ | (refine condK (fun h => ?_) (fun h => ?_) <;> (try simp only [go_sem, reduceCtorEq] at h) <;> (try (exfalso; omega))))) | fail)) <;> (try omega)
        exact rfl
      · have e2 : (t.parts[i].tag % 18446744073709551616 = x.n) = False := eq_false heq
        (repeat' (first
    | exact trivial
    | (with_reducible first | refine awA ?_ | refine awB ?_ | refine awC ?_ | refine awD ?_ | refine awE ?_ | refine awF ?_ | refine awG ?_ | refine awH ?_ | refine awI ?_ | refine awJ ?_ | refine awK ?_ | refine awL ?_ | refine awM (by decide) ?_)
    | (refine aw_draw (id := 12) (t := (.node [0, 1, 2, 3, 4, 5, 6, 7, 8, 9] [])) (drR [3, 4] [38] []) mixed (by kernel_rfl) (by kernel_rfl) (fun _ _ h => h) ?_)
    | (refine at_done (by simp only [List.filterMap_cons, List.filterMap_nil, List.getElem?_toArray, List.getElem?_cons_zero, List.getElem?_cons_succ]; exact rfl) ?_) | (refine at_alt (by simp only [List.filterMap_cons, List.filterMap_nil, List.getElem?_toArray, List.getElem?_cons_zero, List.getElem?_cons_succ]; exact rfl) ?_) | refine qalt_normal ?_ | refine ats_cons ?_ ?_ | exact ats_nil
    | ((with_reducible first | refine awN (tyOf_ok _) [] ?_ | refine awO (tyOf_ok _) [] ?_ | refine awP (tyOf_ok _) [] ?_ | refine awQ ?_ | refine awR ?_ | refine awS ?_); intro r hr; simp only [go_sem, Nat.reduceBEq, Nat.reduceBneDiff, Nat.reduceLT, Nat.reduceLeDiff, Nat.reduceAdd, Nat.reduceMul, Nat.reduceSub, Nat.reduceEqDiff, reduceCtorEq, encPs_len, hw1, e1, g1, ht, e2] at hr; subst hr; (first | refine awV ?_ ?_ | refine awW ?_ ?_ | refine endK ?_ ?_ | (refine condK (fun h => ?_) (fun h => ?_) <;> (try simp only [go_sem, reduceCtorEq] at h) <;> (try (exfalso; omega))))) | fail)) <;> (try omega)
        refine ⟨i + 1, by simp only [go_sem, Nat.reduceBEq, Nat.reduceBneDiff, Nat.reduceLT, Nat.reduceLeDiff, Nat.reduceAdd, Nat.reduceMul, Nat.reduceSub, Nat.reduceEqDiff, reduceCtorEq]; exact rfl, ⟨hlt, ?_⟩, by omega⟩
        rw [List.take_succ_eq_append_getElem hlt, List.find?_append, hf, Option.none_or, List.find?_cons_of_neg]
        · rfl
        · simp only [decide_eq_true_eq]; exact heq
    · have e1 : ((i : Int) < t.parts.length) = False := eq_false (by omega)
      have hR' : R = -1 := by
        rw [take_len (by omega)] at hf
        rw [armOf, hf] at hR; exact hR.symm
      clear hR
      subst hR'
      (repeat' (first
    | exact trivial
    | (with_reducible first | refine awA ?_ | refine awB ?_ | refine awC ?_ | refine awD ?_ | refine awE ?_ | refine awF ?_ | refine awG ?_ | refine awH ?_ | refine awI ?_ | refine awJ ?_ | refine awK ?_ | refine awL ?_ | refine awM (by decide) ?_)
    | (refine aw_draw (id := 12) (t := (.node [0, 1, 2, 3, 4, 5, 6, 7, 8, 9] [])) (drR [3, 4] [38] []) mixed (by kernel_rfl) (by kernel_rfl) (fun _ _ h => h) ?_)
    | (refine at_done (by simp only [List.filterMap_cons, List.filterMap_nil, List.getElem?_toArray, List.getElem?_cons_zero, List.getElem?_cons_succ]; exact rfl) ?_) | (refine at_alt (by simp only [List.filterMap_cons, List.filterMap_nil, List.getElem?_toArray, List.getElem?_cons_zero, List.getElem?_cons_succ]; exact rfl) ?_) | refine qalt_normal ?_ | refine ats_cons ?_ ?_ | exact ats_nil
    | ((with_reducible first | refine awN (tyOf_ok _) [] ?_ | refine awO (tyOf_ok _) [] ?_ | refine awP (tyOf_ok _) [] ?_ | refine awQ ?_ | refine awR ?_ | refine awS ?_); intro r hr; simp only [go_sem, Nat.reduceBEq, Nat.reduceBneDiff, Nat.reduceLT, Nat.reduceLeDiff, Nat.reduceAdd, Nat.reduceMul, Nat.reduceSub, Nat.reduceEqDiff, reduceCtorEq, encPs_len, hw1, e1] at hr; subst hr; (first | refine awV ?_ ?_ | refine awW ?_ ?_ | refine endK ?_ ?_ | (refine condK (fun h => ?_) (fun h => ?_) <;> (try simp only [go_sem, reduceCtorEq] at h) <;> (try (exfalso; omega))))) | fail)) <;> (try omega)
      exact rfl
  · have k7 : (t.kind = 7) = False := eq_false h7
    have he : elemF t x.n k = -1 := by unfold elemF; rw [if_neg h456, if_neg h8, if_neg h7]
    rw [he]
    (repeat' (first
    | exact trivial
    | (with_reducible first | refine awA ?_ | refine awB ?_ | refine awC ?_ | refine awD ?_ | refine awE ?_ | refine awF ?_ | refine awG ?_ | refine awH ?_ | refine awI ?_ | refine awJ ?_ | refine awK ?_ | refine awL ?_ | refine awM (by decide) ?_)
    | (refine aw_draw (id := 12) (t := (.node [0, 1, 2, 3, 4, 5, 6, 7, 8, 9] [])) (drR [3, 4] [38] []) mixed (by kernel_rfl) (by kernel_rfl) (fun _ _ h => h) ?_)
    | (refine at_done (by simp only [List.filterMap_cons, List.filterMap_nil, List.getElem?_toArray, List.getElem?_cons_zero, List.getElem?_cons_succ]; exact rfl) ?_) | (refine at_alt (by simp only [List.filterMap_cons, List.filterMap_nil, List.getElem?_toArray, List.getElem?_cons_zero, List.getElem?_cons_succ]; exact rfl) ?_) | refine qalt_normal ?_ | refine ats_cons ?_ ?_ | exact ats_nil
    | ((with_reducible first | refine awN (tyOf_ok _) [] ?_ | refine awO (tyOf_ok _) [] ?_ | refine awP (tyOf_ok _) [] ?_ | refine awQ ?_ | refine awR ?_ | refine awS ?_); intro r hr; simp only [go_sem, Nat.reduceBEq, Nat.reduceBneDiff, Nat.reduceLT, Nat.reduceLeDiff, Nat.reduceAdd, Nat.reduceMul, Nat.reduceSub, Nat.reduceEqDiff, reduceCtorEq, encPs_len, k4, k5, k6, k8, k7] at hr; subst hr; (first | refine awV ?_ ?_ | refine awW ?_ ?_ | refine endK ?_ ?_ | (refine condK (fun h => ?_) (fun h => ?_) <;> (try simp only [go_sem, reduceCtorEq] at h) <;> (try (exfalso; omega))))) | fail)) <;> (try omega)
    exact rfl
end Go.Proofs.YtfgacgpicfknpaaDoor
end
section
namespace Go.Proofs.YtfgacgpicfknpaaDoor
open Go.RowKit
set_option maxRecDepth 100000
set_option maxHeartbeats 8000000
def nkOf (k : Int) : Int := if k = 1 ∨ k = 3 then 1 else if k = 2 then 2 else if k = 4 ∨ k = 5 then 3 else if k = 6 then 5 else if k = 7 then 6 else if k = 8 then 4 else 0
def fitsF (t : TypeM) (x : NodeM) : Int :=
  if x.kind ≠ nkOf t.kind then 110
  else if t.kind = 1 ∧ fitsB x.n t.n = false then 111
  else if (t.kind = 4 ∧ x.kids ≠ t.n) ∨ (t.kind = 5 ∧ t.n < x.kids) ∨ (t.kind = 8 ∧ x.kids ≠ t.parts.length) then 112
  else if t.kind = 7 ∧ armOf t.parts x.n = none then 113 else 0
theorem shl_fits {n v : Int} (hn : n = 1 ∨ n = 2 ∨ n = 4 ∨ n = 8) (hv : v < 18446744073709551616) : (n < 8 ∧ IntKind.u64.wrap (1 * 2 ^ min (IntKind.i64.wrap (8 * n)).toNat 64) ≤ v) ↔ fitsB v n = false := by
  rcases hn with rfl | rfl | rfl | rfl
  · have h : IntKind.u64.wrap (1 * 2 ^ min (IntKind.i64.wrap (8 * 1)).toNat 64) = 256 := by decide
    have h2 : (256 : Int) ^ (1 : Int).toNat = 256 := by decide
    rw [h]; simp [fitsB, h2]
  · have h : IntKind.u64.wrap (1 * 2 ^ min (IntKind.i64.wrap (8 * 2)).toNat 64) = 65536 := by decide
    have h2 : (256 : Int) ^ (2 : Int).toNat = 65536 := by decide
    rw [h]; simp [fitsB, h2]
  · have h : IntKind.u64.wrap (1 * 2 ^ min (IntKind.i64.wrap (8 * 4)).toNat 64) = 4294967296 := by decide
    have h2 : (256 : Int) ^ (4 : Int).toNat = 4294967296 := by decide
    rw [h]; simp [fitsB, h2]
  · have h2 : (256 : Int) ^ (8 : Int).toNat = 18446744073709551616 := by decide
    simp [fitsB, h2]; omega
theorem right_1n {x : TypeM} {k : Int} (h : rightOK x k = true) (hk : x.kind = 1) : x.n = 1 ∨ x.n = 2 ∨ x.n = 4 ∨ x.n = 8 := by
  rw [rightOK, Bool.and_eq_true] at h
  have := h.1
  rw [numberOK, if_pos hk] at this
  simp only [Bool.or_eq_true, decide_eq_true_eq] at this
  omega
theorem fits1 (t : TypeM) (k : Nat) (hr : rightOK t k = true) (x : NodeM) (hx : nodeOK x) (h1 : t.kind = 1) :
    PCall Tryd.prog 59 [.agg [vI t.kind, vI t.n, vI t.elem, .lst 3 (encPs t.parts)], .agg [vI x.kind, .v (.int .u64 x.n), vI x.kids]] (fun r => r = vI (fitsF t x)) := by
  refine go_fn (tyOf_ok _) Tryd.func59 rfl rfl (by rw [Tryd.results59]) Tryd.ntmps59 rfl fun E => ?_
  have k1 : (t.kind = 1) = True := eq_true h1
  have k4 : (t.kind = 4) = False := eq_false (by omega)
  have k5 : (t.kind = 5) = False := eq_false (by omega)
  have k7 : (t.kind = 7) = False := eq_false (by omega)
  have k8 : (t.kind = 8) = False := eq_false (by omega)
  have hkn : nkOf t.kind = 1 := by unfold nkOf; rw [if_pos (.inl h1)]
  unfold fitsF
  rw [hkn]
  by_cases hk : x.kind = 1
  · have e1 : (x.kind = 1) = True := eq_true hk
    rw [if_neg (by omega)]
    (repeat' (first
    | exact trivial
    | (with_reducible first | refine awA ?_ | refine awB ?_ | refine awC ?_ | refine awD ?_ | refine awE ?_ | refine awF ?_ | refine awG ?_ | refine awH ?_ | refine awI ?_ | refine awJ ?_ | refine awK ?_ | refine awL ?_ | refine awM (by decide) ?_)
    | (refine aw_draw (id := 19) (t := (.node [0, 1, 2, 3, 4, 5, 6, 7, 8, 9, 10, 11, 12, 13, 14, 15, 16] [])) (drR [2, 3] [] []) mixed (by kernel_rfl) (by kernel_rfl) (fun _ _ h => h) ?_)
    | (refine at_done (by simp only [List.filterMap_cons, List.filterMap_nil, List.getElem?_toArray, List.getElem?_cons_zero, List.getElem?_cons_succ]; exact rfl) ?_) | (refine at_alt (by simp only [List.filterMap_cons, List.filterMap_nil, List.getElem?_toArray, List.getElem?_cons_zero, List.getElem?_cons_succ]; exact rfl) ?_) | refine qalt_normal ?_ | refine ats_cons ?_ ?_ | exact ats_nil
    | ((with_reducible first | refine awN (tyOf_ok _) [] ?_ | refine awO (tyOf_ok _) [] ?_ | refine awP (tyOf_ok _) [] ?_ | refine awQ ?_ | refine awR ?_ | refine awS ?_); intro r hr; simp only [go_sem, Nat.reduceBEq, Nat.reduceBneDiff, Nat.reduceLT, Nat.reduceLeDiff, Nat.reduceAdd, Nat.reduceMul, Nat.reduceSub, Nat.reduceEqDiff, reduceCtorEq, encPs_len, k1, k4, k5, k7, k8, e1] at hr; subst hr; (first | refine caB 60 (vI 0) ?_ ?_ ?_ | refine awV ?_ ?_ | refine awW ?_ ?_ | refine endK ?_ ?_ | (refine condK (fun h => ?_) (fun h => ?_) <;> (try simp only [go_sem, reduceCtorEq] at h) <;> (try (exfalso; omega))))) | fail)) <;> (try omega)
    · intro h; exact ⟨h, by have := right_1 hr h1; rw [wrap_i64 (by omega)]; omega⟩
    · rw [if_pos ⟨h1, (shl_fits (right_1n hr h1) hx.2.2.2).1 h⟩]; exact rfl
    · rename_i h' _ _
      rw [if_neg (by rintro ⟨_, h⟩; have := (shl_fits (right_1n hr h1) hx.2.2.2).2 h; omega), if_neg (by omega), if_neg (by omega)]; exact rfl
  · have e1 : (x.kind = 1) = False := eq_false hk
    rw [if_pos hk]
    (repeat' (first
    | exact trivial
    | (with_reducible first | refine awA ?_ | refine awB ?_ | refine awC ?_ | refine awD ?_ | refine awE ?_ | refine awF ?_ | refine awG ?_ | refine awH ?_ | refine awI ?_ | refine awJ ?_ | refine awK ?_ | refine awL ?_ | refine awM (by decide) ?_)
    | (refine aw_draw (id := 19) (t := (.node [0, 1, 2, 3, 4, 5, 6, 7, 8, 9, 10, 11, 12, 13, 14, 15, 16] [])) (drR [2, 3] [] []) mixed (by kernel_rfl) (by kernel_rfl) (fun _ _ h => h) ?_)
    | (refine at_done (by simp only [List.filterMap_cons, List.filterMap_nil, List.getElem?_toArray, List.getElem?_cons_zero, List.getElem?_cons_succ]; exact rfl) ?_) | (refine at_alt (by simp only [List.filterMap_cons, List.filterMap_nil, List.getElem?_toArray, List.getElem?_cons_zero, List.getElem?_cons_succ]; exact rfl) ?_) | refine qalt_normal ?_ | refine ats_cons ?_ ?_ | exact ats_nil
    | ((with_reducible first | refine awN (tyOf_ok _) [] ?_ | refine awO (tyOf_ok _) [] ?_ | refine awP (tyOf_ok _) [] ?_ | refine awQ ?_ | refine awR ?_ | refine awS ?_); intro r hr; simp only [go_sem, Nat.reduceBEq, Nat.reduceBneDiff, Nat.reduceLT, Nat.reduceLeDiff, Nat.reduceAdd, Nat.reduceMul, Nat.reduceSub, Nat.reduceEqDiff, reduceCtorEq, encPs_len, k1, k4, k5, k7, k8, e1] at hr; subst hr; (first | refine caB 60 (vI 0) ?_ ?_ ?_ | refine awV ?_ ?_ | refine awW ?_ ?_ | refine endK ?_ ?_ | (refine condK (fun h => ?_) (fun h => ?_) <;> (try simp only [go_sem, reduceCtorEq] at h) <;> (try (exfalso; omega))))) | fail)) <;> (try omega)
    exact rfl
theorem fits2 (t : TypeM) (k : Nat) (hr : rightOK t k = true) (x : NodeM) (hx : nodeOK x) (h1 : t.kind = 2) :
    PCall Tryd.prog 59 [.agg [vI t.kind, vI t.n, vI t.elem, .lst 3 (encPs t.parts)], .agg [vI x.kind, .v (.int .u64 x.n), vI x.kids]] (fun r => r = vI (fitsF t x)) := by
  refine go_fn (tyOf_ok _) Tryd.func59 rfl rfl (by rw [Tryd.results59]) Tryd.ntmps59 rfl fun E => ?_
  have k1 : (t.kind = 1) = False := eq_false (by omega)
  have k2 : (t.kind = 2) = True := eq_true h1
  have k3 : (t.kind = 3) = False := eq_false (by omega)
  have k4 : (t.kind = 4) = False := eq_false (by omega)
  have k5 : (t.kind = 5) = False := eq_false (by omega)
  have k6 : (t.kind = 6) = False := eq_false (by omega)
  have k7 : (t.kind = 7) = False := eq_false (by omega)
  have k8 : (t.kind = 8) = False := eq_false (by omega)
  have hkn : nkOf t.kind = 2 := by unfold nkOf; rw [h1]; decide
  unfold fitsF
  rw [hkn]
  by_cases hk : x.kind = 2
  · have e1 : (x.kind = 2) = True := eq_true hk
    rw [if_neg (by omega), if_neg (by omega)]
    rw [if_neg (by omega), if_neg (by omega)]
    (repeat' (first
    | exact trivial
    | (with_reducible first | refine awA ?_ | refine awB ?_ | refine awC ?_ | refine awD ?_ | refine awE ?_ | refine awF ?_ | refine awG ?_ | refine awH ?_ | refine awI ?_ | refine awJ ?_ | refine awK ?_ | refine awL ?_ | refine awM (by decide) ?_)
    | (refine aw_draw (id := 19) (t := (.node [0, 1, 2, 3, 4, 5, 6, 7, 8, 9, 10, 11, 12, 13, 14, 15, 16] [])) (drR [2, 3] [] []) mixed (by kernel_rfl) (by kernel_rfl) (fun _ _ h => h) ?_)
    | (refine at_done (by simp only [List.filterMap_cons, List.filterMap_nil, List.getElem?_toArray, List.getElem?_cons_zero, List.getElem?_cons_succ]; exact rfl) ?_) | (refine at_alt (by simp only [List.filterMap_cons, List.filterMap_nil, List.getElem?_toArray, List.getElem?_cons_zero, List.getElem?_cons_succ]; exact rfl) ?_) | refine qalt_normal ?_ | refine ats_cons ?_ ?_ | exact ats_nil
    | ((with_reducible first | refine awN (tyOf_ok _) [] ?_ | refine awO (tyOf_ok _) [] ?_ | refine awP (tyOf_ok _) [] ?_ | refine awQ ?_ | refine awR ?_ | refine awS ?_); intro r hr; simp only [go_sem, Nat.reduceBEq, Nat.reduceBneDiff, Nat.reduceLT, Nat.reduceLeDiff, Nat.reduceAdd, Nat.reduceMul, Nat.reduceSub, Nat.reduceEqDiff, reduceCtorEq, encPs_len, k1, k2, k3, k4, k5, k6, k7, k8, e1] at hr; subst hr; (first | refine caB 60 (vI 0) ?_ ?_ ?_ | refine awV ?_ ?_ | refine awW ?_ ?_ | refine endK ?_ ?_ | (refine condK (fun h => ?_) (fun h => ?_) <;> (try simp only [go_sem, reduceCtorEq] at h) <;> (try (exfalso; omega))))) | fail)) <;> (try omega)
    exact rfl
  · have e1 : (x.kind = 2) = False := eq_false hk
    rw [if_pos hk]
    (repeat' (first
    | exact trivial
    | (with_reducible first | refine awA ?_ | refine awB ?_ | refine awC ?_ | refine awD ?_ | refine awE ?_ | refine awF ?_ | refine awG ?_ | refine awH ?_ | refine awI ?_ | refine awJ ?_ | refine awK ?_ | refine awL ?_ | refine awM (by decide) ?_)
    | (refine aw_draw (id := 19) (t := (.node [0, 1, 2, 3, 4, 5, 6, 7, 8, 9, 10, 11, 12, 13, 14, 15, 16] [])) (drR [2, 3] [] []) mixed (by kernel_rfl) (by kernel_rfl) (fun _ _ h => h) ?_)
    | (refine at_done (by simp only [List.filterMap_cons, List.filterMap_nil, List.getElem?_toArray, List.getElem?_cons_zero, List.getElem?_cons_succ]; exact rfl) ?_) | (refine at_alt (by simp only [List.filterMap_cons, List.filterMap_nil, List.getElem?_toArray, List.getElem?_cons_zero, List.getElem?_cons_succ]; exact rfl) ?_) | refine qalt_normal ?_ | refine ats_cons ?_ ?_ | exact ats_nil
    | ((with_reducible first | refine awN (tyOf_ok _) [] ?_ | refine awO (tyOf_ok _) [] ?_ | refine awP (tyOf_ok _) [] ?_ | refine awQ ?_ | refine awR ?_ | refine awS ?_); intro r hr; simp only [go_sem, Nat.reduceBEq, Nat.reduceBneDiff, Nat.reduceLT, Nat.reduceLeDiff, Nat.reduceAdd, Nat.reduceMul, Nat.reduceSub, Nat.reduceEqDiff, reduceCtorEq, encPs_len, k1, k2, k3, k4, k5, k6, k7, k8, e1] at hr; subst hr; (first | refine caB 60 (vI 0) ?_ ?_ ?_ | refine awV ?_ ?_ | refine awW ?_ ?_ | refine endK ?_ ?_ | (refine condK (fun h => ?_) (fun h => ?_) <;> (try simp only [go_sem, reduceCtorEq] at h) <;> (try (exfalso; omega))))) | fail)) <;> (try omega)
    exact rfl
theorem fits3 (t : TypeM) (k : Nat) (hr : rightOK t k = true) (x : NodeM) (hx : nodeOK x) (h1 : t.kind = 3) :
    PCall Tryd.prog 59 [.agg [vI t.kind, vI t.n, vI t.elem, .lst 3 (encPs t.parts)], .agg [vI x.kind, .v (.int .u64 x.n), vI x.kids]] (fun r => r = vI (fitsF t x)) := by
  refine go_fn (tyOf_ok _) Tryd.func59 rfl rfl (by rw [Tryd.results59]) Tryd.ntmps59 rfl fun E => ?_
  have k1 : (t.kind = 1) = False := eq_false (by omega)
  have k2 : (t.kind = 2) = False := eq_false (by omega)
  have k3 : (t.kind = 3) = True := eq_true h1
  have k4 : (t.kind = 4) = False := eq_false (by omega)
  have k5 : (t.kind = 5) = False := eq_false (by omega)
  have k6 : (t.kind = 6) = False := eq_false (by omega)
  have k7 : (t.kind = 7) = False := eq_false (by omega)
  have k8 : (t.kind = 8) = False := eq_false (by omega)
  have hkn : nkOf t.kind = 1 := by unfold nkOf; rw [h1]; decide
  unfold fitsF
  rw [hkn]
  by_cases hk : x.kind = 1
  · have e1 : (x.kind = 1) = True := eq_true hk
    rw [if_neg (by omega), if_neg (by omega)]
    rw [if_neg (by omega), if_neg (by omega)]
    (repeat' (first
    | exact trivial
    | (with_reducible first | refine awA ?_ | refine awB ?_ | refine awC ?_ | refine awD ?_ | refine awE ?_ | refine awF ?_ | refine awG ?_ | refine awH ?_ | refine awI ?_ | refine awJ ?_ | refine awK ?_ | refine awL ?_ | refine awM (by decide) ?_)
    | (refine aw_draw (id := 19) (t := (.node [0, 1, 2, 3, 4, 5, 6, 7, 8, 9, 10, 11, 12, 13, 14, 15, 16] [])) (drR [2, 3] [] []) mixed (by kernel_rfl) (by kernel_rfl) (fun _ _ h => h) ?_)
    | (refine at_done (by simp only [List.filterMap_cons, List.filterMap_nil, List.getElem?_toArray, List.getElem?_cons_zero, List.getElem?_cons_succ]; exact rfl) ?_) | (refine at_alt (by simp only [List.filterMap_cons, List.filterMap_nil, List.getElem?_toArray, List.getElem?_cons_zero, List.getElem?_cons_succ]; exact rfl) ?_) | refine qalt_normal ?_ | refine ats_cons ?_ ?_ | exact ats_nil
    | ((with_reducible first | refine awN (tyOf_ok _) [] ?_ | refine awO (tyOf_ok _) [] ?_ | refine awP (tyOf_ok _) [] ?_ | refine awQ ?_ | refine awR ?_ | refine awS ?_); intro r hr; simp only [go_sem, Nat.reduceBEq, Nat.reduceBneDiff, Nat.reduceLT, Nat.reduceLeDiff, Nat.reduceAdd, Nat.reduceMul, Nat.reduceSub, Nat.reduceEqDiff, reduceCtorEq, encPs_len, k1, k2, k3, k4, k5, k6, k7, k8, e1] at hr; subst hr; (first | refine caB 60 (vI 0) ?_ ?_ ?_ | refine awV ?_ ?_ | refine awW ?_ ?_ | refine endK ?_ ?_ | (refine condK (fun h => ?_) (fun h => ?_) <;> (try simp only [go_sem, reduceCtorEq] at h) <;> (try (exfalso; omega))))) | fail)) <;> (try omega)
    exact rfl
  · have e1 : (x.kind = 1) = False := eq_false hk
    rw [if_pos hk]
    (repeat' (first
    | exact trivial
    | (with_reducible first | refine awA ?_ | refine awB ?_ | refine awC ?_ | refine awD ?_ | refine awE ?_ | refine awF ?_ | refine awG ?_ | refine awH ?_ | refine awI ?_ | refine awJ ?_ | refine awK ?_ | refine awL ?_ | refine awM (by decide) ?_)
    | (refine aw_draw (id := 19) (t := (.node [0, 1, 2, 3, 4, 5, 6, 7, 8, 9, 10, 11, 12, 13, 14, 15, 16] [])) (drR [2, 3] [] []) mixed (by kernel_rfl) (by kernel_rfl) (fun _ _ h => h) ?_)
    | (refine at_done (by simp only [List.filterMap_cons, List.filterMap_nil, List.getElem?_toArray, List.getElem?_cons_zero, List.getElem?_cons_succ]; exact rfl) ?_) | (refine at_alt (by simp only [List.filterMap_cons, List.filterMap_nil, List.getElem?_toArray, List.getElem?_cons_zero, List.getElem?_cons_succ]; exact rfl) ?_) | refine qalt_normal ?_ | refine ats_cons ?_ ?_ | exact ats_nil
    | ((with_reducible first | refine awN (tyOf_ok _) [] ?_ | refine awO (tyOf_ok _) [] ?_ | refine awP (tyOf_ok _) [] ?_ | refine awQ ?_ | refine awR ?_ | refine awS ?_); intro r hr; simp only [go_sem, Nat.reduceBEq, Nat.reduceBneDiff, Nat.reduceLT, Nat.reduceLeDiff, Nat.reduceAdd, Nat.reduceMul, Nat.reduceSub, Nat.reduceEqDiff, reduceCtorEq, encPs_len, k1, k2, k3, k4, k5, k6, k7, k8, e1] at hr; subst hr; (first | refine caB 60 (vI 0) ?_ ?_ ?_ | refine awV ?_ ?_ | refine awW ?_ ?_ | refine endK ?_ ?_ | (refine condK (fun h => ?_) (fun h => ?_) <;> (try simp only [go_sem, reduceCtorEq] at h) <;> (try (exfalso; omega))))) | fail)) <;> (try omega)
    exact rfl
theorem fits6 (t : TypeM) (k : Nat) (hr : rightOK t k = true) (x : NodeM) (hx : nodeOK x) (h1 : t.kind = 6) :
    PCall Tryd.prog 59 [.agg [vI t.kind, vI t.n, vI t.elem, .lst 3 (encPs t.parts)], .agg [vI x.kind, .v (.int .u64 x.n), vI x.kids]] (fun r => r = vI (fitsF t x)) := by
  refine go_fn (tyOf_ok _) Tryd.func59 rfl rfl (by rw [Tryd.results59]) Tryd.ntmps59 rfl fun E => ?_
  have k1 : (t.kind = 1) = False := eq_false (by omega)
  have k2 : (t.kind = 2) = False := eq_false (by omega)
  have k3 : (t.kind = 3) = False := eq_false (by omega)
  have k4 : (t.kind = 4) = False := eq_false (by omega)
  have k5 : (t.kind = 5) = False := eq_false (by omega)
  have k6 : (t.kind = 6) = True := eq_true h1
  have k7 : (t.kind = 7) = False := eq_false (by omega)
  have k8 : (t.kind = 8) = False := eq_false (by omega)
  have hkn : nkOf t.kind = 5 := by unfold nkOf; rw [h1]; decide
  unfold fitsF
  rw [hkn]
  by_cases hk : x.kind = 5
  · have e1 : (x.kind = 5) = True := eq_true hk
    rw [if_neg (by omega), if_neg (by omega)]
    rw [if_neg (by omega), if_neg (by omega)]
    (repeat' (first
    | exact trivial
    | (with_reducible first | refine awA ?_ | refine awB ?_ | refine awC ?_ | refine awD ?_ | refine awE ?_ | refine awF ?_ | refine awG ?_ | refine awH ?_ | refine awI ?_ | refine awJ ?_ | refine awK ?_ | refine awL ?_ | refine awM (by decide) ?_)
    | (refine aw_draw (id := 19) (t := (.node [0, 1, 2, 3, 4, 5, 6, 7, 8, 9, 10, 11, 12, 13, 14, 15, 16] [])) (drR [2, 3] [] []) mixed (by kernel_rfl) (by kernel_rfl) (fun _ _ h => h) ?_)
    | (refine at_done (by simp only [List.filterMap_cons, List.filterMap_nil, List.getElem?_toArray, List.getElem?_cons_zero, List.getElem?_cons_succ]; exact rfl) ?_) | (refine at_alt (by simp only [List.filterMap_cons, List.filterMap_nil, List.getElem?_toArray, List.getElem?_cons_zero, List.getElem?_cons_succ]; exact rfl) ?_) | refine qalt_normal ?_ | refine ats_cons ?_ ?_ | exact ats_nil
    | ((with_reducible first | refine awN (tyOf_ok _) [] ?_ | refine awO (tyOf_ok _) [] ?_ | refine awP (tyOf_ok _) [] ?_ | refine awQ ?_ | refine awR ?_ | refine awS ?_); intro r hr; simp only [go_sem, Nat.reduceBEq, Nat.reduceBneDiff, Nat.reduceLT, Nat.reduceLeDiff, Nat.reduceAdd, Nat.reduceMul, Nat.reduceSub, Nat.reduceEqDiff, reduceCtorEq, encPs_len, k1, k2, k3, k4, k5, k6, k7, k8, e1] at hr; subst hr; (first | refine caB 60 (vI 0) ?_ ?_ ?_ | refine awV ?_ ?_ | refine awW ?_ ?_ | refine endK ?_ ?_ | (refine condK (fun h => ?_) (fun h => ?_) <;> (try simp only [go_sem, reduceCtorEq] at h) <;> (try (exfalso; omega))))) | fail)) <;> (try omega)
    exact rfl
  · have e1 : (x.kind = 5) = False := eq_false hk
    rw [if_pos hk]
    (repeat' (first
    | exact trivial
    | (with_reducible first | refine awA ?_ | refine awB ?_ | refine awC ?_ | refine awD ?_ | refine awE ?_ | refine awF ?_ | refine awG ?_ | refine awH ?_ | refine awI ?_ | refine awJ ?_ | refine awK ?_ | refine awL ?_ | refine awM (by decide) ?_)
    | (refine aw_draw (id := 19) (t := (.node [0, 1, 2, 3, 4, 5, 6, 7, 8, 9, 10, 11, 12, 13, 14, 15, 16] [])) (drR [2, 3] [] []) mixed (by kernel_rfl) (by kernel_rfl) (fun _ _ h => h) ?_)
    | (refine at_done (by simp only [List.filterMap_cons, List.filterMap_nil, List.getElem?_toArray, List.getElem?_cons_zero, List.getElem?_cons_succ]; exact rfl) ?_) | (refine at_alt (by simp only [List.filterMap_cons, List.filterMap_nil, List.getElem?_toArray, List.getElem?_cons_zero, List.getElem?_cons_succ]; exact rfl) ?_) | refine qalt_normal ?_ | refine ats_cons ?_ ?_ | exact ats_nil
    | ((with_reducible first | refine awN (tyOf_ok _) [] ?_ | refine awO (tyOf_ok _) [] ?_ | refine awP (tyOf_ok _) [] ?_ | refine awQ ?_ | refine awR ?_ | refine awS ?_); intro r hr; simp only [go_sem, Nat.reduceBEq, Nat.reduceBneDiff, Nat.reduceLT, Nat.reduceLeDiff, Nat.reduceAdd, Nat.reduceMul, Nat.reduceSub, Nat.reduceEqDiff, reduceCtorEq, encPs_len, k1, k2, k3, k4, k5, k6, k7, k8, e1] at hr; subst hr; (first | refine caB 60 (vI 0) ?_ ?_ ?_ | refine awV ?_ ?_ | refine awW ?_ ?_ | refine endK ?_ ?_ | (refine condK (fun h => ?_) (fun h => ?_) <;> (try simp only [go_sem, reduceCtorEq] at h) <;> (try (exfalso; omega))))) | fail)) <;> (try omega)
    exact rfl
theorem fits4 (t : TypeM) (k : Nat) (hr : rightOK t k = true) (x : NodeM) (hx : nodeOK x) (h1 : t.kind = 4) :
    PCall Tryd.prog 59 [.agg [vI t.kind, vI t.n, vI t.elem, .lst 3 (encPs t.parts)], .agg [vI x.kind, .v (.int .u64 x.n), vI x.kids]] (fun r => r = vI (fitsF t x)) := by
  refine go_fn (tyOf_ok _) Tryd.func59 rfl rfl (by rw [Tryd.results59]) Tryd.ntmps59 rfl fun E => ?_
  have k1 : (t.kind = 1) = False := eq_false (by omega)
  have k2 : (t.kind = 2) = False := eq_false (by omega)
  have k3 : (t.kind = 3) = False := eq_false (by omega)
  have k4 : (t.kind = 4) = True := eq_true h1
  have k5 : (t.kind = 5) = False := eq_false (by omega)
  have k6 : (t.kind = 6) = False := eq_false (by omega)
  have k7 : (t.kind = 7) = False := eq_false (by omega)
  have k8 : (t.kind = 8) = False := eq_false (by omega)
  have hkn : nkOf t.kind = 3 := by unfold nkOf; rw [h1]; decide
  unfold fitsF
  rw [hkn]
  by_cases hk : x.kind = 3
  · have e1 : (x.kind = 3) = True := eq_true hk
    rw [if_neg (by omega), if_neg (by omega)]
    by_cases h2 : x.kids = t.n
    · have e2 : (x.kids = t.n) = True := eq_true h2
      rw [if_neg (by omega), if_neg (by omega)]
      (repeat' (first
    | exact trivial
    | (with_reducible first | refine awA ?_ | refine awB ?_ | refine awC ?_ | refine awD ?_ | refine awE ?_ | refine awF ?_ | refine awG ?_ | refine awH ?_ | refine awI ?_ | refine awJ ?_ | refine awK ?_ | refine awL ?_ | refine awM (by decide) ?_)
    | (refine aw_draw (id := 19) (t := (.node [0, 1, 2, 3, 4, 5, 6, 7, 8, 9, 10, 11, 12, 13, 14, 15, 16] [])) (drR [2, 3] [] []) mixed (by kernel_rfl) (by kernel_rfl) (fun _ _ h => h) ?_)
    | (refine at_done (by simp only [List.filterMap_cons, List.filterMap_nil, List.getElem?_toArray, List.getElem?_cons_zero, List.getElem?_cons_succ]; exact rfl) ?_) | (refine at_alt (by simp only [List.filterMap_cons, List.filterMap_nil, List.getElem?_toArray, List.getElem?_cons_zero, List.getElem?_cons_succ]; exact rfl) ?_) | refine qalt_normal ?_ | refine ats_cons ?_ ?_ | exact ats_nil
    | ((with_reducible first | refine awN (tyOf_ok _) [] ?_ | refine awO (tyOf_ok _) [] ?_ | refine awP (tyOf_ok _) [] ?_ | refine awQ ?_ | refine awR ?_ | refine awS ?_); intro r hr; simp only [go_sem, Nat.reduceBEq, Nat.reduceBneDiff, Nat.reduceLT, Nat.reduceLeDiff, Nat.reduceAdd, Nat.reduceMul, Nat.reduceSub, Nat.reduceEqDiff, reduceCtorEq, encPs_len, k1, k2, k3, k4, k5, k6, k7, k8, e1, e2] at hr; subst hr; (first | refine caB 60 (vI 0) ?_ ?_ ?_ | refine awV ?_ ?_ | refine awW ?_ ?_ | refine endK ?_ ?_ | (refine condK (fun h => ?_) (fun h => ?_) <;> (try simp only [go_sem, reduceCtorEq] at h) <;> (try (exfalso; omega))))) | fail)) <;> (try omega)
      exact rfl
    · have e2 : (x.kids = t.n) = False := eq_false h2
      rw [if_pos (by omega)]
      (repeat' (first
    | exact trivial
    | (with_reducible first | refine awA ?_ | refine awB ?_ | refine awC ?_ | refine awD ?_ | refine awE ?_ | refine awF ?_ | refine awG ?_ | refine awH ?_ | refine awI ?_ | refine awJ ?_ | refine awK ?_ | refine awL ?_ | refine awM (by decide) ?_)
    | (refine aw_draw (id := 19) (t := (.node [0, 1, 2, 3, 4, 5, 6, 7, 8, 9, 10, 11, 12, 13, 14, 15, 16] [])) (drR [2, 3] [] []) mixed (by kernel_rfl) (by kernel_rfl) (fun _ _ h => h) ?_)
    | (refine at_done (by simp only [List.filterMap_cons, List.filterMap_nil, List.getElem?_toArray, List.getElem?_cons_zero, List.getElem?_cons_succ]; exact rfl) ?_) | (refine at_alt (by simp only [List.filterMap_cons, List.filterMap_nil, List.getElem?_toArray, List.getElem?_cons_zero, List.getElem?_cons_succ]; exact rfl) ?_) | refine qalt_normal ?_ | refine ats_cons ?_ ?_ | exact ats_nil
    | ((with_reducible first | refine awN (tyOf_ok _) [] ?_ | refine awO (tyOf_ok _) [] ?_ | refine awP (tyOf_ok _) [] ?_ | refine awQ ?_ | refine awR ?_ | refine awS ?_); intro r hr; simp only [go_sem, Nat.reduceBEq, Nat.reduceBneDiff, Nat.reduceLT, Nat.reduceLeDiff, Nat.reduceAdd, Nat.reduceMul, Nat.reduceSub, Nat.reduceEqDiff, reduceCtorEq, encPs_len, k1, k2, k3, k4, k5, k6, k7, k8, e1, e2] at hr; subst hr; (first | refine caB 60 (vI 0) ?_ ?_ ?_ | refine awV ?_ ?_ | refine awW ?_ ?_ | refine endK ?_ ?_ | (refine condK (fun h => ?_) (fun h => ?_) <;> (try simp only [go_sem, reduceCtorEq] at h) <;> (try (exfalso; omega))))) | fail)) <;> (try omega)
      exact rfl
  · have e1 : (x.kind = 3) = False := eq_false hk
    rw [if_pos hk]
    (repeat' (first
    | exact trivial
    | (with_reducible first | refine awA ?_ | refine awB ?_ | refine awC ?_ | refine awD ?_ | refine awE ?_ | refine awF ?_ | refine awG ?_ | refine awH ?_ | refine awI ?_ | refine awJ ?_ | refine awK ?_ | refine awL ?_ | refine awM (by decide) ?_)
    | (refine aw_draw (id := 19) (t := (.node [0, 1, 2, 3, 4, 5, 6, 7, 8, 9, 10, 11, 12, 13, 14, 15, 16] [])) (drR [2, 3] [] []) mixed (by kernel_rfl) (by kernel_rfl) (fun _ _ h => h) ?_)
    | (refine at_done (by simp only [List.filterMap_cons, List.filterMap_nil, List.getElem?_toArray, List.getElem?_cons_zero, List.getElem?_cons_succ]; exact rfl) ?_) | (refine at_alt (by simp only [List.filterMap_cons, List.filterMap_nil, List.getElem?_toArray, List.getElem?_cons_zero, List.getElem?_cons_succ]; exact rfl) ?_) | refine qalt_normal ?_ | refine ats_cons ?_ ?_ | exact ats_nil
    | ((with_reducible first | refine awN (tyOf_ok _) [] ?_ | refine awO (tyOf_ok _) [] ?_ | refine awP (tyOf_ok _) [] ?_ | refine awQ ?_ | refine awR ?_ | refine awS ?_); intro r hr; simp only [go_sem, Nat.reduceBEq, Nat.reduceBneDiff, Nat.reduceLT, Nat.reduceLeDiff, Nat.reduceAdd, Nat.reduceMul, Nat.reduceSub, Nat.reduceEqDiff, reduceCtorEq, encPs_len, k1, k2, k3, k4, k5, k6, k7, k8, e1] at hr; subst hr; (first | refine caB 60 (vI 0) ?_ ?_ ?_ | refine awV ?_ ?_ | refine awW ?_ ?_ | refine endK ?_ ?_ | (refine condK (fun h => ?_) (fun h => ?_) <;> (try simp only [go_sem, reduceCtorEq] at h) <;> (try (exfalso; omega))))) | fail)) <;> (try omega)
    exact rfl
theorem fits8 (t : TypeM) (k : Nat) (hr : rightOK t k = true) (x : NodeM) (hx : nodeOK x) (h1 : t.kind = 8) :
    PCall Tryd.prog 59 [.agg [vI t.kind, vI t.n, vI t.elem, .lst 3 (encPs t.parts)], .agg [vI x.kind, .v (.int .u64 x.n), vI x.kids]] (fun r => r = vI (fitsF t x)) := by
  refine go_fn (tyOf_ok _) Tryd.func59 rfl rfl (by rw [Tryd.results59]) Tryd.ntmps59 rfl fun E => ?_
  have k1 : (t.kind = 1) = False := eq_false (by omega)
  have k2 : (t.kind = 2) = False := eq_false (by omega)
  have k3 : (t.kind = 3) = False := eq_false (by omega)
  have k4 : (t.kind = 4) = False := eq_false (by omega)
  have k5 : (t.kind = 5) = False := eq_false (by omega)
  have k6 : (t.kind = 6) = False := eq_false (by omega)
  have k7 : (t.kind = 7) = False := eq_false (by omega)
  have k8 : (t.kind = 8) = True := eq_true h1
  have hkn : nkOf t.kind = 4 := by unfold nkOf; rw [h1]; decide
  unfold fitsF
  rw [hkn]
  by_cases hk : x.kind = 4
  · have e1 : (x.kind = 4) = True := eq_true hk
    rw [if_neg (by omega), if_neg (by omega)]
    by_cases h2 : x.kids = (t.parts.length : Int)
    · have e2 : (x.kids = (t.parts.length : Int)) = True := eq_true h2
      rw [if_neg (by omega), if_neg (by omega)]
      (repeat' (first
    | exact trivial
    | (with_reducible first | refine awA ?_ | refine awB ?_ | refine awC ?_ | refine awD ?_ | refine awE ?_ | refine awF ?_ | refine awG ?_ | refine awH ?_ | refine awI ?_ | refine awJ ?_ | refine awK ?_ | refine awL ?_ | refine awM (by decide) ?_)
    | (refine aw_draw (id := 19) (t := (.node [0, 1, 2, 3, 4, 5, 6, 7, 8, 9, 10, 11, 12, 13, 14, 15, 16] [])) (drR [2, 3] [] []) mixed (by kernel_rfl) (by kernel_rfl) (fun _ _ h => h) ?_)
    | (refine at_done (by simp only [List.filterMap_cons, List.filterMap_nil, List.getElem?_toArray, List.getElem?_cons_zero, List.getElem?_cons_succ]; exact rfl) ?_) | (refine at_alt (by simp only [List.filterMap_cons, List.filterMap_nil, List.getElem?_toArray, List.getElem?_cons_zero, List.getElem?_cons_succ]; exact rfl) ?_) | refine qalt_normal ?_ | refine ats_cons ?_ ?_ | exact ats_nil
    | ((with_reducible first | refine awN (tyOf_ok _) [] ?_ | refine awO (tyOf_ok _) [] ?_ | refine awP (tyOf_ok _) [] ?_ | refine awQ ?_ | refine awR ?_ | refine awS ?_); intro r hr; simp only [go_sem, Nat.reduceBEq, Nat.reduceBneDiff, Nat.reduceLT, Nat.reduceLeDiff, Nat.reduceAdd, Nat.reduceMul, Nat.reduceSub, Nat.reduceEqDiff, reduceCtorEq, encPs_len, k1, k2, k3, k4, k5, k6, k7, k8, e1, e2] at hr; subst hr; (first | refine caB 60 (vI 0) ?_ ?_ ?_ | refine awV ?_ ?_ | refine awW ?_ ?_ | refine endK ?_ ?_ | (refine condK (fun h => ?_) (fun h => ?_) <;> (try simp only [go_sem, reduceCtorEq] at h) <;> (try (exfalso; omega))))) | fail)) <;> (try omega)
      exact rfl
    · have e2 : (x.kids = (t.parts.length : Int)) = False := eq_false h2
      rw [if_pos (by omega)]
      (repeat' (first
    | exact trivial
    | (with_reducible first | refine awA ?_ | refine awB ?_ | refine awC ?_ | refine awD ?_ | refine awE ?_ | refine awF ?_ | refine awG ?_ | refine awH ?_ | refine awI ?_ | refine awJ ?_ | refine awK ?_ | refine awL ?_ | refine awM (by decide) ?_)
    | (refine aw_draw (id := 19) (t := (.node [0, 1, 2, 3, 4, 5, 6, 7, 8, 9, 10, 11, 12, 13, 14, 15, 16] [])) (drR [2, 3] [] []) mixed (by kernel_rfl) (by kernel_rfl) (fun _ _ h => h) ?_)
    | (refine at_done (by simp only [List.filterMap_cons, List.filterMap_nil, List.getElem?_toArray, List.getElem?_cons_zero, List.getElem?_cons_succ]; exact rfl) ?_) | (refine at_alt (by simp only [List.filterMap_cons, List.filterMap_nil, List.getElem?_toArray, List.getElem?_cons_zero, List.getElem?_cons_succ]; exact rfl) ?_) | refine qalt_normal ?_ | refine ats_cons ?_ ?_ | exact ats_nil
    | ((with_reducible first | refine awN (tyOf_ok _) [] ?_ | refine awO (tyOf_ok _) [] ?_ | refine awP (tyOf_ok _) [] ?_ | refine awQ ?_ | refine awR ?_ | refine awS ?_); intro r hr; simp only [go_sem, Nat.reduceBEq, Nat.reduceBneDiff, Nat.reduceLT, Nat.reduceLeDiff, Nat.reduceAdd, Nat.reduceMul, Nat.reduceSub, Nat.reduceEqDiff, reduceCtorEq, encPs_len, k1, k2, k3, k4, k5, k6, k7, k8, e1, e2] at hr; subst hr; (first | refine caB 60 (vI 0) ?_ ?_ ?_ | refine awV ?_ ?_ | refine awW ?_ ?_ | refine endK ?_ ?_ | (refine condK (fun h => ?_) (fun h => ?_) <;> (try simp only [go_sem, reduceCtorEq] at h) <;> (try (exfalso; omega))))) | fail)) <;> (try omega)
      exact rfl
  · have e1 : (x.kind = 4) = False := eq_false hk
    rw [if_pos hk]
    (repeat' (first
    | exact trivial
    | (with_reducible first | refine awA ?_ | refine awB ?_ | refine awC ?_ | refine awD ?_ | refine awE ?_ | refine awF ?_ | refine awG ?_ | refine awH ?_ | refine awI ?_ | refine awJ ?_ | refine awK ?_ | refine awL ?_ | refine awM (by decide) ?_)
    | (refine aw_draw (id := 19) (t := (.node [0, 1, 2, 3, 4, 5, 6, 7, 8, 9, 10, 11, 12, 13, 14, 15, 16] [])) (drR [2, 3] [] []) mixed (by kernel_rfl) (by kernel_rfl) (fun _ _ h => h) ?_)
    | (refine at_done (by simp only [List.filterMap_cons, List.filterMap_nil, List.getElem?_toArray, List.getElem?_cons_zero, List.getElem?_cons_succ]; exact rfl) ?_) | (refine at_alt (by simp only [List.filterMap_cons, List.filterMap_nil, List.getElem?_toArray, List.getElem?_cons_zero, List.getElem?_cons_succ]; exact rfl) ?_) | refine qalt_normal ?_ | refine ats_cons ?_ ?_ | exact ats_nil
    | ((with_reducible first | refine awN (tyOf_ok _) [] ?_ | refine awO (tyOf_ok _) [] ?_ | refine awP (tyOf_ok _) [] ?_ | refine awQ ?_ | refine awR ?_ | refine awS ?_); intro r hr; simp only [go_sem, Nat.reduceBEq, Nat.reduceBneDiff, Nat.reduceLT, Nat.reduceLeDiff, Nat.reduceAdd, Nat.reduceMul, Nat.reduceSub, Nat.reduceEqDiff, reduceCtorEq, encPs_len, k1, k2, k3, k4, k5, k6, k7, k8, e1] at hr; subst hr; (first | refine caB 60 (vI 0) ?_ ?_ ?_ | refine awV ?_ ?_ | refine awW ?_ ?_ | refine endK ?_ ?_ | (refine condK (fun h => ?_) (fun h => ?_) <;> (try simp only [go_sem, reduceCtorEq] at h) <;> (try (exfalso; omega))))) | fail)) <;> (try omega)
    exact rfl
theorem fits5 (t : TypeM) (k : Nat) (hr : rightOK t k = true) (x : NodeM) (hx : nodeOK x) (h1 : t.kind = 5) :
    PCall Tryd.prog 59 [.agg [vI t.kind, vI t.n, vI t.elem, .lst 3 (encPs t.parts)], .agg [vI x.kind, .v (.int .u64 x.n), vI x.kids]] (fun r => r = vI (fitsF t x)) := by
  refine go_fn (tyOf_ok _) Tryd.func59 rfl rfl (by rw [Tryd.results59]) Tryd.ntmps59 rfl fun E => ?_
  have k1 : (t.kind = 1) = False := eq_false (by omega)
  have k2 : (t.kind = 2) = False := eq_false (by omega)
  have k3 : (t.kind = 3) = False := eq_false (by omega)
  have k4 : (t.kind = 4) = False := eq_false (by omega)
  have k5 : (t.kind = 5) = True := eq_true h1
  have k6 : (t.kind = 6) = False := eq_false (by omega)
  have k7 : (t.kind = 7) = False := eq_false (by omega)
  have k8 : (t.kind = 8) = False := eq_false (by omega)
  have hkn : nkOf t.kind = 3 := by unfold nkOf; rw [h1]; decide
  unfold fitsF
  rw [hkn]
  by_cases hk : x.kind = 3
  · have e1 : (x.kind = 3) = True := eq_true hk
    rw [if_neg (by omega), if_neg (by omega)]
    by_cases h2 : t.n < x.kids
    · have e2 : (t.n < x.kids) = True := eq_true h2
      rw [if_pos (by omega)]
      (repeat' (first
    | exact trivial
    | (with_reducible first | refine awA ?_ | refine awB ?_ | refine awC ?_ | refine awD ?_ | refine awE ?_ | refine awF ?_ | refine awG ?_ | refine awH ?_ | refine awI ?_ | refine awJ ?_ | refine awK ?_ | refine awL ?_ | refine awM (by decide) ?_)
    | (refine aw_draw (id := 19) (t := (.node [0, 1, 2, 3, 4, 5, 6, 7, 8, 9, 10, 11, 12, 13, 14, 15, 16] [])) (drR [2, 3] [] []) mixed (by kernel_rfl) (by kernel_rfl) (fun _ _ h => h) ?_)
    | (refine at_done (by simp only [List.filterMap_cons, List.filterMap_nil, List.getElem?_toArray, List.getElem?_cons_zero, List.getElem?_cons_succ]; exact rfl) ?_) | (refine at_alt (by simp only [List.filterMap_cons, List.filterMap_nil, List.getElem?_toArray, List.getElem?_cons_zero, List.getElem?_cons_succ]; exact rfl) ?_) | refine qalt_normal ?_ | refine ats_cons ?_ ?_ | exact ats_nil
    | ((with_reducible first | refine awN (tyOf_ok _) [] ?_ | refine awO (tyOf_ok _) [] ?_ | refine awP (tyOf_ok _) [] ?_ | refine awQ ?_ | refine awR ?_ | refine awS ?_); intro r hr; simp only [go_sem, Nat.reduceBEq, Nat.reduceBneDiff, Nat.reduceLT, Nat.reduceLeDiff, Nat.reduceAdd, Nat.reduceMul, Nat.reduceSub, Nat.reduceEqDiff, reduceCtorEq, encPs_len, k1, k2, k3, k4, k5, k6, k7, k8, e1, e2] at hr; subst hr; (first | refine caB 60 (vI 0) ?_ ?_ ?_ | refine awV ?_ ?_ | refine awW ?_ ?_ | refine endK ?_ ?_ | (refine condK (fun h => ?_) (fun h => ?_) <;> (try simp only [go_sem, reduceCtorEq] at h) <;> (try (exfalso; omega))))) | fail)) <;> (try omega)
      exact rfl
    · have e2 : (t.n < x.kids) = False := eq_false h2
      rw [if_neg (by omega), if_neg (by omega)]
      (repeat' (first
    | exact trivial
    | (with_reducible first | refine awA ?_ | refine awB ?_ | refine awC ?_ | refine awD ?_ | refine awE ?_ | refine awF ?_ | refine awG ?_ | refine awH ?_ | refine awI ?_ | refine awJ ?_ | refine awK ?_ | refine awL ?_ | refine awM (by decide) ?_)
    | (refine aw_draw (id := 19) (t := (.node [0, 1, 2, 3, 4, 5, 6, 7, 8, 9, 10, 11, 12, 13, 14, 15, 16] [])) (drR [2, 3] [] []) mixed (by kernel_rfl) (by kernel_rfl) (fun _ _ h => h) ?_)
    | (refine at_done (by simp only [List.filterMap_cons, List.filterMap_nil, List.getElem?_toArray, List.getElem?_cons_zero, List.getElem?_cons_succ]; exact rfl) ?_) | (refine at_alt (by simp only [List.filterMap_cons, List.filterMap_nil, List.getElem?_toArray, List.getElem?_cons_zero, List.getElem?_cons_succ]; exact rfl) ?_) | refine qalt_normal ?_ | refine ats_cons ?_ ?_ | exact ats_nil
    | ((with_reducible first | refine awN (tyOf_ok _) [] ?_ | refine awO (tyOf_ok _) [] ?_ | refine awP (tyOf_ok _) [] ?_ | refine awQ ?_ | refine awR ?_ | refine awS ?_); intro r hr; simp only [go_sem, Nat.reduceBEq, Nat.reduceBneDiff, Nat.reduceLT, Nat.reduceLeDiff, Nat.reduceAdd, Nat.reduceMul, Nat.reduceSub, Nat.reduceEqDiff, reduceCtorEq, encPs_len, k1, k2, k3, k4, k5, k6, k7, k8, e1, e2] at hr; subst hr; (first | refine caB 60 (vI 0) ?_ ?_ ?_ | refine awV ?_ ?_ | refine awW ?_ ?_ | refine endK ?_ ?_ | (refine condK (fun h => ?_) (fun h => ?_) <;> (try simp only [go_sem, reduceCtorEq] at h) <;> (try (exfalso; omega))))) | fail)) <;> (try omega)
      exact rfl
  · have e1 : (x.kind = 3) = False := eq_false hk
    rw [if_pos hk]
    (repeat' (first
    | exact trivial
    | (with_reducible first | refine awA ?_ | refine awB ?_ | refine awC ?_ | refine awD ?_ | refine awE ?_ | refine awF ?_ | refine awG ?_ | refine awH ?_ | refine awI ?_ | refine awJ ?_ | refine awK ?_ | refine awL ?_ | refine awM (by decide) ?_)
    | (refine aw_draw (id := 19) (t := (.node [0, 1, 2, 3, 4, 5, 6, 7, 8, 9, 10, 11, 12, 13, 14, 15, 16] [])) (drR [2, 3] [] []) mixed (by kernel_rfl) (by kernel_rfl) (fun _ _ h => h) ?_)
    | (refine at_done (by simp only [List.filterMap_cons, List.filterMap_nil, List.getElem?_toArray, List.getElem?_cons_zero, List.getElem?_cons_succ]; exact rfl) ?_) | (refine at_alt (by simp only [List.filterMap_cons, List.filterMap_nil, List.getElem?_toArray, List.getElem?_cons_zero, List.getElem?_cons_succ]; exact rfl) ?_) | refine qalt_normal ?_ | refine ats_cons ?_ ?_ | exact ats_nil
    | ((with_reducible first | refine awN (tyOf_ok _) [] ?_ | refine awO (tyOf_ok _) [] ?_ | refine awP (tyOf_ok _) [] ?_ | refine awQ ?_ | refine awR ?_ | refine awS ?_); intro r hr; simp only [go_sem, Nat.reduceBEq, Nat.reduceBneDiff, Nat.reduceLT, Nat.reduceLeDiff, Nat.reduceAdd, Nat.reduceMul, Nat.reduceSub, Nat.reduceEqDiff, reduceCtorEq, encPs_len, k1, k2, k3, k4, k5, k6, k7, k8, e1] at hr; subst hr; (first | refine caB 60 (vI 0) ?_ ?_ ?_ | refine awV ?_ ?_ | refine awW ?_ ?_ | refine endK ?_ ?_ | (refine condK (fun h => ?_) (fun h => ?_) <;> (try simp only [go_sem, reduceCtorEq] at h) <;> (try (exfalso; omega))))) | fail)) <;> (try omega)
    exact rfl
theorem fits7 (t : TypeM) (k : Nat) (hr : rightOK t k = true) (x : NodeM) (hx : nodeOK x) (h1 : t.kind = 7) :
    PCall Tryd.prog 59 [.agg [vI t.kind, vI t.n, vI t.elem, .lst 3 (encPs t.parts)], .agg [vI x.kind, .v (.int .u64 x.n), vI x.kids]] (fun r => r = vI (fitsF t x)) := by
  refine go_fn (tyOf_ok _) Tryd.func59 rfl rfl (by rw [Tryd.results59]) Tryd.ntmps59 rfl fun E => ?_
  have k1 : (t.kind = 1) = False := eq_false (by omega)
  have k2 : (t.kind = 2) = False := eq_false (by omega)
  have k3 : (t.kind = 3) = False := eq_false (by omega)
  have k4 : (t.kind = 4) = False := eq_false (by omega)
  have k5 : (t.kind = 5) = False := eq_false (by omega)
  have k6 : (t.kind = 6) = False := eq_false (by omega)
  have k7 : (t.kind = 7) = True := eq_true h1
  have k8 : (t.kind = 8) = False := eq_false (by omega)
  have hkn : nkOf t.kind = 6 := by unfold nkOf; rw [h1]; decide
  unfold fitsF
  rw [hkn]
  by_cases hk : x.kind = 6
  · have e1 : (x.kind = 6) = True := eq_true hk
    rw [if_neg (by omega), if_neg (by omega)]
    have hp := right_parts hr (.inl h1)
    have hE := Elem_any t (by omega) (fun p hp => by have := right_tag hr h1 p hp; unfold I64; omega) x hx.2.2 0 (fun h => by omega)
    rw [if_neg (by omega)]
    cases ha : armOf t.parts x.n with
    | none =>
      have hel : elemF t x.n 0 = -1 := by unfold elemF; rw [if_neg (by omega), if_neg (by omega), if_pos h1, ha]
      rw [hel] at hE
      rw [if_pos ⟨h1, rfl⟩]
      (repeat' (first
    | exact trivial
    | (with_reducible first | refine awA ?_ | refine awB ?_ | refine awC ?_ | refine awD ?_ | refine awE ?_ | refine awF ?_ | refine awG ?_ | refine awH ?_ | refine awI ?_ | refine awJ ?_ | refine awK ?_ | refine awL ?_ | refine awM (by decide) ?_)
    | (refine aw_draw (id := 19) (t := (.node [0, 1, 2, 3, 4, 5, 6, 7, 8, 9, 10, 11, 12, 13, 14, 15, 16] [])) (drR [2, 3] [] []) mixed (by kernel_rfl) (by kernel_rfl) (fun _ _ h => h) ?_)
    | (refine at_done (by simp only [List.filterMap_cons, List.filterMap_nil, List.getElem?_toArray, List.getElem?_cons_zero, List.getElem?_cons_succ]; exact rfl) ?_) | (refine at_alt (by simp only [List.filterMap_cons, List.filterMap_nil, List.getElem?_toArray, List.getElem?_cons_zero, List.getElem?_cons_succ]; exact rfl) ?_) | refine qalt_normal ?_ | refine ats_cons ?_ ?_ | exact ats_nil
    | ((with_reducible first | refine awN (tyOf_ok _) [] ?_ | refine awO (tyOf_ok _) [] ?_ | refine awP (tyOf_ok _) [] ?_ | refine awQ ?_ | refine awR ?_ | refine awS ?_); intro r hr; simp only [go_sem, Nat.reduceBEq, Nat.reduceBneDiff, Nat.reduceLT, Nat.reduceLeDiff, Nat.reduceAdd, Nat.reduceMul, Nat.reduceSub, Nat.reduceEqDiff, reduceCtorEq, encPs_len, k1, k2, k3, k4, k5, k6, k7, k8, e1] at hr; subst hr; (first | refine caA (fun _ => hE) rfl ?_ ?_ ?_ | refine awV ?_ ?_ | refine awW ?_ ?_ | refine endK ?_ ?_ | (refine condK (fun h => ?_) (fun h => ?_) <;> (try simp only [go_sem, reduceCtorEq] at h) <;> (try (exfalso; omega))))) | fail)) <;> (try omega)
      exact rfl
    | some p =>
      have hel : elemF t x.n 0 = p.ty := by unfold elemF; rw [if_neg (by omega), if_neg (by omega), if_pos h1, ha]
      rw [hel] at hE
      rw [if_neg (by rintro ⟨_, h⟩; cases h)]
      have hty := (rightOK_ty hr).2 p (List.mem_of_find?_eq_some ha)
      have e2 : (p.ty < 0) = False := eq_false (by omega)
      (repeat' (first
    | exact trivial
    | (with_reducible first | refine awA ?_ | refine awB ?_ | refine awC ?_ | refine awD ?_ | refine awE ?_ | refine awF ?_ | refine awG ?_ | refine awH ?_ | refine awI ?_ | refine awJ ?_ | refine awK ?_ | refine awL ?_ | refine awM (by decide) ?_)
    | (refine aw_draw (id := 19) (t := (.node [0, 1, 2, 3, 4, 5, 6, 7, 8, 9, 10, 11, 12, 13, 14, 15, 16] [])) (drR [2, 3] [] []) mixed (by kernel_rfl) (by kernel_rfl) (fun _ _ h => h) ?_)
    | (refine at_done (by simp only [List.filterMap_cons, List.filterMap_nil, List.getElem?_toArray, List.getElem?_cons_zero, List.getElem?_cons_succ]; exact rfl) ?_) | (refine at_alt (by simp only [List.filterMap_cons, List.filterMap_nil, List.getElem?_toArray, List.getElem?_cons_zero, List.getElem?_cons_succ]; exact rfl) ?_) | refine qalt_normal ?_ | refine ats_cons ?_ ?_ | exact ats_nil
    | ((with_reducible first | refine awN (tyOf_ok _) [] ?_ | refine awO (tyOf_ok _) [] ?_ | refine awP (tyOf_ok _) [] ?_ | refine awQ ?_ | refine awR ?_ | refine awS ?_); intro r hr; simp only [go_sem, Nat.reduceBEq, Nat.reduceBneDiff, Nat.reduceLT, Nat.reduceLeDiff, Nat.reduceAdd, Nat.reduceMul, Nat.reduceSub, Nat.reduceEqDiff, reduceCtorEq, encPs_len, k1, k2, k3, k4, k5, k6, k7, k8, e1, e2] at hr; subst hr; (first | refine caA (fun _ => hE) rfl ?_ ?_ ?_ | refine awV ?_ ?_ | refine awW ?_ ?_ | refine endK ?_ ?_ | (refine condK (fun h => ?_) (fun h => ?_) <;> (try simp only [go_sem, reduceCtorEq] at h) <;> (try (exfalso; omega))))) | fail)) <;> (try omega)
      exact rfl
  · have e1 : (x.kind = 6) = False := eq_false hk
    rw [if_pos hk]
    (repeat' (first
    | exact trivial
    | (with_reducible first | refine awA ?_ | refine awB ?_ | refine awC ?_ | refine awD ?_ | refine awE ?_ | refine awF ?_ | refine awG ?_ | refine awH ?_ | refine awI ?_ | refine awJ ?_ | refine awK ?_ | refine awL ?_ | refine awM (by decide) ?_)
    | (refine aw_draw (id := 19) (t := (.node [0, 1, 2, 3, 4, 5, 6, 7, 8, 9, 10, 11, 12, 13, 14, 15, 16] [])) (drR [2, 3] [] []) mixed (by kernel_rfl) (by kernel_rfl) (fun _ _ h => h) ?_)
    | (refine at_done (by simp only [List.filterMap_cons, List.filterMap_nil, List.getElem?_toArray, List.getElem?_cons_zero, List.getElem?_cons_succ]; exact rfl) ?_) | (refine at_alt (by simp only [List.filterMap_cons, List.filterMap_nil, List.getElem?_toArray, List.getElem?_cons_zero, List.getElem?_cons_succ]; exact rfl) ?_) | refine qalt_normal ?_ | refine ats_cons ?_ ?_ | exact ats_nil
    | ((with_reducible first | refine awN (tyOf_ok _) [] ?_ | refine awO (tyOf_ok _) [] ?_ | refine awP (tyOf_ok _) [] ?_ | refine awQ ?_ | refine awR ?_ | refine awS ?_); intro r hr; simp only [go_sem, Nat.reduceBEq, Nat.reduceBneDiff, Nat.reduceLT, Nat.reduceLeDiff, Nat.reduceAdd, Nat.reduceMul, Nat.reduceSub, Nat.reduceEqDiff, reduceCtorEq, encPs_len, k1, k2, k3, k4, k5, k6, k7, k8, e1] at hr; subst hr; (first | refine caB 60 (vI 0) ?_ ?_ ?_ | refine awV ?_ ?_ | refine awW ?_ ?_ | refine endK ?_ ?_ | (refine condK (fun h => ?_) (fun h => ?_) <;> (try simp only [go_sem, reduceCtorEq] at h) <;> (try (exfalso; omega))))) | fail)) <;> (try omega)
    exact rfl
theorem Fits_ok (t : TypeM) (k : Nat) (hr : rightOK t k = true) (x : NodeM) (hx : nodeOK x) :
    PCall Tryd.prog 59 [.agg [vI t.kind, vI t.n, vI t.elem, .lst 3 (encPs t.parts)], .agg [vI x.kind, .v (.int .u64 x.n), vI x.kids]] (fun r => r = vI (fitsF t x)) := by
  rcases rightOK_kind hr with h | h | h
  · rcases h with h | h | h
    · exact fits1 t k hr x hx h
    · exact fits2 t k hr x hx h
    · exact fits3 t k hr x hx h
  · rcases h with h | h | h
    · exact fits4 t k hr x hx h
    · exact fits5 t k hr x hx h
    · exact fits6 t k hr x hx h
  · rcases h with h | h
    · exact fits7 t k hr x hx h
    · exact fits8 t k hr x hx h
end Go.Proofs.YtfgacgpicfknpaaDoor
end
section
namespace Go.Proofs.YtfgacgpicfknpaaDoor
open Go.RowKit
set_option maxRecDepth 100000
set_option maxHeartbeats 8000000
/-! Values as trees; what chapter 4 says of nodes. -/
inductive Tr where
  | node (x : NodeM) (ks : List Tr)
def Tr.flat : Tr → List NodeM
  | .node x ks => x :: flatL ks
where flatL : List Tr → List NodeM
  | [] => []
  | c :: cs => c.flat ++ flatL cs
def numberN (kind n : Int) : Bool := if kind = 1 then true else if kind = 2 then decide (n ≤ 1) else if kind = 6 then decide (n ≤ 255) else decide (n = 0) && (decide (kind = 3) || decide (kind = 4) || decide (kind = 5))
def rightN (x : NodeM) : Bool := numberN x.kind x.n &&
  if x.kind = 3 then decide (0 ≤ x.kids) && decide (x.kids ≤ 1048576) else if x.kind = 4 then decide (1 ≤ x.kids) && decide (x.kids ≤ 64) else if x.kind = 5 then decide (x.kids = 0) || decide (x.kids = 1) else if x.kind = 6 then decide (x.kids = 1) else decide (x.kids = 0)
def chkL : List NodeM → Int → Int → Int × Int
  | [], want, i => if 0 < want then (40, i) else (0, 0)
  | x :: l, want, i => if want = 0 ∨ rightN x = false then (40, i) else chkL l (want - 1 + x.kids) (i + 1)
def chkN (l : List NodeM) : Int × Int := chkL l 1 0
theorem rightN_kids {x : NodeM} (h : rightN x = true) : 0 ≤ x.kids ∧ x.kids ≤ 1048576 := by
  rw [rightN, Bool.and_eq_true] at h
  obtain ⟨_, h⟩ := h
  split at h
  · simp only [Bool.and_eq_true, decide_eq_true_eq] at h; exact h
  · split at h
    · simp only [Bool.and_eq_true, decide_eq_true_eq] at h; omega
    · split at h
      · simp only [Bool.or_eq_true, decide_eq_true_eq] at h; omega
      · split at h <;> simp only [decide_eq_true_eq] at h <;> omega
theorem Number_any (kind n : Int) : PCall Tryd.prog 53 [vI kind, .v (.int .u64 n)] (fun r => r = vB (numberN kind n)) := by
  refine go_fn (tyOf_ok _) Tryd.func53 rfl rfl (by rw [Tryd.results53]) Tryd.ntmps53 rfl fun E => ?_
  (repeat' (first
    | exact trivial
    | (with_reducible first | refine awA ?_ | refine awB ?_ | refine awC ?_ | refine awD ?_ | refine awE ?_ | refine awF ?_ | refine awG ?_ | refine awH ?_ | refine awI ?_ | refine awJ ?_ | refine awK ?_ | refine awL ?_ | refine awM (by decide) ?_)
    | ((with_reducible first | refine awN (tyOf_ok _) [] ?_ | refine awO (tyOf_ok _) [] ?_ | refine awP (tyOf_ok _) [] ?_ | refine awQ ?_ | refine awR ?_ | refine awS ?_); intro r hr; simp only [go_sem, Nat.reduceBEq, Nat.reduceBneDiff, Nat.reduceLT, Nat.reduceLeDiff, Nat.reduceAdd, Nat.reduceMul, Nat.reduceSub, Nat.reduceEqDiff, reduceCtorEq] at hr; subst hr; (first | refine awV ?_ ?_ | refine awW ?_ ?_ | refine endK ?_ ?_ | (refine condK (fun h => ?_) (fun h => ?_) <;> (try simp only [go_sem, reduceCtorEq] at h) <;> (try (exfalso; omega))))) | fail)) <;> (try omega)
  all_goals first
    | exact congrArg (fun b => AV.v (.bool b)) (by simp [numberN, *])
    | exact congrArg (fun b => AV.v (.bool b)) (by rw [numberN, if_neg ‹_›, if_neg ‹_›, if_neg ‹_›, Bool.or_assoc])
    | exact ⟨fun h => ⟨h, fun h2 => by rw [h, h2]; rfl⟩, fun h => ⟨h, fun h2 => by rw [h, h2]; rfl⟩⟩
theorem Right_any (x : NodeM) : PCall Tryd.prog 41 [.agg [vI x.kind, .v (.int .u64 x.n), vI x.kids]] (fun r => r = vB (rightN x)) := by
  refine go_fn (tyOf_ok _) Tryd.func41 rfl rfl (by rw [Tryd.results41]) Tryd.ntmps41 rfl fun E => ?_
  have hn := Number_any x.kind x.n
  by_cases h : numberN x.kind x.n = true
  · (repeat' (first
    | exact trivial
    | (with_reducible first | refine awA ?_ | refine awB ?_ | refine awC ?_ | refine awD ?_ | refine awE ?_ | refine awF ?_ | refine awG ?_ | refine awH ?_ | refine awI ?_ | refine awJ ?_ | refine awK ?_ | refine awL ?_ | refine awM (by decide) ?_)
    | ((with_reducible first | refine awN (tyOf_ok _) [] ?_ | refine awO (tyOf_ok _) [] ?_ | refine awP (tyOf_ok _) [] ?_ | refine awQ ?_ | refine awR ?_ | refine awS ?_); intro r hr; simp only [go_sem, Nat.reduceBEq, Nat.reduceBneDiff, Nat.reduceLT, Nat.reduceLeDiff, Nat.reduceAdd, Nat.reduceMul, Nat.reduceSub, Nat.reduceEqDiff, reduceCtorEq, h] at hr; subst hr; (first | refine caA (fun _ => hn) rfl ?_ ?_ ?_ | refine awV ?_ ?_ | refine awW ?_ ?_ | refine endK ?_ ?_ | (refine condK (fun h => ?_) (fun h => ?_) <;> (try simp only [go_sem, reduceCtorEq] at h) <;> (try (exfalso; omega))))) | fail)) <;> (try omega)
    all_goals exact congrArg (fun b => AV.v (.bool b)) (by rw [rightN, ‹numberN x.kind x.n = true›, Bool.true_and]; simp [*])
  · have e0 : numberN x.kind x.n = false := by simpa using h
    (repeat' (first
    | exact trivial
    | (with_reducible first | refine awA ?_ | refine awB ?_ | refine awC ?_ | refine awD ?_ | refine awE ?_ | refine awF ?_ | refine awG ?_ | refine awH ?_ | refine awI ?_ | refine awJ ?_ | refine awK ?_ | refine awL ?_ | refine awM (by decide) ?_)
    | ((with_reducible first | refine awN (tyOf_ok _) [] ?_ | refine awO (tyOf_ok _) [] ?_ | refine awP (tyOf_ok _) [] ?_ | refine awQ ?_ | refine awR ?_ | refine awS ?_); intro r hr; simp only [go_sem, Nat.reduceBEq, Nat.reduceBneDiff, Nat.reduceLT, Nat.reduceLeDiff, Nat.reduceAdd, Nat.reduceMul, Nat.reduceSub, Nat.reduceEqDiff, reduceCtorEq, e0] at hr; subst hr; (first | refine caA (fun _ => hn) rfl ?_ ?_ ?_ | refine awV ?_ ?_ | refine awW ?_ ?_ | refine endK ?_ ?_ | (refine condK (fun h => ?_) (fun h => ?_) <;> (try simp only [go_sem, reduceCtorEq] at h) <;> (try (exfalso; omega))))) | fail)) <;> (try omega)
    rw [rightN, e0]; exact rfl
theorem chkL_at (l : List NodeM) : ∀ (want i : Int), (chkL l want i).1 = 0 → (chkL l want i).2 = 0 := by
  induction l with
  | nil => intro want i h; unfold chkL at h ⊢; split at h; (· cases h); rename_i h'; rw [if_neg h']
  | cons x l ih => intro want i h; unfold chkL at h ⊢; split at h; (· cases h); rename_i h'; rw [if_neg h']; exact ih _ _ h
theorem check04_any (l : List NodeM) (hl : l.length ≤ 1000000000) : PCall Tryd.prog 27 [.lst 3 (encNs l)] (fun r => r = .tup [vI (chkN l).1, vI (chkN l).2]) := by
  refine go_fn (tyOf_ok _) Tryd.func27 rfl rfl (by rw [Tryd.results27]) Tryd.ntmps27 rfl fun E => ?_
  generalize hC : chkN l = C
  unfold chkN at hC
  (repeat' (first
    | exact trivial
    | (with_reducible first | refine awA ?_ | refine awB ?_ | refine awC ?_ | refine awD ?_ | refine awE ?_ | refine awF ?_ | refine awG ?_ | refine awH ?_ | refine awI ?_ | refine awJ ?_ | refine awK ?_ | refine awL ?_ | refine awM (by decide) ?_)
    | ((with_reducible first | refine awN (tyOf_ok _) [] ?_ | refine awO (tyOf_ok _) [] ?_ | refine awP (tyOf_ok _) [] ?_ | refine awQ ?_ | refine awR ?_ | refine awS ?_); intro r hr; simp only [go_sem, Nat.reduceBEq, Nat.reduceBneDiff, Nat.reduceLT, Nat.reduceLeDiff, Nat.reduceAdd, Nat.reduceMul, Nat.reduceSub, Nat.reduceEqDiff, reduceCtorEq] at hr; subst hr; (first | refine awV ?_ ?_ | refine awW ?_ ?_ | refine endK ?_ ?_ | (refine condK (fun h => ?_) (fun h => ?_) <;> (try simp only [go_sem, reduceCtorEq] at h) <;> (try (exfalso; omega))))) | fail)) <;> (try omega)
  refine go_loop [0, 4, 5] [] (fun p : Nat × Int => ⟨[(0, true, .lst 3 (encNs l)), (4, true, vI p.2), (5, true, vI p.1)], []⟩) (fun p => p.1 ≤ l.length ∧ C = chkL (l.drop p.1) p.2 p.1 ∧ 0 ≤ p.2 ∧ p.2 ≤ 1 + (p.1 : Int) * 1048576) (fun p => l.length - p.1) (0, 1) (by simp only [go_sem, Nat.reduceBEq, Nat.reduceBneDiff, Nat.reduceLT, Nat.reduceLeDiff, Nat.reduceAdd, Nat.reduceMul, Nat.reduceSub, Nat.reduceEqDiff, reduceCtorEq]; exact rfl)
    ⟨Nat.zero_le _, by rw [← hC]; rfl, by decide, by decide⟩ ?_
  intro ⟨i, w⟩ ⟨hi, heq, hw0, hw1⟩
  simp only at hi heq hw0 hw1
  clear hC
  have hwi := wrap_i64 (n := (i : Int) + 1) (by omega)
  by_cases hlt : i < l.length
  · have e1 : ((i : Int) < l.length) = True := eq_true (by omega)
    have g1 := encNs_get hlt
    have hR := Right_any l[i]
    have hk := rightN_kids (x := l[i])
    rw [List.drop_eq_getElem_cons hlt, chkL] at heq
    by_cases hz : w = 0
    · have e2 : (w = 0) = True := eq_true hz
      rw [if_pos (.inl hz)] at heq
      subst heq
      (repeat' (first
    | exact trivial
    | (with_reducible first | refine awA ?_ | refine awB ?_ | refine awC ?_ | refine awD ?_ | refine awE ?_ | refine awF ?_ | refine awG ?_ | refine awH ?_ | refine awI ?_ | refine awJ ?_ | refine awK ?_ | refine awL ?_ | refine awM (by decide) ?_)
    | ((with_reducible first | refine awN (tyOf_ok _) [] ?_ | refine awO (tyOf_ok _) [] ?_ | refine awP (tyOf_ok _) [] ?_ | refine awQ ?_ | refine awR ?_ | refine awS ?_); intro r hr; simp only [go_sem, Nat.reduceBEq, Nat.reduceBneDiff, Nat.reduceLT, Nat.reduceLeDiff, Nat.reduceAdd, Nat.reduceMul, Nat.reduceSub, Nat.reduceEqDiff, reduceCtorEq, encNs_len, hwi, e1, g1, e2] at hr; subst hr; (first | refine caB 41 (vB true) ?_ ?_ ?_ | refine awV ?_ ?_ | refine awW ?_ ?_ | refine endK ?_ ?_ | (refine condK (fun h => ?_) (fun h => ?_) <;> (try simp only [go_sem, reduceCtorEq] at h) <;> (try (exfalso; omega))))) | fail)) <;> (try omega)
      exact rfl
    have e2 : (w = 0) = False := eq_false hz
    by_cases hr : rightN l[i] = true
    · rw [if_neg (by rintro (h | h); (· exact hz h); rw [hr] at h; cases h)] at heq
      have := hk hr
      have hwa := wrap_i64 (n := w - 1) (by omega)
      have hwb := wrap_i64 (n := w - 1 + l[i].kids) (by omega)
      rw [hr] at hR
      (repeat' (first
    | exact trivial
    | (with_reducible first | refine awA ?_ | refine awB ?_ | refine awC ?_ | refine awD ?_ | refine awE ?_ | refine awF ?_ | refine awG ?_ | refine awH ?_ | refine awI ?_ | refine awJ ?_ | refine awK ?_ | refine awL ?_ | refine awM (by decide) ?_)
    | ((with_reducible first | refine awN (tyOf_ok _) [] ?_ | refine awO (tyOf_ok _) [] ?_ | refine awP (tyOf_ok _) [] ?_ | refine awQ ?_ | refine awR ?_ | refine awS ?_); intro r hr; simp only [go_sem, Nat.reduceBEq, Nat.reduceBneDiff, Nat.reduceLT, Nat.reduceLeDiff, Nat.reduceAdd, Nat.reduceMul, Nat.reduceSub, Nat.reduceEqDiff, reduceCtorEq, encNs_len, hwi, e1, g1, e2, hwa, hwb] at hr; subst hr; (first | refine caA (fun _ => hR) rfl ?_ ?_ ?_ | refine awV ?_ ?_ | refine awW ?_ ?_ | refine endK ?_ ?_ | (refine condK (fun h => ?_) (fun h => ?_) <;> (try simp only [go_sem, reduceCtorEq] at h) <;> (try (exfalso; omega))))) | fail)) <;> (try omega)
      exact ⟨(i + 1, w - 1 + l[i].kids), by simp only [go_sem, Nat.reduceBEq, Nat.reduceBneDiff, Nat.reduceLT, Nat.reduceLeDiff, Nat.reduceAdd, Nat.reduceMul, Nat.reduceSub, Nat.reduceEqDiff, reduceCtorEq]; exact rfl, ⟨hlt, heq, by simp only; omega, by simp only; omega⟩, by simp only; omega⟩
    · have hr' : rightN l[i] = false := by simpa using hr
      rw [if_pos (.inr hr')] at heq
      rw [hr'] at hR
      subst heq
      (repeat' (first
    | exact trivial
    | (with_reducible first | refine awA ?_ | refine awB ?_ | refine awC ?_ | refine awD ?_ | refine awE ?_ | refine awF ?_ | refine awG ?_ | refine awH ?_ | refine awI ?_ | refine awJ ?_ | refine awK ?_ | refine awL ?_ | refine awM (by decide) ?_)
    | ((with_reducible first | refine awN (tyOf_ok _) [] ?_ | refine awO (tyOf_ok _) [] ?_ | refine awP (tyOf_ok _) [] ?_ | refine awQ ?_ | refine awR ?_ | refine awS ?_); intro r hr; simp only [go_sem, Nat.reduceBEq, Nat.reduceBneDiff, Nat.reduceLT, Nat.reduceLeDiff, Nat.reduceAdd, Nat.reduceMul, Nat.reduceSub, Nat.reduceEqDiff, reduceCtorEq, encNs_len, hwi, e1, g1, e2] at hr; subst hr; (first | refine caA (fun _ => hR) rfl ?_ ?_ ?_ | refine awV ?_ ?_ | refine awW ?_ ?_ | refine endK ?_ ?_ | (refine condK (fun h => ?_) (fun h => ?_) <;> (try simp only [go_sem, reduceCtorEq] at h) <;> (try (exfalso; omega))))) | fail)) <;> (try omega)
      exact rfl
  · have e1 : ((i : Int) < l.length) = False := eq_false (by omega)
    have hil : i = l.length := by omega
    rw [List.drop_eq_nil_of_le (by omega), chkL] at heq
    by_cases hz : 0 < w
    · have e2 : (0 < w) = True := eq_true hz
      rw [if_pos hz, hil] at heq
      subst heq
      (repeat' (first
    | exact trivial
    | (with_reducible first | refine awA ?_ | refine awB ?_ | refine awC ?_ | refine awD ?_ | refine awE ?_ | refine awF ?_ | refine awG ?_ | refine awH ?_ | refine awI ?_ | refine awJ ?_ | refine awK ?_ | refine awL ?_ | refine awM (by decide) ?_)
    | ((with_reducible first | refine awN (tyOf_ok _) [] ?_ | refine awO (tyOf_ok _) [] ?_ | refine awP (tyOf_ok _) [] ?_ | refine awQ ?_ | refine awR ?_ | refine awS ?_); intro r hr; simp only [go_sem, Nat.reduceBEq, Nat.reduceBneDiff, Nat.reduceLT, Nat.reduceLeDiff, Nat.reduceAdd, Nat.reduceMul, Nat.reduceSub, Nat.reduceEqDiff, reduceCtorEq, encNs_len, hwi, e1, e2] at hr; subst hr; (first | refine awV ?_ ?_ | refine awW ?_ ?_ | refine endK ?_ ?_ | (refine condK (fun h => ?_) (fun h => ?_) <;> (try simp only [go_sem, reduceCtorEq] at h) <;> (try (exfalso; omega))))) | fail)) <;> (try omega)
      exact rfl
    · have e2 : (0 < w) = False := eq_false hz
      rw [if_neg hz] at heq
      subst heq
      (repeat' (first
    | exact trivial
    | (with_reducible first | refine awA ?_ | refine awB ?_ | refine awC ?_ | refine awD ?_ | refine awE ?_ | refine awF ?_ | refine awG ?_ | refine awH ?_ | refine awI ?_ | refine awJ ?_ | refine awK ?_ | refine awL ?_ | refine awM (by decide) ?_)
    | ((with_reducible first | refine awN (tyOf_ok _) [] ?_ | refine awO (tyOf_ok _) [] ?_ | refine awP (tyOf_ok _) [] ?_ | refine awQ ?_ | refine awR ?_ | refine awS ?_); intro r hr; simp only [go_sem, Nat.reduceBEq, Nat.reduceBneDiff, Nat.reduceLT, Nat.reduceLeDiff, Nat.reduceAdd, Nat.reduceMul, Nat.reduceSub, Nat.reduceEqDiff, reduceCtorEq, encNs_len, hwi, e1, e2] at hr; subst hr; (first | refine awV ?_ ?_ | refine awW ?_ ?_ | refine endK ?_ ?_ | (refine condK (fun h => ?_) (fun h => ?_) <;> (try simp only [go_sem, reduceCtorEq] at h) <;> (try (exfalso; omega))))) | fail)) <;> (try omega)
      exact rfl
/-- every node has as many kids as it says, and may be -/
def Tr.ok : Tr → Prop
  | .node x ks => rightN x = true ∧ x.kids = ks.length ∧ okL ks
where okL : List Tr → Prop
  | [] => True
  | c :: cs => c.ok ∧ okL cs
theorem chk_trees : ∀ (l : List NodeM) (n : Nat) (i : Int), (chkL l n i).1 = 0 → ∃ ts : List Tr, ts.length = n ∧ Tr.flat.flatL ts = l ∧ Tr.ok.okL ts
  | [], n, i, h => by
    unfold chkL at h
    split at h
    · cases h
    · rename_i h'
      have : n = 0 := by omega
      subst this
      exact ⟨[], rfl, rfl, trivial⟩
  | x :: l, n, i, h => by
    unfold chkL at h
    split at h
    · cases h
    · rename_i h'
      have hr : rightN x = true := by
        cases hr : rightN x with
        | true => rfl
        | false => exact absurd (.inr hr) h'
      have hn : (n : Int) ≠ 0 := fun h => h' (.inl h)
      have hk := rightN_kids hr
      obtain ⟨ts, h1, h2, h3⟩ := chk_trees l (n - 1 + x.kids.toNat) (i + 1) (by rw [show ((n - 1 + x.kids.toNat : Nat) : Int) = (n : Int) - 1 + x.kids by omega]; exact h)
      have fa : ∀ a b : List Tr, Tr.flat.flatL (a ++ b) = Tr.flat.flatL a ++ Tr.flat.flatL b := fun a b => by
        induction a with
        | nil => rfl
        | cons c cs ih => simp [Tr.flat.flatL, ih]
      have oa : ∀ a b : List Tr, Tr.ok.okL (a ++ b) → Tr.ok.okL a ∧ Tr.ok.okL b := fun a b => by
        induction a with
        | nil => exact fun h => ⟨trivial, h⟩
        | cons c cs ih => exact fun h => ⟨⟨h.1, (ih h.2).1⟩, (ih h.2).2⟩
      have hsplit := List.take_append_drop x.kids.toNat ts
      have ho := oa (ts.take x.kids.toNat) (ts.drop x.kids.toNat) (by rw [hsplit]; exact h3)
      refine ⟨.node x (ts.take x.kids.toNat) :: ts.drop x.kids.toNat, by simp; omega, ?_, ⟨hr, by rw [List.length_take]; omega, ho.1⟩, ho.2⟩
      simp only [Tr.flat.flatL, Tr.flat, List.cons_append]
      rw [← fa, hsplit, h2]
theorem chk_tree {l : List NodeM} (h : (chkN l).1 = 0) : ∃ t : Tr, t.flat = l ∧ t.ok := by
  obtain ⟨ts, h1, h2, h3⟩ := chk_trees l 1 0 h
  obtain ⟨t, rfl⟩ := List.length_eq_one_iff.1 h1
  exact ⟨t, by simpa [Tr.flat.flatL] using h2, h3.1⟩
end Go.Proofs.YtfgacgpicfknpaaDoor
end
