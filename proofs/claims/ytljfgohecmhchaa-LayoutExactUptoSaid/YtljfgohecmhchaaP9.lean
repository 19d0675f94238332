import Derived.Test.YtljfgohecmhchaaP8
set_option linter.all false
section
namespace Go.Proofs.Ytljfgohecmhchaa
open Go.RowKit
set_option maxRecDepth 100000
set_option maxHeartbeats 8000000
theorem checkF_ne' {ts : List TypeM} {rs : List RootM} (h : (checkF ts rs).1 ≠ 0) : sizesF ts rs = ([], (checkF ts rs).1) := by rw [sizesF, if_pos h]
theorem checkF_eq' {ts : List TypeM} {rs : List RootM} (h : (checkF ts rs).1 = 0) : sizesF ts rs = (exts ts, 0) := by rw [sizesF, if_neg (by rw [h]; decide)]
theorem exts_D {ts : List TypeM} {rs : List RootM} (h : (checkF ts rs).1 = 0) (hts : ts.length ≤ 1000000000) (k : Nat) (hk : k ≤ ts.length) : ∀ e ∈ exts (ts.take k), extD e := fun e he =>
  ⟨exts_good (check_right h) k hk e he, by have := (exts_ok h hts k hk e he).1.2.2; omega⟩
theorem rOf_any (ts : List TypeM) (rs : List RootM) (hts : ts.length ≤ 1000000000) (hrs : rs.length ≤ 1000000000) (hp : ∀ t ∈ ts, t.parts.length ≤ 1000000000) :
    PCall Try.prog 27 [vSch ts rs] (fun r => r = .tup [.lst 4 (encEs (sizesF ts rs).1), vI (sizesF ts rs).2]) := by
  refine go_fnU (tyOf_ok _) Try.func27 rfl rfl (by rw [Try.results27]) Try.ntmps27 rfl fun E => ?_
  have hck := rcheck_any ts rs hts hrs hp
  unfold vF at hck
  by_cases h0 : (checkF ts rs).1 = 0
  case neg =>
    rw [checkF_ne' h0]
    have e1 : ((checkF ts rs).1 = 0) = False := eq_false h0
    generalize checkF ts rs = C at *
    (repeat' (first
    | exact trivial
    | (with_reducible first | refine awA ?_ | refine awB ?_ | refine awC ?_ | refine awD ?_ | refine awE ?_ | refine awF ?_ | refine awG ?_ | refine awH ?_ | refine awI ?_ | refine awJ ?_ | refine awK ?_ | refine awL ?_ | refine awM (by decide) ?_)
    | (refine aw_draw (id := 3) (t := (.node [0, 1, 2, 3] [])) (drR [4] [] []) mixed (by kernel_rfl) (by kernel_rfl) (fun _ _ h => h) ?_)
    | (refine at_done (by simp only [List.filterMap_cons, List.filterMap_nil, List.getElem?_toArray, List.getElem?_cons_zero, List.getElem?_cons_succ]; exact rfl) ?_) | (refine at_alt (by simp only [List.filterMap_cons, List.filterMap_nil, List.getElem?_toArray, List.getElem?_cons_zero, List.getElem?_cons_succ]; exact rfl) ?_) | refine qalt_normal ?_ | refine ats_cons ?_ ?_ | exact ats_nil
    | ((with_reducible first | refine awN (tyOf_ok _) [] ?_ | refine awO (tyOf_ok _) [] ?_ | refine awP (tyOf_ok _) [] ?_ | refine awQ ?_ | refine awR ?_ | refine awS ?_); intro r hr; simp only [go_sem, Nat.reduceBEq, Nat.reduceBneDiff, Nat.reduceLT, Nat.reduceLeDiff, Nat.reduceAdd, Nat.reduceMul, Nat.reduceSub, Nat.reduceEqDiff, reduceCtorEq, vSch, e1] at hr; subst hr; (first | refine caA (fun _ => hck) rfl ?_ ?_ ?_ | refine awV ?_ ?_ | refine awW ?_ ?_ | refine endK ?_ ?_ | (refine condK (fun h => ?_) (fun h => ?_) <;> (try simp only [go_sem, reduceCtorEq] at h) <;> (try (exfalso; omega))))) | fail)) <;> (try omega)
    exact AV.up_nil2 _ _
  have hr := check_right h0
  have hD := exts_D h0 hts
  rw [checkF_eq' h0]
  rw [h0] at hck
  generalize (checkF ts rs).2 = C2 at *
  (repeat' (first
    | exact trivial
    | (with_reducible first | refine awA ?_ | refine awB ?_ | refine awC ?_ | refine awD ?_ | refine awE ?_ | refine awF ?_ | refine awG ?_ | refine awH ?_ | refine awI ?_ | refine awJ ?_ | refine awK ?_ | refine awL ?_ | refine awM (by decide) ?_)
    | (refine aw_draw (id := 3) (t := (.node [0, 1, 2, 3] [])) (drR [4] [] []) mixed (by kernel_rfl) (by kernel_rfl) (fun _ _ h => h) ?_)
    | (refine at_done (by simp only [List.filterMap_cons, List.filterMap_nil, List.getElem?_toArray, List.getElem?_cons_zero, List.getElem?_cons_succ]; exact rfl) ?_) | (refine at_alt (by simp only [List.filterMap_cons, List.filterMap_nil, List.getElem?_toArray, List.getElem?_cons_zero, List.getElem?_cons_succ]; exact rfl) ?_) | refine qalt_normal ?_ | refine ats_cons ?_ ?_ | exact ats_nil
    | ((with_reducible first | refine awN (tyOf_ok _) [] ?_ | refine awO (tyOf_ok _) [] ?_ | refine awP (tyOf_ok _) [] ?_ | refine awQ ?_ | refine awR ?_ | refine awS ?_); intro r hr; simp only [go_sem, Nat.reduceBEq, Nat.reduceBneDiff, Nat.reduceLT, Nat.reduceLeDiff, Nat.reduceAdd, Nat.reduceMul, Nat.reduceSub, Nat.reduceEqDiff, reduceCtorEq, vSch] at hr; subst hr; (first | refine caA (fun _ => hck) rfl ?_ ?_ ?_ | refine awV ?_ ?_ | refine awW ?_ ?_ | refine endK ?_ ?_ | (refine condK (fun h => ?_) (fun h => ?_) <;> (try simp only [go_sem, reduceCtorEq] at h) <;> (try (exfalso; omega))))) | fail)) <;> (try omega)
  refine aw_nilrow 5 69 4 8000 (.inl (by decide)) (by simp only [go_sem, Nat.reduceBEq, Nat.reduceBneDiff, Nat.reduceLT, Nat.reduceLeDiff, Nat.reduceAdd, Nat.reduceMul, Nat.reduceSub, Nat.reduceEqDiff, reduceCtorEq]) ?_
  refine go_loop [1, 5, 6] [1, 8000] (fun k : Nat => ⟨[(1, true, .ptr 1 1 0 0), (5, true, .ref 69 4 8000 0 k), (6, true, vI k)], [(1, .var [.lst 4 (encTs ts), .lst 2 (encRs rs)]), (8000, .row 69 4 (encEs (exts (ts.take k))))]⟩)
    (fun k => k ≤ ts.length) (fun k => ts.length - k) 0 (by simp only [AState.nilrow, go_sem, Nat.reduceBEq, Nat.reduceBneDiff, Nat.reduceLT, Nat.reduceLeDiff, Nat.reduceAdd, Nat.reduceMul, Nat.reduceSub, Nat.reduceEqDiff, reduceCtorEq] <;> exact rfl) (Nat.zero_le _) ?_
  intro k hk
  have hwk := wrap_i64 (n := (k : Int) + 1) (by omega)
  have hEl := exts_len ts k hk
  by_cases hlt : k < ts.length
  · have f1 : ((k : Int) < ts.length) = True := eq_true (by omega)
    have g1 := encTs_get hlt
    have hnext := exts_succ hlt
    have hc := rone_any ts[k] (exts (ts.take k)) (by rw [hEl]; exact hr k hlt) (hD k hk)
    unfold vE at hc
    generalize exts (ts.take k) = L at *
    have happ : encEs L ++ [[vB (extM ts[k] L).fixed, vI (extM ts[k] L).least, vI (extM ts[k] L).most, vI (extM ts[k] L).depth]] = encEs (exts (ts.take (k + 1))) := by rw [hnext]; simp [encEs, encE]
    have hlL : (exts (ts.take (k + 1))).length = k + 1 := by rw [hnext]; simp [hEl]
    have htk : (encEs L).take k = encEs L := take_len (by rw [encEs_len]; omega)
    (repeat' (first
    | exact trivial
    | (with_reducible first | refine awA ?_ | refine awB ?_ | refine awC ?_ | refine awD ?_ | refine awE ?_ | refine awF ?_ | refine awG ?_ | refine awH ?_ | refine awI ?_ | refine awJ ?_ | refine awK ?_ | refine awL ?_ | refine awM (by decide) ?_)
    | (refine aw_draw (id := 3) (t := (.node [0, 1, 2, 3] [])) (drR [4] [] []) mixed (by kernel_rfl) (by kernel_rfl) (fun _ _ h => h) ?_)
    | (refine at_done (by simp only [List.filterMap_cons, List.filterMap_nil, List.getElem?_toArray, List.getElem?_cons_zero, List.getElem?_cons_succ]; exact rfl) ?_) | (refine at_alt (by simp only [List.filterMap_cons, List.filterMap_nil, List.getElem?_toArray, List.getElem?_cons_zero, List.getElem?_cons_succ]; exact rfl) ?_) | refine qalt_normal ?_ | refine ats_cons ?_ ?_ | exact ats_nil
    | ((with_reducible first | refine awN (tyOf_ok _) [] ?_ | refine awO (tyOf_ok _) [] ?_ | refine awP (tyOf_ok _) [] ?_ | refine awQ ?_ | refine awR ?_ | refine awS ?_); intro r hr; simp only [go_sem, Nat.reduceBEq, Nat.reduceBneDiff, Nat.reduceLT, Nat.reduceLeDiff, Nat.reduceAdd, Nat.reduceMul, Nat.reduceSub, Nat.reduceEqDiff, reduceCtorEq, encTs_len, encEs_len, hwk, f1, g1, happ, htk, hlL] at hr; subst hr; (first | refine caA (fun _ => hc) rfl ?_ ?_ ?_ | refine awV ?_ ?_ | refine awW ?_ ?_ | refine endK ?_ ?_ | (refine condK (fun h => ?_) (fun h => ?_) <;> (try simp only [go_sem, reduceCtorEq] at h) <;> (try (exfalso; omega))))) | fail)) <;> (try omega)
    exact ⟨k + 1, by simp only [go_sem, Nat.reduceBEq, Nat.reduceBneDiff, Nat.reduceLT, Nat.reduceLeDiff, Nat.reduceAdd, Nat.reduceMul, Nat.reduceSub, Nat.reduceEqDiff, reduceCtorEq] <;> exact rfl, hlt, by omega⟩
  · have f1 : ((k : Int) < ts.length) = False := eq_false (by omega)
    have hke : ts.take k = ts := take_len (by omega)
    rw [hke] at hEl ⊢
    have htk : (encEs (exts ts)).take k = encEs (exts ts) := take_len (by rw [encEs_len]; omega)
    (repeat' (first
    | exact trivial
    | (with_reducible first | refine awA ?_ | refine awB ?_ | refine awC ?_ | refine awD ?_ | refine awE ?_ | refine awF ?_ | refine awG ?_ | refine awH ?_ | refine awI ?_ | refine awJ ?_ | refine awK ?_ | refine awL ?_ | refine awM (by decide) ?_)
    | (refine aw_draw (id := 3) (t := (.node [0, 1, 2, 3] [])) (drR [4] [] []) mixed (by kernel_rfl) (by kernel_rfl) (fun _ _ h => h) ?_)
    | (refine at_done (by simp only [List.filterMap_cons, List.filterMap_nil, List.getElem?_toArray, List.getElem?_cons_zero, List.getElem?_cons_succ]; exact rfl) ?_) | (refine at_alt (by simp only [List.filterMap_cons, List.filterMap_nil, List.getElem?_toArray, List.getElem?_cons_zero, List.getElem?_cons_succ]; exact rfl) ?_) | refine qalt_normal ?_ | refine ats_cons ?_ ?_ | exact ats_nil
    | ((with_reducible first | refine awN (tyOf_ok _) [] ?_ | refine awO (tyOf_ok _) [] ?_ | refine awP (tyOf_ok _) [] ?_ | refine awQ ?_ | refine awR ?_ | refine awS ?_); intro r hr; simp only [go_sem, Nat.reduceBEq, Nat.reduceBneDiff, Nat.reduceLT, Nat.reduceLeDiff, Nat.reduceAdd, Nat.reduceMul, Nat.reduceSub, Nat.reduceEqDiff, reduceCtorEq, encTs_len, encEs_len, htk, f1] at hr; subst hr; (first | refine awV ?_ ?_ | refine awW ?_ ?_ | refine endK ?_ ?_ | (refine condK (fun h => ?_) (fun h => ?_) <;> (try simp only [go_sem, reduceCtorEq] at h) <;> (try (exfalso; omega))))) | fail)) <;> (try omega)
    all_goals exact AV.up_rfl _
end Go.Proofs.Ytljfgohecmhchaa
end
section
namespace Go.Proofs.Ytljfgohecmhchaa
open Go.RowKit
set_option maxRecDepth 100000
set_option maxHeartbeats 4000000
/-! mortiseref13.Of. -/
theorem rplus13_any (a b : Int) (ha : 0 ≤ a ∧ a ≤ 4611686018427387904) (hb : 0 ≤ b ∧ b ≤ 4611686018427387904) : PCall Try.prog 29 [vI a, vI b] (fun r => r = vI (plusL [a, b])) := by
  have hw : IntKind.i64.wrap (4611686018427387904 - b) = 4611686018427387904 - b := wrap_i64 (by omega)
  have hp : plusL [a, b] = min (a + b) 4611686018427387904 := by rw [plusL_two, sz_of ha.1 ha.2, sz_of hb.1 hb.2]
  rw [hp]
  clear hp
  refine go_fn (tyOf_ok _) Try.func29 rfl rfl (by rw [Try.results29]) Try.ntmps29 rfl fun E => ?_
  by_cases h : 4611686018427387904 - b < a
  · have e1 : (4611686018427387904 - b < a) = True := eq_true h
    have hm : min (a + b) 4611686018427387904 = 4611686018427387904 := by omega
    rw [hm]
    (repeat' (first
    | exact trivial
    | (with_reducible first | refine awA ?_ | refine awB ?_ | refine awC ?_ | refine awD ?_ | refine awE ?_ | refine awF ?_ | refine awG ?_ | refine awH ?_ | refine awI ?_ | refine awJ ?_ | refine awK ?_ | refine awL ?_ | refine awM (by decide) ?_)
    | ((with_reducible first | refine awN (tyOf_ok _) [] ?_ | refine awO (tyOf_ok _) [] ?_ | refine awP (tyOf_ok _) [] ?_ | refine awQ ?_ | refine awR ?_ | refine awS ?_); intro r hr; simp only [go_sem, Nat.reduceBEq, Nat.reduceBneDiff, Nat.reduceLT, Nat.reduceLeDiff, Nat.reduceAdd, Nat.reduceMul, Nat.reduceSub, Nat.reduceEqDiff, reduceCtorEq, hw, e1, Int.cast_ofNat_Int, Int.reduceToNat, Int.reduceEq, Int.reduceLT, Int.reduceLE, Int.reduceNe] at hr; subst hr; (first | refine awV ?_ ?_ | refine awW ?_ ?_ | refine endK ?_ ?_ | (refine condK (fun h => ?_) (fun h => ?_) <;> (try simp only [go_sem, reduceCtorEq] at h) <;> (try (exfalso; omega))))) | fail)) <;> (try omega)
    all_goals exact rfl
  · have e1 : (4611686018427387904 - b < a) = False := eq_false h
    have hm : min (a + b) 4611686018427387904 = a + b := by omega
    have hw2 : IntKind.i64.wrap (a + b) = a + b := wrap_i64 (by omega)
    rw [hm]
    (repeat' (first
    | exact trivial
    | (with_reducible first | refine awA ?_ | refine awB ?_ | refine awC ?_ | refine awD ?_ | refine awE ?_ | refine awF ?_ | refine awG ?_ | refine awH ?_ | refine awI ?_ | refine awJ ?_ | refine awK ?_ | refine awL ?_ | refine awM (by decide) ?_)
    | ((with_reducible first | refine awN (tyOf_ok _) [] ?_ | refine awO (tyOf_ok _) [] ?_ | refine awP (tyOf_ok _) [] ?_ | refine awQ ?_ | refine awR ?_ | refine awS ?_); intro r hr; simp only [go_sem, Nat.reduceBEq, Nat.reduceBneDiff, Nat.reduceLT, Nat.reduceLeDiff, Nat.reduceAdd, Nat.reduceMul, Nat.reduceSub, Nat.reduceEqDiff, reduceCtorEq, hw, hw2, e1, Int.cast_ofNat_Int, Int.reduceToNat, Int.reduceEq, Int.reduceLT, Int.reduceLE, Int.reduceNe] at hr; subst hr; (first | refine awV ?_ ?_ | refine awW ?_ ?_ | refine endK ?_ ?_ | (refine condK (fun h => ?_) (fun h => ?_) <;> (try simp only [go_sem, reduceCtorEq] at h) <;> (try (exfalso; omega))))) | fail)) <;> (try omega)
    all_goals exact rfl
theorem rtimes13_any (a b : Int) (ha : 0 ≤ a ∧ a ≤ 1048576) (hb : 0 ≤ b ∧ b ≤ 4611686018427387904) : PCall Try.prog 30 [vI a, vI b] (fun r => r = vI (timesS a b)) := by
  have hp : timesS a b = min (a * b) 4611686018427387904 := by rw [timesS, sz_of ha.1 (by omega), sz_of hb.1 hb.2]
  rw [hp]
  clear hp
  refine go_fn (tyOf_ok _) Try.func30 rfl rfl (by rw [Try.results30]) Try.ntmps30 rfl fun E => ?_
  by_cases h0 : 0 < a
  case neg =>
    obtain rfl : a = 0 := by omega
    have hm : min (0 * b) 4611686018427387904 = 0 := by omega
    have hz : IntKind.i64.wrap 0 = 0 := by decide
    rw [hm]
    (repeat' (first
    | exact trivial
    | (with_reducible first | refine awA ?_ | refine awB ?_ | refine awC ?_ | refine awD ?_ | refine awE ?_ | refine awF ?_ | refine awG ?_ | refine awH ?_ | refine awI ?_ | refine awJ ?_ | refine awK ?_ | refine awL ?_ | refine awM (by decide) ?_)
    | ((with_reducible first | refine awN (tyOf_ok _) [] ?_ | refine awO (tyOf_ok _) [] ?_ | refine awP (tyOf_ok _) [] ?_ | refine awQ ?_ | refine awR ?_ | refine awS ?_); intro r hr; simp only [go_sem, Nat.reduceBEq, Nat.reduceBneDiff, Nat.reduceLT, Nat.reduceLeDiff, Nat.reduceAdd, Nat.reduceMul, Nat.reduceSub, Nat.reduceEqDiff, reduceCtorEq, Int.zero_mul, hz, Int.cast_ofNat_Int, Int.reduceToNat, Int.reduceEq, Int.reduceLT, Int.reduceLE, Int.reduceNe] at hr; subst hr; (first | refine caB 0 (vI 0) ?_ ?_ ?_ | refine awV ?_ ?_ | refine awW ?_ ?_ | refine endK ?_ ?_ | (refine condK (fun h => ?_) (fun h => ?_) <;> (try simp only [go_sem, reduceCtorEq] at h) <;> (try (exfalso; omega))))) | fail)) <;> (try omega)
    all_goals exact rfl
  have e0 : (0 < a) = True := eq_true h0
  have ea : (a = 0) = False := eq_false (by omega)
  have hd : Int.tdiv 4611686018427387904 a = 4611686018427387904 / a := Int.tdiv_eq_ediv_of_nonneg (by omega)
  have hq0 : 0 ≤ (4611686018427387904 : Int) / a := Int.ediv_nonneg (by omega) (by omega)
  have hq1 : (4611686018427387904 : Int) / a ≤ 4611686018427387904 := Int.ediv_le_self _ (by omega)
  have hw : IntKind.i64.wrap (4611686018427387904 / a) = 4611686018427387904 / a := wrap_i64 (by omega)
  by_cases h : 4611686018427387904 / a < b
  · have e1 : (4611686018427387904 / a < b) = True := eq_true h
    have hm : min (a * b) 4611686018427387904 = 4611686018427387904 := by
      have : 4611686018427387904 < b * a := (Int.ediv_lt_iff_lt_mul h0).1 h
      rw [Int.mul_comm]; omega
    rw [hm]
    (repeat' (first
    | exact trivial
    | (with_reducible first | refine awA ?_ | refine awB ?_ | refine awC ?_ | refine awD ?_ | refine awE ?_ | refine awF ?_ | refine awG ?_ | refine awH ?_ | refine awI ?_ | refine awJ ?_ | refine awK ?_ | refine awL ?_ | refine awM (by decide) ?_)
    | ((with_reducible first | refine awN (tyOf_ok _) [] ?_ | refine awO (tyOf_ok _) [] ?_ | refine awP (tyOf_ok _) [] ?_ | refine awQ ?_ | refine awR ?_ | refine awS ?_); intro r hr; simp only [go_sem, Nat.reduceBEq, Nat.reduceBneDiff, Nat.reduceLT, Nat.reduceLeDiff, Nat.reduceAdd, Nat.reduceMul, Nat.reduceSub, Nat.reduceEqDiff, reduceCtorEq, hd, hw, e0, ea, e1, ne_eq, not_false_eq_true, Int.cast_ofNat_Int, Int.reduceToNat, Int.reduceEq, Int.reduceLT, Int.reduceLE, Int.reduceNe] at hr; subst hr; (first | refine awV ?_ ?_ | refine awW ?_ ?_ | refine endK ?_ ?_ | (refine condK (fun h => ?_) (fun h => ?_) <;> (try simp only [go_sem, reduceCtorEq] at h) <;> (try (exfalso; omega))))) | fail)) <;> (try omega)
    all_goals exact rfl
  · have e1 : (4611686018427387904 / a < b) = False := eq_false h
    have hle : b * a ≤ 4611686018427387904 := by
      have := (Int.le_ediv_iff_mul_le h0).1 (show b ≤ 4611686018427387904 / a by omega)
      exact this
    have h0' : 0 ≤ b * a := Int.mul_nonneg hb.1 (by omega)
    have hm : min (a * b) 4611686018427387904 = a * b := by rw [Int.mul_comm]; omega
    have hw2 : IntKind.i64.wrap (a * b) = a * b := by rw [Int.mul_comm]; exact wrap_i64 (by omega)
    rw [hm]
    (repeat' (first
    | exact trivial
    | (with_reducible first | refine awA ?_ | refine awB ?_ | refine awC ?_ | refine awD ?_ | refine awE ?_ | refine awF ?_ | refine awG ?_ | refine awH ?_ | refine awI ?_ | refine awJ ?_ | refine awK ?_ | refine awL ?_ | refine awM (by decide) ?_)
    | ((with_reducible first | refine awN (tyOf_ok _) [] ?_ | refine awO (tyOf_ok _) [] ?_ | refine awP (tyOf_ok _) [] ?_ | refine awQ ?_ | refine awR ?_ | refine awS ?_); intro r hr; simp only [go_sem, Nat.reduceBEq, Nat.reduceBneDiff, Nat.reduceLT, Nat.reduceLeDiff, Nat.reduceAdd, Nat.reduceMul, Nat.reduceSub, Nat.reduceEqDiff, reduceCtorEq, hd, hw, hw2, e0, ea, e1, ne_eq, not_false_eq_true, Int.cast_ofNat_Int, Int.reduceToNat, Int.reduceEq, Int.reduceLT, Int.reduceLE, Int.reduceNe] at hr; subst hr; (first | refine awV ?_ ?_ | refine awW ?_ ?_ | refine endK ?_ ?_ | (refine condK (fun h => ?_) (fun h => ?_) <;> (try simp only [go_sem, reduceCtorEq] at h) <;> (try (exfalso; omega))))) | fail)) <;> (try omega)
    all_goals exact rfl
theorem rslotF (e : ExtM) (a : Int) (h : e.fixed = true → e.least = e.most) : slotM e.fixed e.least a = slotM e.fixed e.most a := by
  unfold slotM
  cases hf : e.fixed with
  | true => rw [h hf]
  | false => rfl
theorem rlay_any (ts : List TypeM) (rs : List RootM) (hts : ts.length ≤ 1000000000) (hrs : rs.length ≤ 1000000000) (hp : ∀ t ∈ ts, t.parts.length ≤ 1000000000) : PCall Try.prog 14 [vSch ts rs] (fun r => r = .tup [.lst 2 (encLs (laysF ts rs).1), vI (laysF ts rs).2]) := by
  refine go_fnU (tyOf_ok _) Try.func14 rfl rfl (by rw [Try.results14]) Try.ntmps14 rfl fun E => ?_
  by_cases hc : (checkF ts rs).1 = 0
  case neg =>
    have ec : ((checkF ts rs).1 = 0) = False := eq_false hc
    (repeat' (first
    | exact trivial
    | (with_reducible first | refine awA ?_ | refine awB ?_ | refine awC ?_ | refine awD ?_ | refine awE ?_ | refine awF ?_ | refine awG ?_ | refine awH ?_ | refine awI ?_ | refine awJ ?_ | refine awK ?_ | refine awL ?_ | refine awM (by decide) ?_)
    | (refine aw_draw (id := 16) (t := (.node [0, 1, 2, 3, 4, 5, 6, 7, 8, 9, 10] [(.node [11, 12, 13] []), (.node [12, 11, 13] [])])) (drR [9, 10] [54, 56] []) mixed (by kernel_rfl) (by kernel_rfl) (fun _ _ h => h) ?_)
    | (refine aw_draw (id := 24) (t := (.node [0, 1, 2, 3, 4, 5, 6, 7, 8, 9, 10, 11] [])) (drR [9] [95, 100] []) mixed (by kernel_rfl) (by kernel_rfl) (fun _ _ h => h) ?_)
    | (refine at_done (by simp only [List.filterMap_cons, List.filterMap_nil, List.getElem?_toArray, List.getElem?_cons_zero, List.getElem?_cons_succ]; exact rfl) ?_) | (refine at_alt (by simp only [List.filterMap_cons, List.filterMap_nil, List.getElem?_toArray, List.getElem?_cons_zero, List.getElem?_cons_succ]; exact rfl) ?_) | refine qalt_normal ?_ | refine ats_cons ?_ ?_ | exact ats_nil
    | ((with_reducible first | refine awN (tyOf_ok _) [] ?_ | refine awO (tyOf_ok _) [] ?_ | refine awP (tyOf_ok _) [] ?_ | refine awQ ?_ | refine awR ?_ | refine awS ?_); intro r hr; simp only [go_sem, Nat.reduceBEq, Nat.reduceBneDiff, Nat.reduceLT, Nat.reduceLeDiff, Nat.reduceAdd, Nat.reduceMul, Nat.reduceSub, Nat.reduceEqDiff, reduceCtorEq, vSch, vF, ec] at hr; subst hr; (first | refine caA (fun _ => rcheck_any ts rs hts hrs hp) rfl ?_ ?_ ?_ | refine awV ?_ ?_ | refine awW ?_ ?_ | refine endK ?_ ?_ | (refine condK (fun h => ?_) (fun h => ?_) <;> (try simp only [go_sem, reduceCtorEq] at h) <;> (try (exfalso; omega))))) | fail)) <;> (try omega)
    rw [laysF, if_pos hc]; exact AV.up_nil2 _ _
  have ec : ((checkF ts rs).1 = 0) = True := eq_true hc
  have hE := exts_fix hc hts ts.length (Nat.le_refl _)
  rw [take_len (Nat.le_refl _)] at hE
  have hEl := exts_len ts ts.length (Nat.le_refl _)
  rw [take_len (Nat.le_refl _)] at hEl
  have hsz1 : (sizesF ts rs).1 = exts ts := by rw [checkF_eq' hc]
  have hsz2 : (sizesF ts rs).2 = 0 := by rw [checkF_eq' hc]
  (repeat' (first
    | exact trivial
    | (with_reducible first | refine awA ?_ | refine awB ?_ | refine awC ?_ | refine awD ?_ | refine awE ?_ | refine awF ?_ | refine awG ?_ | refine awH ?_ | refine awI ?_ | refine awJ ?_ | refine awK ?_ | refine awL ?_ | refine awM (by decide) ?_)
    | (refine aw_draw (id := 16) (t := (.node [0, 1, 2, 3, 4, 5, 6, 7, 8, 9, 10] [(.node [11, 12, 13] []), (.node [12, 11, 13] [])])) (drR [9, 10] [54, 56] []) mixed (by kernel_rfl) (by kernel_rfl) (fun _ _ h => h) ?_)
    | (refine aw_draw (id := 24) (t := (.node [0, 1, 2, 3, 4, 5, 6, 7, 8, 9, 10, 11] [])) (drR [9] [95, 100] []) mixed (by kernel_rfl) (by kernel_rfl) (fun _ _ h => h) ?_)
    | (refine at_done (by simp only [List.filterMap_cons, List.filterMap_nil, List.getElem?_toArray, List.getElem?_cons_zero, List.getElem?_cons_succ]; exact rfl) ?_) | (refine at_alt (by simp only [List.filterMap_cons, List.filterMap_nil, List.getElem?_toArray, List.getElem?_cons_zero, List.getElem?_cons_succ]; exact rfl) ?_) | refine qalt_normal ?_ | refine ats_cons ?_ ?_ | exact ats_nil
    | ((with_reducible first | refine awN (tyOf_ok _) [] ?_ | refine awO (tyOf_ok _) [] ?_ | refine awP (tyOf_ok _) [] ?_ | refine awQ ?_ | refine awR ?_ | refine awS ?_); intro r hr; simp only [go_sem, Nat.reduceBEq, Nat.reduceBneDiff, Nat.reduceLT, Nat.reduceLeDiff, Nat.reduceAdd, Nat.reduceMul, Nat.reduceSub, Nat.reduceEqDiff, reduceCtorEq, vSch, vF, ec, hsz1, hsz2, encTs_len] at hr; subst hr; (first | refine caA (fun _ => rcheck_any ts rs hts hrs hp) rfl ?_ ?_ ?_ | refine caC (rOf_any ts rs hts hrs hp) rfl ?_ ?_ ?_ | refine awV ?_ ?_ | refine awW ?_ ?_ | refine endK ?_ ?_ | (refine condK (fun h => ?_) (fun h => ?_) <;> (try simp only [go_sem, reduceCtorEq] at h) <;> (try (exfalso; omega))))) | fail)) <;> (try omega)
  refine aw_nilrow 7 53 2 8000 (.inl (by decide)) (by simp only [go_sem, Nat.reduceBEq, Nat.reduceBneDiff, Nat.reduceLT, Nat.reduceLeDiff, Nat.reduceAdd, Nat.reduceMul, Nat.reduceSub, Nat.reduceEqDiff, reduceCtorEq]) ?_
  refine go_loop [1, 5, 7, 8] [1, 8000] (fun k : Nat => ⟨[(1, true, .ptr 1 1 0 0), (5, true, .lst 4 (encEs (exts ts))), (7, true, .ref 53 2 8000 0 k), (8, true, vI k)],
      [(1, .var [.lst 4 (encTs ts), .lst 2 (encRs rs)]), (8000, .row 53 2 (encLs (laysK ts k)))]⟩)
      (fun k => k ≤ ts.length) (fun k => ts.length - k) 0 (by simp only [AState.nilrow, go_sem, Nat.reduceBEq, Nat.reduceBneDiff, Nat.reduceLT, Nat.reduceLeDiff, Nat.reduceAdd, Nat.reduceMul, Nat.reduceSub, Nat.reduceEqDiff, reduceCtorEq]; exact rfl) (Nat.zero_le _) ?_
  intro k hk
  have hw1 := wrap_i64 (n := (k : Int) + 1) (by omega)
  have htk : (encLs (laysK ts k)).take k = encLs (laysK ts k) := take_len (by rw [encLs_len, laysK_len hk]; exact Nat.le_refl _)
  have hll : (encLs (laysK ts k)).length = k := by rw [encLs_len, laysK_len hk]
  by_cases hlt : k < ts.length
  case neg =>
    have e1 : ((k : Int) < ts.length) = False := eq_false (by omega)
    (repeat' (first
    | exact trivial
    | (with_reducible first | refine awA ?_ | refine awB ?_ | refine awC ?_ | refine awD ?_ | refine awE ?_ | refine awF ?_ | refine awG ?_ | refine awH ?_ | refine awI ?_ | refine awJ ?_ | refine awK ?_ | refine awL ?_ | refine awM (by decide) ?_)
    | (refine aw_draw (id := 16) (t := (.node [0, 1, 2, 3, 4, 5, 6, 7, 8, 9, 10] [(.node [11, 12, 13] []), (.node [12, 11, 13] [])])) (drR [9, 10] [54, 56] []) mixed (by kernel_rfl) (by kernel_rfl) (fun _ _ h => h) ?_)
    | (refine aw_draw (id := 24) (t := (.node [0, 1, 2, 3, 4, 5, 6, 7, 8, 9, 10, 11] [])) (drR [9] [95, 100] []) mixed (by kernel_rfl) (by kernel_rfl) (fun _ _ h => h) ?_)
    | (refine at_done (by simp only [List.filterMap_cons, List.filterMap_nil, List.getElem?_toArray, List.getElem?_cons_zero, List.getElem?_cons_succ]; exact rfl) ?_) | (refine at_alt (by simp only [List.filterMap_cons, List.filterMap_nil, List.getElem?_toArray, List.getElem?_cons_zero, List.getElem?_cons_succ]; exact rfl) ?_) | refine qalt_normal ?_ | refine ats_cons ?_ ?_ | exact ats_nil
    | ((with_reducible first | refine awN (tyOf_ok _) [] ?_ | refine awO (tyOf_ok _) [] ?_ | refine awP (tyOf_ok _) [] ?_ | refine awQ ?_ | refine awR ?_ | refine awS ?_); intro r hr; simp only [go_sem, Nat.reduceBEq, Nat.reduceBneDiff, Nat.reduceLT, Nat.reduceLeDiff, Nat.reduceAdd, Nat.reduceMul, Nat.reduceSub, Nat.reduceEqDiff, reduceCtorEq, hw1, e1, htk, hll, encTs_len] at hr; subst hr; (first | refine awV ?_ ?_ | refine awW ?_ ?_ | refine endK ?_ ?_ | (refine condK (fun h => ?_) (fun h => ?_) <;> (try simp only [go_sem, reduceCtorEq] at h) <;> (try (exfalso; omega))))) | fail)) <;> (try omega)
    have hke : k = ts.length := by omega
    subst hke
    rw [laysF, if_neg (fun g => g hc), lays, laysK, take_len (Nat.le_refl _)]
    exact AV.up_rfl _
  have e1 : ((k : Int) < ts.length) = True := eq_true (by omega)
  have g1 := encTs_get hlt
  have zk : ((k : Int)).toNat = k := by omega
  have hr := rightOK_mono (m := (exts ts).length) (by omega) (check_right hc k hlt)
  have hpl := hp _ (List.getElem_mem hlt)
  have hl1 : (encLs (laysK ts (k + 1))).length = k + 1 := by rw [encLs_len, laysK_len hlt]
  have hsucc := laysK_succ hlt
  have hL : ∀ i, extOK (atE (exts ts) i) ∧ FixP (atE (exts ts) i) := fun i => atE_P (Q := fun e => extOK e ∧ FixP e) ext0_ok hE i
  generalize hLK : laysK ts (k + 1) = LK1 at hl1 hsucc
  generalize ts[k] = t at g1 hr hpl hsucc
  have ht := rightOK_ty hr
  generalize exts ts = L at *
  have happ : ∀ l : LayM, layM t L = l → encLs (laysK ts k) ++ [[vI l.size, .lst 3 (encSs l.slots)]] = encLs LK1 := fun l hl => by rw [hsucc, hl]; simp [encLs, encL]
  by_cases k8 : t.kind = 8
  · have e8 : (t.kind = 8) = True := eq_true k8
    (repeat' (first
    | exact trivial
    | (with_reducible first | refine awA ?_ | refine awB ?_ | refine awC ?_ | refine awD ?_ | refine awE ?_ | refine awF ?_ | refine awG ?_ | refine awH ?_ | refine awI ?_ | refine awJ ?_ | refine awK ?_ | refine awL ?_ | refine awM (by decide) ?_)
    | (refine aw_draw (id := 16) (t := (.node [0, 1, 2, 3, 4, 5, 6, 7, 8, 9, 10] [(.node [11, 12, 13] []), (.node [12, 11, 13] [])])) (drR [9, 10] [54, 56] []) mixed (by kernel_rfl) (by kernel_rfl) (fun _ _ h => h) ?_)
    | (refine aw_draw (id := 24) (t := (.node [0, 1, 2, 3, 4, 5, 6, 7, 8, 9, 10, 11] [])) (drR [9] [95, 100] []) mixed (by kernel_rfl) (by kernel_rfl) (fun _ _ h => h) ?_)
    | (refine at_done (by simp only [List.filterMap_cons, List.filterMap_nil, List.getElem?_toArray, List.getElem?_cons_zero, List.getElem?_cons_succ]; exact rfl) ?_) | (refine at_alt (by simp only [List.filterMap_cons, List.filterMap_nil, List.getElem?_toArray, List.getElem?_cons_zero, List.getElem?_cons_succ]; exact rfl) ?_) | refine qalt_normal ?_ | refine ats_cons ?_ ?_ | exact ats_nil
    | ((with_reducible first | refine awN (tyOf_ok _) [] ?_ | refine awO (tyOf_ok _) [] ?_ | refine awP (tyOf_ok _) [] ?_ | refine awQ ?_ | refine awR ?_ | refine awS ?_); intro r hr; simp only [go_sem, Nat.reduceBEq, Nat.reduceBneDiff, Nat.reduceLT, Nat.reduceLeDiff, Nat.reduceAdd, Nat.reduceMul, Nat.reduceSub, Nat.reduceEqDiff, reduceCtorEq, e1, g1, zk, e8, encTs_len, encPs_len, encEs_len] at hr; subst hr; (first | refine awV ?_ ?_ | refine awW ?_ ?_ | refine endK ?_ ?_ | (refine condK (fun h => ?_) (fun h => ?_) <;> (try simp only [go_sem, reduceCtorEq] at h) <;> (try (exfalso; omega))))) | fail)) <;> (try omega)
    refine aw_nilvar 10 1 55 3 64 (cs := [vI 0, .v (.slice none 0 0)]) (.inl (by decide)) (by decide) (by simp only [go_sem, Nat.reduceBEq, Nat.reduceBneDiff, Nat.reduceLT, Nat.reduceLeDiff, Nat.reduceAdd, Nat.reduceMul, Nat.reduceSub, Nat.reduceEqDiff, reduceCtorEq]) rfl ?_
    refine go_loop [1, 5, 7, 8, 9, 10, 11] [1, 8000, 9, 10, 64] (fun x : Nat × LayM => ⟨[(1, true, .ptr 1 1 0 0), (5, true, .lst 4 (encEs L)), (7, true, .ref 53 2 8000 0 k), (8, true, vI k), (9, true, .ptr 1 9 0 0), (10, true, .ptr 1 10 0 0), (11, true, vI x.1)],
      [(1, .var [.lst 4 (encTs ts), .lst 2 (encRs rs)]), (8000, .row 53 2 (encLs (laysK ts k))), (9, .var [vI t.kind, vI t.n, vI t.elem, .lst 3 (encPs t.parts)]), (10, .var [vI x.2.size, .ref 55 3 64 0 (encSs x.2.slots).length]), (64, .row 55 3 (encSs x.2.slots))]⟩)
      (fun x => x.1 ≤ t.parts.length ∧ x.2 = (t.parts.take x.1).foldl (layAdd L) ⟨0, []⟩ ∧ x.2.slots.length = x.1 ∧ 0 ≤ x.2.size ∧ x.2.size ≤ 4611686018427387904) (fun x => t.parts.length - x.1) (0, ⟨0, []⟩) (by simp only [AState.nilvar, go_sem, Nat.reduceBEq, Nat.reduceBneDiff, Nat.reduceLT, Nat.reduceLeDiff, Nat.reduceAdd, Nat.reduceMul, Nat.reduceSub, Nat.reduceEqDiff, reduceCtorEq]; exact rfl) ⟨Nat.zero_le _, rfl, rfl, by decide, by decide⟩ ?_
    intro ⟨j, x⟩ ⟨hj, hx, hxl, hx1, hx2⟩
    simp only at hj hx hxl hx1 hx2 ⊢
    have hwj := wrap_i64 (n := (j : Int) + 1) (by omega)
    have htk2 : (encSs x.slots).take x.slots.length = encSs x.slots := take_len (by simp [encSs_len])
    by_cases hlj : j < t.parts.length
    · have ej : ((j : Int) < t.parts.length) = True := eq_true (by omega)
      have gj := encPs_get hlj
      have hty := ht.2 _ (List.getElem_mem hlj)
      have htl : (t.parts[j].ty).toNat < L.length := by omega
      have ge := encEs_get htl
      have hat : atE L t.parts[j].ty = L[(t.parts[j].ty).toNat] := by rw [atE, List.getElem?_eq_getElem htl]; rfl
      have hok := hL t.parts[j].ty
      have hs := lay_succ L t.parts ⟨0, []⟩ hlj
      rw [hat] at hok
      rw [← hx, layAdd, hat] at hs
      generalize L[(t.parts[j].ty).toNat] = e at ge hat hok hs
      have hso := slot_ok (a := x.size) hok.1 hok.2
      have hsl := rslot_any e x.size
      rw [rslotF e x.size fun h => (hok.2 h).1] at hsl
      have hb := plusL_bd [x.size, (slotOf e x.size).size]
      have hlen : (x.slots ++ [slotOf e x.size]).length = j + 1 := by simp [hxl]
      have zj : ((j : Int)).toNat = j := by omega
      (repeat' (first
    | exact trivial
    | (with_reducible first | refine awA ?_ | refine awB ?_ | refine awC ?_ | refine awD ?_ | refine awE ?_ | refine awF ?_ | refine awG ?_ | refine awH ?_ | refine awI ?_ | refine awJ ?_ | refine awK ?_ | refine awL ?_ | refine awM (by decide) ?_)
    | (refine aw_draw (id := 16) (t := (.node [0, 1, 2, 3, 4, 5, 6, 7, 8, 9, 10] [(.node [11, 12, 13] []), (.node [12, 11, 13] [])])) (drR [9, 10] [54, 56] []) mixed (by kernel_rfl) (by kernel_rfl) (fun _ _ h => h) ?_)
    | (refine aw_draw (id := 24) (t := (.node [0, 1, 2, 3, 4, 5, 6, 7, 8, 9, 10, 11] [])) (drR [9] [95, 100] []) mixed (by kernel_rfl) (by kernel_rfl) (fun _ _ h => h) ?_)
    | (refine at_done (by simp only [List.filterMap_cons, List.filterMap_nil, List.getElem?_toArray, List.getElem?_cons_zero, List.getElem?_cons_succ]; exact rfl) ?_) | (refine at_alt (by simp only [List.filterMap_cons, List.filterMap_nil, List.getElem?_toArray, List.getElem?_cons_zero, List.getElem?_cons_succ]; exact rfl) ?_) | refine qalt_normal ?_ | refine ats_cons ?_ ?_ | exact ats_nil
    | ((with_reducible first | refine awN (tyOf_ok _) [] ?_ | refine awO (tyOf_ok _) [] ?_ | refine awP (tyOf_ok _) [] ?_ | refine awQ ?_ | refine awR ?_ | refine awS ?_); intro r hr; simp only [go_sem, Nat.reduceBEq, Nat.reduceBneDiff, Nat.reduceLT, Nat.reduceLeDiff, Nat.reduceAdd, Nat.reduceMul, Nat.reduceSub, Nat.reduceEqDiff, reduceCtorEq, hwj, ej, gj, ge, zj, encPs_len, encEs_len, encSs_len, htk2, slotS, encSs_app, hlen] at hr; subst hr; (first | refine caA (fun _ => hsl) rfl ?_ ?_ ?_ | refine caA (fun _ => rplus13_any _ _ ⟨hx1, hx2⟩ ⟨by omega, hso.2.2⟩) rfl ?_ ?_ ?_ | refine awV ?_ ?_ | refine awW ?_ ?_ | refine endK ?_ ?_ | (refine condK (fun h => ?_) (fun h => ?_) <;> (try simp only [go_sem, reduceCtorEq] at h) <;> (try (exfalso; omega))))) | fail)) <;> (try omega)
      all_goals first | omega | exact ⟨(j + 1, ⟨_, _⟩), by simp only [go_sem, Nat.reduceBEq, Nat.reduceBneDiff, Nat.reduceLT, Nat.reduceLeDiff, Nat.reduceAdd, Nat.reduceMul, Nat.reduceSub, Nat.reduceEqDiff, reduceCtorEq, encSs_len, hlen]; exact rfl, ⟨hlj, hs.symm, by simp [hxl], by simp only; omega, by simp only; omega⟩, by simp only; omega⟩
    · have ej : ((j : Int) < t.parts.length) = False := eq_false (by omega)
      rw [take_len (by omega)] at hx
      have ha := happ x (by rw [layM, if_pos k8, ← hx])
      (repeat' (first
    | exact trivial
    | (refine aw_frz 64 rfl (by decide) ?_)
    | (with_reducible first | refine awA ?_ | refine awB ?_ | refine awC ?_ | refine awD ?_ | refine awE ?_ | refine awF ?_ | refine awG ?_ | refine awH ?_ | refine awI ?_ | refine awJ ?_ | refine awK ?_ | refine awL ?_ | refine awM (by decide) ?_)
    | (refine aw_draw (id := 16) (t := (.node [0, 1, 2, 3, 4, 5, 6, 7, 8, 9, 10] [(.node [11, 12, 13] []), (.node [12, 11, 13] [])])) (drR [9, 10] [54, 56] []) mixed (by kernel_rfl) (by kernel_rfl) (fun _ _ h => h) ?_)
    | (refine aw_draw (id := 24) (t := (.node [0, 1, 2, 3, 4, 5, 6, 7, 8, 9, 10, 11] [])) (drR [9] [95, 100] []) mixed (by kernel_rfl) (by kernel_rfl) (fun _ _ h => h) ?_)
    | (refine at_done (by simp only [List.filterMap_cons, List.filterMap_nil, List.getElem?_toArray, List.getElem?_cons_zero, List.getElem?_cons_succ]; exact rfl) ?_) | (refine at_alt (by simp only [List.filterMap_cons, List.filterMap_nil, List.getElem?_toArray, List.getElem?_cons_zero, List.getElem?_cons_succ]; exact rfl) ?_) | refine qalt_normal ?_ | refine ats_cons ?_ ?_ | exact ats_nil
    | ((with_reducible first | refine awN (tyOf_ok _) [] ?_ | refine awO (tyOf_ok _) [] ?_ | refine awP (tyOf_ok _) [] ?_ | refine awQ ?_ | refine awR ?_ | refine awS ?_); intro r hr; simp only [go_sem, Nat.reduceBEq, Nat.reduceBneDiff, Nat.reduceLT, Nat.reduceLeDiff, Nat.reduceAdd, Nat.reduceMul, Nat.reduceSub, Nat.reduceEqDiff, reduceCtorEq, hwj, hw1, ej, ha, hl1, hll, htk, htk2, List.drop_zero, Nat.zero_add, Nat.le_refl, if_true, and_self, encPs_len, encSs_len] at hr; subst hr; (first | refine awV ?_ ?_ | refine awW ?_ ?_ | refine endK ?_ ?_ | (refine condK (fun h => ?_) (fun h => ?_) <;> (try simp only [go_sem, reduceCtorEq] at h) <;> (try (exfalso; omega))))) | fail)) <;> (try omega)
      all_goals first | omega | exact ⟨k + 1, by simp only [hLK, go_sem, Nat.reduceBEq, Nat.reduceBneDiff, Nat.reduceLT, Nat.reduceLeDiff, Nat.reduceAdd, Nat.reduceMul, Nat.reduceSub, Nat.reduceEqDiff, reduceCtorEq]; exact rfl, hlt, by omega⟩
  have e8 : (t.kind = 8) = False := eq_false k8
  by_cases k4 : t.kind = 4
  · have e4 : (t.kind = 4) = True := eq_true k4
    have hel := ht.1 (.inl k4)
    have hlt2 : t.elem.toNat < L.length := by omega
    have ge := encEs_get hlt2
    have hat : atE L t.elem = L[t.elem.toNat] := by rw [atE, List.getElem?_eq_getElem hlt2]; rfl
    have hok := hL t.elem
    rw [hat] at hok
    have hn := rightOK_n hr (.inl k4)
    have ha := happ ⟨timesS t.n (slotOf L[t.elem.toNat] 0).size, [slotOf L[t.elem.toNat] 0]⟩ (by rw [layM, if_neg k8, if_pos k4, hat])
    generalize L[t.elem.toNat] = e at ge hat hok ha
    have hso := slot_ok (a := 0) hok.1 hok.2
    have hsl := rslot_any e 0
    rw [rslotF e 0 fun h => (hok.2 h).1] at hsl
    have hs1 : encSs [slotOf e 0] = [[vI (slotOf e 0).at_, vB (slotOf e 0).var, vI (slotOf e 0).size]] := rfl
    rw [hs1] at ha
    (repeat' (first
    | exact trivial
    | (refine aw_frz 84 rfl (by decide) ?_)
    | (with_reducible first | refine awA ?_ | refine awB ?_ | refine awC ?_ | refine awD ?_ | refine awE ?_ | refine awF ?_ | refine awG ?_ | refine awH ?_ | refine awI ?_ | refine awJ ?_ | refine awK ?_ | refine awL ?_ | refine awM (by decide) ?_)
    | (refine aw_draw (id := 16) (t := (.node [0, 1, 2, 3, 4, 5, 6, 7, 8, 9, 10] [(.node [11, 12, 13] []), (.node [12, 11, 13] [])])) (drR [9, 10] [54, 56] []) mixed (by kernel_rfl) (by kernel_rfl) (fun _ _ h => h) ?_)
    | (refine aw_draw (id := 24) (t := (.node [0, 1, 2, 3, 4, 5, 6, 7, 8, 9, 10, 11] [])) (drR [9] [95, 100] []) mixed (by kernel_rfl) (by kernel_rfl) (fun _ _ h => h) ?_)
    | (refine at_done (by simp only [List.filterMap_cons, List.filterMap_nil, List.getElem?_toArray, List.getElem?_cons_zero, List.getElem?_cons_succ]; exact rfl) ?_) | (refine at_alt (by simp only [List.filterMap_cons, List.filterMap_nil, List.getElem?_toArray, List.getElem?_cons_zero, List.getElem?_cons_succ]; exact rfl) ?_) | refine qalt_normal ?_ | refine ats_cons ?_ ?_ | exact ats_nil
    | ((with_reducible first | refine awN (tyOf_ok _) [] ?_ | refine awO (tyOf_ok _) [] ?_ | refine awP (tyOf_ok _) [] ?_ | refine awQ ?_ | refine awR ?_ | refine awS ?_); intro r hr; simp only [go_sem, Nat.reduceBEq, Nat.reduceBneDiff, Nat.reduceLT, Nat.reduceLeDiff, Nat.reduceAdd, Nat.reduceMul, Nat.reduceSub, Nat.reduceEqDiff, reduceCtorEq, e1, g1, zk, e8, e4, ge, hw1, ha, hl1, hll, htk, slotS, List.take_succ_cons, List.take_zero, List.drop_zero, Nat.zero_add, Nat.le_refl, if_true, and_self, encTs_len, encPs_len, encEs_len] at hr; subst hr; (first | refine caA (fun _ => hsl) rfl ?_ ?_ ?_ | refine caA (fun _ => rtimes13_any _ _ hn ⟨by omega, hso.2.2⟩) rfl ?_ ?_ ?_ | refine awV ?_ ?_ | refine awW ?_ ?_ | refine endK ?_ ?_ | (refine condK (fun h => ?_) (fun h => ?_) <;> (try simp only [go_sem, reduceCtorEq] at h) <;> (try (exfalso; omega))))) | fail)) <;> (try omega)
    all_goals first | omega | exact ⟨k + 1, by simp only [hLK, go_sem, Nat.reduceBEq, Nat.reduceBneDiff, Nat.reduceLT, Nat.reduceLeDiff, Nat.reduceAdd, Nat.reduceMul, Nat.reduceSub, Nat.reduceEqDiff, reduceCtorEq]; exact rfl, hlt, by omega⟩
  have e4 : (t.kind = 4) = False := eq_false k4
  by_cases k5 : t.kind = 5
  · have e5 : (t.kind = 5) = True := eq_true k5
    have hel := ht.1 (.inr (.inl k5))
    have hlt2 : t.elem.toNat < L.length := by omega
    have ge := encEs_get hlt2
    have hat : atE L t.elem = L[t.elem.toNat] := by rw [atE, List.getElem?_eq_getElem hlt2]; rfl
    have hok := hL t.elem
    rw [hat] at hok
    have ha := happ ⟨0, [slotOf L[t.elem.toNat] 0]⟩ (by rw [layM, if_neg k8, if_neg k4, if_pos k5, hat])
    generalize L[t.elem.toNat] = e at ge hat hok ha
    have hsl := rslot_any e 0
    rw [rslotF e 0 fun h => (hok.2 h).1] at hsl
    have hs1 : encSs [slotOf e 0] = [[vI (slotOf e 0).at_, vB (slotOf e 0).var, vI (slotOf e 0).size]] := rfl
    rw [hs1] at ha
    (repeat' (first
    | exact trivial
    | (refine aw_frz 103 rfl (by decide) ?_)
    | (with_reducible first | refine awA ?_ | refine awB ?_ | refine awC ?_ | refine awD ?_ | refine awE ?_ | refine awF ?_ | refine awG ?_ | refine awH ?_ | refine awI ?_ | refine awJ ?_ | refine awK ?_ | refine awL ?_ | refine awM (by decide) ?_)
    | (refine aw_draw (id := 16) (t := (.node [0, 1, 2, 3, 4, 5, 6, 7, 8, 9, 10] [(.node [11, 12, 13] []), (.node [12, 11, 13] [])])) (drR [9, 10] [54, 56] []) mixed (by kernel_rfl) (by kernel_rfl) (fun _ _ h => h) ?_)
    | (refine aw_draw (id := 24) (t := (.node [0, 1, 2, 3, 4, 5, 6, 7, 8, 9, 10, 11] [])) (drR [9] [95, 100] []) mixed (by kernel_rfl) (by kernel_rfl) (fun _ _ h => h) ?_)
    | (refine at_done (by simp only [List.filterMap_cons, List.filterMap_nil, List.getElem?_toArray, List.getElem?_cons_zero, List.getElem?_cons_succ]; exact rfl) ?_) | (refine at_alt (by simp only [List.filterMap_cons, List.filterMap_nil, List.getElem?_toArray, List.getElem?_cons_zero, List.getElem?_cons_succ]; exact rfl) ?_) | refine qalt_normal ?_ | refine ats_cons ?_ ?_ | exact ats_nil
    | ((with_reducible first | refine awN (tyOf_ok _) [] ?_ | refine awO (tyOf_ok _) [] ?_ | refine awP (tyOf_ok _) [] ?_ | refine awQ ?_ | refine awR ?_ | refine awS ?_); intro r hr; simp only [go_sem, Nat.reduceBEq, Nat.reduceBneDiff, Nat.reduceLT, Nat.reduceLeDiff, Nat.reduceAdd, Nat.reduceMul, Nat.reduceSub, Nat.reduceEqDiff, reduceCtorEq, e1, g1, zk, e8, e4, e5, ge, hw1, ha, hl1, hll, htk, slotS, List.take_succ_cons, List.take_zero, List.drop_zero, Nat.zero_add, Nat.le_refl, if_true, and_self, encTs_len, encPs_len, encEs_len] at hr; subst hr; (first | refine caA (fun _ => hsl) rfl ?_ ?_ ?_ | refine awV ?_ ?_ | refine awW ?_ ?_ | refine endK ?_ ?_ | (refine condK (fun h => ?_) (fun h => ?_) <;> (try simp only [go_sem, reduceCtorEq] at h) <;> (try (exfalso; omega))))) | fail)) <;> (try omega)
    all_goals first | omega | exact ⟨k + 1, by simp only [hLK, go_sem, Nat.reduceBEq, Nat.reduceBneDiff, Nat.reduceLT, Nat.reduceLeDiff, Nat.reduceAdd, Nat.reduceMul, Nat.reduceSub, Nat.reduceEqDiff, reduceCtorEq]; exact rfl, hlt, by omega⟩
  have e5 : (t.kind = 5) = False := eq_false k5
  have ha := happ ⟨0, []⟩ (by rw [layM, if_neg k8, if_neg k4, if_neg k5])
  have hs0 : encSs [] = [] := rfl
  rw [hs0] at ha
  (repeat' (first
    | exact trivial
    | (refine aw_nilvar 10 1 55 3 8001 (cs := [vI 0, .v (.slice none 0 0)]) (.inl (by decide)) (by decide) rfl rfl ?_)
    | (refine aw_frz 8001 rfl (by decide) ?_)
    | (with_reducible first | refine awA ?_ | refine awB ?_ | refine awC ?_ | refine awD ?_ | refine awE ?_ | refine awF ?_ | refine awG ?_ | refine awH ?_ | refine awI ?_ | refine awJ ?_ | refine awK ?_ | refine awL ?_ | refine awM (by decide) ?_)
    | (refine aw_draw (id := 16) (t := (.node [0, 1, 2, 3, 4, 5, 6, 7, 8, 9, 10] [(.node [11, 12, 13] []), (.node [12, 11, 13] [])])) (drR [9, 10] [54, 56] []) mixed (by kernel_rfl) (by kernel_rfl) (fun _ _ h => h) ?_)
    | (refine aw_draw (id := 24) (t := (.node [0, 1, 2, 3, 4, 5, 6, 7, 8, 9, 10, 11] [])) (drR [9] [95, 100] []) mixed (by kernel_rfl) (by kernel_rfl) (fun _ _ h => h) ?_)
    | (refine at_done (by simp only [List.filterMap_cons, List.filterMap_nil, List.getElem?_toArray, List.getElem?_cons_zero, List.getElem?_cons_succ]; exact rfl) ?_) | (refine at_alt (by simp only [List.filterMap_cons, List.filterMap_nil, List.getElem?_toArray, List.getElem?_cons_zero, List.getElem?_cons_succ]; exact rfl) ?_) | refine qalt_normal ?_ | refine ats_cons ?_ ?_ | exact ats_nil
    | ((with_reducible first | refine awN (tyOf_ok _) [] ?_ | refine awO (tyOf_ok _) [] ?_ | refine awP (tyOf_ok _) [] ?_ | refine awQ ?_ | refine awR ?_ | refine awS ?_); intro r hr; simp only [go_sem, Nat.reduceBEq, Nat.reduceBneDiff, Nat.reduceLT, Nat.reduceLeDiff, Nat.reduceAdd, Nat.reduceMul, Nat.reduceSub, Nat.reduceEqDiff, reduceCtorEq, AState.nilvar, List.set_cons_succ, List.set_cons_zero, e1, g1, zk, e8, e4, e5, hw1, ha, hl1, hll, htk, List.take_nil, List.drop_nil, List.length_nil, Nat.add_zero, Nat.le_refl, if_true, and_self, encTs_len, encPs_len, encEs_len] at hr; subst hr; (first | refine awV ?_ ?_ | refine awW ?_ ?_ | refine endK ?_ ?_ | (refine condK (fun h => ?_) (fun h => ?_) <;> (try simp only [go_sem, reduceCtorEq] at h) <;> (try (exfalso; omega))))) | fail)) <;> (try omega)
  all_goals first | omega | exact ⟨k + 1, by simp only [hLK, go_sem, Nat.reduceBEq, Nat.reduceBneDiff, Nat.reduceLT, Nat.reduceLeDiff, Nat.reduceAdd, Nat.reduceMul, Nat.reduceSub, Nat.reduceEqDiff, reduceCtorEq]; exact rfl, hlt, by omega⟩
end Go.Proofs.Ytljfgohecmhchaa
end
section
namespace Go.Proofs.Ytljfgohecmhchaa
open Go.RowKit
/-! Elements that own slices: of object d the element i's slice is the object kn d i. -/
/-- names of what the elements of object d own -/
def kn (d i : Nat) : Nat := d + 20000 * (i + 1)
theorem kn_lo (d i : Nat) : (kn d i < 10000) = False := eq_false (by unfold kn; omega)
theorem kn_hi (d i : Nat) : (20000 ≤ kn d i) = True := eq_true (by unfold kn; omega)
theorem kn_own (d i : Nat) : ownN (kn d i) := .inr (by unfold kn; omega)
theorem kn_ne (d i : Nat) {n : Nat} (h : n < 20000) : (kn d i == n) = false := by
  have : kn d i ≠ n := by unfold kn; omega
  simpa using this
theorem kn_ne' (d i : Nat) {n : Nat} (h : n < 20000) : (n == kn d i) = false := by
  have : n ≠ kn d i := by unfold kn; omega
  simpa using this
theorem kn_inj {d i j : Nat} (h : kn d i = kn d j) : i = j := by unfold kn at h; omega
theorem kn_eq (d i j : Nat) : (kn d i == kn d j) = (i == j) := by
  by_cases h : i = j
  · subst h; simp
  · have h' : kn d i ≠ kn d j := fun g => h (kn_inj g)
    rw [beq_false_of_ne h', beq_false_of_ne h]
theorem kn_mod (d i : Nat) (h : d < 20000) : kn d i % 20000 = d := by unfold kn; omega

/-- element i's slice: of the first m elements nobody writes it any more -/
def kc (ty kk d m i : Nat) (ys : List (List AV)) : AV := bif Nat.blt i m then .lst kk ys else .ref ty kk (kn d i) 0 ys.length
/-- the cells of the elements: a number, a slice -/
def kcells (ty kk d m : Nat) : Nat → List (Int × List (List AV)) → List AV
  | _, [] => []
  | i, p :: S => .v (.int .i64 p.1) :: kc ty kk d m i p.2 :: kcells ty kk d m (i + 1) S
/-- what they own -/
def kids (ty kk d m : Nat) : Nat → List (Int × List (List AV)) → List (Nat × AObj)
  | _, [] => []
  | i, p :: S => bif Nat.blt i m then kids ty kk d m (i + 1) S else (kn d i, .row ty kk p.2) :: kids ty kk d m (i + 1) S
/-- how they read -/
def encK (kk : Nat) (S : List (Int × List (List AV))) : List (List AV) := S.map fun p => [.v (.int .i64 p.1), .lst kk p.2]
def kidNames (d n : Nat) : List Nat := (List.range n).map (kn d)
theorem blt_t {i m : Nat} (h : i < m) : Nat.blt i m = true := Nat.ble_eq_true_of_le h
theorem blt_f {i m : Nat} (h : m ≤ i) : Nat.blt i m = false := by
  cases hb : Nat.blt i m
  · rfl
  · have := Nat.le_of_ble_eq_true hb; omega
theorem kc_t {ty kk d m i : Nat} {ys : List (List AV)} (h : i < m) : kc ty kk d m i ys = .lst kk ys := by rw [kc, blt_t h]; rfl
theorem kc_f {ty kk d m i : Nat} {ys : List (List AV)} (h : m ≤ i) : kc ty kk d m i ys = .ref ty kk (kn d i) 0 ys.length := by rw [kc, blt_f h]; rfl
section
variable {ty kk d m : Nat}
theorem kcells_len (i : Nat) (S : List (Int × List (List AV))) : (kcells ty kk d m i S).length = S.length * 2 := by
  induction S generalizing i with
  | nil => rfl
  | cons p S ih => simp only [kcells, List.length_cons, ih]; omega
theorem kcells_get1 {S : List (Int × List (List AV))} {p : Int × List (List AV)} : ∀ (i j : Nat), S[j]? = some p → (kcells ty kk d m i S)[j * 2 + 1]? = some (kc ty kk d m (i + j) p.2) := by
  induction S with
  | nil => intro i j h; simp at h
  | cons q S ih =>
    intro i j h
    cases j with
    | zero => simp only [List.getElem?_cons_zero, Option.some.injEq] at h; subst h; rfl
    | succ j =>
      have h' : S[j]? = some p := by simpa using h
      have := ih (i + 1) j h'
      rw [kcells, show (j + 1) * 2 + 1 = (j * 2 + 1) + 2 by omega, List.getElem?_cons_succ, List.getElem?_cons_succ, this, show i + 1 + j = i + (j + 1) by omega]
theorem kcells_get0 {S : List (Int × List (List AV))} {p : Int × List (List AV)} : ∀ (i j : Nat), S[j]? = some p → (kcells ty kk d m i S)[j * 2]? = some (.v (.int .i64 p.1)) := by
  induction S with
  | nil => intro i j h; simp at h
  | cons q S ih =>
    intro i j h
    cases j with
    | zero => simp only [List.getElem?_cons_zero, Option.some.injEq] at h; subst h; rfl
    | succ j =>
      have h' : S[j]? = some p := by simpa using h
      have := ih (i + 1) j h'
      rw [kcells, show (j + 1) * 2 = (j * 2) + 2 by omega, List.getElem?_cons_succ, List.getElem?_cons_succ, this]
theorem kcells_snoc (p : Int × List (List AV)) (S : List (Int × List (List AV))) : ∀ i, kcells ty kk d m i S ++ [.v (.int .i64 p.1), kc ty kk d m (i + S.length) p.2] = kcells ty kk d m i (S ++ [p]) := by
  induction S with
  | nil => intro i; rfl
  | cons q S ih =>
    intro i
    rw [kcells, List.cons_append, List.cons_append, List.cons_append, kcells, ← ih (i + 1), List.length_cons, show i + (S.length + 1) = i + 1 + S.length by omega]
/-- a cell, whatever it is -/
theorem kcells_mem {S : List (Int × List (List AV))} {u : AV} : ∀ i, u ∈ kcells ty kk d m i S → (∃ n, u = .v (.int .i64 n)) ∨ ∃ j p, S[j]? = some p ∧ u = kc ty kk d m (i + j) p.2 := by
  induction S with
  | nil => intro i h; cases h
  | cons q S ih =>
    intro i h
    rw [kcells] at h
    rcases List.mem_cons.1 h with h | h
    · exact .inl ⟨_, h⟩
    · rcases List.mem_cons.1 h with h | h
      · exact .inr ⟨0, q, rfl, h⟩
      · rcases ih (i + 1) h with h | ⟨j, p, h1, h2⟩
        · exact .inl h
        · exact .inr ⟨j + 1, p, by simpa using h1, by rw [h2, show i + 1 + j = i + (j + 1) by omega]⟩
theorem kcells_map {f : AV → AV} {S : List (Int × List (List AV))} (i : Nat) (h : ∀ u ∈ kcells ty kk d m i S, f u = u) : (kcells ty kk d m i S).map f = kcells ty kk d m i S := by
  conv => rhs; rw [← List.map_id (kcells ty kk d m i S)]
  exact List.map_congr_left fun u hu => h u hu
theorem killL_app (e : Nat) (a b : List AV) : AV.kill.killL e (a ++ b) = AV.kill.killL e a ++ AV.kill.killL e b := by simp [AV.killL_eq]
theorem kill_kcells {e : Nat} (he : e < 20000) (i : Nat) (S : List (Int × List (List AV))) : AV.kill.killL e (kcells ty kk d m i S) = kcells ty kk d m i S := by
  rw [AV.killL_eq]
  refine kcells_map i fun u hu => ?_
  rcases kcells_mem i hu with ⟨n, rfl⟩ | ⟨j, p, _, rfl⟩
  · rfl
  · unfold kc
    cases Nat.blt (i + j) m
    · simp only [cond_false, AV.kill, kn_ne d (i + j) he]
    · rfl
theorem frz_kcells {e t k : Nat} {xs : List (List AV)} (he : e < 20000) (i : Nat) (S : List (Int × List (List AV))) : AV.frz.frzL e t k xs (kcells ty kk d m i S) = kcells ty kk d m i S := by
  rw [AV.frzL_eq]
  refine kcells_map i fun u hu => ?_
  rcases kcells_mem i hu with ⟨n, rfl⟩ | ⟨j, p, _, rfl⟩
  · rfl
  · unfold kc
    cases Nat.blt (i + j) m
    · simp only [cond_false, AV.frz, kn_ne d (i + j) he]
    · rfl
theorem cut_kcells {K : List Nat} (i : Nat) (S : List (Int × List (List AV))) (hK : ∀ e ∈ K, ∀ j, j < S.length → kn d (i + j) ≠ e) : AV.cut.cutL K [] (kcells ty kk d m i S) = kcells ty kk d m i S := by
  rw [AV.cutL_eq]
  refine kcells_map i fun u hu => ?_
  rcases kcells_mem i hu with ⟨n, rfl⟩ | ⟨j, p, hj, rfl⟩
  · rfl
  · unfold kc
    cases Nat.blt (i + j) m
    · have : K.contains (kn d (i + j)) = false := by
        rw [List.contains_eq_mem, decide_eq_false_iff_not]
        exact fun h => hK _ h j (lt_of_get hj) rfl
      simp only [cond_false, AV.cut, this]
    · rfl
/-- the first slice that somebody may write is written no more -/
theorem frz_kcells_at {ys : List (List AV)} {a : Int} : ∀ (S : List (Int × List (List AV))) (i : Nat), i ≤ m → S[m - i]? = some (a, ys) → AV.frz.frzL (kn d m) ty kk ys (kcells ty kk d m i S) = kcells ty kk d (m + 1) i S := by
  intro S
  have tail : ∀ (S : List (Int × List (List AV))) (i : Nat), m < i → AV.frz.frzL (kn d m) ty kk ys (kcells ty kk d m i S) = kcells ty kk d (m + 1) i S := by
    intro S
    induction S with
    | nil => intro i _; rfl
    | cons p S ih =>
      intro i hi
      rw [kcells, kcells, kc_f (by omega), kc_f (by omega)]
      simp only [AV.frz.frzL, AV.frz, ih (i + 1) (by omega)]
      have : (kn d i == kn d m) = false := by rw [kn_eq]; simpa using Nat.ne_of_gt hi
      rw [this]
      rfl
  induction S with
  | nil => intro i _ h; simp at h
  | cons p S ih =>
    intro i hi h
    by_cases he : i = m
    · subst he
      rw [Nat.sub_self, List.getElem?_cons_zero] at h
      injection h with h
      subst h
      rw [kcells, kcells, kc_f (Nat.le_refl _), kc_t (by omega)]
      simp only [AV.frz.frzL, AV.frz, tail S (i + 1) (by omega), beq_self_eq_true, cond_true, Nat.zero_add, Nat.le_refl, and_self, if_true, List.take_length, List.drop_zero]
    · have h' : S[m - (i + 1)]? = some (a, ys) := by
        rw [show m - i = (m - (i + 1)) + 1 by omega] at h
        simpa using h
      rw [kcells, kcells, kc_t (by omega), kc_t (by omega)]
      simp only [AV.frz.frzL, AV.frz, ih (i + 1) (by omega) h']
theorem kids_names {S : List (Int × List (List AV))} {q : Nat × AObj} : ∀ i, q ∈ kids ty kk d m i S → ∃ j p, S[j]? = some p ∧ m ≤ i + j ∧ q = (kn d (i + j), .row ty kk p.2) := by
  induction S with
  | nil => intro i h; cases h
  | cons p S ih =>
    intro i h
    rw [kids] at h
    have go : q ∈ kids ty kk d m (i + 1) S → ∃ j p', (p :: S)[j]? = some p' ∧ m ≤ i + j ∧ q = (kn d (i + j), .row ty kk p'.2) := fun h => by
      obtain ⟨j, p', h1, h2, h3⟩ := ih (i + 1) h
      exact ⟨j + 1, p', by simpa using h1, by omega, by rw [h3, show i + 1 + j = i + (j + 1) by omega]⟩
    by_cases hm : i < m
    · rw [blt_t hm] at h; exact go h
    · rw [blt_f (by omega)] at h
      rcases List.mem_cons.1 h with h | h
      · exact ⟨0, p, rfl, by omega, h⟩
      · exact go h
theorem lk_kids_lo {e : Nat} (he : e < 20000) (i : Nat) (S : List (Int × List (List AV))) : lk (kids ty kk d m i S) e = none := by
  cases h : lk (kids ty kk d m i S) e with
  | none => rfl
  | some o =>
    obtain ⟨j, p, _, _, h3⟩ := kids_names i (lk_mem h)
    injection h3 with h3 _
    unfold kn at h3; omega
theorem lk_kids : ∀ (S : List (Int × List (List AV))) (i j : Nat), i ≤ j → lk (kids ty kk d m i S) (kn d j) = if m ≤ j then (S[j - i]?).map (fun p => .row ty kk p.2) else none := by
  intro S
  induction S with
  | nil => intro i j _; simp [kids, lk]
  | cons p S ih =>
    intro i j hij
    rw [kids]
    by_cases he : i = j
    · subst he
      by_cases hm : i < m
      · rw [blt_t hm, cond_true, if_neg (by omega)]
        cases h : lk (kids ty kk d m (i + 1) S) (kn d i) with
        | none => rfl
        | some o =>
          obtain ⟨j, p, _, _, h3⟩ := kids_names (i + 1) (lk_mem h)
          injection h3 with h3 _
          have := kn_inj h3; omega
      · rw [blt_f (by omega), cond_false, lk_cons, bif_eq rfl, if_pos (by omega), Nat.sub_self]; rfl
    · have h1 := ih (i + 1) j (by omega)
      have h2 : (p :: S)[j - i]? = S[j - (i + 1)]? := by rw [show j - i = (j - (i + 1)) + 1 by omega, List.getElem?_cons_succ]
      by_cases hm : i < m
      · rw [blt_t hm, cond_true, h1, h2]
      · rw [blt_f (by omega), cond_false, lk_cons, bif_ne (fun g => he (kn_inj g)), h1, h2]
theorem lk_kids0 (S : List (Int × List (List AV))) {j : Nat} {p : Int × List (List AV)} (hm : m ≤ j) (h : S[j]? = some p) : lk (kids ty kk d m 0 S) (kn d j) = some (.row ty kk p.2) := by
  rw [lk_kids S 0 j (Nat.zero_le _), if_pos hm, Nat.sub_zero, h]; rfl
theorem rm_none {α : Type} {e : Nat} : ∀ {l : List (Nat × α)}, (∀ q ∈ l, q.1 ≠ e) → rm e l = l
  | [], _ => rfl
  | (k, a) :: l, h => by
    rw [rm, bif_ne (h (k, a) (.head _)), rm_none fun q hq => h q (.tail _ hq)]
theorem rm_kids {e : Nat} (he : e < 20000) (i : Nat) (S : List (Int × List (List AV))) : rm e (kids ty kk d m i S) = kids ty kk d m i S :=
  rm_none fun q hq => by
    obtain ⟨j, p, _, _, rfl⟩ := kids_names i hq
    show kn d (i + j) ≠ e
    unfold kn; omega
theorem kids_up : ∀ (S : List (Int × List (List AV))) (i : Nat), m < i → kids ty kk d (m + 1) i S = kids ty kk d m i S := by
  intro S
  induction S with
  | nil => intro i _; rfl
  | cons p S ih =>
    intro i hi
    rw [kids, kids, blt_f (by omega), blt_f (by omega), cond_false, cond_false, ih (i + 1) (by omega)]
theorem rm_kids_at : ∀ (S : List (Int × List (List AV))) (i : Nat), i ≤ m → rm (kn d m) (kids ty kk d m i S) = kids ty kk d (m + 1) i S := by
  intro S
  induction S with
  | nil => intro i _; rfl
  | cons p S ih =>
    intro i hi
    rw [kids, kids]
    by_cases he : i = m
    · subst he
      rw [blt_f (Nat.le_refl _), blt_t (Nat.lt_succ_self _), cond_false, cond_true, rm, bif_eq rfl, kids_up S (i + 1) (by omega)]
      exact rm_none fun q hq => by
        obtain ⟨j, p, _, _, rfl⟩ := kids_names (i + 1) hq
        exact fun g => by have := kn_inj g; omega
    · rw [blt_t (by omega), blt_t (by omega), cond_true, cond_true, ih (i + 1) (by omega)]
theorem kids_map (f : AObj → AObj) (hf : ∀ t k xs, f (.row t k xs) = .row t k xs) (i : Nat) (S : List (Int × List (List AV))) : (kids ty kk d m i S).map (fun p => (p.1, f p.2)) = kids ty kk d m i S := by
  conv => rhs; rw [← List.map_id (kids ty kk d m i S)]
  refine List.map_congr_left fun q hq => ?_
  obtain ⟨j, p, _, _, rfl⟩ := kids_names i hq
  simp only [hf, id_eq]
theorem kids_kill (e i : Nat) (S : List (Int × List (List AV))) : (kids ty kk d m i S).map (fun p => (p.1, p.2.kill e)) = kids ty kk d m i S := kids_map (AObj.kill e) (fun _ _ _ => rfl) i S
theorem kids_frz (e t k : Nat) (xs : List (List AV)) (i : Nat) (S : List (Int × List (List AV))) : (kids ty kk d m i S).map (fun p => (p.1, p.2.frz e t k xs)) = kids ty kk d m i S := kids_map (AObj.frz e t k xs) (fun _ _ _ => rfl) i S
theorem kids_cut (K V : List Nat) (i : Nat) (S : List (Int × List (List AV))) : (kids ty kk d m i S).map (fun p => (p.1, p.2.cut K V)) = kids ty kk d m i S := kids_map (AObj.cut K V) (fun _ _ _ => rfl) i S
theorem kids_snoc (p : Int × List (List AV)) (S : List (Int × List (List AV))) : ∀ i, m ≤ i + S.length → kids ty kk d m i S ++ [(kn d (i + S.length), .row ty kk p.2)] = kids ty kk d m i (S ++ [p]) := by
  induction S with
  | nil =>
    intro i h
    have hb : Nat.blt i m = false := blt_f (by simpa using h)
    simp [kids, hb]
  | cons q S ih =>
    intro i h
    have h' := ih (i + 1) (by rw [List.length_cons] at h; omega)
    rw [kids, List.cons_append, kids, ← h', List.length_cons, show i + (S.length + 1) = i + 1 + S.length by omega]
    cases Nat.blt i m <;> rfl
theorem keep_range (g : Nat → Option AObj) : ∀ (n i : Nat) (S : List (Int × List (List AV))), S.length ≤ n → (∀ j, i ≤ j → g j = if m ≤ j then (S[j - i]?).map (fun p => .row ty kk p.2) else none) →
    (List.range' i n).filterMap (fun j => (g j).map fun o => (kn d j, o)) = kids ty kk d m i S := by
  intro n
  induction n with
  | zero =>
    intro i S hS _
    have hS0 : S = [] := List.eq_nil_of_length_eq_zero (by omega)
    subst hS0
    rfl
  | succ n ih =>
    intro i S hS hg
    rw [List.range'_succ, List.filterMap_cons]
    have h0 := hg i (Nat.le_refl _)
    rw [Nat.sub_self] at h0
    cases S with
    | nil =>
      have : g i = none := by rw [h0]; split <;> rfl
      rw [this]
      exact ih (i + 1) [] (Nat.zero_le _) fun j hj => by rw [hg j (by omega)]; simp
    | cons p S =>
      have ht := ih (i + 1) S (by rw [List.length_cons] at hS; omega) fun j hj => by
        rw [hg j (by omega), show j - i = (j - (i + 1)) + 1 by omega, List.getElem?_cons_succ]
      rw [kids]
      by_cases hm : i < m
      · rw [h0, if_neg (by omega), blt_t hm]
        exact ht
      · rw [h0, if_pos (by omega), blt_f (by omega)]
        show (kn d i, AObj.row ty kk p.2) :: _ = _
        rw [ht]; rfl
/-- what is kept in mind of it -/
theorem keep_kids {ob : List (Nat × AObj)} {n : Nat} {S : List (Int × List (List AV))} (hS : S.length ≤ n) (h : ∀ j, lk ob (kn d j) = if m ≤ j then (S[j]?).map (fun p => .row ty kk p.2) else none) :
    (kidNames d n).filterMap (fun e => (lk ob e).map fun o => (e, o)) = kids ty kk d m 0 S := by
  rw [kidNames, List.filterMap_map, List.range_eq_range']
  exact keep_range (fun j => lk ob (kn d j)) n 0 S hS fun j _ => h j
theorem encK_len (S : List (Int × List (List AV))) : (encK kk S).length = S.length := by simp [encK]
end
end Go.Proofs.Ytljfgohecmhchaa
end
section
namespace Go.Proofs.Ytljfgohecmhchaa
open Go.RowKit
/-! Calls whose answer's elements own slices; calls that read such an answer. -/
def idp (L : List Nat) : List (Nat × Nat) := L.map fun e => (e, e)
theorem inv2_idp (L : List Nat) : inv2 (idp L) = idp L := by simp [inv2, idp]
theorem lk_idp {L : List Nat} {e : Nat} (h : e ∈ L) : lk (idp L) e = some e := by
  induction L with
  | nil => cases h
  | cons a L ih =>
    show lk ((a, a) :: idp L) e = some e
    rw [lk_cons]
    by_cases ha : a = e
    · subst ha; rw [bif_eq rfl]
    · rw [bif_ne ha]
      rcases List.mem_cons.1 h with h | h
      · exact absurd h.symm ha
      · exact ih h
theorem handOK_idp {L : List Nat} (hL : ∀ e ∈ L, ownN e) : handOK [] (idp L) L [] = true := by
  simp only [handOK, List.all_nil, Bool.true_and, Bool.and_true, inv2_idp, Bool.and_eq_true, List.all_eq_true]
  refine ⟨fun p hp => ?_, fun e he => ?_⟩
  · obtain ⟨e, he, rfl⟩ := List.mem_map.1 hp
    simp only [lk_idp he, beq_self_eq_true, Bool.true_and, inv2, List.map_nil, lk, List.contains_eq_mem, List.not_mem_nil, decide_false, Bool.or_false, decide_eq_true_eq]
    exact ⟨⟨⟨trivial, trivial⟩, trivial⟩, he⟩
  · simpa [ownN] using hL e he
theorem obBack_idp (ob1 : List (Nat × AObj)) (b0 : List (Nat × Nat)) (L : List Nat) : obBack ob1 b0 (idp L) = L.filterMap fun e => (lk ob1 e).map fun o => (e, o.ren b0) := by
  induction L with
  | nil => rfl
  | cons a L ih =>
    show obBack ob1 b0 ((a, a) :: idp L) = _
    rw [obBack, List.filterMap_cons]
    cases lk ob1 a with
    | none => exact ih
    | some o => show (a, o.ren b0) :: _ = (a, o.ren b0) :: _; rw [ih]
theorem lk_rmK {α : Type} {K : List Nat} {e : Nat} (h : e ∉ K) (l : List (Nat × α)) : lk (rmL K [] l) e = lk l e := by
  induction l with
  | nil => rfl
  | cons p l ih =>
    obtain ⟨k, a⟩ := p
    rw [rmL, lk_cons]
    by_cases hk : k ∈ K
    · have : (K.contains k || ([] : List Nat).contains k) = true := by simp [hk]
      rw [this, cond_true, ih, bif_ne (fun g => by subst g; exact h hk)]
    · have : (K.contains k || ([] : List Nat).contains k) = false := by simp [hk]
      rw [this, cond_false, lk_cons, ih]
theorem mem_kidNames {d n e : Nat} : e ∈ kidNames d n ↔ ∃ j, j < n ∧ e = kn d j := by
  simp only [kidNames, List.mem_map, List.mem_range]
  exact ⟨fun ⟨j, h1, h2⟩ => ⟨j, h1, h2.symm⟩, fun ⟨j, h1, h2⟩ => ⟨j, h1, h2.symm⟩⟩
section
variable {ty kk d m : Nat}
theorem ren_kcells {ρ : List (Nat × Nat)} (i : Nat) (S : List (Int × List (List AV))) (h : ∀ j, j < S.length → lk ρ (kn d (i + j)) = some (kn d (i + j))) : AV.ren.renL ρ (kcells ty kk d m i S) = kcells ty kk d m i S := by
  rw [AV.renL_eq]
  refine kcells_map i fun u hu => ?_
  rcases kcells_mem i hu with ⟨n, rfl⟩ | ⟨j, p, hj, rfl⟩
  · rfl
  · unfold kc
    cases Nat.blt (i + j) m
    · simp only [cond_false, AV.ren, h j (lt_of_get hj)]
    · rfl
end
section
variable {P : Program} {T : Nat → Option TyD} {E : Env} {s s' : AState} {a : Act} {tm : Array Value} {w w' : World} {β β' : Nat → Option Nat} {F F' : Nat → Prop} {n : Nat} {ops : Array Oper} {Q : Exit → AState → Prop} {D : Dr} {rest : List Oper} {o : Oper}
theorem al_weaken {l : List Oper} (h1 : ∀ t p, lk s'.fr t = some p → lk s.fr t = some p) (h2 : ∀ d o, lk s'.ob d = some o → lk s.ob d = some o) (h : AListD P E n ops D l Q s') : AListD P E n ops D l Q s := fun a w β hn hd hs =>
  h a w β hn hd (hs.weaken (fun t g x h => h1 t (g, x) h) h2)
/-- a call whose answer's elements own slices -/
theorem go_callN (d ty kk : Nat) {S : List (Int × List (List AV))} {f : Nat} {as' : List AV} {p : Prop} {r : AV} (h : callG n ops s o [] = some (f, as', p)) (hc : GCall P f as' [] r ((d, .var (kcells ty kk d 0 0 S)) :: kids ty kk d 0 0 S)) (hp : p) (hd : d < 10000)
    (hm : AV.allIn.allInL [] (o.op.operands.toList.map s.ev) = true) (hren : ∀ ρ : List (Nat × Nat), lk ρ d = some d → r.ren ρ = r) (hfr : ∀ K : List Nat, (∀ e ∈ K, e = d ∨ 20000 ≤ e) → s.fr.map (fun p => (p.1, p.2.1, p.2.2.cut K [])) = s.fr)
    (hob : ∀ K : List Nat, (∀ e ∈ K, e = d ∨ 20000 ≤ e) → s.ob.map (fun p => (p.1, p.2.cut K [])) = s.ob) (hnm : ∀ e o, lk s.ob e = some o → e < 20000 ∧ e ≠ d)
    (hr : AListD P E n ops D rest Q (({ fr := s.fr, ob := (d, .var (kcells ty kk d 0 0 S)) :: (s.ob ++ kids ty kk d 0 0 S) } : AState).put o.dst true r)) : AListR P E n ops D (o :: rest) Q s := by
  have hK : ∀ e ∈ d :: kidNames d S.length, e = d ∨ 20000 ≤ e := fun e he => by
    rcases List.mem_cons.1 he with h | h
    · exact .inl h
    · obtain ⟨j, _, rfl⟩ := mem_kidNames.1 h
      exact .inr (of_eq_true (kn_hi d j))
  generalize hKK : d :: kidNames d S.length = K at hK
  have hdK : d ∈ K := by rw [← hKK]; exact .head _
  have hkK : ∀ j, j < S.length → kn d j ∈ K := fun j hj => by rw [← hKK]; exact .tail _ (mem_kidNames.2 ⟨j, hj, rfl⟩)
  refine go_callG [] (idp K) K [] h hp (handOK_idp fun e he => ?_) rfl (.inr rfl) rfl hc (.inl hm) ?_
  · rcases hK e he with rfl | h
    · exact .inl hd
    · exact .inr (by omega)
  rw [hren _ (lk_idp hdK)]
  have hren2 : AV.ren.renL (idp K) (kcells ty kk d 0 0 S) = kcells ty kk d 0 0 S := ren_kcells 0 S fun j hj => lk_idp (hkK _ (by omega))
  have hbk : obBack ((d, .var (kcells ty kk d 0 0 S)) :: kids ty kk d 0 0 S) (idp K) (idp K) = (d, .var (kcells ty kk d 0 0 S)) :: kids ty kk d 0 0 S := by
    have hfm : ∀ b0 : List (Nat × Nat), AV.ren.renL b0 (kcells ty kk d 0 0 S) = kcells ty kk d 0 0 S → (d :: kidNames d S.length).filterMap (fun e => (lk ((d, AObj.var (kcells ty kk d 0 0 S)) :: kids ty kk d 0 0 S) e).map fun o => (e, o.ren b0)) = (d, .var (kcells ty kk d 0 0 S)) :: kids ty kk d 0 0 S := fun b0 hb0 => by
      rw [List.filterMap_cons]
      have : (lk ((d, AObj.var (kcells ty kk d 0 0 S)) :: kids ty kk d 0 0 S) d).map (fun o => (d, o.ren b0)) = some (d, AObj.var (kcells ty kk d 0 0 S)) := by
        rw [lk_cons, bif_eq rfl]
        show some (d, AObj.var (AV.ren.renL b0 _)) = _
        rw [hb0]
      rw [this]
      show _ :: _ = _ :: _
      congr 1
      rw [kidNames, List.filterMap_map, List.range_eq_range']
      have hg := keep_range (ty := ty) (kk := kk) (d := d) (m := 0) (fun j => (lk ((d, AObj.var (kcells ty kk d 0 0 S)) :: kids ty kk d 0 0 S) (kn d j)).map fun o => o.ren b0) S.length 0 S (Nat.le_refl _) fun j _ => by
        rw [lk_cons, bif_ne (by unfold kn; omega), lk_kids S 0 j (Nat.zero_le _), if_pos (Nat.zero_le _)]
        cases S[j - 0]? <;> rfl
      refine Eq.trans ?_ hg
      congr 1
      funext j
      simp only [Function.comp, Option.map_map]
      rfl
    have h := hfm (idp K) hren2
    rw [hKK] at h
    rw [obBack_idp]
    exact h
  have e1 : (s.back K [] (idp K) ((d, .var (kcells ty kk d 0 0 S)) :: kids ty kk d 0 0 S)).fr = s.fr := hfr K hK
  have e2 : (s.back K [] (idp K) ((d, .var (kcells ty kk d 0 0 S)) :: kids ty kk d 0 0 S)).ob = ((d, .var (kcells ty kk d 0 0 S)) :: kids ty kk d 0 0 S) ++ (rmL K [] s.ob).map fun p => (p.1, p.2.cut K []) := by
    show obBack _ _ _ ++ _ = _
    rw [hbk]
  refine al_weaken (fun t p ht => ?_) (fun e o' ho => ?_) hr
  · cases hdst : o.dst with
    | none => rw [hdst] at ht; simp only [AState.put] at ht ⊢; rw [e1]; exact ht
    | some u => rw [hdst] at ht; simp only [AState.put] at ht ⊢; rw [e1]; exact ht
  · have ho' : lk ((d, .var (kcells ty kk d 0 0 S)) :: (s.ob ++ kids ty kk d 0 0 S)) e = some o' := by
      cases hdst : o.dst with
      | none => rw [hdst] at ho; exact ho
      | some u => rw [hdst] at ho; exact ho
    have hgoal : lk (s.back K [] (idp K) ((d, .var (kcells ty kk d 0 0 S)) :: kids ty kk d 0 0 S)).ob e = some o' := by
      rw [e2, List.cons_append, lk_cons]
      rw [lk_cons] at ho'
      by_cases he : d = e
      · rw [bif_eq he] at ho' ⊢; exact ho'
      · rw [bif_ne he] at ho' ⊢
        rw [lk_append] at ho' ⊢
        cases hs : lk s.ob e with
        | none =>
          rw [hs] at ho'
          have ho2 : lk (kids ty kk d 0 0 S) e = some o' := ho'
          rw [ho2]
        | some o2 =>
          rw [hs] at ho'
          injection ho' with ho'
          subst ho'
          obtain ⟨h1, h2⟩ := hnm e _ hs
          rw [lk_kids_lo h1]
          show lk ((rmL K [] s.ob).map fun p => (p.1, p.2.cut K [])) e = _
          have hne : e ∉ K := fun hek => by
            rcases hK e hek with h | h
            · exact h2 h
            · omega
          rw [lk_map (fun o : AObj => o.cut K []), lk_rmK hne, ← lk_map (fun o : AObj => o.cut K []), hob K hK, hs]
    cases hdst : o.dst with
    | none => simp only [AState.put]; exact hgoal
    | some u => simp only [AState.put]; exact hgoal
/-- elements that own slices, as they read now -/
theorem nest_view {ty kk d m te : Nat} {S : List (Int × List (List AV))} (hs : SRel E s tm w β) (hob : lk s.ob d = some (.var (kcells ty kk d m 0 S))) (hk : ∀ j p, m ≤ j → S[j]? = some p → lk s.ob (kn d j) = some (.row ty kk p.2)) {v : Value} (hv : AVR (FF E β w) β w (.ref te 2 d 0 S.length) v) :
    AVR (fun b => b < w.heap.size) (fun _ => none) w (.lst 2 (encK kk S)) v := by
  have hl2 : ∀ cs ∈ encK kk S, cs.length = 2 := fun cs hcs => by
    obtain ⟨p, _, rfl⟩ := List.mem_map.1 hcs
    rfl
  have nil : ∀ A, S.length = 0 → AVR (fun b => b < w.heap.size) (fun _ => none) w (.lst 2 (encK kk S)) (.slice A 0 0) := fun A h0 => by
    rw [List.eq_nil_of_length_eq_zero h0]
    exact .s (.lst (fun _ _ => .nilFunc) rfl (Nat.le_refl _) (by decide) (fun cs hcs => by cases hcs) (fun h => by omega) (fun i j hi => by omega) fun i j cs u hc => by simp [encK] at hc)
  generalize hz : S.length = z at hv
  cases hv with
  | s h => cases h
  | nil => exact nil _ hz
  | empty h => omega
  | @ref _ _ _ _ _ c b A h1 h2 h3 h4 h5 =>
    subst hz
    subst h4
    obtain ⟨b', arr, t', g1, g2, g3, g4⟩ := hs.ob d _ hob
    rw [h1] at g1
    injection g1 with g1
    subst g1
    have cell : ∀ i p, S[i]? = some p → (∃ x, arr[i * 2]? = some x ∧ x.oneCell' = true ∧ SVR (fun b => b < w.heap.size) w (.v (.int .i64 p.1)) x) ∧ ∃ x, arr[i * 2 + 1]? = some x ∧ x.oneCell' = true ∧ SVR (fun b => b < w.heap.size) w (.lst kk p.2) x := fun i p hp => by
      refine ⟨?_, ?_⟩
      · obtain ⟨x, q1, q2, q3⟩ := g4 _ _ (kcells_get0 0 i hp)
        refine ⟨x, q1, q3, ?_⟩
        cases q2 with
        | s q2 => exact q2.mono (fun b hb => hb.1) fun _ _ => rfl
      · obtain ⟨x, q1, q2, q3⟩ := g4 _ _ (kcells_get1 0 i hp)
        refine ⟨x, q1, q3, ?_⟩
        rw [Nat.zero_add] at q2
        by_cases hm : i < m
        · rw [kc_t hm] at q2
          cases q2 with
          | s q2 => exact q2.mono (fun b hb => hb.1) fun _ _ => rfl
        · rw [kc_f (by omega)] at q2
          have hl := hk i p (by omega) hp
          have := snap_refA (F' := fun b => b < w.heap.size) hs (fun b hb => hb.1) (fun d b hb => (hs.rng d b hb).2) q2 (by simp only [AV.snapOK, hl]; exact ⟨trivial, trivial, by omega⟩)
          simp only [AV.snap, hl, Nat.zero_add, List.take_length, List.drop_zero] at this
          cases this with
          | s q2 => exact q2
    have hlen := encK_len (kk := kk) S
    refine .s (.lst (fun i j => (arr[i * 2 + j]?).getD undef) hlen.symm h2 h3 hl2 (fun _ => ⟨b, 0 * 2, rfl, (hs.rng d b h1).2, fun i j hi hj => ?_⟩) (fun i j hi hj => ?_) fun i j cs u hcs hu => ?_)
    · obtain ⟨⟨x, q1, q2, _⟩, y, r1, r2, _⟩ := cell i S[i] (List.getElem?_eq_getElem hi)
      rw [cell_of_row w b _ arr t' (0, 0) g2, show 0 * 2 + (i * 2 + j) = i * 2 + j by omega]
      rcases j with _ | _ | j
      · rw [Nat.add_zero, q1]; rfl
      · rw [r1]; rfl
      · omega
    · obtain ⟨⟨x, q1, q2, _⟩, y, r1, r2, _⟩ := cell i S[i] (List.getElem?_eq_getElem hi)
      show ((arr[i * 2 + j]?).getD undef).oneCell' = true
      rcases j with _ | _ | j
      · rw [Nat.add_zero, q1]; exact q2
      · rw [r1]; exact r2
      · omega
    · rw [encK, List.getElem?_map] at hcs
      cases hp : S[i]? with
      | none => rw [hp] at hcs; cases hcs
      | some p =>
        rw [hp] at hcs
        injection hcs with hcs
        subst hcs
        obtain ⟨⟨x, q1, _, q3⟩, y, r1, _, r3⟩ := cell i p hp
        show SVR _ w u ((arr[i * 2 + j]?).getD undef)
        rcases j with _ | _ | j
        · simp only [List.getElem?_cons_zero, Option.some.injEq] at hu
          subst hu
          rw [Nat.add_zero, q1]; exact q3
        · simp only [Nat.zero_add, List.getElem?_cons_succ, List.getElem?_cons_zero, Option.some.injEq] at hu
          subst hu
          rw [r1]; exact r3
        · simp at hu
/-- a call of which the arguments are read in a way of their own -/
theorem go_callX {f : Nat} {as' : List AV} {ra : AV} {x : Operand} {args : Array Operand} {ats : Array TypeId} (hG : guardAV ops s o.guard = some true) (ho : o.op = .call ⟨.value x, args, ats⟩) (hdst : dstOK n o.dst) (hx : s.ev x = .v (.func (.func f) #[] #[])) (hgx : s.gd x = true) (hlen : as'.length = args.size) (hflat : ra.flat = true)
    (hc : PCall P f as' (fun r => r = ra)) (harg : ∀ (β : Nat → Option Nat) (a : Act) (w : World), SRel E s a.tmps w β → ∀ (i : Nat) (y : AV) (z : Operand), as'[i]? = some y → args[i]? = some z → AVR (fun b => b < w.heap.size) (fun _ => none) w y (a.eval z))
    (hr : AListD P E n ops D rest Q (s.put o.dst true ra)) : AListR P E n ops D (o :: rest) Q s :=
  al_call_any hG ho hdst hx hgx (ra := ra) hlen _ (fun _ => hc) (fun β a w _ hs => ⟨fun b => b < w.heap.size, ⟨fun _ h => h, fun g vs h => ⟨(hs.glo.gl g vs h).1.1, (hs.glo.gl g vs h).2⟩⟩, harg β a w hs, fun w' r v hR _ hr' => by subst hR; exact ⟨r, flat_ok hr' hflat, hr⟩⟩) (fun h => by cases h)
end
end Go.Proofs.Ytljfgohecmhchaa
end
section
namespace Go.Proofs.Ytljfgohecmhchaa
open Go.RowKit
set_option maxRecDepth 100000
set_option maxHeartbeats 4000000
/-! layout.one, its slots handed out to be written. -/
theorem lone_G (t : TypeM) (L : List ExtM) (hr : rightOK t L.length = true) (hl : t.parts.length ≤ 1000000000) (hL : ∀ e ∈ L, extOK e) :
    ∃ nm : Nat, GCall Try.prog 25 [.agg [vI t.kind, vI t.n, vI t.elem, .lst 3 (encPs t.parts)], .lst 4 (encEs L)] [] (.agg [vI (layM t L).size, .ref 55 3 nm 0 (layM t L).slots.length]) [(nm, .row 55 3 (encSs (layM t L).slots))] := by
  have ht := rightOK_ty hr
  by_cases k8 : t.kind = 8
  · refine ⟨33, ?_⟩
    refine go_fnG (tyOf_ok _) Try.func25 rfl rfl (by rw [Try.results25]) Try.ntmps25 rfl fun E => ?_
    have e8 : (t.kind = 8) = True := eq_true k8
    (repeat' (first
    | exact trivial
    | (with_reducible first | refine awA ?_ | refine awB ?_ | refine awC ?_ | refine awD ?_ | refine awE ?_ | refine awF ?_ | refine awG ?_ | refine awH ?_ | refine awI ?_ | refine awJ ?_ | refine awK ?_ | refine awL ?_ | refine awM (by decide) ?_)
    | (refine aw_draw (id := 7) (t := (.node [0, 1, 2, 3, 4, 5, 6] [(.node [7, 8, 9] []), (.node [8, 7, 9] [])])) (drR [7, 5] [25] []) mixed (by kernel_rfl) (by kernel_rfl) (fun _ _ h => h) ?_)
    | (refine aw_draw (id := 14) (t := (.node [0, 1, 2, 3, 5] [(.node [4, 6, 7, 8] []), (.node [6, 4, 7, 8] [])])) (drR [2, 9] [] []) mixed (by kernel_rfl) (by kernel_rfl) (fun _ _ h => h) ?_)
    | (refine at_done (by simp only [List.filterMap_cons, List.filterMap_nil, List.getElem?_toArray, List.getElem?_cons_zero, List.getElem?_cons_succ]; exact rfl) ?_) | (refine at_alt (by simp only [List.filterMap_cons, List.filterMap_nil, List.getElem?_toArray, List.getElem?_cons_zero, List.getElem?_cons_succ]; exact rfl) ?_) | refine qalt_normal ?_ | refine ats_cons ?_ ?_ | exact ats_nil
    | ((with_reducible first | refine awN (tyOf_ok _) [] ?_ | refine awO (tyOf_ok _) [] ?_ | refine awP (tyOf_ok _) [] ?_ | refine awQ ?_ | refine awR ?_ | refine awS ?_ | refine awT ?_ | refine awU ?_); intro r hr; simp only [go_sem, Nat.reduceBEq, Nat.reduceBneDiff, Nat.reduceLT, Nat.reduceLeDiff, Nat.reduceAdd, Nat.reduceMul, Nat.reduceSub, Nat.reduceEqDiff, reduceCtorEq, encPs_len, encEs_len, e8] at hr; subst hr; (first | refine awV ?_ ?_ | refine awW ?_ ?_ | refine endK ?_ ?_ | refine endGK ?_ ?_ ?_ | (refine condK (fun h => ?_) (fun h => ?_) <;> (try simp only [go_sem, reduceCtorEq] at h) <;> (try (exfalso; omega))))) | fail)) <;> (try omega)
    refine aw_nilvar 5 1 55 3 33 (cs := [vI 0, .v (.slice none 0 0)]) (.inl (by decide)) (by decide) (by simp only [go_sem, Nat.reduceBEq, Nat.reduceBneDiff, Nat.reduceLT, Nat.reduceLeDiff, Nat.reduceAdd, Nat.reduceMul, Nat.reduceSub, Nat.reduceEqDiff, reduceCtorEq]) rfl ?_
    refine go_loop [1, 4, 5, 15, 16, 17] [4, 5, 33] (fun x : Nat × LayM => ⟨[(1, true, .lst 4 (encEs L)), (4, true, .ptr 1 4 0 0), (5, true, .ptr 1 5 0 0), (15, true, .lst 3 (encPs t.parts)), (16, true, vI t.parts.length), (17, true, vI x.1)],
      [(4, .var [vI 0, .v (.slice none 0 0)]), (5, .var [vI x.2.size, .ref 55 3 33 0 x.2.slots.length]), (33, .row 55 3 (encSs x.2.slots))]⟩)
      (fun x => x.1 ≤ t.parts.length ∧ x.2 = (t.parts.take x.1).foldl (layAdd L) ⟨0, []⟩ ∧ x.2.slots.length = x.1 ∧ 0 ≤ x.2.size ∧ x.2.size ≤ 4611686018427387904) (fun x => t.parts.length - x.1) (0, ⟨0, []⟩) (by simp only [AState.nilvar, go_sem, Nat.reduceBEq, Nat.reduceBneDiff, Nat.reduceLT, Nat.reduceLeDiff, Nat.reduceAdd, Nat.reduceMul, Nat.reduceSub, Nat.reduceEqDiff, reduceCtorEq]; exact rfl) ⟨Nat.zero_le _, rfl, rfl, by decide, by decide⟩ ?_
    intro ⟨j, x⟩ ⟨hj, hx, hxl, hx1, hx2⟩
    simp only at hj hx hxl hx1 hx2 ⊢
    have hw1 := wrap_i64 (n := (j : Int) + 1) (by omega)
    by_cases hlt : j < t.parts.length
    · have e1 : ((j : Int) < t.parts.length) = True := eq_true (by omega)
      have g1 := encPs_get hlt
      have hty := ht.2 _ (List.getElem_mem hlt)
      have htl : (t.parts[j].ty).toNat < L.length := by omega
      have ge := encEs_get htl
      have hat : atE L t.parts[j].ty = L[(t.parts[j].ty).toNat] := by rw [atE, List.getElem?_eq_getElem htl]; rfl
      have hok := hL _ (List.getElem_mem htl)
      have hs := lay_succ L t.parts ⟨0, []⟩ hlt
      rw [← hx, layAdd, hat] at hs
      generalize L[(t.parts[j].ty).toNat] = e at ge hat hok hs
      obtain ⟨hlo, hmo, hde⟩ := hok
      have i1 : I64 x.size := by unfold I64; omega
      have i2 : I64 (slotOf e x.size).size := by unfold slotOf I64; dsimp only; split <;> omega
      have hb := plusL_bd [x.size, (slotOf e x.size).size]
      have htk : (encSs x.slots).take x.slots.length = encSs x.slots := take_len (by simp [encSs_len])
      have hlen : (x.slots ++ [slotOf e x.size]).length = j + 1 := by simp [hxl]
      (repeat' (first
    | exact trivial
    | (with_reducible first | refine awA ?_ | refine awB ?_ | refine awC ?_ | refine awD ?_ | refine awE ?_ | refine awF ?_ | refine awG ?_ | refine awH ?_ | refine awI ?_ | refine awJ ?_ | refine awK ?_ | refine awL ?_ | refine awM (by decide) ?_)
    | (refine aw_draw (id := 7) (t := (.node [0, 1, 2, 3, 4, 5, 6] [(.node [7, 8, 9] []), (.node [8, 7, 9] [])])) (drR [7, 5] [25] []) mixed (by kernel_rfl) (by kernel_rfl) (fun _ _ h => h) ?_)
    | (refine aw_draw (id := 14) (t := (.node [0, 1, 2, 3, 5] [(.node [4, 6, 7, 8] []), (.node [6, 4, 7, 8] [])])) (drR [2, 9] [] []) mixed (by kernel_rfl) (by kernel_rfl) (fun _ _ h => h) ?_)
    | (refine at_done (by simp only [List.filterMap_cons, List.filterMap_nil, List.getElem?_toArray, List.getElem?_cons_zero, List.getElem?_cons_succ]; exact rfl) ?_) | (refine at_alt (by simp only [List.filterMap_cons, List.filterMap_nil, List.getElem?_toArray, List.getElem?_cons_zero, List.getElem?_cons_succ]; exact rfl) ?_) | refine qalt_normal ?_ | refine ats_cons ?_ ?_ | exact ats_nil
    | ((with_reducible first | refine awN (tyOf_ok _) [] ?_ | refine awO (tyOf_ok _) [] ?_ | refine awP (tyOf_ok _) [] ?_ | refine awQ ?_ | refine awR ?_ | refine awS ?_ | refine awT ?_ | refine awU ?_); intro r hr; simp only [go_sem, Nat.reduceBEq, Nat.reduceBneDiff, Nat.reduceLT, Nat.reduceLeDiff, Nat.reduceAdd, Nat.reduceMul, Nat.reduceSub, Nat.reduceEqDiff, reduceCtorEq, hw1, e1, g1, ge, encPs_len, encEs_len, encSs_len, htk, slotS, encSs_app, hlen] at hr; subst hr; (first | refine caA (fun _ => lslot_any e x.size) rfl ?_ ?_ ?_ | refine caA (fun _ => plus2_p _ _ i1 i2) rfl ?_ ?_ ?_ | refine awV ?_ ?_ | refine awW ?_ ?_ | refine endK ?_ ?_ | refine endGK ?_ ?_ ?_ | (refine condK (fun h => ?_) (fun h => ?_) <;> (try simp only [go_sem, reduceCtorEq] at h) <;> (try (exfalso; omega))))) | fail)) <;> (try omega)
      all_goals exact ⟨(j + 1, ⟨_, _⟩), by simp only [go_sem, Nat.reduceBEq, Nat.reduceBneDiff, Nat.reduceLT, Nat.reduceLeDiff, Nat.reduceAdd, Nat.reduceMul, Nat.reduceSub, Nat.reduceEqDiff, reduceCtorEq, encSs_len, hlen]; exact rfl, ⟨hlt, hs.symm, by simp [hxl], by simp only; omega, by simp only; omega⟩, by simp only; omega⟩
    · have e1 : ((j : Int) < t.parts.length) = False := eq_false (by omega)
      have htk : (encSs x.slots).take x.slots.length = encSs x.slots := take_len (by simp [encSs_len])
      rw [take_len (by omega)] at hx
      have hlay : layM t L = x := by rw [layM, if_pos k8, ← hx]
      rw [hlay]
      (repeat' (first
    | exact trivial
    | (with_reducible first | refine awA ?_ | refine awB ?_ | refine awC ?_ | refine awD ?_ | refine awE ?_ | refine awF ?_ | refine awG ?_ | refine awH ?_ | refine awI ?_ | refine awJ ?_ | refine awK ?_ | refine awL ?_ | refine awM (by decide) ?_)
    | (refine aw_draw (id := 7) (t := (.node [0, 1, 2, 3, 4, 5, 6] [(.node [7, 8, 9] []), (.node [8, 7, 9] [])])) (drR [7, 5] [25] []) mixed (by kernel_rfl) (by kernel_rfl) (fun _ _ h => h) ?_)
    | (refine aw_draw (id := 14) (t := (.node [0, 1, 2, 3, 5] [(.node [4, 6, 7, 8] []), (.node [6, 4, 7, 8] [])])) (drR [2, 9] [] []) mixed (by kernel_rfl) (by kernel_rfl) (fun _ _ h => h) ?_)
    | (refine at_done (by simp only [List.filterMap_cons, List.filterMap_nil, List.getElem?_toArray, List.getElem?_cons_zero, List.getElem?_cons_succ]; exact rfl) ?_) | (refine at_alt (by simp only [List.filterMap_cons, List.filterMap_nil, List.getElem?_toArray, List.getElem?_cons_zero, List.getElem?_cons_succ]; exact rfl) ?_) | refine qalt_normal ?_ | refine ats_cons ?_ ?_ | exact ats_nil
    | ((with_reducible first | refine awN (tyOf_ok _) [] ?_ | refine awO (tyOf_ok _) [] ?_ | refine awP (tyOf_ok _) [] ?_ | refine awQ ?_ | refine awR ?_ | refine awS ?_ | refine awT ?_ | refine awU ?_); intro r hr; simp only [go_sem, Nat.reduceBEq, Nat.reduceBneDiff, Nat.reduceLT, Nat.reduceLeDiff, Nat.reduceAdd, Nat.reduceMul, Nat.reduceSub, Nat.reduceEqDiff, reduceCtorEq, hw1, e1, encSs_len, htk] at hr; subst hr; (first | refine awV ?_ ?_ | refine awW ?_ ?_ | refine endK ?_ ?_ | refine endGK ?_ ?_ ?_ | (refine condK (fun h => ?_) (fun h => ?_) <;> (try simp only [go_sem, reduceCtorEq] at h) <;> (try (exfalso; omega))))) | fail)) <;> (try omega)
      all_goals first | exact AV.up_rfl _ | exact obUp_cons rfl obUp_nil
  · have e8 : (t.kind = 8) = False := eq_false k8
    by_cases k4 : t.kind = 4
    · have e4 : (t.kind = 4) = True := eq_true k4
      have hel := ht.1 (.inl k4)
      have hlt : t.elem.toNat < L.length := by omega
      have ge := encEs_get hlt
      have hat : atE L t.elem = L[t.elem.toNat] := by rw [atE, List.getElem?_eq_getElem hlt]; rfl
      have hok := hL _ (List.getElem_mem hlt)
      have hlay : layM t L = ⟨timesS t.n (slotOf L[t.elem.toNat] 0).size, [slotOf L[t.elem.toNat] 0]⟩ := by rw [layM, if_neg k8, if_pos k4, hat]
      rw [hlay]
      generalize L[t.elem.toNat] = e at ge hat hok
      obtain ⟨hlo, hmo, hde⟩ := hok
      have hn := rightOK_n hr (.inl k4)
      have i1 : I64 t.n := by unfold I64; omega
      have i2 : I64 (slotOf e 0).size := by unfold slotOf I64; dsimp only; split <;> omega
      refine ⟨58, ?_⟩
      refine go_fnG (tyOf_ok _) Try.func25 rfl rfl (by rw [Try.results25]) Try.ntmps25 rfl fun E => ?_
      (repeat' (first
    | exact trivial
    | (with_reducible first | refine awA ?_ | refine awB ?_ | refine awC ?_ | refine awD ?_ | refine awE ?_ | refine awF ?_ | refine awG ?_ | refine awH ?_ | refine awI ?_ | refine awJ ?_ | refine awK ?_ | refine awL ?_ | refine awM (by decide) ?_)
    | (refine aw_draw (id := 7) (t := (.node [0, 1, 2, 3, 4, 5, 6] [(.node [7, 8, 9] []), (.node [8, 7, 9] [])])) (drR [7, 5] [25] []) mixed (by kernel_rfl) (by kernel_rfl) (fun _ _ h => h) ?_)
    | (refine aw_draw (id := 14) (t := (.node [0, 1, 2, 3, 5] [(.node [4, 6, 7, 8] []), (.node [6, 4, 7, 8] [])])) (drR [2, 9] [] []) mixed (by kernel_rfl) (by kernel_rfl) (fun _ _ h => h) ?_)
    | (refine at_done (by simp only [List.filterMap_cons, List.filterMap_nil, List.getElem?_toArray, List.getElem?_cons_zero, List.getElem?_cons_succ]; exact rfl) ?_) | (refine at_alt (by simp only [List.filterMap_cons, List.filterMap_nil, List.getElem?_toArray, List.getElem?_cons_zero, List.getElem?_cons_succ]; exact rfl) ?_) | refine qalt_normal ?_ | refine ats_cons ?_ ?_ | exact ats_nil
    | ((with_reducible first | refine awN (tyOf_ok _) [58] ?_ | refine awO (tyOf_ok _) [58] ?_ | refine awP (tyOf_ok _) [58] ?_ | refine awQ ?_ | refine awR ?_ | refine awS ?_ | refine awT ?_ | refine awU ?_); intro r hr; simp only [go_sem, Nat.reduceBEq, Nat.reduceBneDiff, Nat.reduceLT, Nat.reduceLeDiff, Nat.reduceAdd, Nat.reduceMul, Nat.reduceSub, Nat.reduceEqDiff, reduceCtorEq, encPs_len, encEs_len, e8, e4, ge, slotS] at hr; subst hr; (first | refine caA (fun _ => lslot_any e 0) rfl ?_ ?_ ?_ | refine caA (fun _ => times_p i1 i2) rfl ?_ ?_ ?_ | refine awV ?_ ?_ | refine awW ?_ ?_ | refine endK ?_ ?_ | refine endGK ?_ ?_ ?_ | (refine condK (fun h => ?_) (fun h => ?_) <;> (try simp only [go_sem, reduceCtorEq] at h) <;> (try (exfalso; omega))))) | fail)) <;> (try omega)
      all_goals first | exact AV.up_rfl _ | exact obUp_cons rfl obUp_nil
    · have e4 : (t.kind = 4) = False := eq_false k4
      by_cases k5 : t.kind = 5
      · have e5 : (t.kind = 5) = True := eq_true k5
        have hel := ht.1 (.inr (.inl k5))
        have hlt : t.elem.toNat < L.length := by omega
        have ge := encEs_get hlt
        have hat : atE L t.elem = L[t.elem.toNat] := by rw [atE, List.getElem?_eq_getElem hlt]; rfl
        have hlay : layM t L = ⟨0, [slotOf L[t.elem.toNat] 0]⟩ := by rw [layM, if_neg k8, if_neg k4, if_pos k5, hat]
        rw [hlay]
        generalize L[t.elem.toNat] = e at ge hat
        refine ⟨68, ?_⟩
        refine go_fnG (tyOf_ok _) Try.func25 rfl rfl (by rw [Try.results25]) Try.ntmps25 rfl fun E => ?_
        (repeat' (first
    | exact trivial
    | (with_reducible first | refine awA ?_ | refine awB ?_ | refine awC ?_ | refine awD ?_ | refine awE ?_ | refine awF ?_ | refine awG ?_ | refine awH ?_ | refine awI ?_ | refine awJ ?_ | refine awK ?_ | refine awL ?_ | refine awM (by decide) ?_)
    | (refine aw_draw (id := 7) (t := (.node [0, 1, 2, 3, 4, 5, 6] [(.node [7, 8, 9] []), (.node [8, 7, 9] [])])) (drR [7, 5] [25] []) mixed (by kernel_rfl) (by kernel_rfl) (fun _ _ h => h) ?_)
    | (refine aw_draw (id := 14) (t := (.node [0, 1, 2, 3, 5] [(.node [4, 6, 7, 8] []), (.node [6, 4, 7, 8] [])])) (drR [2, 9] [] []) mixed (by kernel_rfl) (by kernel_rfl) (fun _ _ h => h) ?_)
    | (refine at_done (by simp only [List.filterMap_cons, List.filterMap_nil, List.getElem?_toArray, List.getElem?_cons_zero, List.getElem?_cons_succ]; exact rfl) ?_) | (refine at_alt (by simp only [List.filterMap_cons, List.filterMap_nil, List.getElem?_toArray, List.getElem?_cons_zero, List.getElem?_cons_succ]; exact rfl) ?_) | refine qalt_normal ?_ | refine ats_cons ?_ ?_ | exact ats_nil
    | ((with_reducible first | refine awN (tyOf_ok _) [68] ?_ | refine awO (tyOf_ok _) [68] ?_ | refine awP (tyOf_ok _) [68] ?_ | refine awQ ?_ | refine awR ?_ | refine awS ?_ | refine awT ?_ | refine awU ?_); intro r hr; simp only [go_sem, Nat.reduceBEq, Nat.reduceBneDiff, Nat.reduceLT, Nat.reduceLeDiff, Nat.reduceAdd, Nat.reduceMul, Nat.reduceSub, Nat.reduceEqDiff, reduceCtorEq, encPs_len, encEs_len, e8, e4, e5, ge, slotS] at hr; subst hr; (first | refine caA (fun _ => lslot_any e 0) rfl ?_ ?_ ?_ | refine awV ?_ ?_ | refine awW ?_ ?_ | refine endK ?_ ?_ | refine endGK ?_ ?_ ?_ | (refine condK (fun h => ?_) (fun h => ?_) <;> (try simp only [go_sem, reduceCtorEq] at h) <;> (try (exfalso; omega))))) | fail)) <;> (try omega)
        all_goals first | exact AV.up_rfl _ | exact obUp_cons rfl obUp_nil
      · have e5 : (t.kind = 5) = False := eq_false k5
        have hlay : layM t L = ⟨0, []⟩ := by rw [layM, if_neg k8, if_neg k4, if_neg k5]
        rw [hlay]
        refine ⟨33, ?_⟩
        refine go_fnG (tyOf_ok _) Try.func25 rfl rfl (by rw [Try.results25]) Try.ntmps25 rfl fun E => ?_
        (repeat' (first
    | exact trivial
    | (with_reducible first | refine awA ?_ | refine awB ?_ | refine awC ?_ | refine awD ?_ | refine awE ?_ | refine awF ?_ | refine awG ?_ | refine awH ?_ | refine awI ?_ | refine awJ ?_ | refine awK ?_ | refine awL ?_ | refine awM (by decide) ?_)
    | (refine aw_draw (id := 7) (t := (.node [0, 1, 2, 3, 4, 5, 6] [(.node [7, 8, 9] []), (.node [8, 7, 9] [])])) (drR [7, 5] [25] []) mixed (by kernel_rfl) (by kernel_rfl) (fun _ _ h => h) ?_)
    | (refine aw_draw (id := 14) (t := (.node [0, 1, 2, 3, 5] [(.node [4, 6, 7, 8] []), (.node [6, 4, 7, 8] [])])) (drR [2, 9] [] []) mixed (by kernel_rfl) (by kernel_rfl) (fun _ _ h => h) ?_)
    | (refine at_done (by simp only [List.filterMap_cons, List.filterMap_nil, List.getElem?_toArray, List.getElem?_cons_zero, List.getElem?_cons_succ]; exact rfl) ?_) | (refine at_alt (by simp only [List.filterMap_cons, List.filterMap_nil, List.getElem?_toArray, List.getElem?_cons_zero, List.getElem?_cons_succ]; exact rfl) ?_) | refine qalt_normal ?_ | refine ats_cons ?_ ?_ | exact ats_nil
    | ((with_reducible first | refine awN (tyOf_ok _) [] ?_ | refine awO (tyOf_ok _) [] ?_ | refine awP (tyOf_ok _) [] ?_ | refine awQ ?_ | refine awR ?_ | refine awS ?_ | refine awT ?_ | refine awU ?_); intro r hr; simp only [go_sem, Nat.reduceBEq, Nat.reduceBneDiff, Nat.reduceLT, Nat.reduceLeDiff, Nat.reduceAdd, Nat.reduceMul, Nat.reduceSub, Nat.reduceEqDiff, reduceCtorEq, encPs_len, encEs_len, e8, e4, e5] at hr; subst hr; (first | refine awV ?_ ?_ | refine awW ?_ ?_ | refine endK ?_ ?_ | refine endGK ?_ ?_ ?_ | (refine condK (fun h => ?_) (fun h => ?_) <;> (try simp only [go_sem, reduceCtorEq] at h) <;> (try (exfalso; omega))))) | fail)) <;> (try omega)
        all_goals first | exact AV.up_agg ⟨AV.up_rfl _, AV.up_nilref _ _ _ _, trivial⟩ | exact obUp_row0 obUp_nil
end Go.Proofs.Ytljfgohecmhchaa
end
section
namespace Go.Proofs.Ytljfgohecmhchaa
open Go.RowKit
set_option maxRecDepth 100000
set_option maxHeartbeats 4000000
/-! layout.Of, its layouts handed out to be written, their slots too. -/
def SSk (ts : List TypeM) (k : Nat) : List (Int × List (List AV)) := (laysK ts k).map fun l => (l.size, encSs l.slots)
theorem SSk_len {ts : List TypeM} {k : Nat} (h : k ≤ ts.length) : (SSk ts k).length = k := by simp [SSk, laysK_len h]
theorem SSk_succ {ts : List TypeM} {k : Nat} (h : k < ts.length) : SSk ts (k + 1) = SSk ts k ++ [((layM ts[k] (exts ts)).size, encSs (layM ts[k] (exts ts)).slots)] := by rw [SSk, laysK_succ h, List.map_append]; rfl
theorem encK_SSk (ts : List TypeM) (k : Nat) : encK 3 (SSk ts k) = encLs (laysK ts k) := by simp [encK, SSk, encLs, encL]
theorem keep_nest {ty kk d m n : Nat} {S : List (Int × List (List AV))} {s : AState} (ts os : List Nat) (hS : S.length ≤ n) (h : ∀ j, lk s.ob (kn d j) = if m ≤ j then (S[j]?).map (fun p => .row ty kk p.2) else none) :
    s.keep ts (os ++ kidNames d n) = { fr := (s.keep ts os).fr, ob := (s.keep ts os).ob ++ kids ty kk d m 0 S } := by
  show AState.mk _ _ = AState.mk _ _
  rw [List.filterMap_append, keep_kids hS h]
  rfl
theorem lk_kids_new {ty kk d k : Nat} {S : List (Int × List (List AV))} {p : Int × List (List AV)} (hk : S.length = k) (j : Nat) :
    (bif k == j then some (AObj.row ty kk p.2) else lk (kids ty kk d 0 0 S) (kn d j)) = ((S ++ [p])[j]?).map (fun p => .row ty kk p.2) := by
  by_cases he : k = j
  · subst he; subst hk; simp
  · rw [bif_ne he, lk_kids S 0 j (Nat.zero_le _), if_pos (Nat.zero_le _), Nat.sub_zero]
    by_cases hj : j < S.length
    · rw [List.getElem?_append_left hj]
    · rw [List.getElem?_eq_none (by omega), List.getElem?_eq_none (by simp; omega)]
theorem handOK_one (nm e : Nat) (he : 20000 ≤ e) : handOK [] [(nm, e)] [e] [] = true := by
  have h15 : 15000 ≤ e := by omega
  simp [handOK, lk, inv2, h15]
def lofS (ts : List TypeM) : Nat → AState
  | 0 => ⟨[(4, true, .lst 4 (encEs (exts ts))), (6, true, .v (.slice none 0 0)), (21, true, .lst 4 (encTs ts)), (22, true, vI ts.length), (23, true, vI 0)], []⟩
  | k + 1 => ⟨[(4, true, .lst 4 (encEs (exts ts))), (6, true, .ref 53 2 32 0 (k + 1)), (21, true, .lst 4 (encTs ts)), (22, true, vI ts.length), (23, true, vI ((k + 1 : Nat) : Int))],
    (32, .var (kcells 55 3 32 0 0 (SSk ts (k + 1)))) :: kids 55 3 32 0 0 (SSk ts (k + 1))⟩
theorem layOf_G (ts : List TypeM) (rs : List RootM) (hts : ts.length ≤ 1000000000) (hrs : rs.length ≤ 1000000000) (hp : ∀ t ∈ ts, t.parts.length ≤ 1000000000) (hc : (checkF ts rs).1 = 0) (hn : 0 < ts.length) :
    GCall Try.prog 13 [vSch ts rs] [] (.tup [.ref 53 2 32 0 ts.length, vI 0]) ((32, .var (kcells 55 3 32 0 0 (SSk ts ts.length))) :: kids 55 3 32 0 0 (SSk ts ts.length)) := by
  refine go_fnG (tyOf_ok _) Try.func13 rfl rfl (by rw [Try.results13]) Try.ntmps13 rfl fun E => ?_
  have ec : ((checkF ts rs).1 = 0) = True := eq_true hc
  have hsz : sizesF ts rs = (exts ts, 0) := by rw [sizesF, if_neg (fun g => g hc)]
  have hE := exts_ok hc hts ts.length (Nat.le_refl _)
  rw [take_len (Nat.le_refl _)] at hE
  have hEl := exts_len ts ts.length (Nat.le_refl _)
  rw [take_len (Nat.le_refl _)] at hEl
  have hsz1 : (sizesF ts rs).1 = exts ts := by rw [hsz]
  have hsz2 : (sizesF ts rs).2 = 0 := by rw [hsz]
  (repeat' (first
    | exact trivial
    | (with_reducible first | refine awA ?_ | refine awB ?_ | refine awC ?_ | refine awD ?_ | refine awE ?_ | refine awF ?_ | refine awG ?_ | refine awH ?_ | refine awI ?_ | refine awJ ?_ | refine awK ?_ | refine awL ?_ | refine awM (by decide) ?_)
    | ((with_reducible first | refine awN (tyOf_ok _) [] ?_ | refine awO (tyOf_ok _) [] ?_ | refine awP (tyOf_ok _) [] ?_ | refine awQ ?_ | refine awR ?_ | refine awS ?_ | refine awT ?_ | refine awU ?_); intro r hr; simp only [go_sem, Nat.reduceBEq, Nat.reduceBneDiff, Nat.reduceLT, Nat.reduceLeDiff, Nat.reduceAdd, Nat.reduceMul, Nat.reduceSub, Nat.reduceEqDiff, reduceCtorEq, vSch, vF, ec, hsz1, hsz2, encTs_len] at hr; subst hr; (first | refine caA (fun _ => check_any ts rs hts hrs hp) rfl ?_ ?_ ?_ | refine caC (sizeOf_any ts rs hts hrs hp) rfl ?_ ?_ ?_ | refine awV ?_ ?_ | refine awW ?_ ?_ | refine endK ?_ ?_ | refine endGK ?_ ?_ ?_ | (refine condK (fun h => ?_) (fun h => ?_) <;> (try simp only [go_sem, reduceCtorEq] at h) <;> (try (exfalso; omega))))) | fail)) <;> (try omega)
  refine go_loop [4, 6, 21, 22, 23] ([32] ++ kidNames 32 ts.length) (lofS ts) (fun k => k ≤ ts.length) (fun k => ts.length - k) 0 (by
    rw [keep_nest (ty := 55) (kk := 3) (m := 0) (S := []) _ _ (Nat.zero_le _) (fun j => by simp [lk_cons, lk, kn_ne'])]
    simp only [lofS, kids, List.append_nil, go_sem, Nat.reduceBEq, Nat.reduceBneDiff, Nat.reduceLT, Nat.reduceLeDiff, Nat.reduceAdd, Nat.reduceMul, Nat.reduceSub, Nat.reduceEqDiff, reduceCtorEq] <;> exact rfl) (Nat.zero_le _) ?_
  intro k hk
  have hw1 : IntKind.i64.wrap ((k : Int) + 1) = ((k + 1 : Nat) : Int) := by rw [wrap_i64 (by omega)]; omega
  by_cases hlt : k < ts.length
  case neg =>
    have hke : k = ts.length := by omega
    cases hk' : k with
    | zero => omega
    | succ k' =>
      have e1 : (((k' + 1 : Nat) : Int) < ts.length) = False := eq_false (by omega)
      have hkn : ts.length = k' + 1 := by omega
      unfold lofS
      (repeat' (first
    | exact trivial
    | (with_reducible first | refine awA ?_ | refine awB ?_ | refine awC ?_ | refine awD ?_ | refine awE ?_ | refine awF ?_ | refine awG ?_ | refine awH ?_ | refine awI ?_ | refine awJ ?_ | refine awK ?_ | refine awL ?_ | refine awM (by decide) ?_)
    | ((with_reducible first | refine awN (tyOf_ok _) [] ?_ | refine awO (tyOf_ok _) [] ?_ | refine awP (tyOf_ok _) [] ?_ | refine awQ ?_ | refine awR ?_ | refine awS ?_ | refine awT ?_ | refine awU ?_); intro r hr; simp only [go_sem, Nat.reduceBEq, Nat.reduceBneDiff, Nat.reduceLT, Nat.reduceLeDiff, Nat.reduceAdd, Nat.reduceMul, Nat.reduceSub, Nat.reduceEqDiff, reduceCtorEq, e1] at hr; subst hr; (first | refine awV ?_ ?_ | refine awW ?_ ?_ | refine endK ?_ ?_ | refine endGK ?_ ?_ ?_ | (refine condK (fun h => ?_) (fun h => ?_) <;> (try simp only [go_sem, reduceCtorEq] at h) <;> (try (exfalso; omega))))) | fail)) <;> (try omega)
      all_goals first | (rw [hkn]; exact AV.up_rfl _) | (rw [hkn]; exact fun d o h => .inl h)
  have e1 : ((k : Int) < ts.length) = True := eq_true (by omega)
  have g1 := encTs_get hlt
  have zk : ((k : Int)).toNat = k := by omega
  obtain ⟨nm, hone⟩ := lone_G ts[k] (exts ts) (rightOK_mono (by omega) (check_right hc k hlt)) (hp _ (List.getElem_mem hlt)) (fun e he => (hE e he).1)
  have hsu := SSk_succ hlt
  have hsl := SSk_len (ts := ts) (k := k) (by omega)
  have hks := kcells_snoc (ty := 55) (kk := 3) (d := 32) (m := 0) ((layM ts[k] (exts ts)).size, encSs (layM ts[k] (exts ts)).slots) (SSk ts k) 0
  rw [← hsu, Nat.zero_add, hsl, kc_f (Nat.zero_le _), encSs_len] at hks
  have hh := handOK_one nm (kn 32 k) (of_eq_true (kn_hi 32 k))
  have hcut := cut_kcells (ty := 55) (kk := 3) (d := 32) (m := 0) (K := [kn 32 k]) 0 (SSk ts k) fun e he j hj g => by
    rw [List.mem_singleton] at he
    subst he
    have := kn_inj g
    omega
  have hrm : rmL [kn 32 k] [] (kids 55 3 32 0 0 (SSk ts k)) = kids 55 3 32 0 0 (SSk ts k) := by
    have : ∀ l : List (Nat × AObj), (∀ q ∈ l, q.1 ≠ kn 32 k) → rmL [kn 32 k] [] l = l := by
      intro l
      induction l with
      | nil => intro _; rfl
      | cons q l ih =>
        intro h
        obtain ⟨a, o⟩ := q
        have h1 : a ≠ kn 32 k := h (a, o) (.head _)
        rw [rmL, show ([kn 32 k].contains a || ([] : List Nat).contains a) = false by simp [h1], cond_false, ih fun q hq => h q (.tail _ hq)]
    refine this _ fun q hq => ?_
    obtain ⟨j, p, h1, _, rfl⟩ := kids_names 0 hq
    intro g
    have := kn_inj g
    have := lt_of_get h1
    omega
  have hkk := fun e => kids_kill (ty := 55) (kk := 3) (d := 32) (m := 0) e 0 (SSk ts k)
  have hkc := fun K V => kids_cut (ty := 55) (kk := 3) (d := 32) (m := 0) K V 0 (SSk ts k)
  simp only [AObj.kill] at hkk
  simp only [AObj.cut] at hkc
  have w01 : IntKind.i64.wrap (0 + 1) = 1 := by decide
  cases hk' : k with
  | zero =>
    subst hk'
    unfold lofS
    (repeat' (first
    | exact trivial
    | (with_reducible first | refine awA ?_ | refine awB ?_ | refine awC ?_ | refine awD ?_ | refine awE ?_ | refine awF ?_ | refine awG ?_ | refine awH ?_ | refine awI ?_ | refine awJ ?_ | refine awK ?_ | refine awL ?_ | refine awM (by decide) ?_)
    | ((with_reducible first | refine awN (tyOf_ok _) [3000031, 3000032] ?_ | refine awO (tyOf_ok _) [3000031, 3000032] ?_ | refine awP (tyOf_ok _) [3000031, 3000032] ?_ | refine awQ ?_ | refine awR ?_ | refine awS ?_ | refine awT ?_ | refine awU ?_); intro r hr; simp only [go_sem, Nat.reduceBEq, Nat.reduceBneDiff, Nat.reduceLT, Nat.reduceLeDiff, Nat.reduceAdd, Nat.reduceMul, Nat.reduceSub, Nat.reduceEqDiff, reduceCtorEq, hw1, e1, g1, zk, hh, w01, Int.toNat_zero, kn_ne, kn_ne', kn_lo, kn_hi, beq_self_eq_true, List.contains_cons, List.contains_nil, Bool.or_false, encTs_len] at hr; subst hr; (first | refine awV ?_ ?_ | refine awW ?_ ?_ | refine endK ?_ ?_ | refine endGK ?_ ?_ ?_ | (refine condK (fun h => ?_) (fun h => ?_) <;> (try simp only [go_sem, reduceCtorEq] at h) <;> (try (exfalso; omega)))))
    | (refine go_callGE [] [(nm, kn 32 0)] [kn 32 0] [] ?_; intro r hr; simp only [go_sem, Nat.reduceBEq, Nat.reduceBneDiff, Nat.reduceLT, Nat.reduceLeDiff, Nat.reduceAdd, Nat.reduceMul, Nat.reduceSub, Nat.reduceEqDiff, reduceCtorEq, hw1, e1, g1, zk, hh, w01, Int.toNat_zero, kn_ne, kn_ne', kn_lo, kn_hi, beq_self_eq_true, List.contains_cons, List.contains_nil, Bool.or_false, encTs_len] at hr; subst hr; refine callGK (hone) hh rfl (by first | exact .inl rfl | exact .inr rfl) ?_ (.inl rfl) ?_) | fail)) <;> (try omega)
    refine ⟨0 + 1, ?_, hlt, by omega⟩
    rw [keep_nest (ty := 55) (kk := 3) (m := 0) (S := SSk ts (0 + 1)) _ _ (by rw [SSk_len hlt]; exact hlt) (fun j => ?_)]
    · have hk0 : kcells 55 3 32 0 0 (SSk ts (0 + 1)) = [.v (.int .i64 (layM ts[0] (exts ts)).size), .ref 55 3 (kn 32 0) 0 (layM ts[0] (exts ts)).slots.length] := by rw [← hks]; rfl
      simp only [hk0, List.cons_append, List.nil_append, go_sem, Nat.reduceBEq, Nat.reduceBneDiff, Nat.reduceLT, Nat.reduceLeDiff, Nat.reduceAdd, Nat.reduceMul, Nat.reduceSub, Nat.reduceEqDiff, reduceCtorEq] <;> exact rfl
    · rw [if_pos (Nat.zero_le _), hsu, ← lk_kids_new (d := 32) hsl j]
      simp only [lk_cons, kn_eq, kn_ne, kn_ne', cond_false, go_sem, Nat.reduceBEq, Nat.reduceBneDiff, Nat.reduceLT, Nat.reduceLeDiff, Nat.reduceAdd, Nat.reduceMul, Nat.reduceSub, Nat.reduceEqDiff, reduceCtorEq]
      try rfl
  | succ k' =>
    subst hk'
    unfold lofS
    (repeat' (first
    | exact trivial
    | (with_reducible first | refine awA ?_ | refine awB ?_ | refine awC ?_ | refine awD ?_ | refine awE ?_ | refine awF ?_ | refine awG ?_ | refine awH ?_ | refine awI ?_ | refine awJ ?_ | refine awK ?_ | refine awL ?_ | refine awM (by decide) ?_)
    | ((with_reducible first | refine awN (tyOf_ok _) [3000031, 3000032] ?_ | refine awO (tyOf_ok _) [3000031, 3000032] ?_ | refine awP (tyOf_ok _) [3000031, 3000032] ?_ | refine awQ ?_ | refine awR ?_ | refine awS ?_ | refine awT ?_ | refine awU ?_); intro r hr; simp only [go_sem, Nat.reduceBEq, Nat.reduceBneDiff, Nat.reduceLT, Nat.reduceLeDiff, Nat.reduceAdd, Nat.reduceMul, Nat.reduceSub, Nat.reduceEqDiff, reduceCtorEq, hw1, e1, g1, zk, hh, hcut, hrm, hkk, hkc, rm_kids, kill_kcells, killL_app, kn_ne, kn_ne', kn_lo, kn_hi, kcells_len, hsl, beq_self_eq_true, List.contains_cons, List.contains_nil, Bool.or_false, encTs_len] at hr; subst hr; (first | refine awV ?_ ?_ | refine awW ?_ ?_ | refine endK ?_ ?_ | refine endGK ?_ ?_ ?_ | (refine condK (fun h => ?_) (fun h => ?_) <;> (try simp only [go_sem, reduceCtorEq] at h) <;> (try (exfalso; omega)))))
    | (refine go_callGE [] [(nm, kn 32 (k' + 1))] [kn 32 (k' + 1)] [] ?_; intro r hr; simp only [go_sem, Nat.reduceBEq, Nat.reduceBneDiff, Nat.reduceLT, Nat.reduceLeDiff, Nat.reduceAdd, Nat.reduceMul, Nat.reduceSub, Nat.reduceEqDiff, reduceCtorEq, hw1, e1, g1, zk, hh, hcut, hrm, hkk, hkc, rm_kids, kill_kcells, killL_app, kn_ne, kn_ne', kn_lo, kn_hi, kcells_len, hsl, beq_self_eq_true, List.contains_cons, List.contains_nil, Bool.or_false, encTs_len] at hr; subst hr; refine callGK (hone) hh rfl (by first | exact .inl rfl | exact .inr rfl) ?_ (.inl rfl) ?_) | fail)) <;> (try omega)
    refine ⟨k' + 1 + 1, ?_, hlt, by omega⟩
    rw [keep_nest (ty := 55) (kk := 3) (m := 0) (S := SSk ts (k' + 1 + 1)) _ _ (by rw [SSk_len hlt]; exact hlt) (fun j => ?_)]
    · simp only [hks, List.cons_append, List.nil_append, go_sem, Nat.reduceBEq, Nat.reduceBneDiff, Nat.reduceLT, Nat.reduceLeDiff, Nat.reduceAdd, Nat.reduceMul, Nat.reduceSub, Nat.reduceEqDiff, reduceCtorEq] <;> exact rfl
    · rw [if_pos (Nat.zero_le _), hsu, ← lk_kids_new (d := 32) hsl j]
      simp only [lk_cons, kn_eq, kn_ne, kn_ne', cond_false, go_sem, Nat.reduceBEq, Nat.reduceBneDiff, Nat.reduceLT, Nat.reduceLeDiff, Nat.reduceAdd, Nat.reduceMul, Nat.reduceSub, Nat.reduceEqDiff, reduceCtorEq]
      try rfl
end Go.Proofs.Ytljfgohecmhchaa
end
