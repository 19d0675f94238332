import Derived.Test.YtjeplogcfedmeaaP5
set_option linter.all false
section
namespace Go.Proofs.Ytjeplogcfedmeaa
open Go.RowKit
set_option maxRecDepth 100000
set_option maxHeartbeats 8000000
abbrev cSt (s : StM) : List AV := [vI s.place, .v (.int .u64 s.kids), vI s.table, vI s.parts, vI s.free, vI s.left]
abbrev cIns (x : InsM) : List AV := [vI x.op, vI x.a, vI x.b, vI x.c]
theorem run_any (s : StM) (x : InsM) (ha : 0 ≤ x.a ∧ x.a ≤ 64) (hb : 0 ≤ x.b ∧ x.b ≤ 64) : PCall Try.prog 74 [vSt s, vIns x] (fun r => r = .tup [vEf (s.run x).1, vB (s.run x).2]) := by
 unfold StM.run
 dsimp only
 generalize hR : runN x.b.toNat x.a s (decide (s.place = 2)) = R
 have hb1 := both_any R.1
 have hw := wrap_i64 (n := x.a + x.b) (by omega)
 refine go_fn (tyOf_ok _) Try.func74 rfl rfl (by rw [Try.results74]) Try.ntmps74 rfl fun E => ?_
 (repeat' (first | exact trivial | (with_reducible first | apply awA | apply awB | apply awF) | ((with_reducible apply awn); intro r hr; simp only [go_sem, Nat.reduceBEq, Nat.reduceBneDiff, Nat.reduceLT, Nat.reduceLeDiff, Nat.reduceAdd, Nat.reduceMul, Nat.reduceSub, Nat.reduceEqDiff, reduceCtorEq] at hr; subst hr; (first | refine awV ?_ ?_)))) <;> (try omega)
 refine go_loop [2, 3, 4, 5, 6, 7] [2, 3, 4] (fun q : Nat × Int × StM × Bool => ⟨[(2, true, .ptr 1 2 0 0), (3, true, .ptr 1 3 0 0), (4, true, .ptr 1 4 0 0), (5, true, vB false), (6, true, vB q.2.2.2), (7, true, vI q.2.1)],
  [(2, .var (cSt q.2.2.1)), (3, .var (cIns x)), (4, .var (cSt .zero ++ cSt .zero))]⟩) (fun q => q.2.1 + q.1 = x.a + x.b ∧ 0 ≤ q.2.1 ∧ runN q.1 q.2.1 q.2.2.1 q.2.2.2 = R) (fun q => q.1) (x.b.toNat, x.a, s, decide (s.place = 2)) (by simp only [go_sem, Nat.reduceBEq, Nat.reduceBneDiff, Nat.reduceLT, Nat.reduceLeDiff, Nat.reduceAdd, Nat.reduceMul, Nat.reduceSub, Nat.reduceEqDiff, reduceCtorEq] <;> exact rfl) ⟨by show x.a + (x.b.toNat : Int) = _; omega, ha.1, hR⟩ ?_
 clear hR
 intro ⟨m, k, s1, ok⟩ ⟨h1, h2, h3⟩
 simp only at h1 h2 h3 ⊢
 have hwk := wrap_i64 (n := k + 1) (by omega)
 cases ok with
 | false =>
  have : (s1, false) = R := by rw [← h3]; cases m <;> rfl
  subst this
  (repeat' (first | exact trivial | (with_reducible first | apply awA | apply awD | apply awE | apply awF | apply awH | apply awK) | ((with_reducible first | apply awn | apply awo | refine awQ ?_ | refine awR ?_); intro r hr; simp only [go_sem, Nat.reduceBEq, Nat.reduceBneDiff, Nat.reduceLT, Nat.reduceLeDiff, Nat.reduceAdd, Nat.reduceMul, Nat.reduceSub, Nat.reduceEqDiff, reduceCtorEq, List.cons_append, List.nil_append, StM.zero] at hr; subst hr; (first | refine caC (hb1) rfl ?_ ?_ ?_ | refine awV ?_ ?_ | refine endK ?_ ?_ | (refine condK (fun h => ?_) (fun h => ?_) <;> (try simp only [go_sem, reduceCtorEq] at h) <;> (try (exfalso; omega))))))) <;> (try omega)
  all_goals exact rfl
 | true =>
  cases m with
  | zero =>
   have e1 : (k < x.a + x.b) = False := eq_false (by omega)
   subst h3
   (repeat' (first | exact trivial | (with_reducible first | apply awA | apply awD | apply awE | apply awF | apply awH | apply awK) | ((with_reducible first | apply awn | apply awo | refine awQ ?_ | refine awR ?_); intro r hr; simp only [go_sem, Nat.reduceBEq, Nat.reduceBneDiff, Nat.reduceLT, Nat.reduceLeDiff, Nat.reduceAdd, Nat.reduceMul, Nat.reduceSub, Nat.reduceEqDiff, reduceCtorEq, hw, e1, List.cons_append, List.nil_append, StM.zero] at hr; subst hr; (first | refine caC (hb1) rfl ?_ ?_ ?_ | refine awV ?_ ?_ | refine endK ?_ ?_ | (refine condK (fun h => ?_) (fun h => ?_) <;> (try simp only [go_sem, reduceCtorEq] at h) <;> (try (exfalso; omega))))))) <;> (try omega)
   all_goals exact rfl
  | succ m =>
   have e1 : (k < x.a + x.b) = True := eq_true (by omega)
   have hf := fill_any s1 k
   unfold runN at h3
   rw [if_pos rfl] at h3
   generalize s1.fill k = q at hf h3
   obtain ⟨f, ok⟩ := q
   simp only at hf h3
   (repeat' (first | exact trivial | (with_reducible first | apply awA | apply awB | apply awC | apply awF | apply awI) | ((with_reducible first | apply awn | apply awo | refine awQ ?_); intro r hr; simp only [go_sem, Nat.reduceBEq, Nat.reduceBneDiff, Nat.reduceLT, Nat.reduceLeDiff, Nat.reduceAdd, Nat.reduceMul, Nat.reduceSub, Nat.reduceEqDiff, reduceCtorEq, hw, hwk, e1] at hr; subst hr; (first | refine caC (hf) rfl ?_ ?_ ?_ | refine awV ?_ ?_ | (refine condK (fun h => ?_) (fun h => ?_) <;> (try simp only [go_sem, reduceCtorEq] at h) <;> (try (exfalso; omega))))))) <;> (try omega)
   refine ⟨(m, k + 1, f, ok), ?_, ⟨by show k + 1 + m = _; omega, by show 0 ≤ k + 1; omega, h3⟩, Nat.lt_succ_self m⟩
   simp only [hwk, go_sem, Nat.reduceBEq, Nat.reduceBneDiff, Nat.reduceLT, Nat.reduceLeDiff, Nat.reduceAdd, Nat.reduceMul, Nat.reduceSub, Nat.reduceEqDiff, reduceCtorEq]
theorem rounds_any (s : StM) (x : InsM) : PCall Try.prog 79 [vSt s, vIns x] (fun r => r = .tup [vEf (s.rounds x).1, vB (s.rounds x).2]) := by
 have hs := still_any s
 have w2 := with_any s.still 2
 have w3 := with_any s.still 3
 have w4 := with_any s.still 4
 have hb := both_any s.still
 unfold StM.rounds
 dsimp only
 by_cases h1 : x.op = 11
 ·have e1 : (x.op = 11) = True := eq_true h1
  rw [if_pos h1]
  refine go_fn (tyOf_ok _) Try.func79 rfl rfl (by rw [Try.results79]) Try.ntmps79 rfl fun E => ?_
  (repeat' (first | exact trivial | (with_reducible first | apply awA | apply awB | apply awD | apply awF | apply awG | apply awJ) | (refine aw_draw (id := 1) (t := (.node [0, 1, 2, 3, 4, 5, 6, 7] [])) (drR [2] [] []) mixed (by kernel_rfl) (by kernel_rfl) (fun _ _ h => h) ?_) | (refine aw_draw (id := 7) (t := (.node [0, 1, 2, 3, 4, 5, 6, 7, 8, 9, 10] [])) (drR [8, 2] [] []) mixed (by kernel_rfl) (by kernel_rfl) (fun _ _ h => h) ?_) | (refine at_done (by simp only [go_sem]; exact rfl) ?_) | (refine at_alt (by simp only [go_sem]; exact rfl) ?_) | refine qalt_normal ?_ | refine ats_cons ?_ ?_ | exact ats_nil | ((with_reducible first | apply awn | apply awo | apply awp | refine awQ ?_ | refine awR ?_); intro r hr; simp only [go_sem, Nat.reduceBEq, Nat.reduceBneDiff, Nat.reduceLT, Nat.reduceLeDiff, Nat.reduceAdd, Nat.reduceMul, Nat.reduceSub, Nat.reduceEqDiff, reduceCtorEq, e1] at hr; subst hr; (first | refine caC (hs) rfl ?_ ?_ ?_ | refine awV ?_ ?_ | refine endK ?_ ?_ | (refine condK (fun h => ?_) (fun h => ?_) <;> (try simp only [go_sem, reduceCtorEq] at h) <;> (try (exfalso; omega))))))) <;> (try omega)
  all_goals exact rfl
 have e1 : (x.op = 11) = False := eq_false h1
 rw [if_neg h1]
 by_cases h2 : x.op = 12
 ·have e2 : (x.op = 12) = True := eq_true h2
  rw [if_pos h2]
  refine go_fn (tyOf_ok _) Try.func79 rfl rfl (by rw [Try.results79]) Try.ntmps79 rfl fun E => ?_
  (repeat' (first | exact trivial | (with_reducible first | apply awA | apply awB | apply awD | apply awF | apply awG | apply awJ) | (refine aw_draw (id := 1) (t := (.node [0, 1, 2, 3, 4, 5, 6, 7] [])) (drR [2] [] []) mixed (by kernel_rfl) (by kernel_rfl) (fun _ _ h => h) ?_) | (refine aw_draw (id := 9) (t := (.node [0, 1, 4, 2, 3, 5, 6, 7, 8, 9] [])) (drR [2] [] []) mixed (by kernel_rfl) (by kernel_rfl) (fun _ _ h => h) ?_) | (refine at_done (by simp only [go_sem]; exact rfl) ?_) | (refine at_alt (by simp only [go_sem]; exact rfl) ?_) | refine qalt_normal ?_ | refine ats_cons ?_ ?_ | exact ats_nil | ((with_reducible first | apply awn | apply awo | apply awp | refine awQ ?_ | refine awR ?_); intro r hr; simp only [go_sem, Nat.reduceBEq, Nat.reduceBneDiff, Nat.reduceLT, Nat.reduceLeDiff, Nat.reduceAdd, Nat.reduceMul, Nat.reduceSub, Nat.reduceEqDiff, reduceCtorEq, e1, e2] at hr; subst hr; (first | refine caC (hs) rfl ?_ ?_ ?_ | refine caC (w3) rfl ?_ ?_ ?_ | refine awV ?_ ?_ | refine endK ?_ ?_ | (refine condK (fun h => ?_) (fun h => ?_) <;> (try simp only [go_sem, reduceCtorEq] at h) <;> (try (exfalso; omega))))))) <;> (try omega)
  all_goals exact rfl
 have e2 : (x.op = 12) = False := eq_false h2
 rw [if_neg h2]
 by_cases h3 : x.op = 13
 ·have e3 : (x.op = 13) = True := eq_true h3
  rw [if_pos h3]
  refine go_fn (tyOf_ok _) Try.func79 rfl rfl (by rw [Try.results79]) Try.ntmps79 rfl fun E => ?_
  (repeat' (first | exact trivial | (with_reducible first | apply awA | apply awB | apply awD | apply awF | apply awG | apply awJ) | (refine aw_draw (id := 1) (t := (.node [0, 1, 2, 3, 4, 5, 6, 7] [])) (drR [2] [] []) mixed (by kernel_rfl) (by kernel_rfl) (fun _ _ h => h) ?_) | (refine aw_draw (id := 11) (t := (.node [0, 2, 4, 1, 3, 5, 6] [])) (drR [2] [] []) mixed (by kernel_rfl) (by kernel_rfl) (fun _ _ h => h) ?_) | (refine at_done (by simp only [go_sem]; exact rfl) ?_) | (refine at_alt (by simp only [go_sem]; exact rfl) ?_) | refine qalt_normal ?_ | refine ats_cons ?_ ?_ | exact ats_nil | ((with_reducible first | apply awn | apply awo | apply awp | refine awQ ?_ | refine awR ?_); intro r hr; simp only [go_sem, Nat.reduceBEq, Nat.reduceBneDiff, Nat.reduceLT, Nat.reduceLeDiff, Nat.reduceAdd, Nat.reduceMul, Nat.reduceSub, Nat.reduceEqDiff, reduceCtorEq, e1, e2, e3] at hr; subst hr; (first | refine caC (hs) rfl ?_ ?_ ?_ | refine caC (w2) rfl ?_ ?_ ?_ | refine awV ?_ ?_ | refine endK ?_ ?_ | (refine condK (fun h => ?_) (fun h => ?_) <;> (try simp only [go_sem, reduceCtorEq] at h) <;> (try (exfalso; omega))))))) <;> (try omega)
  all_goals exact rfl
 have e3 : (x.op = 13) = False := eq_false h3
 rw [if_neg h3]
 by_cases h4 : x.op = 14
 ·have e4 : (x.op = 14) = True := eq_true h4
  rw [if_pos h4]
  refine go_fn (tyOf_ok _) Try.func79 rfl rfl (by rw [Try.results79]) Try.ntmps79 rfl fun E => ?_
  (repeat' (first | exact trivial | (with_reducible first | apply awA | apply awB | apply awD | apply awF | apply awG | apply awJ) | (refine aw_draw (id := 1) (t := (.node [0, 1, 2, 3, 4, 5, 6, 7] [])) (drR [2] [] []) mixed (by kernel_rfl) (by kernel_rfl) (fun _ _ h => h) ?_) | (refine aw_draw (id := 13) (t := (.node [0, 1, 4, 2, 3, 5, 6] [])) (drR [2] [] []) mixed (by kernel_rfl) (by kernel_rfl) (fun _ _ h => h) ?_) | (refine at_done (by simp only [go_sem]; exact rfl) ?_) | (refine at_alt (by simp only [go_sem]; exact rfl) ?_) | refine qalt_normal ?_ | refine ats_cons ?_ ?_ | exact ats_nil | ((with_reducible first | apply awn | apply awo | apply awp | refine awQ ?_ | refine awR ?_); intro r hr; simp only [go_sem, Nat.reduceBEq, Nat.reduceBneDiff, Nat.reduceLT, Nat.reduceLeDiff, Nat.reduceAdd, Nat.reduceMul, Nat.reduceSub, Nat.reduceEqDiff, reduceCtorEq, e1, e2, e3, e4] at hr; subst hr; (first | refine caC (hs) rfl ?_ ?_ ?_ | refine caC (w2) rfl ?_ ?_ ?_ | refine awV ?_ ?_ | refine endK ?_ ?_ | (refine condK (fun h => ?_) (fun h => ?_) <;> (try simp only [go_sem, reduceCtorEq] at h) <;> (try (exfalso; omega))))))) <;> (try omega)
  all_goals exact rfl
 have e4 : (x.op = 14) = False := eq_false h4
 rw [if_neg h4]
 by_cases h5 : x.op = 15
 ·have e5 : (x.op = 15) = True := eq_true h5
  rw [if_pos h5]
  refine go_fn (tyOf_ok _) Try.func79 rfl rfl (by rw [Try.results79]) Try.ntmps79 rfl fun E => ?_
  (repeat' (first | exact trivial | (with_reducible first | apply awA | apply awB | apply awD | apply awF | apply awG | apply awJ) | (refine aw_draw (id := 1) (t := (.node [0, 1, 2, 3, 4, 5, 6, 7] [])) (drR [2] [] []) mixed (by kernel_rfl) (by kernel_rfl) (fun _ _ h => h) ?_) | (refine aw_draw (id := 15) (t := (.node [0, 1, 4, 2, 3, 5, 6, 7, 8, 9] [])) (drR [2] [] []) mixed (by kernel_rfl) (by kernel_rfl) (fun _ _ h => h) ?_) | (refine at_done (by simp only [go_sem]; exact rfl) ?_) | (refine at_alt (by simp only [go_sem]; exact rfl) ?_) | refine qalt_normal ?_ | refine ats_cons ?_ ?_ | exact ats_nil | ((with_reducible first | apply awn | apply awo | apply awp | refine awQ ?_ | refine awR ?_); intro r hr; simp only [go_sem, Nat.reduceBEq, Nat.reduceBneDiff, Nat.reduceLT, Nat.reduceLeDiff, Nat.reduceAdd, Nat.reduceMul, Nat.reduceSub, Nat.reduceEqDiff, reduceCtorEq, e1, e2, e3, e4, e5] at hr; subst hr; (first | refine caC (hs) rfl ?_ ?_ ?_ | refine caC (w4) rfl ?_ ?_ ?_ | refine awV ?_ ?_ | refine endK ?_ ?_ | (refine condK (fun h => ?_) (fun h => ?_) <;> (try simp only [go_sem, reduceCtorEq] at h) <;> (try (exfalso; omega))))))) <;> (try omega)
  all_goals exact rfl
 have e5 : (x.op = 15) = False := eq_false h5
 rw [if_neg h5]
 refine go_fn (tyOf_ok _) Try.func79 rfl rfl (by rw [Try.results79]) Try.ntmps79 rfl fun E => ?_
 (repeat' (first | exact trivial | (with_reducible first | apply awA | apply awB | apply awC | apply awD | apply awF | apply awI) | (refine aw_draw (id := 1) (t := (.node [0, 1, 2, 3, 4, 5, 6, 7] [])) (drR [2] [] []) mixed (by kernel_rfl) (by kernel_rfl) (fun _ _ h => h) ?_) | (refine aw_draw (id := 16) (t := (.node [0, 2, 3, 4, 1, 5, 6, 7, 8, 9, 10, 11, 12, 13, 14, 15, 16, 17, 18, 19, 20, 21, 22, 23, 24, 25, 26, 27, 28, 29] [])) (drR [2, 3] [] []) mixed (by kernel_rfl) (by kernel_rfl) (fun _ _ h => h) ?_) | (refine at_done (by simp only [go_sem]; exact rfl) ?_) | (refine at_alt (by simp only [go_sem]; exact rfl) ?_) | refine qalt_normal ?_ | refine ats_cons ?_ ?_ | exact ats_nil | ((with_reducible first | apply awn | apply awo | apply awp | refine awQ ?_ | refine awR ?_); intro r hr; simp only [go_sem, Nat.reduceBEq, Nat.reduceBneDiff, Nat.reduceLT, Nat.reduceLeDiff, Nat.reduceAdd, Nat.reduceMul, Nat.reduceSub, Nat.reduceEqDiff, reduceCtorEq, e1, e2, e3, e4, e5] at hr; subst hr; (first | refine caC (hs) rfl ?_ ?_ ?_ | refine caC (hb) rfl ?_ ?_ ?_ | refine awV ?_ ?_ | refine endK ?_ ?_ | (refine condK (fun h => ?_) (fun h => ?_) <;> (try simp only [go_sem, reduceCtorEq] at h) <;> (try (exfalso; omega))))))) <;> (try omega)
 all_goals exact rfl
end Go.Proofs.Ytjeplogcfedmeaa
end
section
namespace Go.Proofs.Ytjeplogcfedmeaa
open Go.RowKit
set_option maxRecDepth 100000
set_option maxHeartbeats 8000000
theorem decodes_any (s : StM) (x : InsM) (t : Int) (hx : x.op = 2 → (0 ≤ x.a ∧ x.a ≤ 64) ∧ 0 ≤ x.b ∧ x.b ≤ 64) : PCall Try.prog 65 [vSt s, vIns x, vI t] (fun r => r = .tup [vEf (decS s x t).1, vB (decS s x t).2]) := by
 obtain ⟨op, a, b, c⟩ := x
 unfold decS
 dsimp only at hx ⊢
 by_cases h16 : op = 16
 ·subst h16
  simp only [if_true, reduceIte, Int.reduceEq, or_false, false_or, or_true, true_or, or_self]
  by_cases hc : t ≤ c
  ·have ec : (t ≤ c) = True := eq_true hc
   rw [if_pos hc]
   refine go_fn (tyOf_ok _) Try.func65 rfl rfl (by rw [Try.results65]) Try.ntmps65 rfl fun E => ?_
   (repeat' (first | exact trivial | (with_reducible first | apply awA | apply awB | apply awD | apply awE | apply awF | apply awG | apply awH | apply awJ | apply awK) | ((with_reducible first | apply awn | refine awQ ?_ | refine awR ?_); intro r hr; simp only [go_sem, Nat.reduceBEq, Nat.reduceBneDiff, Nat.reduceLT, Nat.reduceLeDiff, Nat.reduceAdd, Nat.reduceMul, Nat.reduceSub, Nat.reduceEqDiff, reduceCtorEq, ec, Int.cast_ofNat_Int, Int.reduceToNat, Int.reduceEq, Int.reduceLT, Int.reduceLE, Int.reduceNe] at hr; subst hr; (first | refine awV ?_ ?_ | refine endK ?_ ?_ | (refine condK (fun h => ?_) (fun h => ?_) <;> (try simp only [go_sem, reduceCtorEq] at h) <;> (try (exfalso; omega))))))) <;> (try omega)
   all_goals exact rfl
  ·have ec : (t ≤ c) = False := eq_false hc
   rw [if_neg hc]
   have hf := fill_any s a
   generalize s.fill a = q at hf ⊢
   obtain ⟨f, ok⟩ := q
   have hb := both_any f
   dsimp only
   refine go_fn (tyOf_ok _) Try.func65 rfl rfl (by rw [Try.results65]) Try.ntmps65 rfl fun E => ?_
   (repeat' (first | exact trivial | (with_reducible first | apply awA | apply awB | apply awC | apply awD | apply awE | apply awF | apply awG | apply awH | apply awI | apply awJ | apply awK) | ((with_reducible first | apply awn | apply awo | refine awQ ?_ | refine awR ?_); intro r hr; simp only [go_sem, Nat.reduceBEq, Nat.reduceBneDiff, Nat.reduceLT, Nat.reduceLeDiff, Nat.reduceAdd, Nat.reduceMul, Nat.reduceSub, Nat.reduceEqDiff, reduceCtorEq, ec, Int.cast_ofNat_Int, Int.reduceToNat, Int.reduceEq, Int.reduceLT, Int.reduceLE, Int.reduceNe] at hr; subst hr; (first | refine caC (hf) rfl ?_ ?_ ?_ | refine caC (hb) rfl ?_ ?_ ?_ | refine awV ?_ ?_ | refine endK ?_ ?_ | (refine condK (fun h => ?_) (fun h => ?_) <;> (try simp only [go_sem, reduceCtorEq] at h) <;> (try (exfalso; omega))))))) <;> (try omega)
   all_goals exact rfl
 by_cases h1 : op = 1
 ·subst h1
  simp only [if_true, if_false, reduceIte, Int.reduceEq, or_false, false_or, or_true, true_or, or_self]
  have hf := fill_any s a
  generalize s.fill a = q at hf ⊢
  obtain ⟨f, ok⟩ := q
  have hb := both_any f
  dsimp only
  refine go_fn (tyOf_ok _) Try.func65 rfl rfl (by rw [Try.results65]) Try.ntmps65 rfl fun E => ?_
  (repeat' (first | exact trivial | (with_reducible first | apply awA | apply awB | apply awC | apply awD | apply awE | apply awF | apply awG | apply awH | apply awJ | apply awK | refine awM (by decide) ?_) | ((with_reducible first | apply awn | apply awo | refine awQ ?_ | refine awR ?_); intro r hr; simp only [go_sem, Nat.reduceBEq, Nat.reduceBneDiff, Nat.reduceLT, Nat.reduceLeDiff, Nat.reduceAdd, Nat.reduceMul, Nat.reduceSub, Nat.reduceEqDiff, reduceCtorEq, Int.cast_ofNat_Int, Int.reduceToNat, Int.reduceEq, Int.reduceLT, Int.reduceLE, Int.reduceNe] at hr; subst hr; (first | refine caC (hf) rfl ?_ ?_ ?_ | refine caC (hb) rfl ?_ ?_ ?_ | refine awV ?_ ?_ | refine endK ?_ ?_ | (refine condK (fun h => ?_) (fun h => ?_) <;> (try simp only [go_sem, reduceCtorEq] at h) <;> (try (exfalso; omega))))))) <;> (try omega)
  all_goals exact rfl
 by_cases h3 : op = 3
 ·subst h3
  simp only [if_true, if_false, reduceIte, Int.reduceEq, or_false, false_or, or_true, true_or, or_self]
  have hf := fill_any s a
  generalize s.fill a = q at hf ⊢
  obtain ⟨f, ok⟩ := q
  have hb := both_any f
  dsimp only
  refine go_fn (tyOf_ok _) Try.func65 rfl rfl (by rw [Try.results65]) Try.ntmps65 rfl fun E => ?_
  (repeat' (first | exact trivial | (with_reducible first | apply awA | apply awB | apply awC | apply awD | apply awE | apply awF | apply awG | apply awH | apply awJ | apply awK | refine awM (by decide) ?_) | ((with_reducible first | apply awn | apply awo | refine awQ ?_ | refine awR ?_); intro r hr; simp only [go_sem, Nat.reduceBEq, Nat.reduceBneDiff, Nat.reduceLT, Nat.reduceLeDiff, Nat.reduceAdd, Nat.reduceMul, Nat.reduceSub, Nat.reduceEqDiff, reduceCtorEq, Int.cast_ofNat_Int, Int.reduceToNat, Int.reduceEq, Int.reduceLT, Int.reduceLE, Int.reduceNe] at hr; subst hr; (first | refine caC (hf) rfl ?_ ?_ ?_ | refine caC (hb) rfl ?_ ?_ ?_ | refine awV ?_ ?_ | refine endK ?_ ?_ | (refine condK (fun h => ?_) (fun h => ?_) <;> (try simp only [go_sem, reduceCtorEq] at h) <;> (try (exfalso; omega))))))) <;> (try omega)
  all_goals exact rfl
 by_cases h4 : op = 4
 ·subst h4
  simp only [if_true, if_false, reduceIte, Int.reduceEq, or_false, false_or, or_true, true_or, or_self]
  have hf := fill_any s a
  generalize s.fill a = q at hf ⊢
  obtain ⟨f, ok⟩ := q
  have hb := both_any f
  dsimp only
  refine go_fn (tyOf_ok _) Try.func65 rfl rfl (by rw [Try.results65]) Try.ntmps65 rfl fun E => ?_
  (repeat' (first | exact trivial | (with_reducible first | apply awA | apply awB | apply awC | apply awD | apply awE | apply awF | apply awG | apply awH | apply awJ | apply awK | refine awM (by decide) ?_) | ((with_reducible first | apply awn | apply awo | refine awQ ?_ | refine awR ?_); intro r hr; simp only [go_sem, Nat.reduceBEq, Nat.reduceBneDiff, Nat.reduceLT, Nat.reduceLeDiff, Nat.reduceAdd, Nat.reduceMul, Nat.reduceSub, Nat.reduceEqDiff, reduceCtorEq, Int.cast_ofNat_Int, Int.reduceToNat, Int.reduceEq, Int.reduceLT, Int.reduceLE, Int.reduceNe] at hr; subst hr; (first | refine caC (hf) rfl ?_ ?_ ?_ | refine caC (hb) rfl ?_ ?_ ?_ | refine awV ?_ ?_ | refine endK ?_ ?_ | (refine condK (fun h => ?_) (fun h => ?_) <;> (try simp only [go_sem, reduceCtorEq] at h) <;> (try (exfalso; omega))))))) <;> (try omega)
  all_goals exact rfl
 by_cases h2 : op = 2
 ·subst h2
  simp only [if_true, if_false, reduceIte, Int.reduceEq, or_false, false_or, or_true, true_or, or_self]
  have hr := run_any s ⟨2, a, b, c⟩ (hx rfl).1 (hx rfl).2
  refine go_fn (tyOf_ok _) Try.func65 rfl rfl (by rw [Try.results65]) Try.ntmps65 rfl fun E => ?_
  (repeat' (first | exact trivial | (with_reducible first | apply awA | apply awB | apply awC | apply awD | apply awE | apply awF | apply awG | apply awH | apply awJ | apply awK | refine awM (by decide) ?_) | ((with_reducible first | apply awn | apply awo | refine awQ ?_ | refine awR ?_); intro r hr; simp only [go_sem, Nat.reduceBEq, Nat.reduceBneDiff, Nat.reduceLT, Nat.reduceLeDiff, Nat.reduceAdd, Nat.reduceMul, Nat.reduceSub, Nat.reduceEqDiff, reduceCtorEq, Int.cast_ofNat_Int, Int.reduceToNat, Int.reduceEq, Int.reduceLT, Int.reduceLE, Int.reduceNe] at hr; subst hr; (first | refine caC (hr) rfl ?_ ?_ ?_ | refine awV ?_ ?_ | refine endK ?_ ?_ | (refine condK (fun h => ?_) (fun h => ?_) <;> (try simp only [go_sem, reduceCtorEq] at h) <;> (try (exfalso; omega))))))) <;> (try omega)
  all_goals exact rfl
 by_cases h5 : op = 5
 ·subst h5
  simp only [if_true, if_false, reduceIte, Int.reduceEq, or_false, false_or, or_true, true_or, or_self]
  have h1 := at_any s 1
  have h2 := with_any (s.at_ 1) 1
  have hb := both_any ((s.at_ 1).wth 1)
  refine go_fn (tyOf_ok _) Try.func65 rfl rfl (by rw [Try.results65]) Try.ntmps65 rfl fun E => ?_
  (repeat' (first | exact trivial | (with_reducible first | apply awA | apply awB | apply awC | apply awD | apply awE | apply awF | apply awG | apply awH | apply awJ | apply awK | refine awM (by decide) ?_) | ((with_reducible first | apply awn | apply awo | refine awQ ?_ | refine awR ?_); intro r hr; simp only [go_sem, Nat.reduceBEq, Nat.reduceBneDiff, Nat.reduceLT, Nat.reduceLeDiff, Nat.reduceAdd, Nat.reduceMul, Nat.reduceSub, Nat.reduceEqDiff, reduceCtorEq, Int.cast_ofNat_Int, Int.reduceToNat, Int.reduceEq, Int.reduceLT, Int.reduceLE, Int.reduceNe] at hr; subst hr; (first | refine caC (h1) rfl ?_ ?_ ?_ | refine caC (h2) rfl ?_ ?_ ?_ | refine caC (hb) rfl ?_ ?_ ?_ | refine awV ?_ ?_ | refine endK ?_ ?_ | (refine condK (fun h => ?_) (fun h => ?_) <;> (try simp only [go_sem, reduceCtorEq] at h) <;> (try (exfalso; omega))))))) <;> (try omega)
  all_goals exact rfl
 by_cases h6 : op = 6
 ·subst h6
  simp only [if_true, if_false, reduceIte, Int.reduceEq, or_false, false_or, or_true, true_or, or_self]
  have h1 := at_any s 2
  have hb := both_any (s.at_ 2)
  refine go_fn (tyOf_ok _) Try.func65 rfl rfl (by rw [Try.results65]) Try.ntmps65 rfl fun E => ?_
  (repeat' (first | exact trivial | (with_reducible first | apply awA | apply awB | apply awC | apply awD | apply awE | apply awF | apply awG | apply awH | apply awJ | apply awK | refine awM (by decide) ?_) | ((with_reducible first | apply awn | apply awo | refine awQ ?_ | refine awR ?_); intro r hr; simp only [go_sem, Nat.reduceBEq, Nat.reduceBneDiff, Nat.reduceLT, Nat.reduceLeDiff, Nat.reduceAdd, Nat.reduceMul, Nat.reduceSub, Nat.reduceEqDiff, reduceCtorEq, Int.cast_ofNat_Int, Int.reduceToNat, Int.reduceEq, Int.reduceLT, Int.reduceLE, Int.reduceNe] at hr; subst hr; (first | refine caC (h1) rfl ?_ ?_ ?_ | refine caC (hb) rfl ?_ ?_ ?_ | refine awV ?_ ?_ | refine endK ?_ ?_ | (refine condK (fun h => ?_) (fun h => ?_) <;> (try simp only [go_sem, reduceCtorEq] at h) <;> (try (exfalso; omega))))))) <;> (try omega)
  all_goals exact rfl
 by_cases h7 : op = 7
 ·subst h7
  simp only [if_true, if_false, reduceIte, Int.reduceEq, or_false, false_or, or_true, true_or, or_self]
  have h1 := at_any s 3
  have h2 := at_any s 4
  refine go_fn (tyOf_ok _) Try.func65 rfl rfl (by rw [Try.results65]) Try.ntmps65 rfl fun E => ?_
  (repeat' (first | exact trivial | (with_reducible first | apply awA | apply awB | apply awC | apply awD | apply awE | apply awF | apply awG | apply awH | apply awJ | apply awK | refine awM (by decide) ?_) | (refine aw_draw (id := 29) (t := (.node [0, 2, 5, 1, 3, 4, 6, 7] [])) (drR [3] [] []) mixed (by kernel_rfl) (by kernel_rfl) (fun _ _ h => h) ?_) | (refine at_done (by simp only [go_sem]; exact rfl) ?_) | (refine at_alt (by simp only [go_sem]; exact rfl) ?_) | refine qalt_normal ?_ | refine ats_cons ?_ ?_ | exact ats_nil | ((with_reducible first | apply awn | apply awp | refine awQ ?_ | refine awR ?_); intro r hr; simp only [go_sem, Nat.reduceBEq, Nat.reduceBneDiff, Nat.reduceLT, Nat.reduceLeDiff, Nat.reduceAdd, Nat.reduceMul, Nat.reduceSub, Nat.reduceEqDiff, reduceCtorEq, Int.cast_ofNat_Int, Int.reduceToNat, Int.reduceEq, Int.reduceLT, Int.reduceLE, Int.reduceNe] at hr; subst hr; (first | refine caC (h1) rfl ?_ ?_ ?_ | refine caC (h2) rfl ?_ ?_ ?_ | refine awV ?_ ?_ | refine endK ?_ ?_ | (refine condK (fun h => ?_) (fun h => ?_) <;> (try simp only [go_sem, reduceCtorEq] at h) <;> (try (exfalso; omega))))))) <;> (try omega)
  all_goals exact rfl
 by_cases h8 : op = 8
 ·subst h8
  simp only [if_true, if_false, reduceIte, Int.reduceEq, or_false, false_or, or_true, true_or, or_self]
  have h1 := at_any s 3
  have hb := both_any (s.at_ 3)
  refine go_fn (tyOf_ok _) Try.func65 rfl rfl (by rw [Try.results65]) Try.ntmps65 rfl fun E => ?_
  (repeat' (first | exact trivial | (with_reducible first | apply awA | apply awB | apply awC | apply awD | apply awE | apply awF | apply awG | apply awH | apply awJ | apply awK | refine awM (by decide) ?_) | ((with_reducible first | apply awn | apply awo | refine awQ ?_ | refine awR ?_); intro r hr; simp only [go_sem, Nat.reduceBEq, Nat.reduceBneDiff, Nat.reduceLT, Nat.reduceLeDiff, Nat.reduceAdd, Nat.reduceMul, Nat.reduceSub, Nat.reduceEqDiff, reduceCtorEq, Int.cast_ofNat_Int, Int.reduceToNat, Int.reduceEq, Int.reduceLT, Int.reduceLE, Int.reduceNe] at hr; subst hr; (first | refine caC (h1) rfl ?_ ?_ ?_ | refine caC (hb) rfl ?_ ?_ ?_ | refine awV ?_ ?_ | refine endK ?_ ?_ | (refine condK (fun h => ?_) (fun h => ?_) <;> (try simp only [go_sem, reduceCtorEq] at h) <;> (try (exfalso; omega))))))) <;> (try omega)
  all_goals exact rfl
 by_cases h10 : op = 10
 ·subst h10
  simp only [if_true, if_false, reduceIte, Int.reduceEq, or_false, false_or, or_true, true_or, or_self]
  have h1 := offset_any s a
  refine go_fn (tyOf_ok _) Try.func65 rfl rfl (by rw [Try.results65]) Try.ntmps65 rfl fun E => ?_
  (repeat' (first | exact trivial | (with_reducible first | apply awA | apply awB | apply awC | apply awD | apply awE | apply awF | apply awG | apply awH | apply awJ | apply awK | refine awM (by decide) ?_) | ((with_reducible first | apply awn | apply awo | refine awQ ?_ | refine awR ?_); intro r hr; simp only [go_sem, Nat.reduceBEq, Nat.reduceBneDiff, Nat.reduceLT, Nat.reduceLeDiff, Nat.reduceAdd, Nat.reduceMul, Nat.reduceSub, Nat.reduceEqDiff, reduceCtorEq, Int.cast_ofNat_Int, Int.reduceToNat, Int.reduceEq, Int.reduceLT, Int.reduceLE, Int.reduceNe] at hr; subst hr; (first | refine caC (h1) rfl ?_ ?_ ?_ | refine awV ?_ ?_ | refine endK ?_ ?_ | (refine condK (fun h => ?_) (fun h => ?_) <;> (try simp only [go_sem, reduceCtorEq] at h) <;> (try (exfalso; omega))))))) <;> (try omega)
  all_goals exact rfl
 by_cases h17 : op = 17
 ·subst h17
  simp only [if_true, reduceIte, Int.reduceEq, or_false, false_or, or_true, true_or, or_self]
  by_cases hc : t ≤ c
  ·have ec : (t ≤ c) = True := eq_true hc
   rw [if_pos hc]
   refine go_fn (tyOf_ok _) Try.func65 rfl rfl (by rw [Try.results65]) Try.ntmps65 rfl fun E => ?_
   (repeat' (first | exact trivial | (with_reducible first | apply awA | apply awB | apply awC | apply awD | apply awE | apply awF | apply awG | apply awH | apply awJ | apply awK | refine awM (by decide) ?_) | ((with_reducible first | apply awn | refine awQ ?_ | refine awR ?_); intro r hr; simp only [go_sem, Nat.reduceBEq, Nat.reduceBneDiff, Nat.reduceLT, Nat.reduceLeDiff, Nat.reduceAdd, Nat.reduceMul, Nat.reduceSub, Nat.reduceEqDiff, reduceCtorEq, ec, Int.cast_ofNat_Int, Int.reduceToNat, Int.reduceEq, Int.reduceLT, Int.reduceLE, Int.reduceNe] at hr; subst hr; (first | refine awV ?_ ?_ | refine endK ?_ ?_ | (refine condK (fun h => ?_) (fun h => ?_) <;> (try simp only [go_sem, reduceCtorEq] at h) <;> (try (exfalso; omega))))))) <;> (try omega)
   all_goals exact rfl
  ·have ec : (t ≤ c) = False := eq_false hc
   rw [if_neg hc]
   have hp := part_any s ⟨17, a, b, c⟩
   refine go_fn (tyOf_ok _) Try.func65 rfl rfl (by rw [Try.results65]) Try.ntmps65 rfl fun E => ?_
   (repeat' (first | exact trivial | (with_reducible first | apply awA | apply awB | apply awC | apply awD | apply awE | apply awF | apply awG | apply awH | apply awJ | apply awK | refine awM (by decide) ?_) | ((with_reducible first | apply awn | apply awo | refine awQ ?_ | refine awR ?_); intro r hr; simp only [go_sem, Nat.reduceBEq, Nat.reduceBneDiff, Nat.reduceLT, Nat.reduceLeDiff, Nat.reduceAdd, Nat.reduceMul, Nat.reduceSub, Nat.reduceEqDiff, reduceCtorEq, ec, Int.cast_ofNat_Int, Int.reduceToNat, Int.reduceEq, Int.reduceLT, Int.reduceLE, Int.reduceNe] at hr; subst hr; (first | refine caC (hp) rfl ?_ ?_ ?_ | refine awV ?_ ?_ | refine endK ?_ ?_ | (refine condK (fun h => ?_) (fun h => ?_) <;> (try simp only [go_sem, reduceCtorEq] at h) <;> (try (exfalso; omega))))))) <;> (try omega)
   all_goals exact rfl
 by_cases h11 : op = 11
 ·subst h11
  simp only [if_true, if_false, reduceIte, Int.reduceEq, or_false, false_or, or_true, true_or, or_self]
  have h1 := rounds_any s ⟨11, a, b, c⟩
  refine go_fn (tyOf_ok _) Try.func65 rfl rfl (by rw [Try.results65]) Try.ntmps65 rfl fun E => ?_
  (repeat' (first | exact trivial | (with_reducible first | apply awA | apply awB | apply awC | apply awD | apply awE | apply awF | apply awG | apply awH | apply awJ | apply awK | refine awM (by decide) ?_) | ((with_reducible first | apply awn | apply awo | refine awQ ?_ | refine awR ?_); intro r hr; simp only [go_sem, Nat.reduceBEq, Nat.reduceBneDiff, Nat.reduceLT, Nat.reduceLeDiff, Nat.reduceAdd, Nat.reduceMul, Nat.reduceSub, Nat.reduceEqDiff, reduceCtorEq, Int.cast_ofNat_Int, Int.reduceToNat, Int.reduceEq, Int.reduceLT, Int.reduceLE, Int.reduceNe] at hr; subst hr; (first | refine caC (h1) rfl ?_ ?_ ?_ | refine awV ?_ ?_ | refine endK ?_ ?_ | (refine condK (fun h => ?_) (fun h => ?_) <;> (try simp only [go_sem, reduceCtorEq] at h) <;> (try (exfalso; omega))))))) <;> (try omega)
  all_goals exact rfl
 by_cases h12 : op = 12
 ·subst h12
  simp only [if_true, if_false, reduceIte, Int.reduceEq, or_false, false_or, or_true, true_or, or_self]
  have h1 := rounds_any s ⟨12, a, b, c⟩
  refine go_fn (tyOf_ok _) Try.func65 rfl rfl (by rw [Try.results65]) Try.ntmps65 rfl fun E => ?_
  (repeat' (first | exact trivial | (with_reducible first | apply awA | apply awB | apply awC | apply awD | apply awE | apply awF | apply awG | apply awH | apply awJ | apply awK | refine awM (by decide) ?_) | ((with_reducible first | apply awn | apply awo | refine awQ ?_ | refine awR ?_); intro r hr; simp only [go_sem, Nat.reduceBEq, Nat.reduceBneDiff, Nat.reduceLT, Nat.reduceLeDiff, Nat.reduceAdd, Nat.reduceMul, Nat.reduceSub, Nat.reduceEqDiff, reduceCtorEq, Int.cast_ofNat_Int, Int.reduceToNat, Int.reduceEq, Int.reduceLT, Int.reduceLE, Int.reduceNe] at hr; subst hr; (first | refine caC (h1) rfl ?_ ?_ ?_ | refine awV ?_ ?_ | refine endK ?_ ?_ | (refine condK (fun h => ?_) (fun h => ?_) <;> (try simp only [go_sem, reduceCtorEq] at h) <;> (try (exfalso; omega))))))) <;> (try omega)
  all_goals exact rfl
 by_cases h13 : op = 13
 ·subst h13
  simp only [if_true, if_false, reduceIte, Int.reduceEq, or_false, false_or, or_true, true_or, or_self]
  have h1 := rounds_any s ⟨13, a, b, c⟩
  refine go_fn (tyOf_ok _) Try.func65 rfl rfl (by rw [Try.results65]) Try.ntmps65 rfl fun E => ?_
  (repeat' (first | exact trivial | (with_reducible first | apply awA | apply awB | apply awC | apply awD | apply awE | apply awF | apply awG | apply awH | apply awJ | apply awK | refine awM (by decide) ?_) | ((with_reducible first | apply awn | apply awo | refine awQ ?_ | refine awR ?_); intro r hr; simp only [go_sem, Nat.reduceBEq, Nat.reduceBneDiff, Nat.reduceLT, Nat.reduceLeDiff, Nat.reduceAdd, Nat.reduceMul, Nat.reduceSub, Nat.reduceEqDiff, reduceCtorEq, Int.cast_ofNat_Int, Int.reduceToNat, Int.reduceEq, Int.reduceLT, Int.reduceLE, Int.reduceNe] at hr; subst hr; (first | refine caC (h1) rfl ?_ ?_ ?_ | refine awV ?_ ?_ | refine endK ?_ ?_ | (refine condK (fun h => ?_) (fun h => ?_) <;> (try simp only [go_sem, reduceCtorEq] at h) <;> (try (exfalso; omega))))))) <;> (try omega)
  all_goals exact rfl
 by_cases h14 : op = 14
 ·subst h14
  simp only [if_true, if_false, reduceIte, Int.reduceEq, or_false, false_or, or_true, true_or, or_self]
  have h1 := rounds_any s ⟨14, a, b, c⟩
  refine go_fn (tyOf_ok _) Try.func65 rfl rfl (by rw [Try.results65]) Try.ntmps65 rfl fun E => ?_
  (repeat' (first | exact trivial | (with_reducible first | apply awA | apply awB | apply awC | apply awD | apply awE | apply awF | apply awG | apply awH | apply awJ | apply awK | refine awM (by decide) ?_) | ((with_reducible first | apply awn | apply awo | refine awQ ?_ | refine awR ?_); intro r hr; simp only [go_sem, Nat.reduceBEq, Nat.reduceBneDiff, Nat.reduceLT, Nat.reduceLeDiff, Nat.reduceAdd, Nat.reduceMul, Nat.reduceSub, Nat.reduceEqDiff, reduceCtorEq, Int.cast_ofNat_Int, Int.reduceToNat, Int.reduceEq, Int.reduceLT, Int.reduceLE, Int.reduceNe] at hr; subst hr; (first | refine caC (h1) rfl ?_ ?_ ?_ | refine awV ?_ ?_ | refine endK ?_ ?_ | (refine condK (fun h => ?_) (fun h => ?_) <;> (try simp only [go_sem, reduceCtorEq] at h) <;> (try (exfalso; omega))))))) <;> (try omega)
  all_goals exact rfl
 by_cases h15 : op = 15
 ·subst h15
  simp only [if_true, if_false, reduceIte, Int.reduceEq, or_false, false_or, or_true, true_or, or_self]
  have h1 := rounds_any s ⟨15, a, b, c⟩
  refine go_fn (tyOf_ok _) Try.func65 rfl rfl (by rw [Try.results65]) Try.ntmps65 rfl fun E => ?_
  (repeat' (first | exact trivial | (with_reducible first | apply awA | apply awB | apply awC | apply awD | apply awE | apply awF | apply awG | apply awH | apply awJ | apply awK | refine awM (by decide) ?_) | ((with_reducible first | apply awn | apply awo | refine awQ ?_ | refine awR ?_); intro r hr; simp only [go_sem, Nat.reduceBEq, Nat.reduceBneDiff, Nat.reduceLT, Nat.reduceLeDiff, Nat.reduceAdd, Nat.reduceMul, Nat.reduceSub, Nat.reduceEqDiff, reduceCtorEq, Int.cast_ofNat_Int, Int.reduceToNat, Int.reduceEq, Int.reduceLT, Int.reduceLE, Int.reduceNe] at hr; subst hr; (first | refine caC (h1) rfl ?_ ?_ ?_ | refine awV ?_ ?_ | refine endK ?_ ?_ | (refine condK (fun h => ?_) (fun h => ?_) <;> (try simp only [go_sem, reduceCtorEq] at h) <;> (try (exfalso; omega))))))) <;> (try omega)
  all_goals exact rfl
 by_cases h18 : op = 18
 ·subst h18
  simp only [if_true, if_false, reduceIte, Int.reduceEq, or_false, false_or, or_true, true_or, or_self]
  have h1 := rounds_any s ⟨18, a, b, c⟩
  refine go_fn (tyOf_ok _) Try.func65 rfl rfl (by rw [Try.results65]) Try.ntmps65 rfl fun E => ?_
  (repeat' (first | exact trivial | (with_reducible first | apply awA | apply awB | apply awC | apply awD | apply awE | apply awF | apply awG | apply awH | apply awJ | apply awK | refine awM (by decide) ?_) | ((with_reducible first | apply awn | apply awo | refine awQ ?_ | refine awR ?_); intro r hr; simp only [go_sem, Nat.reduceBEq, Nat.reduceBneDiff, Nat.reduceLT, Nat.reduceLeDiff, Nat.reduceAdd, Nat.reduceMul, Nat.reduceSub, Nat.reduceEqDiff, reduceCtorEq, Int.cast_ofNat_Int, Int.reduceToNat, Int.reduceEq, Int.reduceLT, Int.reduceLE, Int.reduceNe] at hr; subst hr; (first | refine caC (h1) rfl ?_ ?_ ?_ | refine awV ?_ ?_ | refine endK ?_ ?_ | (refine condK (fun h => ?_) (fun h => ?_) <;> (try simp only [go_sem, reduceCtorEq] at h) <;> (try (exfalso; omega))))))) <;> (try omega)
  all_goals exact rfl
 by_cases h19 : op = 19
 ·subst h19
  simp only [if_true, if_false, reduceIte, Int.reduceEq, or_false, false_or, or_true, true_or, or_self]
  have hb := both_any s
  refine go_fn (tyOf_ok _) Try.func65 rfl rfl (by rw [Try.results65]) Try.ntmps65 rfl fun E => ?_
  (repeat' (first | exact trivial | (with_reducible first | apply awA | apply awB | apply awC | apply awD | apply awE | apply awF | apply awG | apply awH | apply awJ | apply awK | refine awM (by decide) ?_) | ((with_reducible first | apply awn | apply awo | refine awQ ?_ | refine awR ?_); intro r hr; simp only [go_sem, Nat.reduceBEq, Nat.reduceBneDiff, Nat.reduceLT, Nat.reduceLeDiff, Nat.reduceAdd, Nat.reduceMul, Nat.reduceSub, Nat.reduceEqDiff, reduceCtorEq, Int.cast_ofNat_Int, Int.reduceToNat, Int.reduceEq, Int.reduceLT, Int.reduceLE, Int.reduceNe] at hr; subst hr; (first | refine caC (hb) rfl ?_ ?_ ?_ | refine awV ?_ ?_ | refine endK ?_ ?_ | (refine condK (fun h => ?_) (fun h => ?_) <;> (try simp only [go_sem, reduceCtorEq] at h) <;> (try (exfalso; omega))))))) <;> (try omega)
  all_goals exact rfl
 by_cases h20 : op = 20
 ·subst h20
  simp only [if_true, if_false, reduceIte, Int.reduceEq, or_false, false_or, or_true, true_or, or_self]
  have h1 := over_any s
  refine go_fn (tyOf_ok _) Try.func65 rfl rfl (by rw [Try.results65]) Try.ntmps65 rfl fun E => ?_
  (repeat' (first | exact trivial | (with_reducible first | apply awA | apply awB | apply awC | apply awD | apply awE | apply awF | apply awG | apply awH | apply awJ | apply awK | refine awM (by decide) ?_) | ((with_reducible first | apply awn | apply awo | refine awQ ?_ | refine awR ?_); intro r hr; simp only [go_sem, Nat.reduceBEq, Nat.reduceBneDiff, Nat.reduceLT, Nat.reduceLeDiff, Nat.reduceAdd, Nat.reduceMul, Nat.reduceSub, Nat.reduceEqDiff, reduceCtorEq, Int.cast_ofNat_Int, Int.reduceToNat, Int.reduceEq, Int.reduceLT, Int.reduceLE, Int.reduceNe] at hr; subst hr; (first | refine caC (h1) rfl ?_ ?_ ?_ | refine awV ?_ ?_ | refine endK ?_ ?_ | (refine condK (fun h => ?_) (fun h => ?_) <;> (try simp only [go_sem, reduceCtorEq] at h) <;> (try (exfalso; omega))))))) <;> (try omega)
  all_goals exact rfl
 have e16 : (op = 16) = False := eq_false h16
 have e1 : (op = 1) = False := eq_false h1
 have e3 : (op = 3) = False := eq_false h3
 have e4 : (op = 4) = False := eq_false h4
 have e2 : (op = 2) = False := eq_false h2
 have e5 : (op = 5) = False := eq_false h5
 have e6 : (op = 6) = False := eq_false h6
 have e7 : (op = 7) = False := eq_false h7
 have e8 : (op = 8) = False := eq_false h8
 have e10 : (op = 10) = False := eq_false h10
 have e17 : (op = 17) = False := eq_false h17
 have e11 : (op = 11) = False := eq_false h11
 have e12 : (op = 12) = False := eq_false h12
 have e13 : (op = 13) = False := eq_false h13
 have e14 : (op = 14) = False := eq_false h14
 have e15 : (op = 15) = False := eq_false h15
 have e18 : (op = 18) = False := eq_false h18
 have e19 : (op = 19) = False := eq_false h19
 have e20 : (op = 20) = False := eq_false h20
 simp only [e16, e1, e3, e4, e2, e5, e6, e7, e8, e10, e17, e11, e12, e13, e14, e15, e18, e19, e20, or_self, if_false]
 refine go_fn (tyOf_ok _) Try.func65 rfl rfl (by rw [Try.results65]) Try.ntmps65 rfl fun E => ?_
 (repeat' (first | exact trivial | (with_reducible first | apply awA | apply awB | apply awC | apply awD | apply awE | apply awF | apply awH | apply awK | refine awM (by decide) ?_) | ((with_reducible first | apply awn | refine awQ ?_ | refine awR ?_); intro r hr; simp only [go_sem, Nat.reduceBEq, Nat.reduceBneDiff, Nat.reduceLT, Nat.reduceLeDiff, Nat.reduceAdd, Nat.reduceMul, Nat.reduceSub, Nat.reduceEqDiff, reduceCtorEq, e16, e1, e3, e4, e2, e5, e6, e7, e8, e10, e17, e11, e12, e13, e14, e15, e18, e19, e20, Int.cast_ofNat_Int, Int.reduceToNat, Int.reduceEq, Int.reduceLT, Int.reduceLE, Int.reduceNe] at hr; subst hr; (first | refine awV ?_ ?_ | refine endK ?_ ?_ | (refine condK (fun h => ?_) (fun h => ?_) <;> (try simp only [go_sem, reduceCtorEq] at h) <;> (try (exfalso; omega))))))) <;> (try omega)
 all_goals exact rfl
end Go.Proofs.Ytjeplogcfedmeaa
end
section
namespace Go.Proofs.Ytjeplogcfedmeaa
open Go.RowKit
set_option maxRecDepth 100000
set_option maxHeartbeats 8000000
theorem encodes_any (s : StM) (x : InsM) (t : Int) : PCall Try.prog 64 [vSt s, vIns x, vI t] (fun r => r = .tup [vEf (encS s x t).1, vB (encS s x t).2]) := by
 obtain ⟨op, a, b, c⟩ := x
 unfold encS
 dsimp only
 by_cases h44 : op = 44
 ·subst h44
  simp only [reduceIte, Int.reduceEq, or_false, false_or, or_true, true_or, or_self, if_true]
  by_cases hc : t ≤ c
  ·have ec : (t ≤ c) = True := eq_true hc
   rw [if_pos hc]
   refine go_fn (tyOf_ok _) Try.func64 rfl rfl (by rw [Try.results64]) Try.ntmps64 rfl fun E => ?_
   (repeat' (first | exact trivial | (with_reducible first | apply awA | apply awB | apply awC | apply awD | apply awE | apply awF | apply awG | apply awH | apply awJ | apply awK) | ((with_reducible first | apply awn | refine awQ ?_ | refine awR ?_); intro r hr; simp only [go_sem, Nat.reduceBEq, Nat.reduceBneDiff, Nat.reduceLT, Nat.reduceLeDiff, Nat.reduceAdd, Nat.reduceMul, Nat.reduceSub, Nat.reduceEqDiff, reduceCtorEq, ec, Int.cast_ofNat_Int, Int.reduceToNat, Int.reduceEq, Int.reduceLT, Int.reduceLE, Int.reduceNe] at hr; subst hr; (first | refine awV ?_ ?_ | refine endK ?_ ?_ | (refine condK (fun h => ?_) (fun h => ?_) <;> (try simp only [go_sem, reduceCtorEq] at h) <;> (try (exfalso; omega))))))) <;> (try omega)
   all_goals exact rfl
  ·have ec : (t ≤ c) = False := eq_false hc
   rw [if_neg hc]
   simp only [reduceIte, Int.reduceEq, or_false, false_or, or_true, true_or, or_self, false_and, if_false]
   have h1 := take_any s 1
   generalize s.take 1 = q at h1 ⊢
   obtain ⟨f1, o1⟩ := q
   have h2 := turn_any s
   generalize s.turn = q at h2 ⊢
   obtain ⟨f2, o2⟩ := q
   have b1 := both_any f1
   have b2 := both_any f2
   dsimp only
   refine go_fn (tyOf_ok _) Try.func64 rfl rfl (by rw [Try.results64]) Try.ntmps64 rfl fun E => ?_
   (repeat' (first | exact trivial | (with_reducible first | apply awA | apply awB | apply awC | apply awD | apply awE | apply awF | apply awG | apply awH | apply awI | apply awJ | apply awK) | ((with_reducible first | apply awn | apply awo | refine awQ ?_ | refine awR ?_); intro r hr; simp only [go_sem, Nat.reduceBEq, Nat.reduceBneDiff, Nat.reduceLT, Nat.reduceLeDiff, Nat.reduceAdd, Nat.reduceMul, Nat.reduceSub, Nat.reduceEqDiff, reduceCtorEq, ec, Int.cast_ofNat_Int, Int.reduceToNat, Int.reduceEq, Int.reduceLT, Int.reduceLE, Int.reduceNe] at hr; subst hr; (first | refine caC (h1) rfl ?_ ?_ ?_ | refine caC (h2) rfl ?_ ?_ ?_ | refine caC (b1) rfl ?_ ?_ ?_ | refine awV ?_ ?_ | refine endK ?_ ?_ | (refine condK (fun h => ?_) (fun h => ?_) <;> (try simp only [go_sem, reduceCtorEq] at h) <;> (try (exfalso; omega))))))) <;> (try omega)
   all_goals exact rfl
 by_cases h45 : op = 45
 ·subst h45
  simp only [reduceIte, Int.reduceEq, or_false, false_or, or_true, true_or, or_self, if_true]
  by_cases hc : t ≤ c
  ·have ec : (t ≤ c) = True := eq_true hc
   rw [if_pos hc]
   refine go_fn (tyOf_ok _) Try.func64 rfl rfl (by rw [Try.results64]) Try.ntmps64 rfl fun E => ?_
   (repeat' (first | exact trivial | (with_reducible first | apply awA | apply awB | apply awC | apply awD | apply awE | apply awF | apply awG | apply awH | apply awJ | apply awK) | ((with_reducible first | apply awn | refine awQ ?_ | refine awR ?_); intro r hr; simp only [go_sem, Nat.reduceBEq, Nat.reduceBneDiff, Nat.reduceLT, Nat.reduceLeDiff, Nat.reduceAdd, Nat.reduceMul, Nat.reduceSub, Nat.reduceEqDiff, reduceCtorEq, ec, Int.cast_ofNat_Int, Int.reduceToNat, Int.reduceEq, Int.reduceLT, Int.reduceLE, Int.reduceNe] at hr; subst hr; (first | refine awV ?_ ?_ | refine endK ?_ ?_ | (refine condK (fun h => ?_) (fun h => ?_) <;> (try simp only [go_sem, reduceCtorEq] at h) <;> (try (exfalso; omega))))))) <;> (try omega)
   all_goals exact rfl
  ·have ec : (t ≤ c) = False := eq_false hc
   rw [if_neg hc]
   simp only [reduceIte, Int.reduceEq, or_false, false_or, or_true, true_or, or_self, false_and, if_true]
   have h1 := take_any s 1
   generalize s.take 1 = q at h1 ⊢
   obtain ⟨f1, o1⟩ := q
   have h2 := turn_any s
   generalize s.turn = q at h2 ⊢
   obtain ⟨f2, o2⟩ := q
   have b1 := both_any f1
   have b2 := both_any f2
   dsimp only
   refine go_fn (tyOf_ok _) Try.func64 rfl rfl (by rw [Try.results64]) Try.ntmps64 rfl fun E => ?_
   (repeat' (first | exact trivial | (with_reducible first | apply awA | apply awB | apply awC | apply awD | apply awE | apply awF | apply awG | apply awH | apply awI | apply awJ | apply awK) | ((with_reducible first | apply awn | apply awo | refine awQ ?_ | refine awR ?_); intro r hr; simp only [go_sem, Nat.reduceBEq, Nat.reduceBneDiff, Nat.reduceLT, Nat.reduceLeDiff, Nat.reduceAdd, Nat.reduceMul, Nat.reduceSub, Nat.reduceEqDiff, reduceCtorEq, ec, Int.cast_ofNat_Int, Int.reduceToNat, Int.reduceEq, Int.reduceLT, Int.reduceLE, Int.reduceNe] at hr; subst hr; (first | refine caC (h1) rfl ?_ ?_ ?_ | refine caC (h2) rfl ?_ ?_ ?_ | refine caC (b2) rfl ?_ ?_ ?_ | refine awV ?_ ?_ | refine endK ?_ ?_ | (refine condK (fun h => ?_) (fun h => ?_) <;> (try simp only [go_sem, reduceCtorEq] at h) <;> (try (exfalso; omega))))))) <;> (try omega)
   all_goals exact rfl
 by_cases h46 : op = 46
 ·subst h46
  simp only [reduceIte, Int.reduceEq, or_false, false_or, or_true, true_or, or_self, if_true]
  by_cases hc : t ≤ c
  ·have ec : (t ≤ c) = True := eq_true hc
   rw [if_pos hc]
   refine go_fn (tyOf_ok _) Try.func64 rfl rfl (by rw [Try.results64]) Try.ntmps64 rfl fun E => ?_
   (repeat' (first | exact trivial | (with_reducible first | apply awA | apply awB | apply awD | apply awE | apply awF | apply awG | apply awH | apply awJ | apply awK) | ((with_reducible first | apply awn | refine awQ ?_ | refine awR ?_); intro r hr; simp only [go_sem, Nat.reduceBEq, Nat.reduceBneDiff, Nat.reduceLT, Nat.reduceLeDiff, Nat.reduceAdd, Nat.reduceMul, Nat.reduceSub, Nat.reduceEqDiff, reduceCtorEq, ec, Int.cast_ofNat_Int, Int.reduceToNat, Int.reduceEq, Int.reduceLT, Int.reduceLE, Int.reduceNe] at hr; subst hr; (first | refine awV ?_ ?_ | refine endK ?_ ?_ | (refine condK (fun h => ?_) (fun h => ?_) <;> (try simp only [go_sem, reduceCtorEq] at h) <;> (try (exfalso; omega))))))) <;> (try omega)
   all_goals exact rfl
  ·have ec : (t ≤ c) = False := eq_false hc
   rw [if_neg hc]
   by_cases h7 : s.place = 7
   ·have e7 : (s.place = 7) = True := eq_true h7
    simp only [e7, reduceIte, Int.reduceEq, or_false, false_or, or_true, true_or, or_self, and_self, if_true]
    have h1 := take_any s 1
    generalize s.take 1 = q at h1 ⊢
    obtain ⟨f1, o1⟩ := q
    have h2 := turn_any s
    generalize s.turn = q at h2 ⊢
    obtain ⟨f2, o2⟩ := q
    have b1 := both_any f1
    have b2 := both_any f2
    dsimp only
    refine go_fn (tyOf_ok _) Try.func64 rfl rfl (by rw [Try.results64]) Try.ntmps64 rfl fun E => ?_
    (repeat' (first | exact trivial | (with_reducible first | apply awA | apply awB | apply awC | apply awD | apply awE | apply awF | apply awG | apply awH | apply awI | apply awJ | apply awK) | ((with_reducible first | apply awn | apply awo | refine awQ ?_ | refine awR ?_); intro r hr; simp only [go_sem, Nat.reduceBEq, Nat.reduceBneDiff, Nat.reduceLT, Nat.reduceLeDiff, Nat.reduceAdd, Nat.reduceMul, Nat.reduceSub, Nat.reduceEqDiff, reduceCtorEq, ec, e7, Int.cast_ofNat_Int, Int.reduceToNat, Int.reduceEq, Int.reduceLT, Int.reduceLE, Int.reduceNe] at hr; subst hr; (first | refine caC (h1) rfl ?_ ?_ ?_ | refine caC (h2) rfl ?_ ?_ ?_ | refine caC (b2) rfl ?_ ?_ ?_ | refine awV ?_ ?_ | refine endK ?_ ?_ | (refine condK (fun h => ?_) (fun h => ?_) <;> (try simp only [go_sem, reduceCtorEq] at h) <;> (try (exfalso; omega))))))) <;> (try omega)
    all_goals exact rfl
   ·have e7 : (s.place = 7) = False := eq_false h7
    simp only [e7, reduceIte, Int.reduceEq, or_false, false_or, or_true, true_or, or_self, and_false, if_false]
    have h1 := take_any s 1
    generalize s.take 1 = q at h1 ⊢
    obtain ⟨f1, o1⟩ := q
    have h2 := turn_any s
    generalize s.turn = q at h2 ⊢
    obtain ⟨f2, o2⟩ := q
    have b1 := both_any f1
    have b2 := both_any f2
    dsimp only
    refine go_fn (tyOf_ok _) Try.func64 rfl rfl (by rw [Try.results64]) Try.ntmps64 rfl fun E => ?_
    (repeat' (first | exact trivial | (with_reducible first | apply awA | apply awB | apply awC | apply awD | apply awE | apply awF | apply awG | apply awH | apply awI | apply awJ | apply awK) | ((with_reducible first | apply awn | apply awo | refine awQ ?_ | refine awR ?_); intro r hr; simp only [go_sem, Nat.reduceBEq, Nat.reduceBneDiff, Nat.reduceLT, Nat.reduceLeDiff, Nat.reduceAdd, Nat.reduceMul, Nat.reduceSub, Nat.reduceEqDiff, reduceCtorEq, ec, e7, Int.cast_ofNat_Int, Int.reduceToNat, Int.reduceEq, Int.reduceLT, Int.reduceLE, Int.reduceNe] at hr; subst hr; (first | refine caC (h1) rfl ?_ ?_ ?_ | refine caC (h2) rfl ?_ ?_ ?_ | refine caC (b1) rfl ?_ ?_ ?_ | refine awV ?_ ?_ | refine endK ?_ ?_ | (refine condK (fun h => ?_) (fun h => ?_) <;> (try simp only [go_sem, reduceCtorEq] at h) <;> (try (exfalso; omega))))))) <;> (try omega)
    all_goals exact rfl
 by_cases h33 : op = 33
 ·subst h33
  simp only [reduceIte, Int.reduceEq, or_false, false_or, or_true, true_or, or_self, if_true, if_false]
  by_cases ha : a = -1
  ·have ea : (a = -1) = True := eq_true ha
   rw [if_pos ha]
   have h1 := take_any s 1
   generalize s.take 1 = q at h1 ⊢
   obtain ⟨f1, o1⟩ := q
   have h2 := turn_any s
   generalize s.turn = q at h2 ⊢
   obtain ⟨f2, o2⟩ := q
   have b1 := both_any f1
   have b2 := both_any f2
   dsimp only
   refine go_fn (tyOf_ok _) Try.func64 rfl rfl (by rw [Try.results64]) Try.ntmps64 rfl fun E => ?_
   (repeat' (first | exact trivial | (with_reducible first | apply awA | apply awB | apply awC | apply awD | apply awE | apply awF | apply awG | apply awH | apply awJ | apply awK | refine awM (by decide) ?_) | ((with_reducible first | apply awn | apply awo | refine awQ ?_ | refine awR ?_); intro r hr; simp only [go_sem, Nat.reduceBEq, Nat.reduceBneDiff, Nat.reduceLT, Nat.reduceLeDiff, Nat.reduceAdd, Nat.reduceMul, Nat.reduceSub, Nat.reduceEqDiff, reduceCtorEq, ea, Int.cast_ofNat_Int, Int.reduceToNat, Int.reduceEq, Int.reduceLT, Int.reduceLE, Int.reduceNe] at hr; subst hr; (first | refine caC (h1) rfl ?_ ?_ ?_ | refine caC (h2) rfl ?_ ?_ ?_ | refine caC (b2) rfl ?_ ?_ ?_ | refine awV ?_ ?_ | refine endK ?_ ?_ | (refine condK (fun h => ?_) (fun h => ?_) <;> (try simp only [go_sem, reduceCtorEq] at h) <;> (try (exfalso; omega))))))) <;> (try omega)
   all_goals exact rfl
  ·have ea : (a = -1) = False := eq_false ha
   rw [if_neg ha]
   have h1 := take_any s 1
   generalize s.take 1 = q at h1 ⊢
   obtain ⟨f1, o1⟩ := q
   have h2 := turn_any s
   generalize s.turn = q at h2 ⊢
   obtain ⟨f2, o2⟩ := q
   have b1 := both_any f1
   have b2 := both_any f2
   dsimp only
   refine go_fn (tyOf_ok _) Try.func64 rfl rfl (by rw [Try.results64]) Try.ntmps64 rfl fun E => ?_
   (repeat' (first | exact trivial | (with_reducible first | apply awA | apply awB | apply awC | apply awD | apply awE | apply awF | apply awG | apply awH | apply awJ | apply awK | refine awM (by decide) ?_) | ((with_reducible first | apply awn | apply awo | refine awQ ?_ | refine awR ?_); intro r hr; simp only [go_sem, Nat.reduceBEq, Nat.reduceBneDiff, Nat.reduceLT, Nat.reduceLeDiff, Nat.reduceAdd, Nat.reduceMul, Nat.reduceSub, Nat.reduceEqDiff, reduceCtorEq, ea, Int.cast_ofNat_Int, Int.reduceToNat, Int.reduceEq, Int.reduceLT, Int.reduceLE, Int.reduceNe] at hr; subst hr; (first | refine caC (h1) rfl ?_ ?_ ?_ | refine caC (h2) rfl ?_ ?_ ?_ | refine caC (b1) rfl ?_ ?_ ?_ | refine awV ?_ ?_ | refine endK ?_ ?_ | (refine condK (fun h => ?_) (fun h => ?_) <;> (try simp only [go_sem, reduceCtorEq] at h) <;> (try (exfalso; omega))))))) <;> (try omega)
   all_goals exact rfl
 by_cases h35 : op = 35
 ·subst h35
  simp only [reduceIte, Int.reduceEq, or_false, false_or, or_true, true_or, or_self, if_true, if_false]
  by_cases ha : a = -1
  ·have ea : (a = -1) = True := eq_true ha
   rw [if_pos ha]
   have h1 := take_any s 1
   generalize s.take 1 = q at h1 ⊢
   obtain ⟨f1, o1⟩ := q
   have h2 := turn_any s
   generalize s.turn = q at h2 ⊢
   obtain ⟨f2, o2⟩ := q
   have b1 := both_any f1
   have b2 := both_any f2
   dsimp only
   refine go_fn (tyOf_ok _) Try.func64 rfl rfl (by rw [Try.results64]) Try.ntmps64 rfl fun E => ?_
   (repeat' (first | exact trivial | (with_reducible first | apply awA | apply awB | apply awC | apply awD | apply awE | apply awF | apply awG | apply awH | apply awJ | apply awK | refine awM (by decide) ?_) | ((with_reducible first | apply awn | apply awo | refine awQ ?_ | refine awR ?_); intro r hr; simp only [go_sem, Nat.reduceBEq, Nat.reduceBneDiff, Nat.reduceLT, Nat.reduceLeDiff, Nat.reduceAdd, Nat.reduceMul, Nat.reduceSub, Nat.reduceEqDiff, reduceCtorEq, ea, Int.cast_ofNat_Int, Int.reduceToNat, Int.reduceEq, Int.reduceLT, Int.reduceLE, Int.reduceNe] at hr; subst hr; (first | refine caC (h1) rfl ?_ ?_ ?_ | refine caC (h2) rfl ?_ ?_ ?_ | refine caC (b2) rfl ?_ ?_ ?_ | refine awV ?_ ?_ | refine endK ?_ ?_ | (refine condK (fun h => ?_) (fun h => ?_) <;> (try simp only [go_sem, reduceCtorEq] at h) <;> (try (exfalso; omega))))))) <;> (try omega)
   all_goals exact rfl
  ·have ea : (a = -1) = False := eq_false ha
   rw [if_neg ha]
   have h1 := take_any s 1
   generalize s.take 1 = q at h1 ⊢
   obtain ⟨f1, o1⟩ := q
   have h2 := turn_any s
   generalize s.turn = q at h2 ⊢
   obtain ⟨f2, o2⟩ := q
   have b1 := both_any f1
   have b2 := both_any f2
   dsimp only
   refine go_fn (tyOf_ok _) Try.func64 rfl rfl (by rw [Try.results64]) Try.ntmps64 rfl fun E => ?_
   (repeat' (first | exact trivial | (with_reducible first | apply awA | apply awB | apply awC | apply awD | apply awE | apply awF | apply awG | apply awH | apply awJ | apply awK | refine awM (by decide) ?_) | ((with_reducible first | apply awn | apply awo | refine awQ ?_ | refine awR ?_); intro r hr; simp only [go_sem, Nat.reduceBEq, Nat.reduceBneDiff, Nat.reduceLT, Nat.reduceLeDiff, Nat.reduceAdd, Nat.reduceMul, Nat.reduceSub, Nat.reduceEqDiff, reduceCtorEq, ea, Int.cast_ofNat_Int, Int.reduceToNat, Int.reduceEq, Int.reduceLT, Int.reduceLE, Int.reduceNe] at hr; subst hr; (first | refine caC (h1) rfl ?_ ?_ ?_ | refine caC (h2) rfl ?_ ?_ ?_ | refine caC (b1) rfl ?_ ?_ ?_ | refine awV ?_ ?_ | refine endK ?_ ?_ | (refine condK (fun h => ?_) (fun h => ?_) <;> (try simp only [go_sem, reduceCtorEq] at h) <;> (try (exfalso; omega))))))) <;> (try omega)
   all_goals exact rfl
 by_cases h36 : op = 36
 ·subst h36
  simp only [reduceIte, Int.reduceEq, or_false, false_or, or_true, true_or, or_self, if_true, if_false]
  by_cases ha : a = -1
  ·have ea : (a = -1) = True := eq_true ha
   rw [if_pos ha]
   have h1 := take_any s 1
   generalize s.take 1 = q at h1 ⊢
   obtain ⟨f1, o1⟩ := q
   have h2 := turn_any s
   generalize s.turn = q at h2 ⊢
   obtain ⟨f2, o2⟩ := q
   have b1 := both_any f1
   have b2 := both_any f2
   dsimp only
   refine go_fn (tyOf_ok _) Try.func64 rfl rfl (by rw [Try.results64]) Try.ntmps64 rfl fun E => ?_
   (repeat' (first | exact trivial | (with_reducible first | apply awA | apply awB | apply awC | apply awD | apply awE | apply awF | apply awG | apply awH | apply awJ | apply awK | refine awM (by decide) ?_) | ((with_reducible first | apply awn | apply awo | refine awQ ?_ | refine awR ?_); intro r hr; simp only [go_sem, Nat.reduceBEq, Nat.reduceBneDiff, Nat.reduceLT, Nat.reduceLeDiff, Nat.reduceAdd, Nat.reduceMul, Nat.reduceSub, Nat.reduceEqDiff, reduceCtorEq, ea, Int.cast_ofNat_Int, Int.reduceToNat, Int.reduceEq, Int.reduceLT, Int.reduceLE, Int.reduceNe] at hr; subst hr; (first | refine caC (h1) rfl ?_ ?_ ?_ | refine caC (h2) rfl ?_ ?_ ?_ | refine caC (b2) rfl ?_ ?_ ?_ | refine awV ?_ ?_ | refine endK ?_ ?_ | (refine condK (fun h => ?_) (fun h => ?_) <;> (try simp only [go_sem, reduceCtorEq] at h) <;> (try (exfalso; omega))))))) <;> (try omega)
   all_goals exact rfl
  ·have ea : (a = -1) = False := eq_false ha
   rw [if_neg ha]
   have h1 := take_any s 1
   generalize s.take 1 = q at h1 ⊢
   obtain ⟨f1, o1⟩ := q
   have h2 := turn_any s
   generalize s.turn = q at h2 ⊢
   obtain ⟨f2, o2⟩ := q
   have b1 := both_any f1
   have b2 := both_any f2
   dsimp only
   refine go_fn (tyOf_ok _) Try.func64 rfl rfl (by rw [Try.results64]) Try.ntmps64 rfl fun E => ?_
   (repeat' (first | exact trivial | (with_reducible first | apply awA | apply awB | apply awC | apply awD | apply awE | apply awF | apply awG | apply awH | apply awJ | apply awK | refine awM (by decide) ?_) | ((with_reducible first | apply awn | apply awo | refine awQ ?_ | refine awR ?_); intro r hr; simp only [go_sem, Nat.reduceBEq, Nat.reduceBneDiff, Nat.reduceLT, Nat.reduceLeDiff, Nat.reduceAdd, Nat.reduceMul, Nat.reduceSub, Nat.reduceEqDiff, reduceCtorEq, ea, Int.cast_ofNat_Int, Int.reduceToNat, Int.reduceEq, Int.reduceLT, Int.reduceLE, Int.reduceNe] at hr; subst hr; (first | refine caC (h1) rfl ?_ ?_ ?_ | refine caC (h2) rfl ?_ ?_ ?_ | refine caC (b1) rfl ?_ ?_ ?_ | refine awV ?_ ?_ | refine endK ?_ ?_ | (refine condK (fun h => ?_) (fun h => ?_) <;> (try simp only [go_sem, reduceCtorEq] at h) <;> (try (exfalso; omega))))))) <;> (try omega)
   all_goals exact rfl
 by_cases h34 : op = 34
 ·subst h34
  simp only [reduceIte, Int.reduceEq, or_false, false_or, or_true, true_or, or_self, if_true, if_false]
  have h1 := take_any s b
  generalize s.take b = q at h1 ⊢
  obtain ⟨f1, o1⟩ := q
  have b1 := both_any f1
  dsimp only
  refine go_fn (tyOf_ok _) Try.func64 rfl rfl (by rw [Try.results64]) Try.ntmps64 rfl fun E => ?_
  (repeat' (first | exact trivial | (with_reducible first | apply awA | apply awB | apply awC | apply awD | apply awE | apply awF | apply awG | apply awH | apply awJ | apply awK | refine awM (by decide) ?_) | (refine aw_draw (id := 29) (t := (.node [0, 2, 1, 3, 4, 5, 6, 7, 8, 9] [])) (drR [12, 3] [] []) mixed (by kernel_rfl) (by kernel_rfl) (fun _ _ h => h) ?_) | (refine at_done (by simp only [go_sem]; exact rfl) ?_) | (refine at_alt (by simp only [go_sem]; exact rfl) ?_) | refine qalt_normal ?_ | refine ats_cons ?_ ?_ | exact ats_nil | ((with_reducible first | apply awn | apply awo | apply awp | refine awQ ?_ | refine awR ?_); intro r hr; simp only [go_sem, Nat.reduceBEq, Nat.reduceBneDiff, Nat.reduceLT, Nat.reduceLeDiff, Nat.reduceAdd, Nat.reduceMul, Nat.reduceSub, Nat.reduceEqDiff, reduceCtorEq, Int.cast_ofNat_Int, Int.reduceToNat, Int.reduceEq, Int.reduceLT, Int.reduceLE, Int.reduceNe] at hr; subst hr; (first | refine caC (h1) rfl ?_ ?_ ?_ | refine caC (b1) rfl ?_ ?_ ?_ | refine awV ?_ ?_ | refine endK ?_ ?_ | (refine condK (fun h => ?_) (fun h => ?_) <;> (try simp only [go_sem, reduceCtorEq] at h) <;> (try (exfalso; omega))))))) <;> (try omega)
  all_goals exact rfl
 by_cases h37 : op = 37
 ·subst h37
  simp only [reduceIte, Int.reduceEq, or_false, false_or, or_true, true_or, or_self, if_true, if_false]
  have b1 := both_any ⟨7, 0, 0, 0, 2, 0⟩
  refine go_fn (tyOf_ok _) Try.func64 rfl rfl (by rw [Try.results64]) Try.ntmps64 rfl fun E => ?_
  (repeat' (first | exact trivial | (with_reducible first | apply awA | apply awB | apply awC | apply awD | apply awE | apply awF | apply awG | apply awH | apply awJ | apply awK | refine awM (by decide) ?_) | ((with_reducible first | apply awn | apply awo | refine awQ ?_ | refine awR ?_); intro r hr; simp only [go_sem, Nat.reduceBEq, Nat.reduceBneDiff, Nat.reduceLT, Nat.reduceLeDiff, Nat.reduceAdd, Nat.reduceMul, Nat.reduceSub, Nat.reduceEqDiff, reduceCtorEq, Int.cast_ofNat_Int, Int.reduceToNat, Int.reduceEq, Int.reduceLT, Int.reduceLE, Int.reduceNe] at hr; subst hr; (first | refine caC (b1) rfl ?_ ?_ ?_ | refine awV ?_ ?_ | refine endK ?_ ?_ | (refine condK (fun h => ?_) (fun h => ?_) <;> (try simp only [go_sem, reduceCtorEq] at h) <;> (try (exfalso; omega))))))) <;> (try omega)
  all_goals exact rfl
 by_cases h38 : op = 38
 ·subst h38
  simp only [reduceIte, Int.reduceEq, or_false, false_or, or_true, true_or, or_self, if_true, if_false]
  have b1 := both_any ⟨7, 0, 0, 0, 0, 0⟩
  refine go_fn (tyOf_ok _) Try.func64 rfl rfl (by rw [Try.results64]) Try.ntmps64 rfl fun E => ?_
  (repeat' (first | exact trivial | (with_reducible first | apply awA | apply awB | apply awC | apply awD | apply awE | apply awF | apply awG | apply awH | apply awJ | apply awK | refine awM (by decide) ?_) | ((with_reducible first | apply awn | apply awo | refine awQ ?_ | refine awR ?_); intro r hr; simp only [go_sem, Nat.reduceBEq, Nat.reduceBneDiff, Nat.reduceLT, Nat.reduceLeDiff, Nat.reduceAdd, Nat.reduceMul, Nat.reduceSub, Nat.reduceEqDiff, reduceCtorEq, Int.cast_ofNat_Int, Int.reduceToNat, Int.reduceEq, Int.reduceLT, Int.reduceLE, Int.reduceNe] at hr; subst hr; (first | refine caC (b1) rfl ?_ ?_ ?_ | refine awV ?_ ?_ | refine endK ?_ ?_ | (refine condK (fun h => ?_) (fun h => ?_) <;> (try simp only [go_sem, reduceCtorEq] at h) <;> (try (exfalso; omega))))))) <;> (try omega)
  all_goals exact rfl
 by_cases h39 : op = 39
 ·subst h39
  simp only [reduceIte, Int.reduceEq, or_false, false_or, or_true, true_or, or_self, if_true, if_false]
  have b1 := both_any ⟨6, 0, 0, 0, 0, a⟩
  refine go_fn (tyOf_ok _) Try.func64 rfl rfl (by rw [Try.results64]) Try.ntmps64 rfl fun E => ?_
  (repeat' (first | exact trivial | (with_reducible first | apply awA | apply awB | apply awC | apply awD | apply awE | apply awF | apply awG | apply awH | apply awJ | apply awK | refine awM (by decide) ?_) | ((with_reducible first | apply awn | apply awo | refine awQ ?_ | refine awR ?_); intro r hr; simp only [go_sem, Nat.reduceBEq, Nat.reduceBneDiff, Nat.reduceLT, Nat.reduceLeDiff, Nat.reduceAdd, Nat.reduceMul, Nat.reduceSub, Nat.reduceEqDiff, reduceCtorEq, Int.cast_ofNat_Int, Int.reduceToNat, Int.reduceEq, Int.reduceLT, Int.reduceLE, Int.reduceNe] at hr; subst hr; (first | refine caC (b1) rfl ?_ ?_ ?_ | refine awV ?_ ?_ | refine endK ?_ ?_ | (refine condK (fun h => ?_) (fun h => ?_) <;> (try simp only [go_sem, reduceCtorEq] at h) <;> (try (exfalso; omega))))))) <;> (try omega)
  all_goals exact rfl
 by_cases h40 : op = 40
 ·subst h40
  simp only [reduceIte, Int.reduceEq, or_false, false_or, or_true, true_or, or_self, if_true, if_false]
  refine go_fn (tyOf_ok _) Try.func64 rfl rfl (by rw [Try.results64]) Try.ntmps64 rfl fun E => ?_
  (repeat' (first | exact trivial | (with_reducible first | apply awA | apply awB | apply awC | apply awD | apply awE | apply awF | apply awG | apply awH | apply awJ | apply awK | refine awM (by decide) ?_) | ((with_reducible first | apply awn | refine awQ ?_ | refine awR ?_); intro r hr; simp only [go_sem, Nat.reduceBEq, Nat.reduceBneDiff, Nat.reduceLT, Nat.reduceLeDiff, Nat.reduceAdd, Nat.reduceMul, Nat.reduceSub, Nat.reduceEqDiff, reduceCtorEq, Int.cast_ofNat_Int, Int.reduceToNat, Int.reduceEq, Int.reduceLT, Int.reduceLE, Int.reduceNe] at hr; subst hr; (first | refine awV ?_ ?_ | refine endK ?_ ?_ | (refine condK (fun h => ?_) (fun h => ?_) <;> (try simp only [go_sem, reduceCtorEq] at h) <;> (try (exfalso; omega))))))) <;> (try omega)
  all_goals exact rfl
 by_cases h41 : op = 41
 ·subst h41
  simp only [reduceIte, Int.reduceEq, or_false, false_or, or_true, true_or, or_self, if_true, if_false]
  have b1 := both_any ⟨6, 0, 0, 0, 0, 1⟩
  refine go_fn (tyOf_ok _) Try.func64 rfl rfl (by rw [Try.results64]) Try.ntmps64 rfl fun E => ?_
  (repeat' (first | exact trivial | (with_reducible first | apply awA | apply awB | apply awC | apply awD | apply awE | apply awF | apply awG | apply awH | apply awJ | apply awK | refine awM (by decide) ?_) | ((with_reducible first | apply awn | apply awo | refine awQ ?_ | refine awR ?_); intro r hr; simp only [go_sem, Nat.reduceBEq, Nat.reduceBneDiff, Nat.reduceLT, Nat.reduceLeDiff, Nat.reduceAdd, Nat.reduceMul, Nat.reduceSub, Nat.reduceEqDiff, reduceCtorEq, Int.cast_ofNat_Int, Int.reduceToNat, Int.reduceEq, Int.reduceLT, Int.reduceLE, Int.reduceNe] at hr; subst hr; (first | refine caC (b1) rfl ?_ ?_ ?_ | refine awV ?_ ?_ | refine endK ?_ ?_ | (refine condK (fun h => ?_) (fun h => ?_) <;> (try simp only [go_sem, reduceCtorEq] at h) <;> (try (exfalso; omega))))))) <;> (try omega)
  all_goals exact rfl
 by_cases h42 : op = 42
 ·subst h42
  simp only [reduceIte, Int.reduceEq, or_false, false_or, or_true, true_or, or_self, if_true, if_false]
  have b1 := both_any s
  refine go_fn (tyOf_ok _) Try.func64 rfl rfl (by rw [Try.results64]) Try.ntmps64 rfl fun E => ?_
  (repeat' (first | exact trivial | (with_reducible first | apply awA | apply awB | apply awC | apply awD | apply awE | apply awF | apply awG | apply awH | apply awJ | apply awK | refine awM (by decide) ?_) | (refine aw_draw (id := 35) (t := (.node [0, 2, 3, 4, 1, 5, 6, 7, 8, 9, 10, 11, 12, 13, 14, 15] [])) (drR [3] [] []) mixed (by kernel_rfl) (by kernel_rfl) (fun _ _ h => h) ?_) | (refine at_done (by simp only [go_sem]; exact rfl) ?_) | (refine at_alt (by simp only [go_sem]; exact rfl) ?_) | refine qalt_normal ?_ | refine ats_cons ?_ ?_ | exact ats_nil | ((with_reducible first | apply awn | apply awp | refine awQ ?_ | refine awR ?_); intro r hr; simp only [go_sem, Nat.reduceBEq, Nat.reduceBneDiff, Nat.reduceLT, Nat.reduceLeDiff, Nat.reduceAdd, Nat.reduceMul, Nat.reduceSub, Nat.reduceEqDiff, reduceCtorEq, Int.cast_ofNat_Int, Int.reduceToNat, Int.reduceEq, Int.reduceLT, Int.reduceLE, Int.reduceNe] at hr; subst hr; (first | refine caC (b1) rfl ?_ ?_ ?_ | refine awV ?_ ?_ | refine endK ?_ ?_ | (refine condK (fun h => ?_) (fun h => ?_) <;> (try simp only [go_sem, reduceCtorEq] at h) <;> (try (exfalso; omega))))))) <;> (try omega)
  all_goals exact rfl
 by_cases h43 : op = 43
 ·subst h43
  simp only [reduceIte, Int.reduceEq, or_false, false_or, or_true, true_or, or_self, if_true, if_false]
  have b1 := both_any s
  refine go_fn (tyOf_ok _) Try.func64 rfl rfl (by rw [Try.results64]) Try.ntmps64 rfl fun E => ?_
  (repeat' (first | exact trivial | (with_reducible first | apply awA | apply awB | apply awC | apply awD | apply awE | apply awF | apply awG | apply awH | apply awJ | apply awK | refine awM (by decide) ?_) | (refine aw_draw (id := 36) (t := (.node [0, 2, 3, 4, 1, 5, 6, 7, 8, 9, 10, 11, 12, 13, 14, 15, 16, 17, 18, 19, 20, 21, 22, 23] [])) (drR [3] [] []) mixed (by kernel_rfl) (by kernel_rfl) (fun _ _ h => h) ?_) | (refine at_done (by simp only [go_sem]; exact rfl) ?_) | (refine at_alt (by simp only [go_sem]; exact rfl) ?_) | refine qalt_normal ?_ | refine ats_cons ?_ ?_ | exact ats_nil | ((with_reducible first | apply awn | apply awp | refine awQ ?_ | refine awR ?_); intro r hr; simp only [go_sem, Nat.reduceBEq, Nat.reduceBneDiff, Nat.reduceLT, Nat.reduceLeDiff, Nat.reduceAdd, Nat.reduceMul, Nat.reduceSub, Nat.reduceEqDiff, reduceCtorEq, Int.cast_ofNat_Int, Int.reduceToNat, Int.reduceEq, Int.reduceLT, Int.reduceLE, Int.reduceNe] at hr; subst hr; (first | refine caC (b1) rfl ?_ ?_ ?_ | refine awV ?_ ?_ | refine endK ?_ ?_ | (refine condK (fun h => ?_) (fun h => ?_) <;> (try simp only [go_sem, reduceCtorEq] at h) <;> (try (exfalso; omega))))))) <;> (try omega)
  all_goals exact rfl
 by_cases h47 : op = 47
 ·subst h47
  simp only [reduceIte, Int.reduceEq, or_false, false_or, or_true, true_or, or_self, if_true, if_false]
  refine go_fn (tyOf_ok _) Try.func64 rfl rfl (by rw [Try.results64]) Try.ntmps64 rfl fun E => ?_
  (repeat' (first | exact trivial | (with_reducible first | apply awA | apply awB | apply awC | apply awD | apply awE | apply awF | apply awG | apply awH | apply awJ | apply awK | refine awM (by decide) ?_) | (refine aw_draw (id := 37) (t := (.node [0, 1, 2, 3, 4, 5, 6, 7] [])) (drR [3] [] []) mixed (by kernel_rfl) (by kernel_rfl) (fun _ _ h => h) ?_) | (refine at_done (by simp only [go_sem]; exact rfl) ?_) | (refine at_alt (by simp only [go_sem]; exact rfl) ?_) | refine qalt_normal ?_ | refine ats_cons ?_ ?_ | exact ats_nil | ((with_reducible first | apply awn | apply awp | refine awQ ?_ | refine awR ?_); intro r hr; simp only [go_sem, Nat.reduceBEq, Nat.reduceBneDiff, Nat.reduceLT, Nat.reduceLeDiff, Nat.reduceAdd, Nat.reduceMul, Nat.reduceSub, Nat.reduceEqDiff, reduceCtorEq, Int.cast_ofNat_Int, Int.reduceToNat, Int.reduceEq, Int.reduceLT, Int.reduceLE, Int.reduceNe] at hr; subst hr; (first | refine awV ?_ ?_ | refine endK ?_ ?_ | (refine condK (fun h => ?_) (fun h => ?_) <;> (try simp only [go_sem, reduceCtorEq] at h) <;> (try (exfalso; omega))))))) <;> (try omega)
  all_goals exact rfl
 by_cases h19 : op = 19
 ·subst h19
  simp only [reduceIte, Int.reduceEq, or_false, false_or, or_true, true_or, or_self, if_true, if_false]
  have b1 := both_any s
  refine go_fn (tyOf_ok _) Try.func64 rfl rfl (by rw [Try.results64]) Try.ntmps64 rfl fun E => ?_
  (repeat' (first | exact trivial | (with_reducible first | apply awA | apply awB | apply awC | apply awD | apply awE | apply awF | apply awG | apply awH | apply awJ | apply awK | refine awM (by decide) ?_) | ((with_reducible first | apply awn | apply awo | refine awQ ?_ | refine awR ?_); intro r hr; simp only [go_sem, Nat.reduceBEq, Nat.reduceBneDiff, Nat.reduceLT, Nat.reduceLeDiff, Nat.reduceAdd, Nat.reduceMul, Nat.reduceSub, Nat.reduceEqDiff, reduceCtorEq, Int.cast_ofNat_Int, Int.reduceToNat, Int.reduceEq, Int.reduceLT, Int.reduceLE, Int.reduceNe] at hr; subst hr; (first | refine caC (b1) rfl ?_ ?_ ?_ | refine awV ?_ ?_ | refine endK ?_ ?_ | (refine condK (fun h => ?_) (fun h => ?_) <;> (try simp only [go_sem, reduceCtorEq] at h) <;> (try (exfalso; omega))))))) <;> (try omega)
  all_goals exact rfl
 by_cases h20 : op = 20
 ·subst h20
  simp only [reduceIte, Int.reduceEq, or_false, false_or, or_true, true_or, or_self, if_true, if_false]
  have h1 := over_any s
  by_cases h6 : s.place = 6
  ·have e6 : (s.place = 6) = True := eq_true h6
   rw [decide_eq_true h6, Bool.true_and]
   refine go_fn (tyOf_ok _) Try.func64 rfl rfl (by rw [Try.results64]) Try.ntmps64 rfl fun E => ?_
   (repeat' (first | exact trivial | (with_reducible first | apply awA | apply awB | apply awC | apply awD | apply awE | apply awF | apply awG | apply awH | apply awJ | apply awK | refine awM (by decide) ?_) | ((with_reducible first | apply awn | apply awo | refine awQ ?_ | refine awR ?_); intro r hr; simp only [go_sem, Nat.reduceBEq, Nat.reduceBneDiff, Nat.reduceLT, Nat.reduceLeDiff, Nat.reduceAdd, Nat.reduceMul, Nat.reduceSub, Nat.reduceEqDiff, reduceCtorEq, e6, Int.cast_ofNat_Int, Int.reduceToNat, Int.reduceEq, Int.reduceLT, Int.reduceLE, Int.reduceNe] at hr; subst hr; (first | refine caA (fun _ => over_any s) rfl ?_ ?_ ?_ | refine awV ?_ ?_ | refine endK ?_ ?_ | (refine condK (fun h => ?_) (fun h => ?_) <;> (try simp only [go_sem, reduceCtorEq] at h) <;> (try (exfalso; omega))))))) <;> (try omega)
   all_goals exact rfl
  ·have e6 : (s.place = 6) = False := eq_false h6
   rw [decide_eq_false h6, Bool.false_and]
   refine go_fn (tyOf_ok _) Try.func64 rfl rfl (by rw [Try.results64]) Try.ntmps64 rfl fun E => ?_
   (repeat' (first | exact trivial | (with_reducible first | apply awA | apply awB | apply awC | apply awD | apply awE | apply awF | apply awG | apply awH | apply awJ | apply awK | refine awM (by decide) ?_) | ((with_reducible first | apply awn | apply awo | refine awQ ?_ | refine awR ?_); intro r hr; simp only [go_sem, Nat.reduceBEq, Nat.reduceBneDiff, Nat.reduceLT, Nat.reduceLeDiff, Nat.reduceAdd, Nat.reduceMul, Nat.reduceSub, Nat.reduceEqDiff, reduceCtorEq, e6, Int.cast_ofNat_Int, Int.reduceToNat, Int.reduceEq, Int.reduceLT, Int.reduceLE, Int.reduceNe] at hr; subst hr; (first | refine awV ?_ ?_ | refine awW ?_ ?_ | refine endK ?_ ?_ | (refine condK (fun h => ?_) (fun h => ?_) <;> (try simp only [go_sem, reduceCtorEq] at h) <;> (try (exfalso; omega))))) | (refine al_skipC (vB true) rfl rfl ⟨by decide, by decide⟩ ?_))) <;> (try omega)
   all_goals exact rfl
 have e44 : (op = 44) = False := eq_false h44
 have e45 : (op = 45) = False := eq_false h45
 have e46 : (op = 46) = False := eq_false h46
 have e33 : (op = 33) = False := eq_false h33
 have e35 : (op = 35) = False := eq_false h35
 have e36 : (op = 36) = False := eq_false h36
 have e34 : (op = 34) = False := eq_false h34
 have e37 : (op = 37) = False := eq_false h37
 have e38 : (op = 38) = False := eq_false h38
 have e39 : (op = 39) = False := eq_false h39
 have e40 : (op = 40) = False := eq_false h40
 have e41 : (op = 41) = False := eq_false h41
 have e42 : (op = 42) = False := eq_false h42
 have e43 : (op = 43) = False := eq_false h43
 have e47 : (op = 47) = False := eq_false h47
 have e19 : (op = 19) = False := eq_false h19
 have e20 : (op = 20) = False := eq_false h20
 simp only [e44, e45, e46, e33, e35, e36, e34, e37, e38, e39, e40, e41, e42, e43, e47, e19, e20, or_self, if_false]
 refine go_fn (tyOf_ok _) Try.func64 rfl rfl (by rw [Try.results64]) Try.ntmps64 rfl fun E => ?_
 (repeat' (first | exact trivial | (with_reducible first | apply awA | apply awB | apply awC | apply awD | apply awE | apply awF | apply awH | apply awK | refine awM (by decide) ?_) | ((with_reducible first | apply awn | refine awQ ?_ | refine awR ?_); intro r hr; simp only [go_sem, Nat.reduceBEq, Nat.reduceBneDiff, Nat.reduceLT, Nat.reduceLeDiff, Nat.reduceAdd, Nat.reduceMul, Nat.reduceSub, Nat.reduceEqDiff, reduceCtorEq, e44, e45, e46, e33, e35, e36, e34, e37, e38, e39, e40, e41, e42, e43, e47, e19, e20, Int.cast_ofNat_Int, Int.reduceToNat, Int.reduceEq, Int.reduceLT, Int.reduceLE, Int.reduceNe] at hr; subst hr; (first | refine awV ?_ ?_ | refine endK ?_ ?_ | (refine condK (fun h => ?_) (fun h => ?_) <;> (try simp only [go_sem, reduceCtorEq] at h) <;> (try (exfalso; omega))))))) <;> (try omega)
 all_goals exact rfl
end Go.Proofs.Ytjeplogcfedmeaa
end
section
namespace Go.Proofs.Ytjeplogcfedmeaa
open Go.RowKit
set_option maxRecDepth 100000
set_option maxHeartbeats 8000000
theorem insAt_get {C : List InsM} {k : Nat} (h : k < C.length) : (encIs C)[k]? = some (cIns (insAt C k)) := by
 rw [encIs_get h]; simp [insAt, List.getD, h]
def wayArm (C : List InsM) (k i : Nat) : Int := ((C[k + 1 + i]?).map (·.b)).getD 0
def wayRow (C : List InsM) (k n i : Nat) : List Int := (List.range i).map (wayArm C k) ++ List.replicate (n - i) 0
theorem wayRow_len {C : List InsM} {k n i : Nat} (h : i ≤ n) : (wayRow C k n i).length = n := by simp [wayRow]; omega
theorem wayRow_set {C : List InsM} {k n i : Nat} (h : i < n) : (wayRow C k n i).set i (wayArm C k i) = wayRow C k n (i + 1) := by
 unfold wayRow
 obtain ⟨m, hm⟩ : ∃ m, n - i = m + 1 := ⟨n - i - 1, by omega⟩
 rw [hm, List.set_append_right _ _ (by simp), List.length_map, List.length_range, Nat.sub_self, List.replicate_succ, List.set_cons_zero, List.range_succ, List.map_append, List.append_assoc, show n - (i + 1) = m by omega]
 rfl
theorem ways_any (e : Bool) (C : List InsM) (N : List Int) (hC : C.length ≤ 10000000) (k : Nat) (hk : k < C.length) (hw : (insAt C k).op = 8 ∨ (insAt C k).op = 41 → 0 ≤ (insAt C k).a ∧ k + (insAt C k).a < C.length) :
  PCall Try.prog 49 [pG e C N, vI k] (fun r => r = .lst 1 (v8 (waysF C k (insAt C k)))) := by
 have zk : ((k : Int)).toNat = k := by omega
 have gk := insAt_get hk
 have hwk := wrap_i64 (n := (k : Int) + 1) (by omega)
 unfold pG waysF
 generalize insAt C k = x at *
 obtain ⟨op, a, b, c⟩ := x
 dsimp only at hw ⊢
 by_cases h19 : op = 19
 ·subst h19
  simp only [if_true]
  refine go_fnU (tyOf_ok _) Try.func49 rfl rfl (by rw [Try.results49]) Try.ntmps49 rfl fun E => ?_
  (repeat' (first | exact trivial | (with_reducible first | apply awA | apply awB | apply awD | apply awF | apply awG | apply awJ) | ((with_reducible first | apply awn | refine awQ ?_ | refine awR ?_); intro r hr; simp only [go_sem, Nat.reduceBEq, Nat.reduceBneDiff, Nat.reduceLT, Nat.reduceLeDiff, Nat.reduceAdd, Nat.reduceMul, Nat.reduceSub, Nat.reduceEqDiff, reduceCtorEq, zk, gk, encIs_len, Int.cast_ofNat_Int, Int.reduceToNat, Int.reduceEq, Int.reduceLT, Int.reduceLE, Int.reduceNe] at hr; subst hr; (first | refine awV ?_ ?_ | refine endK ?_ ?_ | (refine condK (fun h => ?_) (fun h => ?_) <;> (try simp only [go_sem, reduceCtorEq] at h) <;> (try (exfalso; omega))))))) <;> (try omega)
  all_goals first | exact rfl | exact AV.up_rfl _ | exact AV.up_nil _ | (exact Nat.le_of_ble_eq_true rfl) | skip
 by_cases h20 : op = 20
 ·subst h20
  simp only [reduceIte, Int.reduceEq, true_or]
  refine go_fnU (tyOf_ok _) Try.func49 rfl rfl (by rw [Try.results49]) Try.ntmps49 rfl fun E => ?_
  (repeat' (first | exact trivial | (with_reducible first | apply awA | apply awB | apply awC | apply awD | apply awF | apply awG | apply awJ) | ((with_reducible first | apply awn | refine awQ ?_ | refine awR ?_); intro r hr; simp only [go_sem, Nat.reduceBEq, Nat.reduceBneDiff, Nat.reduceLT, Nat.reduceLeDiff, Nat.reduceAdd, Nat.reduceMul, Nat.reduceSub, Nat.reduceEqDiff, reduceCtorEq, zk, gk, encIs_len, Int.cast_ofNat_Int, Int.reduceToNat, Int.reduceEq, Int.reduceLT, Int.reduceLE, Int.reduceNe] at hr; subst hr; (first | refine awV ?_ ?_ | refine endK ?_ ?_ | (refine condK (fun h => ?_) (fun h => ?_) <;> (try simp only [go_sem, reduceCtorEq] at h) <;> (try (exfalso; omega))))))) <;> (try omega)
  all_goals first | exact rfl | exact AV.up_rfl _ | exact AV.up_nil _ | (exact Nat.le_of_ble_eq_true rfl) | skip
 by_cases h9 : op = 9
 ·subst h9
  simp only [reduceIte, Int.reduceEq, or_true]
  refine go_fnU (tyOf_ok _) Try.func49 rfl rfl (by rw [Try.results49]) Try.ntmps49 rfl fun E => ?_
  (repeat' (first | exact trivial | (with_reducible first | apply awA | apply awB | apply awD | apply awF | apply awG | apply awJ) | ((with_reducible first | apply awn | refine awQ ?_ | refine awR ?_); intro r hr; simp only [go_sem, Nat.reduceBEq, Nat.reduceBneDiff, Nat.reduceLT, Nat.reduceLeDiff, Nat.reduceAdd, Nat.reduceMul, Nat.reduceSub, Nat.reduceEqDiff, reduceCtorEq, zk, gk, encIs_len, Int.cast_ofNat_Int, Int.reduceToNat, Int.reduceEq, Int.reduceLT, Int.reduceLE, Int.reduceNe] at hr; subst hr; (first | refine awV ?_ ?_ | refine endK ?_ ?_ | (refine condK (fun h => ?_) (fun h => ?_) <;> (try simp only [go_sem, reduceCtorEq] at h) <;> (try (exfalso; omega))))))) <;> (try omega)
  all_goals first | exact rfl | exact AV.up_rfl _ | exact AV.up_nil _ | (exact Nat.le_of_ble_eq_true rfl) | skip
 have f19 : (op = 19) = False := eq_false h19
 have f20 : (op = 20) = False := eq_false h20
 have f9 : (op = 9) = False := eq_false h9
 simp only [f19, f20, f9, or_self, if_false]
 by_cases h8 : op = 8 ∨ op = 41
 ·rw [if_pos h8]
  obtain ⟨ha, hal⟩ := hw h8
  obtain ⟨n, rfl⟩ : ∃ n : Nat, a = n := ⟨a.toNat, by omega⟩
  rw [Int.toNat_natCast]
  have hrow : (List.replicate n [vI 0] : List (List AV)) = v8 (wayRow C k n 0) := by simp [wayRow, v8]
  have hfin : v8 (wayRow C k n n) = v8 ((List.range n).map fun i => ((C[k + 1 + i]?).map (·.b)).getD 0) := by simp [wayRow, wayArm]; rfl
  rw [← hfin]
  have f8 : op = 8 ∨ ((op = 8) = False ∧ op = 41) := by rcases h8 with h | h; (· exact .inl h); exact .inr ⟨eq_false (by omega), h⟩
  refine go_fnU (tyOf_ok _) Try.func49 rfl rfl (by rw [Try.results49]) Try.ntmps49 rfl fun E => ?_
  rcases f8 with rfl | ⟨g8, rfl⟩
  ·have f8 : True := trivial
   have f41 : True := trivial
   (repeat' (first | exact trivial | (with_reducible first | apply awA | apply awB | apply awC | apply awF) | ((with_reducible first | apply awn | refine awQ ?_); intro r hr; simp only [go_sem, Nat.reduceBEq, Nat.reduceBneDiff, Nat.reduceLT, Nat.reduceLeDiff, Nat.reduceAdd, Nat.reduceMul, Nat.reduceSub, Nat.reduceEqDiff, reduceCtorEq, f19, f20, f9, f8, f41, zk, gk, encIs_len, hrow, Int.cast_ofNat_Int, Int.reduceToNat, Int.reduceEq, Int.reduceLT, Int.reduceLE, Int.reduceNe] at hr; subst hr; (first | refine awV ?_ ?_ | (refine condK (fun h => ?_) (fun h => ?_) <;> (try simp only [go_sem, reduceCtorEq] at h) <;> (try (exfalso; omega))))))) <;> (try omega)
   refine go_loop [1, 2, 5, 6, 30, 31] [2, 5, 28] (fun i : Nat => ⟨[(1, true, vI k), (2, true, .ptr 1 2 0 0), (5, true, .ptr 1 5 0 0), (6, true, .ref 3 1 28 0 n), (30, true, vI n), (31, true, vI i)],
    [(2, .var [vB e, .lst 4 (encIs C), .lst 1 (v8 N)]), (5, .var (cIns ⟨8, n, b, c⟩)), (28, .row 3 1 (v8 (wayRow C k n i)))]⟩) (fun i => i ≤ n) (fun i => n - i) 0 (by simp only [hrow, go_sem, Nat.reduceBEq, Nat.reduceBneDiff, Nat.reduceLT, Nat.reduceLeDiff, Nat.reduceAdd, Nat.reduceMul, Nat.reduceSub, Nat.reduceEqDiff, reduceCtorEq] <;> exact rfl) (Nat.zero_le _) ?_
   intro i hi
   have hwi := wrap_i64 (n := (i : Int) + 1) (by omega)
   have hwa := wrap_i64 (n := (k : Int) + 1 + i) (by omega)
   have zi : ((i : Int)).toNat = i := by omega
   by_cases hlt : i < n
   ·have e1 : ((i : Int) < (n : Int)) = True := eq_true (by omega)
    have z2 : ((k : Int) + 1 + i).toNat = k + 1 + i := by omega
    have g2 := insAt_get (C := C) (k := k + 1 + i) (by omega)
    have hb : (insAt C (k + 1 + i)).b = wayArm C k i := by
     have : k + 1 + i < C.length := by omega
     simp [insAt, wayArm, List.getD, this]
    have hs := v8_setW (wayRow C k n i) i (wayArm C k i)
    rw [wayRow_set hlt] at hs
    have hl := wayRow_len (C := C) (k := k) (show i ≤ n by omega)
    have gi := v8_getD (W := wayRow C k n i) (i := i) (by omega)
    (repeat' (first | exact trivial | (with_reducible first | apply awA | apply awB | apply awC | apply awF | apply awI) | ((with_reducible first | apply awn | refine awQ ?_); intro r hr; simp only [go_sem, Nat.reduceBEq, Nat.reduceBneDiff, Nat.reduceLT, Nat.reduceLeDiff, Nat.reduceAdd, Nat.reduceMul, Nat.reduceSub, Nat.reduceEqDiff, reduceCtorEq, e1, zi, hwi, hwa, hwk, z2, g2, gi, hb, hs, hl, setXs, v8_len, encIs_len, Nat.zero_add, Int.cast_ofNat_Int, Int.reduceToNat, Int.reduceEq, Int.reduceLT, Int.reduceLE, Int.reduceNe] at hr; subst hr; (first | refine awV ?_ ?_ | (refine condK (fun h => ?_) (fun h => ?_) <;> (try simp only [go_sem, reduceCtorEq] at h) <;> (try (exfalso; omega))))))) <;> (try omega)
    all_goals first | exact ⟨i + 1, by simp only [hwi, go_sem, Nat.reduceBEq, Nat.reduceBneDiff, Nat.reduceLT, Nat.reduceLeDiff, Nat.reduceAdd, Nat.reduceMul, Nat.reduceSub, Nat.reduceEqDiff, reduceCtorEq] <;> exact rfl, hlt, by omega⟩ | skip
   ·have e1 : ((i : Int) < (n : Int)) = False := eq_false (by omega)
    obtain rfl : i = n := by omega
    have hl := wayRow_len (C := C) (k := k) (Nat.le_refl i)
    have ht : (v8 (wayRow C k i i)).take i = v8 (wayRow C k i i) := by rw [v8_take, List.take_of_length_le (by omega)]
    (repeat' (first | exact trivial | (with_reducible first | apply awA | apply awD | apply awE | apply awF | apply awG | apply awH | apply awJ | apply awK) | ((with_reducible first | apply awn | refine awQ ?_ | refine awR ?_); intro r hr; simp only [go_sem, Nat.reduceBEq, Nat.reduceBneDiff, Nat.reduceLT, Nat.reduceLeDiff, Nat.reduceAdd, Nat.reduceMul, Nat.reduceSub, Nat.reduceEqDiff, reduceCtorEq, e1, hl, ht, v8_len, Nat.zero_add, List.drop_zero] at hr; subst hr; (first | refine awV ?_ ?_ | refine endK ?_ ?_ | (refine condK (fun h => ?_) (fun h => ?_) <;> (try simp only [go_sem, reduceCtorEq] at h) <;> (try (exfalso; omega))))))) <;> (try omega)
    all_goals first | exact rfl | exact AV.up_rfl _ | skip
  ·have f8 : True := trivial
   have f41 : True := trivial
   (repeat' (first | exact trivial | (with_reducible first | apply awA | apply awB | apply awF) | ((with_reducible first | apply awn | refine awQ ?_); intro r hr; simp only [go_sem, Nat.reduceBEq, Nat.reduceBneDiff, Nat.reduceLT, Nat.reduceLeDiff, Nat.reduceAdd, Nat.reduceMul, Nat.reduceSub, Nat.reduceEqDiff, reduceCtorEq, f19, f20, f9, f8, f41, zk, gk, encIs_len, hrow, Int.cast_ofNat_Int, Int.reduceToNat, Int.reduceEq, Int.reduceLT, Int.reduceLE, Int.reduceNe] at hr; subst hr; (first | refine awV ?_ ?_ | (refine condK (fun h => ?_) (fun h => ?_) <;> (try simp only [go_sem, reduceCtorEq] at h) <;> (try (exfalso; omega))))))) <;> (try omega)
   refine go_loop [1, 2, 5, 6, 30, 31] [2, 5, 28] (fun i : Nat => ⟨[(1, true, vI k), (2, true, .ptr 1 2 0 0), (5, true, .ptr 1 5 0 0), (6, true, .ref 3 1 28 0 n), (30, true, vI n), (31, true, vI i)],
    [(2, .var [vB e, .lst 4 (encIs C), .lst 1 (v8 N)]), (5, .var (cIns ⟨41, n, b, c⟩)), (28, .row 3 1 (v8 (wayRow C k n i)))]⟩) (fun i => i ≤ n) (fun i => n - i) 0 (by simp only [hrow, go_sem, Nat.reduceBEq, Nat.reduceBneDiff, Nat.reduceLT, Nat.reduceLeDiff, Nat.reduceAdd, Nat.reduceMul, Nat.reduceSub, Nat.reduceEqDiff, reduceCtorEq] <;> exact rfl) (Nat.zero_le _) ?_
   intro i hi
   have hwi := wrap_i64 (n := (i : Int) + 1) (by omega)
   have hwa := wrap_i64 (n := (k : Int) + 1 + i) (by omega)
   have zi : ((i : Int)).toNat = i := by omega
   by_cases hlt : i < n
   ·have e1 : ((i : Int) < (n : Int)) = True := eq_true (by omega)
    have z2 : ((k : Int) + 1 + i).toNat = k + 1 + i := by omega
    have g2 := insAt_get (C := C) (k := k + 1 + i) (by omega)
    have hb : (insAt C (k + 1 + i)).b = wayArm C k i := by
     have : k + 1 + i < C.length := by omega
     simp [insAt, wayArm, List.getD, this]
    have hs := v8_setW (wayRow C k n i) i (wayArm C k i)
    rw [wayRow_set hlt] at hs
    have hl := wayRow_len (C := C) (k := k) (show i ≤ n by omega)
    have gi := v8_getD (W := wayRow C k n i) (i := i) (by omega)
    (repeat' (first | exact trivial | (with_reducible first | apply awA | apply awB | apply awC | apply awF | apply awI) | ((with_reducible first | apply awn | refine awQ ?_); intro r hr; simp only [go_sem, Nat.reduceBEq, Nat.reduceBneDiff, Nat.reduceLT, Nat.reduceLeDiff, Nat.reduceAdd, Nat.reduceMul, Nat.reduceSub, Nat.reduceEqDiff, reduceCtorEq, e1, zi, hwi, hwa, hwk, z2, g2, gi, hb, hs, hl, setXs, v8_len, encIs_len, Nat.zero_add, Int.cast_ofNat_Int, Int.reduceToNat, Int.reduceEq, Int.reduceLT, Int.reduceLE, Int.reduceNe] at hr; subst hr; (first | refine awV ?_ ?_ | (refine condK (fun h => ?_) (fun h => ?_) <;> (try simp only [go_sem, reduceCtorEq] at h) <;> (try (exfalso; omega))))))) <;> (try omega)
    all_goals first | exact ⟨i + 1, by simp only [hwi, go_sem, Nat.reduceBEq, Nat.reduceBneDiff, Nat.reduceLT, Nat.reduceLeDiff, Nat.reduceAdd, Nat.reduceMul, Nat.reduceSub, Nat.reduceEqDiff, reduceCtorEq] <;> exact rfl, hlt, by omega⟩ | skip
   ·have e1 : ((i : Int) < (n : Int)) = False := eq_false (by omega)
    obtain rfl : i = n := by omega
    have hl := wayRow_len (C := C) (k := k) (Nat.le_refl i)
    have ht : (v8 (wayRow C k i i)).take i = v8 (wayRow C k i i) := by rw [v8_take, List.take_of_length_le (by omega)]
    (repeat' (first | exact trivial | (with_reducible first | apply awA | apply awD | apply awE | apply awF | apply awG | apply awH | apply awJ | apply awK) | ((with_reducible first | apply awn | refine awQ ?_ | refine awR ?_); intro r hr; simp only [go_sem, Nat.reduceBEq, Nat.reduceBneDiff, Nat.reduceLT, Nat.reduceLeDiff, Nat.reduceAdd, Nat.reduceMul, Nat.reduceSub, Nat.reduceEqDiff, reduceCtorEq, e1, hl, ht, v8_len, Nat.zero_add, List.drop_zero] at hr; subst hr; (first | refine awV ?_ ?_ | refine endK ?_ ?_ | (refine condK (fun h => ?_) (fun h => ?_) <;> (try simp only [go_sem, reduceCtorEq] at h) <;> (try (exfalso; omega))))))) <;> (try omega)
    all_goals first | exact rfl | exact AV.up_rfl _ | skip
 ·rw [if_neg h8]
  have f8 : (op = 8) = False := eq_false fun h => h8 (.inl h)
  have f41 : (op = 41) = False := eq_false fun h => h8 (.inr h)
  by_cases h7 : op = 7 ∨ op = 11 ∨ op = 12 ∨ op = 13 ∨ op = 14 ∨ op = 15 ∨ op = 40 ∨ op = 47
  ·rw [if_pos h7]
   rcases h7 with rfl | rfl | rfl | rfl | rfl | rfl | rfl | rfl
   all_goals
    refine go_fnU (tyOf_ok _) Try.func49 rfl rfl (by rw [Try.results49]) Try.ntmps49 rfl fun E => ?_
    (repeat' (first | exact trivial | (with_reducible first | apply awA | apply awB | apply awC | apply awD | apply awF | apply awG | apply awJ) | ((with_reducible first | apply awn | refine awQ ?_ | refine awR ?_); intro r hr; simp only [go_sem, Nat.reduceBEq, Nat.reduceBneDiff, Nat.reduceLT, Nat.reduceLeDiff, Nat.reduceAdd, Nat.reduceMul, Nat.reduceSub, Nat.reduceEqDiff, reduceCtorEq, hwk, zk, gk, encIs_len, Int.cast_ofNat_Int, Int.reduceToNat, Int.reduceEq, Int.reduceLT, Int.reduceLE, Int.reduceNe] at hr; subst hr; (first | refine awV ?_ ?_ | refine endK ?_ ?_ | (refine condK (fun h => ?_) (fun h => ?_) <;> (try simp only [go_sem, reduceCtorEq] at h) <;> (try (exfalso; omega))))))) <;> (try omega)
    all_goals first | exact rfl | exact AV.up_rfl _ | exact AV.up_nil _ | (exact Nat.le_of_ble_eq_true rfl) | skip
  ·rw [if_neg h7]
   have g1 : (op = 7) = False := eq_false (by omega)
   have g2 : (op = 11) = False := eq_false (by omega)
   have g3 : (op = 12) = False := eq_false (by omega)
   have g4 : (op = 13) = False := eq_false (by omega)
   have g5 : (op = 14) = False := eq_false (by omega)
   have g6 : (op = 15) = False := eq_false (by omega)
   have g7 : (op = 40) = False := eq_false (by omega)
   have g8 : (op = 47) = False := eq_false (by omega)
   refine go_fnU (tyOf_ok _) Try.func49 rfl rfl (by rw [Try.results49]) Try.ntmps49 rfl fun E => ?_
   (repeat' (first | exact trivial | (with_reducible first | apply awA | apply awB | apply awC | apply awD | apply awF | apply awI) | ((with_reducible first | apply awn | refine awQ ?_ | refine awR ?_); intro r hr; simp only [go_sem, Nat.reduceBEq, Nat.reduceBneDiff, Nat.reduceLT, Nat.reduceLeDiff, Nat.reduceAdd, Nat.reduceMul, Nat.reduceSub, Nat.reduceEqDiff, reduceCtorEq, f19, f20, f9, f8, f41, g1, g2, g3, g4, g5, g6, g7, g8, hwk, zk, gk, encIs_len, Int.cast_ofNat_Int, Int.reduceToNat, Int.reduceEq, Int.reduceLT, Int.reduceLE, Int.reduceNe] at hr; subst hr; (first | refine awV ?_ ?_ | refine endK ?_ ?_ | (refine condK (fun h => ?_) (fun h => ?_) <;> (try simp only [go_sem, reduceCtorEq] at h) <;> (try (exfalso; omega))))))) <;> (try omega)
   all_goals first | exact rfl | exact AV.up_rfl _ | exact AV.up_nil _ | (exact Nat.le_of_ble_eq_true rfl) | skip
end Go.Proofs.Ytjeplogcfedmeaa
end
section
namespace Go.Proofs.Ytjeplogcfedmeaa
open Go.RowKit
set_option maxRecDepth 100000
set_option maxHeartbeats 8000000
theorem AV.up_dead (a : AV) : a.up .dead := fun _ _ _ _ _ => .dead
theorem hdown_G (e : Bool) (C : List InsM) (N : List Int) (L : LkM) (W : List Int) (hW : W.length ≤ 1000000000) (n : Nat) (hn : n ≤ W.length) :
  GCall Try.prog 52 [.ifc 72 (.ptr 1 10000 0 5), vI 0, vI n] (lkO e C N L W) .dead (lkO e C N L (downF W.length W n 0)) := by
 have hlen : (downF W.length W n 0).length = W.length := downF_len _ _ _ _ hn
 have hf0 : n ≤ 0 + W.length := by omega
 generalize hR : downF W.length W n 0 = R at hlen
 generalize hf : W.length = f0 at hR hf0
 unfold lkO lkV
 rw [hlen]
 refine go_fnG (tyOf_ok _) Try.func52 rfl rfl (by rw [Try.results52]) Try.ntmps52 rfl fun E => ?_
 (repeat' (first | exact trivial | (with_reducible first | apply awA | apply awB | apply awF) | ((with_reducible apply awn); intro r hr; simp only [go_sem, Nat.reduceBEq, Nat.reduceBneDiff, Nat.reduceLT, Nat.reduceLeDiff, Nat.reduceAdd, Nat.reduceMul, Nat.reduceSub, Nat.reduceEqDiff, reduceCtorEq] at hr; subst hr; (first | refine awV ?_ ?_)))) <;> (try omega)
 refine go_loop [0, 1, 2, 7] [10000, 15000, 15001, 15002] (fun x : Nat × Nat × List Int => ⟨[(0, true, .ifc 72 (.ptr 1 10000 0 5)), (1, true, vI 0), (2, true, vI n), (7, true, vI x.2.1)],
  [(10000, .var [vB e, .lst 4 (encIs C), .lst 1 (v8 N), .ref 62 6 15000 0 L.length, .ref 4 1 15001 0 L.length, .ref 3 1 15002 0 W.length]), (15000, .row 62 6 (encSts L)), (15001, .row 4 1 (encHas L)), (15002, .row 3 1 (v8 x.2.2))]⟩)
  (fun x => n ≤ x.2.1 + x.1 ∧ x.2.1 ≤ n ∧ x.2.2.length = W.length ∧ downF x.1 x.2.2 n x.2.1 = R) (fun x => n - x.2.1) (f0, 0, W) (by simp only [go_sem, Nat.reduceBEq, Nat.reduceBneDiff, Nat.reduceLT, Nat.reduceLeDiff, Nat.reduceAdd, Nat.reduceMul, Nat.reduceSub, Nat.reduceEqDiff, reduceCtorEq] <;> exact rfl) ⟨hf0, Nat.zero_le _, rfl, hR⟩ ?_
 clear hR hf hf0 f0
 intro ⟨f, i, W'⟩ ⟨h1, h2, h3, h4⟩
 simp only at h1 h2 h3 h4 ⊢
 have ht : (v8 W').take W.length = v8 W' := by rw [v8_take, List.take_of_length_le (by omega)]
 have hw1 := wrap_i64 (n := 2 * (i : Int)) (by omega)
 have hw2 := wrap_i64 (n := 2 * (i : Int) + 1) (by omega)
 have hw3 := wrap_i64 (n := 2 * (i : Int) + 1 + 1) (by omega)
 have c1 : (2 * (i : Int) + 1) = ((2 * i + 1 : Nat) : Int) := by omega
 have c2 : (((2 * i + 1 : Nat) : Int) + 1) = ((2 * i + 2 : Nat) : Int) := by omega
 rw [c1] at hw2 hw3
 rw [c2] at hw3
 have z1 : (((2 * i + 1 : Nat) : Int) < 0) = False := eq_false (by omega)
 by_cases hA : n ≤ 2 * i + 1
 ·have hl : W' = R := by
   rw [← h4]
   cases f with
   | zero => rfl
   | succ f => unfold downF; rw [if_pos (.inl hA)]
  subst hl
  have e1 : ((n : Int) ≤ ((2 * i + 1 : Nat) : Int)) = True := eq_true (by omega)
  (repeat' (first | exact trivial | (with_reducible first | apply awA | apply awB | apply awD | apply awE | apply awF | apply awH | apply awK | refine awM (by decide) ?_) | ((with_reducible first | apply awn | refine awQ ?_ | refine awT ?_); intro r hr; simp only [go_sem, Nat.reduceBEq, Nat.reduceBneDiff, Nat.reduceLT, Nat.reduceLeDiff, Nat.reduceAdd, Nat.reduceMul, Nat.reduceSub, Nat.reduceEqDiff, reduceCtorEq, hw1, hw2, c1, e1, z1, h3] at hr; subst hr; (first | refine awV ?_ ?_ | refine endGK ?_ ?_ ?_ | (refine condK (fun h => ?_) (fun h => ?_) <;> (try simp only [go_sem, reduceCtorEq] at h) <;> (try (exfalso; omega))))))) <;> (try omega)
  all_goals first | exact AV.up_rfl _ | exact AV.up_dead _ | (repeat first | exact obUp_nil | refine obUp_cons rfl ?_)
 ·have e1 : ((n : Int) ≤ ((2 * i + 1 : Nat) : Int)) = False := eq_false (by omega)
  obtain ⟨f, rfl⟩ : ∃ f', f = f' + 1 := ⟨f - 1, by omega⟩
  unfold downF at h4
  have hk := kidF_lt (l := W') (n := n) (i := i) (by omega)
  by_cases hB : 2 * i + 2 < n
  ·have e2 : (((2 * i + 2 : Nat) : Int) < (n : Int)) = True := eq_true (by omega)
   have hls0 := nless_G W' (by omega) (2 * i + 2) (2 * i + 1) (by omega) (by omega)
   by_cases hC : W'.getD (2 * i + 2) 0 < W'.getD (2 * i + 1) 0
   ·have hkid : kidF W' n i = 2 * i + 2 := by unfold kidF; rw [if_pos ⟨hB, hC⟩]
    rw [hkid] at hk
    rw [decide_eq_true hC] at hls0
    rw [hkid] at h4
    have hls := nless_G W' (by omega) (2 * i + 2) i (by omega) (by omega)
    by_cases hlt : W'.getD (2 * i + 2) 0 < W'.getD i 0
    ·rw [if_neg (by rintro (h | h) <;> omega)] at h4
     have hsw := nswap_G W' (by omega) W.length (by omega) i (2 * i + 2) (by omega) (by omega)
     rw [decide_eq_true hlt] at hls
     (repeat' (first | exact trivial | (with_reducible first | apply awA | apply awB | apply awC | apply awF | apply awI) | ((with_reducible first | apply awn | apply awo | refine awQ ?_); intro r hr; simp only [go_sem, Nat.reduceBEq, Nat.reduceBneDiff, Nat.reduceLT, Nat.reduceLeDiff, Nat.reduceAdd, Nat.reduceMul, Nat.reduceSub, Nat.reduceEqDiff, reduceCtorEq, hw1, hw2, hw3, c1, c2, e1, z1, e2, h3, ht, v8_len, Int.cast_ofNat_Int, Int.reduceToNat, Int.reduceEq, Int.reduceLT, Int.reduceLE, Int.reduceNe] at hr; subst hr; (first | refine awV ?_ ?_ | refine awW ?_ ?_ | (refine condK (fun h => ?_) (fun h => ?_) <;> (try simp only [go_sem, reduceCtorEq] at h) <;> (try (exfalso; omega))))) | (refine al_skipC (vB true) rfl rfl ⟨by decide, by decide⟩ ?_) | (refine go_callId 32 rfl (tyOf_ok _) [] [] [] [] (by simp only [go_sem, Nat.reduceBEq, Nat.reduceBneDiff, Nat.reduceLT, Nat.reduceLeDiff, Nat.reduceAdd, Nat.reduceMul, Nat.reduceSub, Nat.reduceEqDiff, reduceCtorEq, hw1, hw2, hw3, c1, c2, e1, z1, e2, h3, ht, v8_len, Int.cast_ofNat_Int, Int.reduceToNat, Int.reduceEq, Int.reduceLT, Int.reduceLE, Int.reduceNe] <;> exact rfl) ?_ rfl rfl (by first | exact .inl rfl | exact .inr rfl) (by simp only [go_sem, Nat.reduceBEq, Nat.reduceBneDiff, Nat.reduceLT, Nat.reduceLeDiff, Nat.reduceAdd, Nat.reduceMul, Nat.reduceSub, Nat.reduceEqDiff, reduceCtorEq, hw1, hw2, hw3, c1, c2, e1, z1, e2, h3, ht, v8_len, Int.cast_ofNat_Int, Int.reduceToNat, Int.reduceEq, Int.reduceLT, Int.reduceLE, Int.reduceNe] <;> exact rfl) (hls0) (.inr ⟨rfl, ?_⟩) ?_) | (refine go_callId 38 rfl (tyOf_ok _) [] [] [] [] (by simp only [go_sem, Nat.reduceBEq, Nat.reduceBneDiff, Nat.reduceLT, Nat.reduceLeDiff, Nat.reduceAdd, Nat.reduceMul, Nat.reduceSub, Nat.reduceEqDiff, reduceCtorEq, hw1, hw2, hw3, c1, c2, e1, z1, e2, h3, ht, v8_len, Int.cast_ofNat_Int, Int.reduceToNat, Int.reduceEq, Int.reduceLT, Int.reduceLE, Int.reduceNe] <;> exact rfl) ?_ rfl rfl (by first | exact .inl rfl | exact .inr rfl) (by simp only [go_sem, Nat.reduceBEq, Nat.reduceBneDiff, Nat.reduceLT, Nat.reduceLeDiff, Nat.reduceAdd, Nat.reduceMul, Nat.reduceSub, Nat.reduceEqDiff, reduceCtorEq, hw1, hw2, hw3, c1, c2, e1, z1, e2, h3, ht, v8_len, Int.cast_ofNat_Int, Int.reduceToNat, Int.reduceEq, Int.reduceLT, Int.reduceLE, Int.reduceNe] <;> exact rfl) (hls) (.inr ⟨rfl, ?_⟩) ?_) | (refine go_callI (tyOf_ok _) [(15002, 10001)] [(10001, 15002)] [] [15002] (by simp only [go_sem, Nat.reduceBEq, Nat.reduceBneDiff, Nat.reduceLT, Nat.reduceLeDiff, Nat.reduceAdd, Nat.reduceMul, Nat.reduceSub, Nat.reduceEqDiff, reduceCtorEq, hw1, hw2, hw3, c1, c2, e1, z1, e2, h3, ht, v8_len, Int.cast_ofNat_Int, Int.reduceToNat, Int.reduceEq, Int.reduceLT, Int.reduceLE, Int.reduceNe] <;> exact rfl) ?_ rfl rfl (by first | exact .inl rfl | exact .inr rfl) (by simp only [go_sem, Nat.reduceBEq, Nat.reduceBneDiff, Nat.reduceLT, Nat.reduceLeDiff, Nat.reduceAdd, Nat.reduceMul, Nat.reduceSub, Nat.reduceEqDiff, reduceCtorEq, hw1, hw2, hw3, c1, c2, e1, z1, e2, h3, ht, v8_len, Int.cast_ofNat_Int, Int.reduceToNat, Int.reduceEq, Int.reduceLT, Int.reduceLE, Int.reduceNe] <;> exact rfl) (hsw) (.inl rfl) ?_))) <;> (try omega)
     refine ⟨(f, (2 * i + 2), swapL W' i (2 * i + 2)), ?_, ⟨by show n ≤ (2 * i + 2) + f; omega, by show (2 * i + 2) ≤ n; omega, by show (swapL W' i (2 * i + 2)).length = _; rw [swapL_len]; exact h3, h4⟩, by show n - (2 * i + 2) < n - i; omega⟩
     simp only [go_sem, Nat.reduceBEq, Nat.reduceBneDiff, Nat.reduceLT, Nat.reduceLeDiff, Nat.reduceAdd, Nat.reduceMul, Nat.reduceSub, Nat.reduceEqDiff, reduceCtorEq]
    ·rw [if_pos (.inr hlt)] at h4
     subst h4
     rw [decide_eq_false hlt] at hls
     (repeat' (first | exact trivial | (with_reducible first | apply awA | apply awB | apply awC | apply awD | apply awE | apply awF | apply awH | apply awK | refine awM (by decide) ?_) | ((with_reducible first | apply awn | apply awo | refine awQ ?_ | refine awT ?_); intro r hr; simp only [go_sem, Nat.reduceBEq, Nat.reduceBneDiff, Nat.reduceLT, Nat.reduceLeDiff, Nat.reduceAdd, Nat.reduceMul, Nat.reduceSub, Nat.reduceEqDiff, reduceCtorEq, hw1, hw2, hw3, c1, c2, e1, z1, e2, h3, ht, v8_len, Int.cast_ofNat_Int, Int.reduceToNat, Int.reduceEq, Int.reduceLT, Int.reduceLE, Int.reduceNe] at hr; subst hr; (first | refine awV ?_ ?_ | refine awW ?_ ?_ | refine endGK ?_ ?_ ?_ | (refine condK (fun h => ?_) (fun h => ?_) <;> (try simp only [go_sem, reduceCtorEq] at h) <;> (try (exfalso; omega))))) | (refine al_skipC (vB true) rfl rfl ⟨by decide, by decide⟩ ?_) | (refine go_callId 32 rfl (tyOf_ok _) [] [] [] [] (by simp only [go_sem, Nat.reduceBEq, Nat.reduceBneDiff, Nat.reduceLT, Nat.reduceLeDiff, Nat.reduceAdd, Nat.reduceMul, Nat.reduceSub, Nat.reduceEqDiff, reduceCtorEq, hw1, hw2, hw3, c1, c2, e1, z1, e2, h3, ht, v8_len, Int.cast_ofNat_Int, Int.reduceToNat, Int.reduceEq, Int.reduceLT, Int.reduceLE, Int.reduceNe] <;> exact rfl) ?_ rfl rfl (by first | exact .inl rfl | exact .inr rfl) (by simp only [go_sem, Nat.reduceBEq, Nat.reduceBneDiff, Nat.reduceLT, Nat.reduceLeDiff, Nat.reduceAdd, Nat.reduceMul, Nat.reduceSub, Nat.reduceEqDiff, reduceCtorEq, hw1, hw2, hw3, c1, c2, e1, z1, e2, h3, ht, v8_len, Int.cast_ofNat_Int, Int.reduceToNat, Int.reduceEq, Int.reduceLT, Int.reduceLE, Int.reduceNe] <;> exact rfl) (hls0) (.inr ⟨rfl, ?_⟩) ?_) | (refine go_callId 38 rfl (tyOf_ok _) [] [] [] [] (by simp only [go_sem, Nat.reduceBEq, Nat.reduceBneDiff, Nat.reduceLT, Nat.reduceLeDiff, Nat.reduceAdd, Nat.reduceMul, Nat.reduceSub, Nat.reduceEqDiff, reduceCtorEq, hw1, hw2, hw3, c1, c2, e1, z1, e2, h3, ht, v8_len, Int.cast_ofNat_Int, Int.reduceToNat, Int.reduceEq, Int.reduceLT, Int.reduceLE, Int.reduceNe] <;> exact rfl) ?_ rfl rfl (by first | exact .inl rfl | exact .inr rfl) (by simp only [go_sem, Nat.reduceBEq, Nat.reduceBneDiff, Nat.reduceLT, Nat.reduceLeDiff, Nat.reduceAdd, Nat.reduceMul, Nat.reduceSub, Nat.reduceEqDiff, reduceCtorEq, hw1, hw2, hw3, c1, c2, e1, z1, e2, h3, ht, v8_len, Int.cast_ofNat_Int, Int.reduceToNat, Int.reduceEq, Int.reduceLT, Int.reduceLE, Int.reduceNe] <;> exact rfl) (hls) (.inr ⟨rfl, ?_⟩) ?_))) <;> (try omega)
     all_goals first | exact AV.up_rfl _ | exact AV.up_dead _ | (repeat first | exact obUp_nil | refine obUp_cons rfl ?_)
   ·have hkid : kidF W' n i = 2 * i + 1 := by unfold kidF; rw [if_neg (by omega)]
    rw [hkid] at hk
    rw [decide_eq_false hC] at hls0
    rw [hkid] at h4
    have hls := nless_G W' (by omega) (2 * i + 1) i (by omega) (by omega)
    by_cases hlt : W'.getD (2 * i + 1) 0 < W'.getD i 0
    ·rw [if_neg (by rintro (h | h) <;> omega)] at h4
     have hsw := nswap_G W' (by omega) W.length (by omega) i (2 * i + 1) (by omega) (by omega)
     rw [decide_eq_true hlt] at hls
     (repeat' (first | exact trivial | (with_reducible first | apply awA | apply awB | apply awC | apply awF | apply awI) | ((with_reducible first | apply awn | apply awo | refine awQ ?_); intro r hr; simp only [go_sem, Nat.reduceBEq, Nat.reduceBneDiff, Nat.reduceLT, Nat.reduceLeDiff, Nat.reduceAdd, Nat.reduceMul, Nat.reduceSub, Nat.reduceEqDiff, reduceCtorEq, hw1, hw2, hw3, c1, c2, e1, z1, e2, h3, ht, v8_len, Int.cast_ofNat_Int, Int.reduceToNat, Int.reduceEq, Int.reduceLT, Int.reduceLE, Int.reduceNe] at hr; subst hr; (first | refine awV ?_ ?_ | refine awW ?_ ?_ | (refine condK (fun h => ?_) (fun h => ?_) <;> (try simp only [go_sem, reduceCtorEq] at h) <;> (try (exfalso; omega))))) | (refine al_skipC (vB true) rfl rfl ⟨by decide, by decide⟩ ?_) | (refine go_callId 32 rfl (tyOf_ok _) [] [] [] [] (by simp only [go_sem, Nat.reduceBEq, Nat.reduceBneDiff, Nat.reduceLT, Nat.reduceLeDiff, Nat.reduceAdd, Nat.reduceMul, Nat.reduceSub, Nat.reduceEqDiff, reduceCtorEq, hw1, hw2, hw3, c1, c2, e1, z1, e2, h3, ht, v8_len, Int.cast_ofNat_Int, Int.reduceToNat, Int.reduceEq, Int.reduceLT, Int.reduceLE, Int.reduceNe] <;> exact rfl) ?_ rfl rfl (by first | exact .inl rfl | exact .inr rfl) (by simp only [go_sem, Nat.reduceBEq, Nat.reduceBneDiff, Nat.reduceLT, Nat.reduceLeDiff, Nat.reduceAdd, Nat.reduceMul, Nat.reduceSub, Nat.reduceEqDiff, reduceCtorEq, hw1, hw2, hw3, c1, c2, e1, z1, e2, h3, ht, v8_len, Int.cast_ofNat_Int, Int.reduceToNat, Int.reduceEq, Int.reduceLT, Int.reduceLE, Int.reduceNe] <;> exact rfl) (hls0) (.inr ⟨rfl, ?_⟩) ?_) | (refine go_callId 38 rfl (tyOf_ok _) [] [] [] [] (by simp only [go_sem, Nat.reduceBEq, Nat.reduceBneDiff, Nat.reduceLT, Nat.reduceLeDiff, Nat.reduceAdd, Nat.reduceMul, Nat.reduceSub, Nat.reduceEqDiff, reduceCtorEq, hw1, hw2, hw3, c1, c2, e1, z1, e2, h3, ht, v8_len, Int.cast_ofNat_Int, Int.reduceToNat, Int.reduceEq, Int.reduceLT, Int.reduceLE, Int.reduceNe] <;> exact rfl) ?_ rfl rfl (by first | exact .inl rfl | exact .inr rfl) (by simp only [go_sem, Nat.reduceBEq, Nat.reduceBneDiff, Nat.reduceLT, Nat.reduceLeDiff, Nat.reduceAdd, Nat.reduceMul, Nat.reduceSub, Nat.reduceEqDiff, reduceCtorEq, hw1, hw2, hw3, c1, c2, e1, z1, e2, h3, ht, v8_len, Int.cast_ofNat_Int, Int.reduceToNat, Int.reduceEq, Int.reduceLT, Int.reduceLE, Int.reduceNe] <;> exact rfl) (hls) (.inr ⟨rfl, ?_⟩) ?_) | (refine go_callI (tyOf_ok _) [(15002, 10001)] [(10001, 15002)] [] [15002] (by simp only [go_sem, Nat.reduceBEq, Nat.reduceBneDiff, Nat.reduceLT, Nat.reduceLeDiff, Nat.reduceAdd, Nat.reduceMul, Nat.reduceSub, Nat.reduceEqDiff, reduceCtorEq, hw1, hw2, hw3, c1, c2, e1, z1, e2, h3, ht, v8_len, Int.cast_ofNat_Int, Int.reduceToNat, Int.reduceEq, Int.reduceLT, Int.reduceLE, Int.reduceNe] <;> exact rfl) ?_ rfl rfl (by first | exact .inl rfl | exact .inr rfl) (by simp only [go_sem, Nat.reduceBEq, Nat.reduceBneDiff, Nat.reduceLT, Nat.reduceLeDiff, Nat.reduceAdd, Nat.reduceMul, Nat.reduceSub, Nat.reduceEqDiff, reduceCtorEq, hw1, hw2, hw3, c1, c2, e1, z1, e2, h3, ht, v8_len, Int.cast_ofNat_Int, Int.reduceToNat, Int.reduceEq, Int.reduceLT, Int.reduceLE, Int.reduceNe] <;> exact rfl) (hsw) (.inl rfl) ?_))) <;> (try omega)
     refine ⟨(f, (2 * i + 1), swapL W' i (2 * i + 1)), ?_, ⟨by show n ≤ (2 * i + 1) + f; omega, by show (2 * i + 1) ≤ n; omega, by show (swapL W' i (2 * i + 1)).length = _; rw [swapL_len]; exact h3, h4⟩, by show n - (2 * i + 1) < n - i; omega⟩
     simp only [go_sem, Nat.reduceBEq, Nat.reduceBneDiff, Nat.reduceLT, Nat.reduceLeDiff, Nat.reduceAdd, Nat.reduceMul, Nat.reduceSub, Nat.reduceEqDiff, reduceCtorEq]
    ·rw [if_pos (.inr hlt)] at h4
     subst h4
     rw [decide_eq_false hlt] at hls
     (repeat' (first | exact trivial | (with_reducible first | apply awA | apply awB | apply awC | apply awD | apply awE | apply awF | apply awH | apply awK | refine awM (by decide) ?_) | ((with_reducible first | apply awn | apply awo | refine awQ ?_ | refine awT ?_); intro r hr; simp only [go_sem, Nat.reduceBEq, Nat.reduceBneDiff, Nat.reduceLT, Nat.reduceLeDiff, Nat.reduceAdd, Nat.reduceMul, Nat.reduceSub, Nat.reduceEqDiff, reduceCtorEq, hw1, hw2, hw3, c1, c2, e1, z1, e2, h3, ht, v8_len, Int.cast_ofNat_Int, Int.reduceToNat, Int.reduceEq, Int.reduceLT, Int.reduceLE, Int.reduceNe] at hr; subst hr; (first | refine awV ?_ ?_ | refine awW ?_ ?_ | refine endGK ?_ ?_ ?_ | (refine condK (fun h => ?_) (fun h => ?_) <;> (try simp only [go_sem, reduceCtorEq] at h) <;> (try (exfalso; omega))))) | (refine al_skipC (vB true) rfl rfl ⟨by decide, by decide⟩ ?_) | (refine go_callId 32 rfl (tyOf_ok _) [] [] [] [] (by simp only [go_sem, Nat.reduceBEq, Nat.reduceBneDiff, Nat.reduceLT, Nat.reduceLeDiff, Nat.reduceAdd, Nat.reduceMul, Nat.reduceSub, Nat.reduceEqDiff, reduceCtorEq, hw1, hw2, hw3, c1, c2, e1, z1, e2, h3, ht, v8_len, Int.cast_ofNat_Int, Int.reduceToNat, Int.reduceEq, Int.reduceLT, Int.reduceLE, Int.reduceNe] <;> exact rfl) ?_ rfl rfl (by first | exact .inl rfl | exact .inr rfl) (by simp only [go_sem, Nat.reduceBEq, Nat.reduceBneDiff, Nat.reduceLT, Nat.reduceLeDiff, Nat.reduceAdd, Nat.reduceMul, Nat.reduceSub, Nat.reduceEqDiff, reduceCtorEq, hw1, hw2, hw3, c1, c2, e1, z1, e2, h3, ht, v8_len, Int.cast_ofNat_Int, Int.reduceToNat, Int.reduceEq, Int.reduceLT, Int.reduceLE, Int.reduceNe] <;> exact rfl) (hls0) (.inr ⟨rfl, ?_⟩) ?_) | (refine go_callId 38 rfl (tyOf_ok _) [] [] [] [] (by simp only [go_sem, Nat.reduceBEq, Nat.reduceBneDiff, Nat.reduceLT, Nat.reduceLeDiff, Nat.reduceAdd, Nat.reduceMul, Nat.reduceSub, Nat.reduceEqDiff, reduceCtorEq, hw1, hw2, hw3, c1, c2, e1, z1, e2, h3, ht, v8_len, Int.cast_ofNat_Int, Int.reduceToNat, Int.reduceEq, Int.reduceLT, Int.reduceLE, Int.reduceNe] <;> exact rfl) ?_ rfl rfl (by first | exact .inl rfl | exact .inr rfl) (by simp only [go_sem, Nat.reduceBEq, Nat.reduceBneDiff, Nat.reduceLT, Nat.reduceLeDiff, Nat.reduceAdd, Nat.reduceMul, Nat.reduceSub, Nat.reduceEqDiff, reduceCtorEq, hw1, hw2, hw3, c1, c2, e1, z1, e2, h3, ht, v8_len, Int.cast_ofNat_Int, Int.reduceToNat, Int.reduceEq, Int.reduceLT, Int.reduceLE, Int.reduceNe] <;> exact rfl) (hls) (.inr ⟨rfl, ?_⟩) ?_))) <;> (try omega)
     all_goals first | exact AV.up_rfl _ | exact AV.up_dead _ | (repeat first | exact obUp_nil | refine obUp_cons rfl ?_)
  ·have e2 : (((2 * i + 2 : Nat) : Int) < (n : Int)) = False := eq_false (by omega)
   have hkid : kidF W' n i = 2 * i + 1 := by unfold kidF; rw [if_neg (by omega)]
   rw [hkid] at hk
   rw [hkid] at h4
   have hls := nless_G W' (by omega) (2 * i + 1) i (by omega) (by omega)
   by_cases hlt : W'.getD (2 * i + 1) 0 < W'.getD i 0
   ·rw [if_neg (by rintro (h | h) <;> omega)] at h4
    have hsw := nswap_G W' (by omega) W.length (by omega) i (2 * i + 1) (by omega) (by omega)
    rw [decide_eq_true hlt] at hls
    (repeat' (first | exact trivial | (with_reducible first | apply awA | apply awB | apply awC | apply awF | apply awI) | ((with_reducible first | apply awn | apply awo | refine awQ ?_); intro r hr; simp only [go_sem, Nat.reduceBEq, Nat.reduceBneDiff, Nat.reduceLT, Nat.reduceLeDiff, Nat.reduceAdd, Nat.reduceMul, Nat.reduceSub, Nat.reduceEqDiff, reduceCtorEq, hw1, hw2, hw3, c1, c2, e1, z1, e2, h3, ht, v8_len, Int.cast_ofNat_Int, Int.reduceToNat, Int.reduceEq, Int.reduceLT, Int.reduceLE, Int.reduceNe] at hr; subst hr; (first | refine awV ?_ ?_ | refine awW ?_ ?_ | (refine condK (fun h => ?_) (fun h => ?_) <;> (try simp only [go_sem, reduceCtorEq] at h) <;> (try (exfalso; omega))))) | (refine al_skipC (vB true) rfl rfl ⟨by decide, by decide⟩ ?_) | (refine go_callI (tyOf_ok _) [] [] [] [] (by simp only [go_sem, Nat.reduceBEq, Nat.reduceBneDiff, Nat.reduceLT, Nat.reduceLeDiff, Nat.reduceAdd, Nat.reduceMul, Nat.reduceSub, Nat.reduceEqDiff, reduceCtorEq, hw1, hw2, hw3, c1, c2, e1, z1, e2, h3, ht, v8_len, Int.cast_ofNat_Int, Int.reduceToNat, Int.reduceEq, Int.reduceLT, Int.reduceLE, Int.reduceNe] <;> exact rfl) ?_ rfl rfl (by first | exact .inl rfl | exact .inr rfl) (by simp only [go_sem, Nat.reduceBEq, Nat.reduceBneDiff, Nat.reduceLT, Nat.reduceLeDiff, Nat.reduceAdd, Nat.reduceMul, Nat.reduceSub, Nat.reduceEqDiff, reduceCtorEq, hw1, hw2, hw3, c1, c2, e1, z1, e2, h3, ht, v8_len, Int.cast_ofNat_Int, Int.reduceToNat, Int.reduceEq, Int.reduceLT, Int.reduceLE, Int.reduceNe] <;> exact rfl) (hls) (.inr ⟨rfl, ?_⟩) ?_) | (refine go_callI (tyOf_ok _) [(15002, 10001)] [(10001, 15002)] [] [15002] (by simp only [go_sem, Nat.reduceBEq, Nat.reduceBneDiff, Nat.reduceLT, Nat.reduceLeDiff, Nat.reduceAdd, Nat.reduceMul, Nat.reduceSub, Nat.reduceEqDiff, reduceCtorEq, hw1, hw2, hw3, c1, c2, e1, z1, e2, h3, ht, v8_len, Int.cast_ofNat_Int, Int.reduceToNat, Int.reduceEq, Int.reduceLT, Int.reduceLE, Int.reduceNe] <;> exact rfl) ?_ rfl rfl (by first | exact .inl rfl | exact .inr rfl) (by simp only [go_sem, Nat.reduceBEq, Nat.reduceBneDiff, Nat.reduceLT, Nat.reduceLeDiff, Nat.reduceAdd, Nat.reduceMul, Nat.reduceSub, Nat.reduceEqDiff, reduceCtorEq, hw1, hw2, hw3, c1, c2, e1, z1, e2, h3, ht, v8_len, Int.cast_ofNat_Int, Int.reduceToNat, Int.reduceEq, Int.reduceLT, Int.reduceLE, Int.reduceNe] <;> exact rfl) (hsw) (.inl rfl) ?_))) <;> (try omega)
    refine ⟨(f, (2 * i + 1), swapL W' i (2 * i + 1)), ?_, ⟨by show n ≤ (2 * i + 1) + f; omega, by show (2 * i + 1) ≤ n; omega, by show (swapL W' i (2 * i + 1)).length = _; rw [swapL_len]; exact h3, h4⟩, by show n - (2 * i + 1) < n - i; omega⟩
    simp only [go_sem, Nat.reduceBEq, Nat.reduceBneDiff, Nat.reduceLT, Nat.reduceLeDiff, Nat.reduceAdd, Nat.reduceMul, Nat.reduceSub, Nat.reduceEqDiff, reduceCtorEq]
   ·rw [if_pos (.inr hlt)] at h4
    subst h4
    rw [decide_eq_false hlt] at hls
    (repeat' (first | exact trivial | (with_reducible first | apply awA | apply awB | apply awC | apply awD | apply awE | apply awF | apply awH | apply awK | refine awM (by decide) ?_) | ((with_reducible first | apply awn | apply awo | refine awQ ?_ | refine awT ?_); intro r hr; simp only [go_sem, Nat.reduceBEq, Nat.reduceBneDiff, Nat.reduceLT, Nat.reduceLeDiff, Nat.reduceAdd, Nat.reduceMul, Nat.reduceSub, Nat.reduceEqDiff, reduceCtorEq, hw1, hw2, hw3, c1, c2, e1, z1, e2, h3, ht, v8_len, Int.cast_ofNat_Int, Int.reduceToNat, Int.reduceEq, Int.reduceLT, Int.reduceLE, Int.reduceNe] at hr; subst hr; (first | refine awV ?_ ?_ | refine awW ?_ ?_ | refine endGK ?_ ?_ ?_ | (refine condK (fun h => ?_) (fun h => ?_) <;> (try simp only [go_sem, reduceCtorEq] at h) <;> (try (exfalso; omega))))) | (refine al_skipC (vB true) rfl rfl ⟨by decide, by decide⟩ ?_) | (refine go_callI (tyOf_ok _) [] [] [] [] (by simp only [go_sem, Nat.reduceBEq, Nat.reduceBneDiff, Nat.reduceLT, Nat.reduceLeDiff, Nat.reduceAdd, Nat.reduceMul, Nat.reduceSub, Nat.reduceEqDiff, reduceCtorEq, hw1, hw2, hw3, c1, c2, e1, z1, e2, h3, ht, v8_len, Int.cast_ofNat_Int, Int.reduceToNat, Int.reduceEq, Int.reduceLT, Int.reduceLE, Int.reduceNe] <;> exact rfl) ?_ rfl rfl (by first | exact .inl rfl | exact .inr rfl) (by simp only [go_sem, Nat.reduceBEq, Nat.reduceBneDiff, Nat.reduceLT, Nat.reduceLeDiff, Nat.reduceAdd, Nat.reduceMul, Nat.reduceSub, Nat.reduceEqDiff, reduceCtorEq, hw1, hw2, hw3, c1, c2, e1, z1, e2, h3, ht, v8_len, Int.cast_ofNat_Int, Int.reduceToNat, Int.reduceEq, Int.reduceLT, Int.reduceLE, Int.reduceNe] <;> exact rfl) (hls) (.inr ⟨rfl, ?_⟩) ?_))) <;> (try omega)
    all_goals first | exact AV.up_rfl _ | exact AV.up_dead _ | (repeat first | exact obUp_nil | refine obUp_cons rfl ?_)
theorem hpush_G (e : Bool) (C : List InsM) (N : List Int) (L : LkM) (W : List Int) (hW : W.length ≤ 100000000) (x : Int) :
  GCall Try.prog 47 [.ifc 72 (.ptr 1 10000 0 5), .ifc 3 (vI x)] (lkO e C N L W) (.tup []) (lkO e C N L (upF (W.length + 1) (W ++ [x]) W.length)) := by
 have hp := npush_G e C N L W (by omega) x
 have hl : (W ++ [x]).length = W.length + 1 := by simp
 have hu := hup_G e C N L (W ++ [x]) (by omega) W.length (by omega)
 have hlen : (upF (W.length + 1) (W ++ [x]) W.length).length = W.length + 1 := by rw [(upF_perm _ _ _ (by omega)).length_eq, hl]
 have hn := nlen_G (W ++ [x])
 have hw := wrap_i64 (n := ((W.length + 1 : Nat) : Int) - 1) (by omega)
 have hz : ((W.length + 1 : Nat) : Int) - 1 = W.length := by omega
 have ht : (v8 (W ++ [x])).take (W.length + 1) = v8 (W ++ [x]) := by rw [v8_take, List.take_of_length_le (by omega)]
 rw [hz] at hw
 rw [hl] at hn
 unfold lkO lkV at hp hu ⊢
 rw [hl] at hp hu
 rw [hlen] at hu ⊢
 refine go_fnG (tyOf_ok _) Try.func47 rfl rfl (by rw [Try.results47]) Try.ntmps47 rfl fun E => ?_
 (repeat' (first | exact trivial | (with_reducible first | apply awA | apply awF) | ((with_reducible first | apply awn | apply awo | refine awU ?_); intro r hr; simp only [go_sem, Nat.reduceBEq, Nat.reduceBneDiff, Nat.reduceLT, Nat.reduceLeDiff, Nat.reduceAdd, Nat.reduceMul, Nat.reduceSub, Nat.reduceEqDiff, reduceCtorEq, hw, hz, ht, hl, v8_len] at hr; subst hr; (first | refine awV ?_ ?_ | refine awW ?_ ?_ | refine endGK ?_ ?_ ?_)) | (refine go_callI (tyOf_ok _) [(10000, 10000), (15000, 15000), (15001, 15001), (15002, 15002)] [(10000, 10000), (15000, 15000), (15001, 15001), (15002, 15002)] [15000, 15001, 15002] [10000] (by simp only [go_sem, Nat.reduceBEq, Nat.reduceBneDiff, Nat.reduceLT, Nat.reduceLeDiff, Nat.reduceAdd, Nat.reduceMul, Nat.reduceSub, Nat.reduceEqDiff, reduceCtorEq, hw, hz, ht, hl, v8_len] <;> exact rfl) ?_ rfl rfl (by first | exact .inl rfl | exact .inr rfl) (by simp only [go_sem, Nat.reduceBEq, Nat.reduceBneDiff, Nat.reduceLT, Nat.reduceLeDiff, Nat.reduceAdd, Nat.reduceMul, Nat.reduceSub, Nat.reduceEqDiff, reduceCtorEq, hw, hz, ht, hl, v8_len] <;> exact rfl) (hp) (.inl rfl) ?_) | (refine go_callI (tyOf_ok _) [] [] [] [] (by simp only [go_sem, Nat.reduceBEq, Nat.reduceBneDiff, Nat.reduceLT, Nat.reduceLeDiff, Nat.reduceAdd, Nat.reduceMul, Nat.reduceSub, Nat.reduceEqDiff, reduceCtorEq, hw, hz, ht, hl, v8_len] <;> exact rfl) ?_ rfl rfl (by first | exact .inl rfl | exact .inr rfl) (by simp only [go_sem, Nat.reduceBEq, Nat.reduceBneDiff, Nat.reduceLT, Nat.reduceLeDiff, Nat.reduceAdd, Nat.reduceMul, Nat.reduceSub, Nat.reduceEqDiff, reduceCtorEq, hw, hz, ht, hl, v8_len] <;> exact rfl) (hn) (.inr ⟨rfl, ?_⟩) ?_) | (refine go_callGE [(10000, 10000), (15000, 15000), (15001, 15001), (15002, 15002)] [(10000, 10000), (15000, 15000), (15001, 15001), (15002, 15002)] [15000, 15001, 15002] [10000] ?_; intro r hr; simp only [go_sem, Nat.reduceBEq, Nat.reduceBneDiff, Nat.reduceLT, Nat.reduceLeDiff, Nat.reduceAdd, Nat.reduceMul, Nat.reduceSub, Nat.reduceEqDiff, reduceCtorEq, hw, hz, ht, hl, v8_len] at hr; subst hr; refine callGK (hu) rfl rfl (by first | exact .inl rfl | exact .inr rfl) ?_ (.inl rfl) ?_))) <;> (try omega)
 all_goals first | exact AV.up_rfl _ | exact AV.up_dead _ | (repeat first | exact obUp_nil | refine obUp_cons rfl ?_)
theorem hpop_G (e : Bool) (C : List InsM) (N : List Int) (L : LkM) (W : List Int) (hW : W.length ≤ 100000000) (hne : W ≠ []) :
  GCall Try.prog 36 [.ifc 72 (.ptr 1 10000 0 5)] (lkO e C N L W) (.ifc 3 (vI (W.getD 0 0))) (lkO e C N L (popF W)) := by
 have hpos : 0 < W.length := List.length_pos_iff.2 hne
 have hn := nlen_G W
 have hsw := nswap_G W (by omega) W.length (by omega) 0 (W.length - 1) hpos (by omega)
 have hsl : (swapL W 0 (W.length - 1)).length = W.length := swapL_len _ _ _
 have hd := hdown_G e C N L (swapL W 0 (W.length - 1)) (by omega) (W.length - 1) (by omega)
 rw [hsl] at hd
 have hdl : (downF W.length (swapL W 0 (W.length - 1)) (W.length - 1) 0).length = W.length := by rw [downF_len _ _ _ _ (by omega), hsl]
 have hlast := pop_last hne
 have hp := npop_G e C N L (downF W.length (swapL W 0 (W.length - 1)) (W.length - 1) 0) (by omega) (by omega)
 rw [hdl, hlast] at hp
 have hpl : (popF W).length = W.length - 1 := by unfold popF; rw [List.length_take, hdl]; omega
 change GCall _ _ _ _ _ (lkO e C N L (popF W)) at hp
 generalize downF W.length (swapL W 0 (W.length - 1)) (W.length - 1) 0 = M at hd hp hdl
 generalize hS : swapL W 0 (W.length - 1) = S at hsw hd hsl
 have hw := wrap_i64 (n := (W.length : Int) - 1) (by omega)
 have hz : (W.length : Int) - 1 = ((W.length - 1 : Nat) : Int) := by omega
 have ht : (v8 W).take W.length = v8 W := by rw [v8_take, List.take_of_length_le (by omega)]
 rw [hz] at hw
 generalize popF W = R at hp hpl ⊢
 unfold lkO lkV at hp hd ⊢
 rw [hdl] at hp hd
 rw [hsl] at hd
 rw [hpl] at hp ⊢
 refine go_fnG (tyOf_ok _) Try.func36 rfl rfl (by rw [Try.results36]) Try.ntmps36 rfl fun E => ?_
 (repeat' (first | exact trivial | (with_reducible first | apply awA | apply awD | apply awF) | ((with_reducible first | apply awn | apply awo | refine awT ?_); intro r hr; simp only [go_sem, Nat.reduceBEq, Nat.reduceBneDiff, Nat.reduceLT, Nat.reduceLeDiff, Nat.reduceAdd, Nat.reduceMul, Nat.reduceSub, Nat.reduceEqDiff, reduceCtorEq, hw, hz, ht, v8_len] at hr; subst hr; (first | refine awV ?_ ?_ | refine awW ?_ ?_ | refine endGK ?_ ?_ ?_)) | (refine go_callI (tyOf_ok _) [] [] [] [] (by simp only [go_sem, Nat.reduceBEq, Nat.reduceBneDiff, Nat.reduceLT, Nat.reduceLeDiff, Nat.reduceAdd, Nat.reduceMul, Nat.reduceSub, Nat.reduceEqDiff, reduceCtorEq, hw, hz, ht, v8_len] <;> exact rfl) ?_ rfl rfl (by first | exact .inl rfl | exact .inr rfl) (by simp only [go_sem, Nat.reduceBEq, Nat.reduceBneDiff, Nat.reduceLT, Nat.reduceLeDiff, Nat.reduceAdd, Nat.reduceMul, Nat.reduceSub, Nat.reduceEqDiff, reduceCtorEq, hw, hz, ht, v8_len] <;> exact rfl) (hn) (.inr ⟨rfl, ?_⟩) ?_) | (refine go_callI (tyOf_ok _) [(15002, 10001)] [(10001, 15002)] [] [15002] (by simp only [go_sem, Nat.reduceBEq, Nat.reduceBneDiff, Nat.reduceLT, Nat.reduceLeDiff, Nat.reduceAdd, Nat.reduceMul, Nat.reduceSub, Nat.reduceEqDiff, reduceCtorEq, hw, hz, ht, v8_len] <;> exact rfl) ?_ rfl rfl (by first | exact .inl rfl | exact .inr rfl) (by simp only [go_sem, Nat.reduceBEq, Nat.reduceBneDiff, Nat.reduceLT, Nat.reduceLeDiff, Nat.reduceAdd, Nat.reduceMul, Nat.reduceSub, Nat.reduceEqDiff, reduceCtorEq, hw, hz, ht, v8_len] <;> exact rfl) (hsw) (.inl rfl) ?_) | (refine go_callGE [(10000, 10000), (15000, 15000), (15001, 15001), (15002, 15002)] [(10000, 10000), (15000, 15000), (15001, 15001), (15002, 15002)] [15000, 15001, 15002] [10000] ?_; intro r hr; simp only [go_sem, Nat.reduceBEq, Nat.reduceBneDiff, Nat.reduceLT, Nat.reduceLeDiff, Nat.reduceAdd, Nat.reduceMul, Nat.reduceSub, Nat.reduceEqDiff, reduceCtorEq, hw, hz, ht, v8_len] at hr; subst hr; refine callGK (hd) rfl rfl (by first | exact .inl rfl | exact .inr rfl) ?_ (.inl rfl) ?_) | (refine go_callI (tyOf_ok _) [(10000, 10000), (15000, 15000), (15001, 15001), (15002, 15002)] [(10000, 10000), (15000, 15000), (15001, 15001), (15002, 15002)] [15000, 15001, 15002] [10000] (by simp only [go_sem, Nat.reduceBEq, Nat.reduceBneDiff, Nat.reduceLT, Nat.reduceLeDiff, Nat.reduceAdd, Nat.reduceMul, Nat.reduceSub, Nat.reduceEqDiff, reduceCtorEq, hw, hz, ht, v8_len] <;> exact rfl) ?_ rfl rfl (by first | exact .inl rfl | exact .inr rfl) (by simp only [go_sem, Nat.reduceBEq, Nat.reduceBneDiff, Nat.reduceLT, Nat.reduceLeDiff, Nat.reduceAdd, Nat.reduceMul, Nat.reduceSub, Nat.reduceEqDiff, reduceCtorEq, hw, hz, ht, v8_len] <;> exact rfl) (hp) (.inl rfl) ?_))) <;> (try omega)
 all_goals first | exact AV.up_rfl _ | exact AV.up_dead _ | (repeat first | exact obUp_nil | refine obUp_cons rfl ?_)
end Go.Proofs.Ytjeplogcfedmeaa
end
