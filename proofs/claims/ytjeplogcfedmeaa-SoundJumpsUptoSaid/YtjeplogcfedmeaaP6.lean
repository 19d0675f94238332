import Derived.Test.YtjeplogcfedmeaaP5
set_option linter.all false
section
namespace Go.Proofs.Ytjeplogcfedmeaa
open Go.RowKit
set_option maxRecDepth 100000
set_option maxHeartbeats 8000000
theorem decodes_any (s : StM) (x : InsM) (t : Int) (hx : x.op = 2 → (0 ≤ x.a ∧ x.a ≤ 64) ∧ 0 ≤ x.b ∧ x.b ≤ 64) : PCall Try.prog 65 [vSt s, vIns x, vI t] (fun r => r = .tup [vEf (decS s x t).1, vB (decS s x t).2]) := by
 obtain ⟨op, a, b, c⟩ := x
 unfold decS
 dsimp only at hx ⊢
 by_cases h16 : op = 16
 ·subst h16
  simp only [if_true, reduceIte, Int.reduceEq, or_self]
  by_cases hc : t ≤ c
  ·have ec : (t ≤ c) = True := eq_true hc
   rw [if_pos hc]
   refine go_fn (tyOf_ok _) Try.func65 rfl rfl (by rw [Try.results65]) Try.ntmps65 rfl fun E => ?_
   (repeat' (first | exact trivial | (with_reducible first | apply awA | apply awB | apply awD | apply awE | apply awF | apply awG | apply awH | apply awJ | apply awK) | ((with_reducible first | apply awn | refine awQ ?_ | refine awR ?_); intro r hr; simp only [go_sem, Nat.reduceBEq, Nat.reduceLT, Nat.reduceLeDiff, Nat.reduceAdd, Nat.reduceMul, ec] at hr; subst hr; (first | refine awV ?_ ?_ | refine endK ?_ ?_ | (refine condK (fun h => ?_) (fun h => ?_) <;> (try simp only [go_sem, reduceCtorEq] at h) <;> (try (exfalso; omega))))))) <;> (try omega)
   all_goals exact rfl
  ·have ec : (t ≤ c) = False := eq_false hc
   rw [if_neg hc]
   have hf := fill_any s a
   generalize s.fill a = q at hf ⊢
   obtain ⟨f, ok⟩ := q
   have hb := both_any f
   dsimp only
   refine go_fn (tyOf_ok _) Try.func65 rfl rfl (by rw [Try.results65]) Try.ntmps65 rfl fun E => ?_
   (repeat' (first | exact trivial | (with_reducible first | apply awA | apply awB | apply awC | apply awD | apply awE | apply awF | apply awG | apply awH | apply awI | apply awJ | apply awK) | ((with_reducible first | apply awn | apply awo | refine awQ ?_ | refine awR ?_); intro r hr; simp only [go_sem, Nat.reduceBEq, Nat.reduceLT, Nat.reduceLeDiff, Nat.reduceAdd, Nat.reduceMul, ec] at hr; subst hr; (first | refine caC (hf) rfl ?_ ?_ ?_ | refine caC (hb) rfl ?_ ?_ ?_ | refine awV ?_ ?_ | refine endK ?_ ?_ | (refine condK (fun h => ?_) (fun h => ?_) <;> (try simp only [go_sem, reduceCtorEq] at h) <;> (try (exfalso; omega))))))) <;> (try omega)
   all_goals exact rfl
 by_cases h1 : op = 1
 ·subst h1
  simp only [if_true, if_false, Int.reduceEq, or_false, or_self]
  have hf := fill_any s a
  generalize s.fill a = q at hf ⊢
  obtain ⟨f, ok⟩ := q
  have hb := both_any f
  dsimp only
  refine go_fn (tyOf_ok _) Try.func65 rfl rfl (by rw [Try.results65]) Try.ntmps65 rfl fun E => ?_
  (repeat' (first | exact trivial | (with_reducible first | apply awA | apply awB | apply awC | apply awD | apply awE | apply awF | apply awG | apply awH | apply awJ | apply awK | refine awM (by decide) ?_) | ((with_reducible first | apply awn | apply awo | refine awQ ?_ | refine awR ?_); intro r hr; simp only [go_sem, Nat.reduceBEq, Nat.reduceLT, Nat.reduceLeDiff, Nat.reduceAdd, Nat.reduceMul, Int.reduceEq] at hr; subst hr; (first | refine caC (hf) rfl ?_ ?_ ?_ | refine caC (hb) rfl ?_ ?_ ?_ | refine awV ?_ ?_ | refine endK ?_ ?_ | (refine condK (fun h => ?_) (fun h => ?_) <;> (try simp only [go_sem, reduceCtorEq] at h) <;> (try (exfalso; omega))))))) <;> (try omega)
  all_goals exact rfl
 by_cases h3 : op = 3
 ·subst h3
  simp only [if_true, if_false, Int.reduceEq, or_false, or_true, or_self]
  have hf := fill_any s a
  generalize s.fill a = q at hf ⊢
  obtain ⟨f, ok⟩ := q
  have hb := both_any f
  dsimp only
  refine go_fn (tyOf_ok _) Try.func65 rfl rfl (by rw [Try.results65]) Try.ntmps65 rfl fun E => ?_
  (repeat' (first | exact trivial | (with_reducible first | apply awA | apply awB | apply awC | apply awD | apply awE | apply awF | apply awG | apply awH | apply awJ | apply awK | refine awM (by decide) ?_) | ((with_reducible first | apply awn | apply awo | refine awQ ?_ | refine awR ?_); intro r hr; simp only [go_sem, Nat.reduceBEq, Nat.reduceLT, Nat.reduceLeDiff, Nat.reduceAdd, Nat.reduceMul, Int.reduceEq] at hr; subst hr; (first | refine caC (hf) rfl ?_ ?_ ?_ | refine caC (hb) rfl ?_ ?_ ?_ | refine awV ?_ ?_ | refine endK ?_ ?_ | (refine condK (fun h => ?_) (fun h => ?_) <;> (try simp only [go_sem, reduceCtorEq] at h) <;> (try (exfalso; omega))))))) <;> (try omega)
  all_goals exact rfl
 by_cases h4 : op = 4
 ·subst h4
  simp only [if_true, if_false, Int.reduceEq, or_true, or_self]
  have hf := fill_any s a
  generalize s.fill a = q at hf ⊢
  obtain ⟨f, ok⟩ := q
  have hb := both_any f
  dsimp only
  refine go_fn (tyOf_ok _) Try.func65 rfl rfl (by rw [Try.results65]) Try.ntmps65 rfl fun E => ?_
  (repeat' (first | exact trivial | (with_reducible first | apply awA | apply awB | apply awC | apply awD | apply awE | apply awF | apply awG | apply awH | apply awJ | apply awK | refine awM (by decide) ?_) | ((with_reducible first | apply awn | apply awo | refine awQ ?_ | refine awR ?_); intro r hr; simp only [go_sem, Nat.reduceBEq, Nat.reduceLT, Nat.reduceLeDiff, Nat.reduceAdd, Nat.reduceMul, Int.reduceEq] at hr; subst hr; (first | refine caC (hf) rfl ?_ ?_ ?_ | refine caC (hb) rfl ?_ ?_ ?_ | refine awV ?_ ?_ | refine endK ?_ ?_ | (refine condK (fun h => ?_) (fun h => ?_) <;> (try simp only [go_sem, reduceCtorEq] at h) <;> (try (exfalso; omega))))))) <;> (try omega)
  all_goals exact rfl
 by_cases h2 : op = 2
 ·subst h2
  simp only [if_true, if_false, Int.reduceEq, or_self]
  have hr := run_any s ⟨2, a, b, c⟩ (hx rfl).1 (hx rfl).2
  refine go_fn (tyOf_ok _) Try.func65 rfl rfl (by rw [Try.results65]) Try.ntmps65 rfl fun E => ?_
  (repeat' (first | exact trivial | (with_reducible first | apply awA | apply awB | apply awC | apply awD | apply awE | apply awF | apply awG | apply awH | apply awJ | apply awK | refine awM (by decide) ?_) | ((with_reducible first | apply awn | apply awo | refine awQ ?_ | refine awR ?_); intro r hr; simp only [go_sem, Nat.reduceBEq, Nat.reduceLT, Nat.reduceLeDiff, Nat.reduceAdd, Nat.reduceMul, Int.reduceEq] at hr; subst hr; (first | refine caC (hr) rfl ?_ ?_ ?_ | refine awV ?_ ?_ | refine endK ?_ ?_ | (refine condK (fun h => ?_) (fun h => ?_) <;> (try simp only [go_sem, reduceCtorEq] at h) <;> (try (exfalso; omega))))))) <;> (try omega)
  all_goals exact rfl
 by_cases h5 : op = 5
 ·subst h5
  simp only [if_true, if_false, Int.reduceEq, or_self]
  have h1 := at_any s 1
  have h2 := with_any (s.at_ 1) 1
  have hb := both_any ((s.at_ 1).wth 1)
  refine go_fn (tyOf_ok _) Try.func65 rfl rfl (by rw [Try.results65]) Try.ntmps65 rfl fun E => ?_
  (repeat' (first | exact trivial | (with_reducible first | apply awA | apply awB | apply awC | apply awD | apply awE | apply awF | apply awG | apply awH | apply awJ | apply awK | refine awM (by decide) ?_) | ((with_reducible first | apply awn | apply awo | refine awQ ?_ | refine awR ?_); intro r hr; simp only [go_sem, Nat.reduceBEq, Nat.reduceLT, Nat.reduceLeDiff, Nat.reduceAdd, Nat.reduceMul, Int.reduceEq] at hr; subst hr; (first | refine caC (h1) rfl ?_ ?_ ?_ | refine caC (h2) rfl ?_ ?_ ?_ | refine caC (hb) rfl ?_ ?_ ?_ | refine awV ?_ ?_ | refine endK ?_ ?_ | (refine condK (fun h => ?_) (fun h => ?_) <;> (try simp only [go_sem, reduceCtorEq] at h) <;> (try (exfalso; omega))))))) <;> (try omega)
  all_goals exact rfl
 by_cases h6 : op = 6
 ·subst h6
  simp only [if_true, if_false, Int.reduceEq, or_self]
  have h1 := at_any s 2
  have hb := both_any (s.at_ 2)
  refine go_fn (tyOf_ok _) Try.func65 rfl rfl (by rw [Try.results65]) Try.ntmps65 rfl fun E => ?_
  (repeat' (first | exact trivial | (with_reducible first | apply awA | apply awB | apply awC | apply awD | apply awE | apply awF | apply awG | apply awH | apply awJ | apply awK | refine awM (by decide) ?_) | ((with_reducible first | apply awn | apply awo | refine awQ ?_ | refine awR ?_); intro r hr; simp only [go_sem, Nat.reduceBEq, Nat.reduceLT, Nat.reduceLeDiff, Nat.reduceAdd, Nat.reduceMul, Int.reduceEq] at hr; subst hr; (first | refine caC (h1) rfl ?_ ?_ ?_ | refine caC (hb) rfl ?_ ?_ ?_ | refine awV ?_ ?_ | refine endK ?_ ?_ | (refine condK (fun h => ?_) (fun h => ?_) <;> (try simp only [go_sem, reduceCtorEq] at h) <;> (try (exfalso; omega))))))) <;> (try omega)
  all_goals exact rfl
 by_cases h7 : op = 7
 ·subst h7
  simp only [if_true, if_false, Int.reduceEq, or_self]
  have h1 := at_any s 3
  have h2 := at_any s 4
  refine go_fn (tyOf_ok _) Try.func65 rfl rfl (by rw [Try.results65]) Try.ntmps65 rfl fun E => ?_
  (repeat' (first | exact trivial | (with_reducible first | apply awA | apply awB | apply awC | apply awD | apply awE | apply awF | apply awG | apply awH | apply awJ | apply awK | refine awM (by decide) ?_) | (refine aw_draw (id := 29) (t := (.node [0, 2, 5, 1, 3, 4, 6, 7] [])) (drR [3] [] []) mixed (by kernel_rfl) (by kernel_rfl) (fun _ _ h => h) ?_) | (refine at_done (by simp only [go_sem]; exact rfl) ?_) | (refine at_alt (by simp only [go_sem]; exact rfl) ?_) | refine qalt_normal ?_ | refine ats_cons ?_ ?_ | exact ats_nil | ((with_reducible first | apply awn | apply awp | refine awQ ?_ | refine awR ?_); intro r hr; simp only [go_sem, Nat.reduceBEq, Nat.reduceLT, Nat.reduceLeDiff, Nat.reduceAdd, Nat.reduceMul, Int.reduceEq] at hr; subst hr; (first | refine caC (h1) rfl ?_ ?_ ?_ | refine caC (h2) rfl ?_ ?_ ?_ | refine awV ?_ ?_ | refine endK ?_ ?_ | (refine condK (fun h => ?_) (fun h => ?_) <;> (try simp only [go_sem, reduceCtorEq] at h) <;> (try (exfalso; omega))))))) <;> (try omega)
  all_goals exact rfl
 by_cases h8 : op = 8
 ·subst h8
  simp only [if_true, if_false, Int.reduceEq, or_self]
  have h1 := at_any s 3
  have hb := both_any (s.at_ 3)
  refine go_fn (tyOf_ok _) Try.func65 rfl rfl (by rw [Try.results65]) Try.ntmps65 rfl fun E => ?_
  (repeat' (first | exact trivial | (with_reducible first | apply awA | apply awB | apply awC | apply awD | apply awE | apply awF | apply awG | apply awH | apply awJ | apply awK | refine awM (by decide) ?_) | ((with_reducible first | apply awn | apply awo | refine awQ ?_ | refine awR ?_); intro r hr; simp only [go_sem, Nat.reduceBEq, Nat.reduceLT, Nat.reduceLeDiff, Nat.reduceAdd, Nat.reduceMul, Int.reduceEq] at hr; subst hr; (first | refine caC (h1) rfl ?_ ?_ ?_ | refine caC (hb) rfl ?_ ?_ ?_ | refine awV ?_ ?_ | refine endK ?_ ?_ | (refine condK (fun h => ?_) (fun h => ?_) <;> (try simp only [go_sem, reduceCtorEq] at h) <;> (try (exfalso; omega))))))) <;> (try omega)
  all_goals exact rfl
 by_cases h10 : op = 10
 ·subst h10
  simp only [if_true, if_false, Int.reduceEq, or_self]
  have h1 := offset_any s a
  refine go_fn (tyOf_ok _) Try.func65 rfl rfl (by rw [Try.results65]) Try.ntmps65 rfl fun E => ?_
  (repeat' (first | exact trivial | (with_reducible first | apply awA | apply awB | apply awC | apply awD | apply awE | apply awF | apply awG | apply awH | apply awJ | apply awK | refine awM (by decide) ?_) | ((with_reducible first | apply awn | apply awo | refine awQ ?_ | refine awR ?_); intro r hr; simp only [go_sem, Nat.reduceBEq, Nat.reduceLT, Nat.reduceLeDiff, Nat.reduceAdd, Nat.reduceMul, Int.reduceEq] at hr; subst hr; (first | refine caC (h1) rfl ?_ ?_ ?_ | refine awV ?_ ?_ | refine endK ?_ ?_ | (refine condK (fun h => ?_) (fun h => ?_) <;> (try simp only [go_sem, reduceCtorEq] at h) <;> (try (exfalso; omega))))))) <;> (try omega)
  all_goals exact rfl
 by_cases h17 : op = 17
 ·subst h17
  simp only [if_true, reduceIte, Int.reduceEq, or_self]
  by_cases hc : t ≤ c
  ·have ec : (t ≤ c) = True := eq_true hc
   rw [if_pos hc]
   refine go_fn (tyOf_ok _) Try.func65 rfl rfl (by rw [Try.results65]) Try.ntmps65 rfl fun E => ?_
   (repeat' (first | exact trivial | (with_reducible first | apply awA | apply awB | apply awC | apply awD | apply awE | apply awF | apply awG | apply awH | apply awJ | apply awK | refine awM (by decide) ?_) | ((with_reducible first | apply awn | refine awQ ?_ | refine awR ?_); intro r hr; simp only [go_sem, Nat.reduceBEq, Nat.reduceLT, Nat.reduceLeDiff, Nat.reduceAdd, Nat.reduceMul, ec, Int.reduceEq] at hr; subst hr; (first | refine awV ?_ ?_ | refine endK ?_ ?_ | (refine condK (fun h => ?_) (fun h => ?_) <;> (try simp only [go_sem, reduceCtorEq] at h) <;> (try (exfalso; omega))))))) <;> (try omega)
   all_goals exact rfl
  ·have ec : (t ≤ c) = False := eq_false hc
   rw [if_neg hc]
   have hp := part_any s ⟨17, a, b, c⟩
   refine go_fn (tyOf_ok _) Try.func65 rfl rfl (by rw [Try.results65]) Try.ntmps65 rfl fun E => ?_
   (repeat' (first | exact trivial | (with_reducible first | apply awA | apply awB | apply awC | apply awD | apply awE | apply awF | apply awG | apply awH | apply awJ | apply awK | refine awM (by decide) ?_) | ((with_reducible first | apply awn | apply awo | refine awQ ?_ | refine awR ?_); intro r hr; simp only [go_sem, Nat.reduceBEq, Nat.reduceLT, Nat.reduceLeDiff, Nat.reduceAdd, Nat.reduceMul, ec, Int.reduceEq] at hr; subst hr; (first | refine caC (hp) rfl ?_ ?_ ?_ | refine awV ?_ ?_ | refine endK ?_ ?_ | (refine condK (fun h => ?_) (fun h => ?_) <;> (try simp only [go_sem, reduceCtorEq] at h) <;> (try (exfalso; omega))))))) <;> (try omega)
   all_goals exact rfl
 by_cases h11 : op = 11
 ·subst h11
  simp only [if_true, if_false, Int.reduceEq, or_false, or_self]
  have h1 := rounds_any s ⟨11, a, b, c⟩
  refine go_fn (tyOf_ok _) Try.func65 rfl rfl (by rw [Try.results65]) Try.ntmps65 rfl fun E => ?_
  (repeat' (first | exact trivial | (with_reducible first | apply awA | apply awB | apply awC | apply awD | apply awE | apply awF | apply awG | apply awH | apply awJ | apply awK | refine awM (by decide) ?_) | ((with_reducible first | apply awn | apply awo | refine awQ ?_ | refine awR ?_); intro r hr; simp only [go_sem, Nat.reduceBEq, Nat.reduceLT, Nat.reduceLeDiff, Nat.reduceAdd, Nat.reduceMul, Int.reduceEq] at hr; subst hr; (first | refine caC (h1) rfl ?_ ?_ ?_ | refine awV ?_ ?_ | refine endK ?_ ?_ | (refine condK (fun h => ?_) (fun h => ?_) <;> (try simp only [go_sem, reduceCtorEq] at h) <;> (try (exfalso; omega))))))) <;> (try omega)
  all_goals exact rfl
 by_cases h12 : op = 12
 ·subst h12
  simp only [if_true, if_false, Int.reduceEq, or_false, or_true, or_self]
  have h1 := rounds_any s ⟨12, a, b, c⟩
  refine go_fn (tyOf_ok _) Try.func65 rfl rfl (by rw [Try.results65]) Try.ntmps65 rfl fun E => ?_
  (repeat' (first | exact trivial | (with_reducible first | apply awA | apply awB | apply awC | apply awD | apply awE | apply awF | apply awG | apply awH | apply awJ | apply awK | refine awM (by decide) ?_) | ((with_reducible first | apply awn | apply awo | refine awQ ?_ | refine awR ?_); intro r hr; simp only [go_sem, Nat.reduceBEq, Nat.reduceLT, Nat.reduceLeDiff, Nat.reduceAdd, Nat.reduceMul, Int.reduceEq] at hr; subst hr; (first | refine caC (h1) rfl ?_ ?_ ?_ | refine awV ?_ ?_ | refine endK ?_ ?_ | (refine condK (fun h => ?_) (fun h => ?_) <;> (try simp only [go_sem, reduceCtorEq] at h) <;> (try (exfalso; omega))))))) <;> (try omega)
  all_goals exact rfl
 by_cases h13 : op = 13
 ·subst h13
  simp only [if_true, if_false, Int.reduceEq, or_false, or_true, or_self]
  have h1 := rounds_any s ⟨13, a, b, c⟩
  refine go_fn (tyOf_ok _) Try.func65 rfl rfl (by rw [Try.results65]) Try.ntmps65 rfl fun E => ?_
  (repeat' (first | exact trivial | (with_reducible first | apply awA | apply awB | apply awC | apply awD | apply awE | apply awF | apply awG | apply awH | apply awJ | apply awK | refine awM (by decide) ?_) | ((with_reducible first | apply awn | apply awo | refine awQ ?_ | refine awR ?_); intro r hr; simp only [go_sem, Nat.reduceBEq, Nat.reduceLT, Nat.reduceLeDiff, Nat.reduceAdd, Nat.reduceMul, Int.reduceEq] at hr; subst hr; (first | refine caC (h1) rfl ?_ ?_ ?_ | refine awV ?_ ?_ | refine endK ?_ ?_ | (refine condK (fun h => ?_) (fun h => ?_) <;> (try simp only [go_sem, reduceCtorEq] at h) <;> (try (exfalso; omega))))))) <;> (try omega)
  all_goals exact rfl
 by_cases h14 : op = 14
 ·subst h14
  simp only [if_true, if_false, Int.reduceEq, or_false, or_true, or_self]
  have h1 := rounds_any s ⟨14, a, b, c⟩
  refine go_fn (tyOf_ok _) Try.func65 rfl rfl (by rw [Try.results65]) Try.ntmps65 rfl fun E => ?_
  (repeat' (first | exact trivial | (with_reducible first | apply awA | apply awB | apply awC | apply awD | apply awE | apply awF | apply awG | apply awH | apply awJ | apply awK | refine awM (by decide) ?_) | ((with_reducible first | apply awn | apply awo | refine awQ ?_ | refine awR ?_); intro r hr; simp only [go_sem, Nat.reduceBEq, Nat.reduceLT, Nat.reduceLeDiff, Nat.reduceAdd, Nat.reduceMul, Int.reduceEq] at hr; subst hr; (first | refine caC (h1) rfl ?_ ?_ ?_ | refine awV ?_ ?_ | refine endK ?_ ?_ | (refine condK (fun h => ?_) (fun h => ?_) <;> (try simp only [go_sem, reduceCtorEq] at h) <;> (try (exfalso; omega))))))) <;> (try omega)
  all_goals exact rfl
 by_cases h15 : op = 15
 ·subst h15
  simp only [if_true, if_false, Int.reduceEq, or_false, or_true, or_self]
  have h1 := rounds_any s ⟨15, a, b, c⟩
  refine go_fn (tyOf_ok _) Try.func65 rfl rfl (by rw [Try.results65]) Try.ntmps65 rfl fun E => ?_
  (repeat' (first | exact trivial | (with_reducible first | apply awA | apply awB | apply awC | apply awD | apply awE | apply awF | apply awG | apply awH | apply awJ | apply awK | refine awM (by decide) ?_) | ((with_reducible first | apply awn | apply awo | refine awQ ?_ | refine awR ?_); intro r hr; simp only [go_sem, Nat.reduceBEq, Nat.reduceLT, Nat.reduceLeDiff, Nat.reduceAdd, Nat.reduceMul, Int.reduceEq] at hr; subst hr; (first | refine caC (h1) rfl ?_ ?_ ?_ | refine awV ?_ ?_ | refine endK ?_ ?_ | (refine condK (fun h => ?_) (fun h => ?_) <;> (try simp only [go_sem, reduceCtorEq] at h) <;> (try (exfalso; omega))))))) <;> (try omega)
  all_goals exact rfl
 by_cases h18 : op = 18
 ·subst h18
  simp only [if_true, if_false, Int.reduceEq, or_true, or_self]
  have h1 := rounds_any s ⟨18, a, b, c⟩
  refine go_fn (tyOf_ok _) Try.func65 rfl rfl (by rw [Try.results65]) Try.ntmps65 rfl fun E => ?_
  (repeat' (first | exact trivial | (with_reducible first | apply awA | apply awB | apply awC | apply awD | apply awE | apply awF | apply awG | apply awH | apply awJ | apply awK | refine awM (by decide) ?_) | ((with_reducible first | apply awn | apply awo | refine awQ ?_ | refine awR ?_); intro r hr; simp only [go_sem, Nat.reduceBEq, Nat.reduceLT, Nat.reduceLeDiff, Nat.reduceAdd, Nat.reduceMul, Int.reduceEq] at hr; subst hr; (first | refine caC (h1) rfl ?_ ?_ ?_ | refine awV ?_ ?_ | refine endK ?_ ?_ | (refine condK (fun h => ?_) (fun h => ?_) <;> (try simp only [go_sem, reduceCtorEq] at h) <;> (try (exfalso; omega))))))) <;> (try omega)
  all_goals exact rfl
 by_cases h19 : op = 19
 ·subst h19
  simp only [if_true, if_false, Int.reduceEq, or_self]
  have hb := both_any s
  refine go_fn (tyOf_ok _) Try.func65 rfl rfl (by rw [Try.results65]) Try.ntmps65 rfl fun E => ?_
  (repeat' (first | exact trivial | (with_reducible first | apply awA | apply awB | apply awC | apply awD | apply awE | apply awF | apply awG | apply awH | apply awJ | apply awK | refine awM (by decide) ?_) | ((with_reducible first | apply awn | apply awo | refine awQ ?_ | refine awR ?_); intro r hr; simp only [go_sem, Nat.reduceBEq, Nat.reduceLT, Nat.reduceLeDiff, Nat.reduceAdd, Nat.reduceMul, Int.reduceEq] at hr; subst hr; (first | refine caC (hb) rfl ?_ ?_ ?_ | refine awV ?_ ?_ | refine endK ?_ ?_ | (refine condK (fun h => ?_) (fun h => ?_) <;> (try simp only [go_sem, reduceCtorEq] at h) <;> (try (exfalso; omega))))))) <;> (try omega)
  all_goals exact rfl
 by_cases h20 : op = 20
 ·subst h20
  simp only [if_true, if_false, Int.reduceEq, or_self]
  have h1 := over_any s
  refine go_fn (tyOf_ok _) Try.func65 rfl rfl (by rw [Try.results65]) Try.ntmps65 rfl fun E => ?_
  (repeat' (first | exact trivial | (with_reducible first | apply awA | apply awB | apply awC | apply awD | apply awE | apply awF | apply awG | apply awH | apply awJ | apply awK | refine awM (by decide) ?_) | ((with_reducible first | apply awn | apply awo | refine awQ ?_ | refine awR ?_); intro r hr; simp only [go_sem, Nat.reduceBEq, Nat.reduceLT, Nat.reduceLeDiff, Nat.reduceAdd, Nat.reduceMul, Int.reduceEq] at hr; subst hr; (first | refine caC (h1) rfl ?_ ?_ ?_ | refine awV ?_ ?_ | refine endK ?_ ?_ | (refine condK (fun h => ?_) (fun h => ?_) <;> (try simp only [go_sem, reduceCtorEq] at h) <;> (try (exfalso; omega))))))) <;> (try omega)
  all_goals exact rfl
 have e16 : (op = 16) = False := eq_false h16
 have e1 : (op = 1) = False := eq_false h1
 have e3 : (op = 3) = False := eq_false h3
 have e4 : (op = 4) = False := eq_false h4
 have e2 : (op = 2) = False := eq_false h2
 have e5 : (op = 5) = False := eq_false h5
 have e6 : (op = 6) = False := eq_false h6
 have e7 : (op = 7) = False := eq_false h7
 have e8 : (op = 8) = False := eq_false h8
 have e10 : (op = 10) = False := eq_false h10
 have e17 : (op = 17) = False := eq_false h17
 have e11 : (op = 11) = False := eq_false h11
 have e12 : (op = 12) = False := eq_false h12
 have e13 : (op = 13) = False := eq_false h13
 have e14 : (op = 14) = False := eq_false h14
 have e15 : (op = 15) = False := eq_false h15
 have e18 : (op = 18) = False := eq_false h18
 have e19 : (op = 19) = False := eq_false h19
 have e20 : (op = 20) = False := eq_false h20
 simp only [e16, e1, e3, e4, e2, e5, e6, e7, e8, e10, e17, e11, e12, e13, e14, e15, e18, e19, e20, or_self, if_false]
 refine go_fn (tyOf_ok _) Try.func65 rfl rfl (by rw [Try.results65]) Try.ntmps65 rfl fun E => ?_
 (repeat' (first | exact trivial | (with_reducible first | apply awA | apply awB | apply awC | apply awD | apply awE | apply awF | apply awH | apply awK | refine awM (by decide) ?_) | ((with_reducible first | apply awn | refine awQ ?_ | refine awR ?_); intro r hr; simp only [go_sem, Nat.reduceBEq, Nat.reduceLT, Nat.reduceLeDiff, Nat.reduceAdd, Nat.reduceMul, e16, e1, e3, e4, e2, e5, e6, e7, e8, e10, e17, e11, e12, e13, e14, e15, e18, e19, e20] at hr; subst hr; (first | refine awV ?_ ?_ | refine endK ?_ ?_ | (refine condK (fun h => ?_) (fun h => ?_) <;> (try simp only [go_sem, reduceCtorEq] at h) <;> (try (exfalso; omega))))))) <;> (try omega)
 all_goals exact rfl
end Go.Proofs.Ytjeplogcfedmeaa
end
section
namespace Go.Proofs.Ytjeplogcfedmeaa
open Go.RowKit
set_option maxRecDepth 100000
set_option maxHeartbeats 8000000
theorem encodes_any (s : StM) (x : InsM) (t : Int) : PCall Try.prog 64 [vSt s, vIns x, vI t] (fun r => r = .tup [vEf (encS s x t).1, vB (encS s x t).2]) := by
 obtain ⟨op, a, b, c⟩ := x
 unfold encS
 dsimp only
 by_cases h44 : op = 44
 ·subst h44
  simp only [reduceIte, Int.reduceEq, or_false, false_or, or_self, if_true]
  by_cases hc : t ≤ c
  ·have ec : (t ≤ c) = True := eq_true hc
   rw [if_pos hc]
   refine go_fn (tyOf_ok _) Try.func64 rfl rfl (by rw [Try.results64]) Try.ntmps64 rfl fun E => ?_
   (repeat' (first | exact trivial | (with_reducible first | apply awA | apply awB | apply awC | apply awD | apply awE | apply awF | apply awG | apply awH | apply awJ | apply awK) | ((with_reducible first | apply awn | refine awQ ?_ | refine awR ?_); intro r hr; simp only [go_sem, Nat.reduceBEq, Nat.reduceLT, Nat.reduceLeDiff, Nat.reduceAdd, Nat.reduceMul, ec] at hr; subst hr; (first | refine awV ?_ ?_ | refine endK ?_ ?_ | (refine condK (fun h => ?_) (fun h => ?_) <;> (try simp only [go_sem, reduceCtorEq] at h) <;> (try (exfalso; omega))))))) <;> (try omega)
   all_goals exact rfl
  ·have ec : (t ≤ c) = False := eq_false hc
   rw [if_neg hc]
   simp only [false_and, if_false]
   have h1 := take_any s 1
   generalize s.take 1 = q at h1 ⊢
   obtain ⟨f1, o1⟩ := q
   have h2 := turn_any s
   generalize s.turn = q at h2 ⊢
   obtain ⟨f2, o2⟩ := q
   have b1 := both_any f1
   have b2 := both_any f2
   dsimp only
   refine go_fn (tyOf_ok _) Try.func64 rfl rfl (by rw [Try.results64]) Try.ntmps64 rfl fun E => ?_
   (repeat' (first | exact trivial | (with_reducible first | apply awA | apply awB | apply awC | apply awD | apply awE | apply awF | apply awG | apply awH | apply awI | apply awJ | apply awK) | ((with_reducible first | apply awn | apply awo | refine awQ ?_ | refine awR ?_); intro r hr; simp only [go_sem, Nat.reduceBEq, Nat.reduceLT, Nat.reduceLeDiff, Nat.reduceAdd, Nat.reduceMul, reduceCtorEq, ec, Int.reduceEq] at hr; subst hr; (first | refine caC (h1) rfl ?_ ?_ ?_ | refine caC (h2) rfl ?_ ?_ ?_ | refine caC (b1) rfl ?_ ?_ ?_ | refine awV ?_ ?_ | refine endK ?_ ?_ | (refine condK (fun h => ?_) (fun h => ?_) <;> (try simp only [go_sem, reduceCtorEq] at h) <;> (try (exfalso; omega))))))) <;> (try omega)
   all_goals exact rfl
 by_cases h45 : op = 45
 ·subst h45
  simp only [reduceIte, Int.reduceEq, or_false, or_true, true_or, or_self, if_true]
  by_cases hc : t ≤ c
  ·have ec : (t ≤ c) = True := eq_true hc
   rw [if_pos hc]
   refine go_fn (tyOf_ok _) Try.func64 rfl rfl (by rw [Try.results64]) Try.ntmps64 rfl fun E => ?_
   (repeat' (first | exact trivial | (with_reducible first | apply awA | apply awB | apply awC | apply awD | apply awE | apply awF | apply awG | apply awH | apply awJ | apply awK) | ((with_reducible first | apply awn | refine awQ ?_ | refine awR ?_); intro r hr; simp only [go_sem, Nat.reduceBEq, Nat.reduceLT, Nat.reduceLeDiff, Nat.reduceAdd, Nat.reduceMul, ec, Int.reduceEq] at hr; subst hr; (first | refine awV ?_ ?_ | refine endK ?_ ?_ | (refine condK (fun h => ?_) (fun h => ?_) <;> (try simp only [go_sem, reduceCtorEq] at h) <;> (try (exfalso; omega))))))) <;> (try omega)
   all_goals exact rfl
  ·have ec : (t ≤ c) = False := eq_false hc
   rw [if_neg hc]
   simp only [reduceIte]
   have h1 := take_any s 1
   generalize s.take 1 = q at h1 ⊢
   obtain ⟨f1, o1⟩ := q
   have h2 := turn_any s
   generalize s.turn = q at h2 ⊢
   obtain ⟨f2, o2⟩ := q
   have b1 := both_any f1
   have b2 := both_any f2
   dsimp only
   refine go_fn (tyOf_ok _) Try.func64 rfl rfl (by rw [Try.results64]) Try.ntmps64 rfl fun E => ?_
   (repeat' (first | exact trivial | (with_reducible first | apply awA | apply awB | apply awC | apply awD | apply awE | apply awF | apply awG | apply awH | apply awI | apply awJ | apply awK) | ((with_reducible first | apply awn | apply awo | refine awQ ?_ | refine awR ?_); intro r hr; simp only [go_sem, Nat.reduceBEq, Nat.reduceLT, Nat.reduceLeDiff, Nat.reduceAdd, Nat.reduceMul, reduceCtorEq, ec, Int.reduceEq] at hr; subst hr; (first | refine caC (h1) rfl ?_ ?_ ?_ | refine caC (h2) rfl ?_ ?_ ?_ | refine caC (b2) rfl ?_ ?_ ?_ | refine awV ?_ ?_ | refine endK ?_ ?_ | (refine condK (fun h => ?_) (fun h => ?_) <;> (try simp only [go_sem, reduceCtorEq] at h) <;> (try (exfalso; omega))))))) <;> (try omega)
   all_goals exact rfl
 by_cases h46 : op = 46
 ·subst h46
  simp only [reduceIte, Int.reduceEq, false_or, or_true, or_self, if_true]
  by_cases hc : t ≤ c
  ·have ec : (t ≤ c) = True := eq_true hc
   rw [if_pos hc]
   refine go_fn (tyOf_ok _) Try.func64 rfl rfl (by rw [Try.results64]) Try.ntmps64 rfl fun E => ?_
   (repeat' (first | exact trivial | (with_reducible first | apply awA | apply awB | apply awD | apply awE | apply awF | apply awG | apply awH | apply awJ | apply awK) | ((with_reducible first | apply awn | refine awQ ?_ | refine awR ?_); intro r hr; simp only [go_sem, Nat.reduceBEq, Nat.reduceLT, Nat.reduceLeDiff, Nat.reduceAdd, Nat.reduceMul, ec, Int.reduceEq] at hr; subst hr; (first | refine awV ?_ ?_ | refine endK ?_ ?_ | (refine condK (fun h => ?_) (fun h => ?_) <;> (try simp only [go_sem, reduceCtorEq] at h) <;> (try (exfalso; omega))))))) <;> (try omega)
   all_goals exact rfl
  ·have ec : (t ≤ c) = False := eq_false hc
   rw [if_neg hc]
   by_cases h7 : s.place = 7
   ·have e7 : (s.place = 7) = True := eq_true h7
    simp only [e7, and_self, if_true]
    have h1 := take_any s 1
    generalize s.take 1 = q at h1 ⊢
    obtain ⟨f1, o1⟩ := q
    have h2 := turn_any s
    generalize s.turn = q at h2 ⊢
    obtain ⟨f2, o2⟩ := q
    have b1 := both_any f1
    have b2 := both_any f2
    dsimp only
    refine go_fn (tyOf_ok _) Try.func64 rfl rfl (by rw [Try.results64]) Try.ntmps64 rfl fun E => ?_
    (repeat' (first | exact trivial | (with_reducible first | apply awA | apply awB | apply awC | apply awD | apply awE | apply awF | apply awG | apply awH | apply awI | apply awJ | apply awK) | ((with_reducible first | apply awn | apply awo | refine awQ ?_ | refine awR ?_); intro r hr; simp only [go_sem, Nat.reduceBEq, Nat.reduceLT, Nat.reduceLeDiff, Nat.reduceAdd, Nat.reduceMul, reduceCtorEq, ec, e7, Int.reduceEq] at hr; subst hr; (first | refine caC (h1) rfl ?_ ?_ ?_ | refine caC (h2) rfl ?_ ?_ ?_ | refine caC (b2) rfl ?_ ?_ ?_ | refine awV ?_ ?_ | refine endK ?_ ?_ | (refine condK (fun h => ?_) (fun h => ?_) <;> (try simp only [go_sem, reduceCtorEq] at h) <;> (try (exfalso; omega))))))) <;> (try omega)
    all_goals exact rfl
   ·have e7 : (s.place = 7) = False := eq_false h7
    simp only [e7, and_false, if_false]
    have h1 := take_any s 1
    generalize s.take 1 = q at h1 ⊢
    obtain ⟨f1, o1⟩ := q
    have h2 := turn_any s
    generalize s.turn = q at h2 ⊢
    obtain ⟨f2, o2⟩ := q
    have b1 := both_any f1
    have b2 := both_any f2
    dsimp only
    refine go_fn (tyOf_ok _) Try.func64 rfl rfl (by rw [Try.results64]) Try.ntmps64 rfl fun E => ?_
    (repeat' (first | exact trivial | (with_reducible first | apply awA | apply awB | apply awC | apply awD | apply awE | apply awF | apply awG | apply awH | apply awI | apply awJ | apply awK) | ((with_reducible first | apply awn | apply awo | refine awQ ?_ | refine awR ?_); intro r hr; simp only [go_sem, Nat.reduceBEq, Nat.reduceLT, Nat.reduceLeDiff, Nat.reduceAdd, Nat.reduceMul, reduceCtorEq, ec, e7, Int.reduceEq] at hr; subst hr; (first | refine caC (h1) rfl ?_ ?_ ?_ | refine caC (h2) rfl ?_ ?_ ?_ | refine caC (b1) rfl ?_ ?_ ?_ | refine awV ?_ ?_ | refine endK ?_ ?_ | (refine condK (fun h => ?_) (fun h => ?_) <;> (try simp only [go_sem, reduceCtorEq] at h) <;> (try (exfalso; omega))))))) <;> (try omega)
    all_goals exact rfl
 by_cases h33 : op = 33
 ·subst h33
  simp only [Int.reduceEq, or_false, false_or, or_self, if_true, if_false]
  by_cases ha : a = -1
  ·have ea : (a = -1) = True := eq_true ha
   rw [if_pos ha]
   have h1 := take_any s 1
   generalize s.take 1 = q at h1 ⊢
   obtain ⟨f1, o1⟩ := q
   have h2 := turn_any s
   generalize s.turn = q at h2 ⊢
   obtain ⟨f2, o2⟩ := q
   have b1 := both_any f1
   have b2 := both_any f2
   dsimp only
   refine go_fn (tyOf_ok _) Try.func64 rfl rfl (by rw [Try.results64]) Try.ntmps64 rfl fun E => ?_
   (repeat' (first | exact trivial | (with_reducible first | apply awA | apply awB | apply awC | apply awD | apply awE | apply awF | apply awG | apply awH | apply awJ | apply awK | refine awM (by decide) ?_) | ((with_reducible first | apply awn | apply awo | refine awQ ?_ | refine awR ?_); intro r hr; simp only [go_sem, Nat.reduceBEq, Nat.reduceLT, Nat.reduceLeDiff, Nat.reduceAdd, Nat.reduceMul, ea, Int.reduceEq] at hr; subst hr; (first | refine caC (h1) rfl ?_ ?_ ?_ | refine caC (h2) rfl ?_ ?_ ?_ | refine caC (b2) rfl ?_ ?_ ?_ | refine awV ?_ ?_ | refine endK ?_ ?_ | (refine condK (fun h => ?_) (fun h => ?_) <;> (try simp only [go_sem, reduceCtorEq] at h) <;> (try (exfalso; omega))))))) <;> (try omega)
   all_goals exact rfl
  ·have ea : (a = -1) = False := eq_false ha
   rw [if_neg ha]
   have h1 := take_any s 1
   generalize s.take 1 = q at h1 ⊢
   obtain ⟨f1, o1⟩ := q
   have h2 := turn_any s
   generalize s.turn = q at h2 ⊢
   obtain ⟨f2, o2⟩ := q
   have b1 := both_any f1
   have b2 := both_any f2
   dsimp only
   refine go_fn (tyOf_ok _) Try.func64 rfl rfl (by rw [Try.results64]) Try.ntmps64 rfl fun E => ?_
   (repeat' (first | exact trivial | (with_reducible first | apply awA | apply awB | apply awC | apply awD | apply awE | apply awF | apply awG | apply awH | apply awJ | apply awK | refine awM (by decide) ?_) | ((with_reducible first | apply awn | apply awo | refine awQ ?_ | refine awR ?_); intro r hr; simp only [go_sem, Nat.reduceBEq, Nat.reduceLT, Nat.reduceLeDiff, Nat.reduceAdd, Nat.reduceMul, ea, Int.reduceEq] at hr; subst hr; (first | refine caC (h1) rfl ?_ ?_ ?_ | refine caC (h2) rfl ?_ ?_ ?_ | refine caC (b1) rfl ?_ ?_ ?_ | refine awV ?_ ?_ | refine endK ?_ ?_ | (refine condK (fun h => ?_) (fun h => ?_) <;> (try simp only [go_sem, reduceCtorEq] at h) <;> (try (exfalso; omega))))))) <;> (try omega)
   all_goals exact rfl
 by_cases h35 : op = 35
 ·subst h35
  simp only [Int.reduceEq, or_false, false_or, or_true, or_self, if_true, if_false]
  by_cases ha : a = -1
  ·have ea : (a = -1) = True := eq_true ha
   rw [if_pos ha]
   have h1 := take_any s 1
   generalize s.take 1 = q at h1 ⊢
   obtain ⟨f1, o1⟩ := q
   have h2 := turn_any s
   generalize s.turn = q at h2 ⊢
   obtain ⟨f2, o2⟩ := q
   have b1 := both_any f1
   have b2 := both_any f2
   dsimp only
   refine go_fn (tyOf_ok _) Try.func64 rfl rfl (by rw [Try.results64]) Try.ntmps64 rfl fun E => ?_
   (repeat' (first | exact trivial | (with_reducible first | apply awA | apply awB | apply awC | apply awD | apply awE | apply awF | apply awG | apply awH | apply awJ | apply awK | refine awM (by decide) ?_) | ((with_reducible first | apply awn | apply awo | refine awQ ?_ | refine awR ?_); intro r hr; simp only [go_sem, Nat.reduceBEq, Nat.reduceLT, Nat.reduceLeDiff, Nat.reduceAdd, Nat.reduceMul, ea, Int.reduceEq] at hr; subst hr; (first | refine caC (h1) rfl ?_ ?_ ?_ | refine caC (h2) rfl ?_ ?_ ?_ | refine caC (b2) rfl ?_ ?_ ?_ | refine awV ?_ ?_ | refine endK ?_ ?_ | (refine condK (fun h => ?_) (fun h => ?_) <;> (try simp only [go_sem, reduceCtorEq] at h) <;> (try (exfalso; omega))))))) <;> (try omega)
   all_goals exact rfl
  ·have ea : (a = -1) = False := eq_false ha
   rw [if_neg ha]
   have h1 := take_any s 1
   generalize s.take 1 = q at h1 ⊢
   obtain ⟨f1, o1⟩ := q
   have h2 := turn_any s
   generalize s.turn = q at h2 ⊢
   obtain ⟨f2, o2⟩ := q
   have b1 := both_any f1
   have b2 := both_any f2
   dsimp only
   refine go_fn (tyOf_ok _) Try.func64 rfl rfl (by rw [Try.results64]) Try.ntmps64 rfl fun E => ?_
   (repeat' (first | exact trivial | (with_reducible first | apply awA | apply awB | apply awC | apply awD | apply awE | apply awF | apply awG | apply awH | apply awJ | apply awK | refine awM (by decide) ?_) | ((with_reducible first | apply awn | apply awo | refine awQ ?_ | refine awR ?_); intro r hr; simp only [go_sem, Nat.reduceBEq, Nat.reduceLT, Nat.reduceLeDiff, Nat.reduceAdd, Nat.reduceMul, ea, Int.reduceEq] at hr; subst hr; (first | refine caC (h1) rfl ?_ ?_ ?_ | refine caC (h2) rfl ?_ ?_ ?_ | refine caC (b1) rfl ?_ ?_ ?_ | refine awV ?_ ?_ | refine endK ?_ ?_ | (refine condK (fun h => ?_) (fun h => ?_) <;> (try simp only [go_sem, reduceCtorEq] at h) <;> (try (exfalso; omega))))))) <;> (try omega)
   all_goals exact rfl
 by_cases h36 : op = 36
 ·subst h36
  simp only [Int.reduceEq, false_or, or_true, or_self, if_true, if_false]
  by_cases ha : a = -1
  ·have ea : (a = -1) = True := eq_true ha
   rw [if_pos ha]
   have h1 := take_any s 1
   generalize s.take 1 = q at h1 ⊢
   obtain ⟨f1, o1⟩ := q
   have h2 := turn_any s
   generalize s.turn = q at h2 ⊢
   obtain ⟨f2, o2⟩ := q
   have b1 := both_any f1
   have b2 := both_any f2
   dsimp only
   refine go_fn (tyOf_ok _) Try.func64 rfl rfl (by rw [Try.results64]) Try.ntmps64 rfl fun E => ?_
   (repeat' (first | exact trivial | (with_reducible first | apply awA | apply awB | apply awC | apply awD | apply awE | apply awF | apply awG | apply awH | apply awJ | apply awK | refine awM (by decide) ?_) | ((with_reducible first | apply awn | apply awo | refine awQ ?_ | refine awR ?_); intro r hr; simp only [go_sem, Nat.reduceBEq, Nat.reduceLT, Nat.reduceLeDiff, Nat.reduceAdd, Nat.reduceMul, ea, Int.reduceEq] at hr; subst hr; (first | refine caC (h1) rfl ?_ ?_ ?_ | refine caC (h2) rfl ?_ ?_ ?_ | refine caC (b2) rfl ?_ ?_ ?_ | refine awV ?_ ?_ | refine endK ?_ ?_ | (refine condK (fun h => ?_) (fun h => ?_) <;> (try simp only [go_sem, reduceCtorEq] at h) <;> (try (exfalso; omega))))))) <;> (try omega)
   all_goals exact rfl
  ·have ea : (a = -1) = False := eq_false ha
   rw [if_neg ha]
   have h1 := take_any s 1
   generalize s.take 1 = q at h1 ⊢
   obtain ⟨f1, o1⟩ := q
   have h2 := turn_any s
   generalize s.turn = q at h2 ⊢
   obtain ⟨f2, o2⟩ := q
   have b1 := both_any f1
   have b2 := both_any f2
   dsimp only
   refine go_fn (tyOf_ok _) Try.func64 rfl rfl (by rw [Try.results64]) Try.ntmps64 rfl fun E => ?_
   (repeat' (first | exact trivial | (with_reducible first | apply awA | apply awB | apply awC | apply awD | apply awE | apply awF | apply awG | apply awH | apply awJ | apply awK | refine awM (by decide) ?_) | ((with_reducible first | apply awn | apply awo | refine awQ ?_ | refine awR ?_); intro r hr; simp only [go_sem, Nat.reduceBEq, Nat.reduceLT, Nat.reduceLeDiff, Nat.reduceAdd, Nat.reduceMul, ea, Int.reduceEq] at hr; subst hr; (first | refine caC (h1) rfl ?_ ?_ ?_ | refine caC (h2) rfl ?_ ?_ ?_ | refine caC (b1) rfl ?_ ?_ ?_ | refine awV ?_ ?_ | refine endK ?_ ?_ | (refine condK (fun h => ?_) (fun h => ?_) <;> (try simp only [go_sem, reduceCtorEq] at h) <;> (try (exfalso; omega))))))) <;> (try omega)
   all_goals exact rfl
 by_cases h34 : op = 34
 ·subst h34
  simp only [Int.reduceEq, false_or, or_self, if_true, if_false]
  have h1 := take_any s b
  generalize s.take b = q at h1 ⊢
  obtain ⟨f1, o1⟩ := q
  have b1 := both_any f1
  dsimp only
  refine go_fn (tyOf_ok _) Try.func64 rfl rfl (by rw [Try.results64]) Try.ntmps64 rfl fun E => ?_
  (repeat' (first | exact trivial | (with_reducible first | apply awA | apply awB | apply awC | apply awD | apply awE | apply awF | apply awG | apply awH | apply awJ | apply awK | refine awM (by decide) ?_) | (refine aw_draw (id := 29) (t := (.node [0, 2, 1, 3, 4, 5, 6, 7, 8, 9] [])) (drR [12, 3] [] []) mixed (by kernel_rfl) (by kernel_rfl) (fun _ _ h => h) ?_) | (refine at_done (by simp only [go_sem]; exact rfl) ?_) | (refine at_alt (by simp only [go_sem]; exact rfl) ?_) | refine qalt_normal ?_ | refine ats_cons ?_ ?_ | exact ats_nil | ((with_reducible first | apply awn | apply awo | apply awp | refine awQ ?_ | refine awR ?_); intro r hr; simp only [go_sem, Nat.reduceBEq, Nat.reduceLT, Nat.reduceLeDiff, Nat.reduceAdd, Nat.reduceMul, reduceCtorEq, Int.reduceEq] at hr; subst hr; (first | refine caC (h1) rfl ?_ ?_ ?_ | refine caC (b1) rfl ?_ ?_ ?_ | refine awV ?_ ?_ | refine endK ?_ ?_ | (refine condK (fun h => ?_) (fun h => ?_) <;> (try simp only [go_sem, reduceCtorEq] at h) <;> (try (exfalso; omega))))))) <;> (try omega)
  all_goals exact rfl
 by_cases h37 : op = 37
 ·subst h37
  simp only [Int.reduceEq, false_or, or_self, if_true, if_false]
  have b1 := both_any ⟨7, 0, 0, 0, 2, 0⟩
  refine go_fn (tyOf_ok _) Try.func64 rfl rfl (by rw [Try.results64]) Try.ntmps64 rfl fun E => ?_
  (repeat' (first | exact trivial | (with_reducible first | apply awA | apply awB | apply awC | apply awD | apply awE | apply awF | apply awG | apply awH | apply awJ | apply awK | refine awM (by decide) ?_) | ((with_reducible first | apply awn | apply awo | refine awQ ?_ | refine awR ?_); intro r hr; simp only [go_sem, Nat.reduceBEq, Nat.reduceLT, Nat.reduceLeDiff, Nat.reduceAdd, Nat.reduceMul, Int.reduceEq] at hr; subst hr; (first | refine caC (b1) rfl ?_ ?_ ?_ | refine awV ?_ ?_ | refine endK ?_ ?_ | (refine condK (fun h => ?_) (fun h => ?_) <;> (try simp only [go_sem, reduceCtorEq] at h) <;> (try (exfalso; omega))))))) <;> (try omega)
  all_goals exact rfl
 by_cases h38 : op = 38
 ·subst h38
  simp only [Int.reduceEq, false_or, or_self, if_true, if_false]
  have b1 := both_any ⟨7, 0, 0, 0, 0, 0⟩
  refine go_fn (tyOf_ok _) Try.func64 rfl rfl (by rw [Try.results64]) Try.ntmps64 rfl fun E => ?_
  (repeat' (first | exact trivial | (with_reducible first | apply awA | apply awB | apply awC | apply awD | apply awE | apply awF | apply awG | apply awH | apply awJ | apply awK | refine awM (by decide) ?_) | ((with_reducible first | apply awn | apply awo | refine awQ ?_ | refine awR ?_); intro r hr; simp only [go_sem, Nat.reduceBEq, Nat.reduceLT, Nat.reduceLeDiff, Nat.reduceAdd, Nat.reduceMul, Int.reduceEq] at hr; subst hr; (first | refine caC (b1) rfl ?_ ?_ ?_ | refine awV ?_ ?_ | refine endK ?_ ?_ | (refine condK (fun h => ?_) (fun h => ?_) <;> (try simp only [go_sem, reduceCtorEq] at h) <;> (try (exfalso; omega))))))) <;> (try omega)
  all_goals exact rfl
 by_cases h39 : op = 39
 ·subst h39
  simp only [Int.reduceEq, false_or, or_self, if_true, if_false]
  have b1 := both_any ⟨6, 0, 0, 0, 0, a⟩
  refine go_fn (tyOf_ok _) Try.func64 rfl rfl (by rw [Try.results64]) Try.ntmps64 rfl fun E => ?_
  (repeat' (first | exact trivial | (with_reducible first | apply awA | apply awB | apply awC | apply awD | apply awE | apply awF | apply awG | apply awH | apply awJ | apply awK | refine awM (by decide) ?_) | ((with_reducible first | apply awn | apply awo | refine awQ ?_ | refine awR ?_); intro r hr; simp only [go_sem, Nat.reduceBEq, Nat.reduceLT, Nat.reduceLeDiff, Nat.reduceAdd, Nat.reduceMul, Int.reduceEq] at hr; subst hr; (first | refine caC (b1) rfl ?_ ?_ ?_ | refine awV ?_ ?_ | refine endK ?_ ?_ | (refine condK (fun h => ?_) (fun h => ?_) <;> (try simp only [go_sem, reduceCtorEq] at h) <;> (try (exfalso; omega))))))) <;> (try omega)
  all_goals exact rfl
 by_cases h40 : op = 40
 ·subst h40
  simp only [Int.reduceEq, false_or, or_self, if_true, if_false]
  refine go_fn (tyOf_ok _) Try.func64 rfl rfl (by rw [Try.results64]) Try.ntmps64 rfl fun E => ?_
  (repeat' (first | exact trivial | (with_reducible first | apply awA | apply awB | apply awC | apply awD | apply awE | apply awF | apply awG | apply awH | apply awJ | apply awK | refine awM (by decide) ?_) | ((with_reducible first | apply awn | refine awQ ?_ | refine awR ?_); intro r hr; simp only [go_sem, Nat.reduceBEq, Nat.reduceLT, Nat.reduceLeDiff, Nat.reduceAdd, Nat.reduceMul, Int.reduceEq] at hr; subst hr; (first | refine awV ?_ ?_ | refine endK ?_ ?_ | (refine condK (fun h => ?_) (fun h => ?_) <;> (try simp only [go_sem, reduceCtorEq] at h) <;> (try (exfalso; omega))))))) <;> (try omega)
  all_goals exact rfl
 by_cases h41 : op = 41
 ·subst h41
  simp only [Int.reduceEq, false_or, or_self, if_true, if_false]
  have b1 := both_any ⟨6, 0, 0, 0, 0, 1⟩
  refine go_fn (tyOf_ok _) Try.func64 rfl rfl (by rw [Try.results64]) Try.ntmps64 rfl fun E => ?_
  (repeat' (first | exact trivial | (with_reducible first | apply awA | apply awB | apply awC | apply awD | apply awE | apply awF | apply awG | apply awH | apply awJ | apply awK | refine awM (by decide) ?_) | ((with_reducible first | apply awn | apply awo | refine awQ ?_ | refine awR ?_); intro r hr; simp only [go_sem, Nat.reduceBEq, Nat.reduceLT, Nat.reduceLeDiff, Nat.reduceAdd, Nat.reduceMul, Int.reduceEq] at hr; subst hr; (first | refine caC (b1) rfl ?_ ?_ ?_ | refine awV ?_ ?_ | refine endK ?_ ?_ | (refine condK (fun h => ?_) (fun h => ?_) <;> (try simp only [go_sem, reduceCtorEq] at h) <;> (try (exfalso; omega))))))) <;> (try omega)
  all_goals exact rfl
 by_cases h42 : op = 42
 ·subst h42
  simp only [Int.reduceEq, false_or, or_self, if_true, if_false]
  have b1 := both_any s
  refine go_fn (tyOf_ok _) Try.func64 rfl rfl (by rw [Try.results64]) Try.ntmps64 rfl fun E => ?_
  (repeat' (first | exact trivial | (with_reducible first | apply awA | apply awB | apply awC | apply awD | apply awE | apply awF | apply awG | apply awH | apply awJ | apply awK | refine awM (by decide) ?_) | (refine aw_draw (id := 35) (t := (.node [0, 2, 3, 4, 1, 5, 6, 7, 8, 9, 10, 11, 12, 13, 14, 15] [])) (drR [3] [] []) mixed (by kernel_rfl) (by kernel_rfl) (fun _ _ h => h) ?_) | (refine at_done (by simp only [go_sem]; exact rfl) ?_) | (refine at_alt (by simp only [go_sem]; exact rfl) ?_) | refine qalt_normal ?_ | refine ats_cons ?_ ?_ | exact ats_nil | ((with_reducible first | apply awn | apply awp | refine awQ ?_ | refine awR ?_); intro r hr; simp only [go_sem, Nat.reduceBEq, Nat.reduceLT, Nat.reduceLeDiff, Nat.reduceAdd, Nat.reduceMul, Int.reduceEq] at hr; subst hr; (first | refine caC (b1) rfl ?_ ?_ ?_ | refine awV ?_ ?_ | refine endK ?_ ?_ | (refine condK (fun h => ?_) (fun h => ?_) <;> (try simp only [go_sem, reduceCtorEq] at h) <;> (try (exfalso; omega))))))) <;> (try omega)
  all_goals exact rfl
 by_cases h43 : op = 43
 ·subst h43
  simp only [Int.reduceEq, false_or, or_self, if_true, if_false]
  have b1 := both_any s
  refine go_fn (tyOf_ok _) Try.func64 rfl rfl (by rw [Try.results64]) Try.ntmps64 rfl fun E => ?_
  (repeat' (first | exact trivial | (with_reducible first | apply awA | apply awB | apply awC | apply awD | apply awE | apply awF | apply awG | apply awH | apply awJ | apply awK | refine awM (by decide) ?_) | (refine aw_draw (id := 36) (t := (.node [0, 2, 3, 4, 1, 5, 6, 7, 8, 9, 10, 11, 12, 13, 14, 15, 16, 17, 18, 19, 20, 21, 22, 23] [])) (drR [3] [] []) mixed (by kernel_rfl) (by kernel_rfl) (fun _ _ h => h) ?_) | (refine at_done (by simp only [go_sem]; exact rfl) ?_) | (refine at_alt (by simp only [go_sem]; exact rfl) ?_) | refine qalt_normal ?_ | refine ats_cons ?_ ?_ | exact ats_nil | ((with_reducible first | apply awn | apply awp | refine awQ ?_ | refine awR ?_); intro r hr; simp only [go_sem, Nat.reduceBEq, Nat.reduceLT, Nat.reduceLeDiff, Nat.reduceAdd, Nat.reduceMul, Int.reduceEq] at hr; subst hr; (first | refine caC (b1) rfl ?_ ?_ ?_ | refine awV ?_ ?_ | refine endK ?_ ?_ | (refine condK (fun h => ?_) (fun h => ?_) <;> (try simp only [go_sem, reduceCtorEq] at h) <;> (try (exfalso; omega))))))) <;> (try omega)
  all_goals exact rfl
 by_cases h47 : op = 47
 ·subst h47
  simp only [Int.reduceEq, false_or, or_self, if_true, if_false]
  refine go_fn (tyOf_ok _) Try.func64 rfl rfl (by rw [Try.results64]) Try.ntmps64 rfl fun E => ?_
  (repeat' (first | exact trivial | (with_reducible first | apply awA | apply awB | apply awC | apply awD | apply awE | apply awF | apply awG | apply awH | apply awJ | apply awK | refine awM (by decide) ?_) | (refine aw_draw (id := 37) (t := (.node [0, 1, 2, 3, 4, 5, 6, 7] [])) (drR [3] [] []) mixed (by kernel_rfl) (by kernel_rfl) (fun _ _ h => h) ?_) | (refine at_done (by simp only [go_sem]; exact rfl) ?_) | (refine at_alt (by simp only [go_sem]; exact rfl) ?_) | refine qalt_normal ?_ | refine ats_cons ?_ ?_ | exact ats_nil | ((with_reducible first | apply awn | apply awp | refine awQ ?_ | refine awR ?_); intro r hr; simp only [go_sem, Nat.reduceBEq, Nat.reduceLT, Nat.reduceLeDiff, Nat.reduceAdd, Nat.reduceMul, Int.reduceEq] at hr; subst hr; (first | refine awV ?_ ?_ | refine endK ?_ ?_ | (refine condK (fun h => ?_) (fun h => ?_) <;> (try simp only [go_sem, reduceCtorEq] at h) <;> (try (exfalso; omega))))))) <;> (try omega)
  all_goals exact rfl
 by_cases h19 : op = 19
 ·subst h19
  simp only [Int.reduceEq, false_or, or_self, if_true, if_false]
  have b1 := both_any s
  refine go_fn (tyOf_ok _) Try.func64 rfl rfl (by rw [Try.results64]) Try.ntmps64 rfl fun E => ?_
  (repeat' (first | exact trivial | (with_reducible first | apply awA | apply awB | apply awC | apply awD | apply awE | apply awF | apply awG | apply awH | apply awJ | apply awK | refine awM (by decide) ?_) | ((with_reducible first | apply awn | apply awo | refine awQ ?_ | refine awR ?_); intro r hr; simp only [go_sem, Nat.reduceBEq, Nat.reduceLT, Nat.reduceLeDiff, Nat.reduceAdd, Nat.reduceMul, Int.reduceEq] at hr; subst hr; (first | refine caC (b1) rfl ?_ ?_ ?_ | refine awV ?_ ?_ | refine endK ?_ ?_ | (refine condK (fun h => ?_) (fun h => ?_) <;> (try simp only [go_sem, reduceCtorEq] at h) <;> (try (exfalso; omega))))))) <;> (try omega)
  all_goals exact rfl
 by_cases h20 : op = 20
 ·subst h20
  simp only [Int.reduceEq, false_or, or_self, if_true, if_false]
  have h1 := over_any s
  by_cases h6 : s.place = 6
  ·have e6 : (s.place = 6) = True := eq_true h6
   rw [decide_eq_true h6, Bool.true_and]
   refine go_fn (tyOf_ok _) Try.func64 rfl rfl (by rw [Try.results64]) Try.ntmps64 rfl fun E => ?_
   (repeat' (first | exact trivial | (with_reducible first | apply awA | apply awB | apply awC | apply awD | apply awE | apply awF | apply awG | apply awH | apply awJ | apply awK | refine awM (by decide) ?_) | ((with_reducible first | apply awn | apply awo | refine awQ ?_ | refine awR ?_); intro r hr; simp only [go_sem, Nat.reduceBEq, Nat.reduceLT, Nat.reduceLeDiff, Nat.reduceAdd, Nat.reduceMul, reduceCtorEq, e6, Int.reduceEq] at hr; subst hr; (first | refine caA (fun _ => over_any s) rfl ?_ ?_ ?_ | refine awV ?_ ?_ | refine endK ?_ ?_ | (refine condK (fun h => ?_) (fun h => ?_) <;> (try simp only [go_sem, reduceCtorEq] at h) <;> (try (exfalso; omega))))))) <;> (try omega)
   all_goals exact rfl
  ·have e6 : (s.place = 6) = False := eq_false h6
   rw [decide_eq_false h6, Bool.false_and]
   refine go_fn (tyOf_ok _) Try.func64 rfl rfl (by rw [Try.results64]) Try.ntmps64 rfl fun E => ?_
   (repeat' (first | exact trivial | (with_reducible first | apply awA | apply awB | apply awC | apply awD | apply awE | apply awF | apply awG | apply awH | apply awJ | apply awK | refine awM (by decide) ?_) | ((with_reducible first | apply awn | apply awo | refine awQ ?_ | refine awR ?_); intro r hr; simp only [go_sem, Nat.reduceBEq, Nat.reduceLT, Nat.reduceLeDiff, Nat.reduceAdd, Nat.reduceMul, reduceCtorEq, e6, Int.reduceEq] at hr; subst hr; (first | refine awV ?_ ?_ | refine awW ?_ ?_ | refine endK ?_ ?_ | (refine condK (fun h => ?_) (fun h => ?_) <;> (try simp only [go_sem, reduceCtorEq] at h) <;> (try (exfalso; omega))))) | (refine al_skipC (vB true) rfl rfl ⟨by decide, by decide⟩ ?_))) <;> (try omega)
   all_goals exact rfl
 have e44 : (op = 44) = False := eq_false h44
 have e45 : (op = 45) = False := eq_false h45
 have e46 : (op = 46) = False := eq_false h46
 have e33 : (op = 33) = False := eq_false h33
 have e35 : (op = 35) = False := eq_false h35
 have e36 : (op = 36) = False := eq_false h36
 have e34 : (op = 34) = False := eq_false h34
 have e37 : (op = 37) = False := eq_false h37
 have e38 : (op = 38) = False := eq_false h38
 have e39 : (op = 39) = False := eq_false h39
 have e40 : (op = 40) = False := eq_false h40
 have e41 : (op = 41) = False := eq_false h41
 have e42 : (op = 42) = False := eq_false h42
 have e43 : (op = 43) = False := eq_false h43
 have e47 : (op = 47) = False := eq_false h47
 have e19 : (op = 19) = False := eq_false h19
 have e20 : (op = 20) = False := eq_false h20
 simp only [e44, e45, e46, e33, e35, e36, e34, e37, e38, e39, e40, e41, e42, e43, e47, e19, e20, or_self, if_false]
 refine go_fn (tyOf_ok _) Try.func64 rfl rfl (by rw [Try.results64]) Try.ntmps64 rfl fun E => ?_
 (repeat' (first | exact trivial | (with_reducible first | apply awA | apply awB | apply awC | apply awD | apply awE | apply awF | apply awH | apply awK | refine awM (by decide) ?_) | ((with_reducible first | apply awn | refine awQ ?_ | refine awR ?_); intro r hr; simp only [go_sem, Nat.reduceBEq, Nat.reduceLT, Nat.reduceLeDiff, Nat.reduceAdd, Nat.reduceMul, e44, e45, e46, e33, e35, e36, e34, e37, e38, e39, e40, e41, e42, e43, e47, e19, e20] at hr; subst hr; (first | refine awV ?_ ?_ | refine endK ?_ ?_ | (refine condK (fun h => ?_) (fun h => ?_) <;> (try simp only [go_sem, reduceCtorEq] at h) <;> (try (exfalso; omega))))))) <;> (try omega)
 all_goals exact rfl
end Go.Proofs.Ytjeplogcfedmeaa
end
section
namespace Go.Proofs.Ytjeplogcfedmeaa
open Go.RowKit
set_option maxRecDepth 100000
set_option maxHeartbeats 8000000
theorem insAt_get {C : List InsM} {k : Nat} (h : k < C.length) : (encIs C)[k]? = some (cIns (insAt C k)) := by
 rw [encIs_get h]; simp [insAt, List.getD, h]
def wayArm (C : List InsM) (k i : Nat) : Int := ((C[k + 1 + i]?).map (·.b)).getD 0
def wayRow (C : List InsM) (k n i : Nat) : List Int := (List.range i).map (wayArm C k) ++ List.replicate (n - i) 0
theorem wayRow_len {C : List InsM} {k n i : Nat} (h : i ≤ n) : (wayRow C k n i).length = n := by simp [wayRow]; omega
theorem wayRow_set {C : List InsM} {k n i : Nat} (h : i < n) : (wayRow C k n i).set i (wayArm C k i) = wayRow C k n (i + 1) := by
 unfold wayRow
 obtain ⟨m, hm⟩ : ∃ m, n - i = m + 1 := ⟨n - i - 1, by omega⟩
 rw [hm, List.set_append_right _ _ (by simp), List.length_map, List.length_range, Nat.sub_self, List.replicate_succ, List.set_cons_zero, List.range_succ, List.map_append, List.append_assoc, show n - (i + 1) = m by omega]
 rfl
theorem ways_any (e : Bool) (C : List InsM) (N : List Int) (hC : C.length ≤ 10000000) (k : Nat) (hk : k < C.length) (hw : (insAt C k).op = 8 ∨ (insAt C k).op = 41 → 0 ≤ (insAt C k).a ∧ k + (insAt C k).a < C.length) :
  PCall Try.prog 49 [pG e C N, vI k] (fun r => r = .lst 1 (v8 (waysF C k (insAt C k)))) := by
 have zk : ((k : Int)).toNat = k := by omega
 have gk := insAt_get hk
 have hwk := wrap_i64 (n := (k : Int) + 1) (by omega)
 unfold pG waysF
 generalize insAt C k = x at *
 obtain ⟨op, a, b, c⟩ := x
 dsimp only at hw ⊢
 by_cases h19 : op = 19
 ·subst h19
  simp only [if_true]
  refine go_fnU (tyOf_ok _) Try.func49 rfl rfl (by rw [Try.results49]) Try.ntmps49 rfl fun E => ?_
  (repeat' (first | exact trivial | (with_reducible first | apply awA | apply awB | apply awD | apply awF | apply awG | apply awJ) | ((with_reducible first | apply awn | refine awQ ?_ | refine awR ?_); intro r hr; simp only [go_sem, Nat.reduceBEq, Nat.reduceLT, Nat.reduceLeDiff, Nat.reduceAdd, Nat.reduceMul, zk, gk, encIs_len] at hr; subst hr; (first | refine awV ?_ ?_ | refine endK ?_ ?_ | (refine condK (fun h => ?_) (fun h => ?_) <;> (try simp only [go_sem, reduceCtorEq] at h) <;> (try (exfalso; omega))))))) <;> (try omega)
  all_goals first | exact rfl | exact AV.up_rfl _ | exact AV.up_nil _ | (exact Nat.le_of_ble_eq_true rfl) | skip
 by_cases h20 : op = 20
 ·subst h20
  simp only [reduceIte, Int.reduceEq, true_or]
  refine go_fnU (tyOf_ok _) Try.func49 rfl rfl (by rw [Try.results49]) Try.ntmps49 rfl fun E => ?_
  (repeat' (first | exact trivial | (with_reducible first | apply awA | apply awB | apply awC | apply awD | apply awF | apply awG | apply awJ) | ((with_reducible first | apply awn | refine awQ ?_ | refine awR ?_); intro r hr; simp only [go_sem, Nat.reduceBEq, Nat.reduceLT, Nat.reduceLeDiff, Nat.reduceAdd, Nat.reduceMul, zk, gk, encIs_len, Int.reduceEq] at hr; subst hr; (first | refine awV ?_ ?_ | refine endK ?_ ?_ | (refine condK (fun h => ?_) (fun h => ?_) <;> (try simp only [go_sem, reduceCtorEq] at h) <;> (try (exfalso; omega))))))) <;> (try omega)
  all_goals first | exact rfl | exact AV.up_rfl _ | exact AV.up_nil _ | (exact Nat.le_of_ble_eq_true rfl) | skip
 by_cases h9 : op = 9
 ·subst h9
  simp only [reduceIte, Int.reduceEq, or_true]
  refine go_fnU (tyOf_ok _) Try.func49 rfl rfl (by rw [Try.results49]) Try.ntmps49 rfl fun E => ?_
  (repeat' (first | exact trivial | (with_reducible first | apply awA | apply awB | apply awD | apply awF | apply awG | apply awJ) | ((with_reducible first | apply awn | refine awQ ?_ | refine awR ?_); intro r hr; simp only [go_sem, Nat.reduceBEq, Nat.reduceLT, Nat.reduceLeDiff, Nat.reduceAdd, Nat.reduceMul, zk, gk, encIs_len, Int.reduceEq] at hr; subst hr; (first | refine awV ?_ ?_ | refine endK ?_ ?_ | (refine condK (fun h => ?_) (fun h => ?_) <;> (try simp only [go_sem, reduceCtorEq] at h) <;> (try (exfalso; omega))))))) <;> (try omega)
  all_goals first | exact rfl | exact AV.up_rfl _ | exact AV.up_nil _ | (exact Nat.le_of_ble_eq_true rfl) | skip
 have f19 : (op = 19) = False := eq_false h19
 have f20 : (op = 20) = False := eq_false h20
 have f9 : (op = 9) = False := eq_false h9
 simp only [f19, f20, f9, or_self, if_false]
 by_cases h8 : op = 8 ∨ op = 41
 ·rw [if_pos h8]
  obtain ⟨ha, hal⟩ := hw h8
  obtain ⟨n, rfl⟩ : ∃ n : Nat, a = n := ⟨a.toNat, by omega⟩
  rw [Int.toNat_natCast]
  have hrow : (List.replicate n [vI 0] : List (List AV)) = v8 (wayRow C k n 0) := by simp [wayRow, v8]
  have hfin : v8 (wayRow C k n n) = v8 ((List.range n).map fun i => ((C[k + 1 + i]?).map (·.b)).getD 0) := by simp [wayRow]; rfl
  rw [← hfin]
  have f8 : op = 8 ∨ ((op = 8) = False ∧ op = 41) := by rcases h8 with h | h; (· exact .inl h); exact .inr ⟨eq_false (by omega), h⟩
  refine go_fnU (tyOf_ok _) Try.func49 rfl rfl (by rw [Try.results49]) Try.ntmps49 rfl fun E => ?_
  rcases f8 with rfl | ⟨g8, rfl⟩
  ·have f8 : True := trivial
   have f41 : True := trivial
   (repeat' (first | exact trivial | (with_reducible first | apply awA | apply awB | apply awC | apply awF) | ((with_reducible first | apply awn | refine awQ ?_); intro r hr; simp only [go_sem, Nat.reduceBEq, Nat.reduceLT, Nat.reduceLeDiff, Nat.reduceAdd, Nat.reduceMul, f19, f20, f9, zk, gk, encIs_len, hrow, Int.cast_ofNat_Int] at hr; subst hr; (first | refine awV ?_ ?_ | (refine condK (fun h => ?_) (fun h => ?_) <;> (try simp only [go_sem, reduceCtorEq] at h) <;> (try (exfalso; omega))))))) <;> (try omega)
   refine go_loop [1, 2, 5, 6, 30, 31] [2, 5, 28] (fun i : Nat => ⟨[(1, true, vI k), (2, true, .ptr 1 2 0 0), (5, true, .ptr 1 5 0 0), (6, true, .ref 3 1 28 0 n), (30, true, vI n), (31, true, vI i)],
    [(2, .var [vB e, .lst 4 (encIs C), .lst 1 (v8 N)]), (5, .var (cIns ⟨8, n, b, c⟩)), (28, .row 3 1 (v8 (wayRow C k n i)))]⟩) (fun i => i ≤ n) (fun i => n - i) 0 (by simp only [go_sem, Nat.reduceBEq] <;> exact rfl) (Nat.zero_le _) ?_
   intro i hi
   have hwi := wrap_i64 (n := (i : Int) + 1) (by omega)
   have hwa := wrap_i64 (n := (k : Int) + 1 + i) (by omega)
   have zi : ((i : Int)).toNat = i := by omega
   by_cases hlt : i < n
   ·have e1 : ((i : Int) < (n : Int)) = True := eq_true (by omega)
    have z2 : ((k : Int) + 1 + i).toNat = k + 1 + i := by omega
    have g2 := insAt_get (C := C) (k := k + 1 + i) (by omega)
    have hb : (insAt C (k + 1 + i)).b = wayArm C k i := by
     have : k + 1 + i < C.length := by omega
     simp [insAt, wayArm, List.getD, this]
    have hs := v8_setW (wayRow C k n i) i (wayArm C k i)
    rw [wayRow_set hlt] at hs
    have hl := wayRow_len (C := C) (k := k) (show i ≤ n by omega)
    have gi := v8_getD (W := wayRow C k n i) (i := i) (by omega)
    (repeat' (first | exact trivial | (with_reducible first | apply awA | apply awB | apply awC | apply awF | apply awI) | ((with_reducible first | apply awn | refine awQ ?_); intro r hr; simp only [go_sem, Nat.reduceBEq, Nat.reduceLT, Nat.reduceLeDiff, Nat.reduceAdd, Nat.reduceMul, e1, zi, hwi, hwa, hwk, z2, g2, gi, hb, hs, hl, setXs, v8_len, encIs_len, Nat.zero_add] at hr; subst hr; (first | refine awV ?_ ?_ | (refine condK (fun h => ?_) (fun h => ?_) <;> (try simp only [go_sem, reduceCtorEq] at h) <;> (try (exfalso; omega))))))) <;> (try omega)
    all_goals first | exact ⟨i + 1, by simp only [go_sem, Nat.reduceBEq] <;> exact rfl, hlt, by omega⟩ | skip
   ·have e1 : ((i : Int) < (n : Int)) = False := eq_false (by omega)
    obtain rfl : i = n := by omega
    have hl := wayRow_len (C := C) (k := k) (Nat.le_refl i)
    have ht : (v8 (wayRow C k i i)).take i = v8 (wayRow C k i i) := by rw [v8_take, List.take_of_length_le (by omega)]
    (repeat' (first | exact trivial | (with_reducible first | apply awA | apply awD | apply awE | apply awF | apply awG | apply awH | apply awJ | apply awK) | ((with_reducible first | apply awn | refine awQ ?_ | refine awR ?_); intro r hr; simp only [go_sem, Nat.reduceBEq, Nat.reduceLT, e1, hl, ht, v8_len, Nat.zero_add, List.drop_zero] at hr; subst hr; (first | refine awV ?_ ?_ | refine endK ?_ ?_ | (refine condK (fun h => ?_) (fun h => ?_) <;> (try simp only [go_sem, reduceCtorEq] at h) <;> (try (exfalso; omega))))))) <;> (try omega)
    all_goals first | exact rfl | exact AV.up_rfl _ | skip
  ·have f8 : True := trivial
   have f41 : True := trivial
   (repeat' (first | exact trivial | (with_reducible first | apply awA | apply awB | apply awF) | ((with_reducible first | apply awn | refine awQ ?_); intro r hr; simp only [go_sem, Nat.reduceBEq, Nat.reduceLT, Nat.reduceLeDiff, Nat.reduceAdd, Nat.reduceMul, f19, f20, f9, zk, gk, encIs_len, hrow, Int.cast_ofNat_Int, Int.reduceEq] at hr; subst hr; (first | refine awV ?_ ?_ | (refine condK (fun h => ?_) (fun h => ?_) <;> (try simp only [go_sem, reduceCtorEq] at h) <;> (try (exfalso; omega))))))) <;> (try omega)
   refine go_loop [1, 2, 5, 6, 30, 31] [2, 5, 28] (fun i : Nat => ⟨[(1, true, vI k), (2, true, .ptr 1 2 0 0), (5, true, .ptr 1 5 0 0), (6, true, .ref 3 1 28 0 n), (30, true, vI n), (31, true, vI i)],
    [(2, .var [vB e, .lst 4 (encIs C), .lst 1 (v8 N)]), (5, .var (cIns ⟨41, n, b, c⟩)), (28, .row 3 1 (v8 (wayRow C k n i)))]⟩) (fun i => i ≤ n) (fun i => n - i) 0 (by simp only [go_sem, Nat.reduceBEq] <;> exact rfl) (Nat.zero_le _) ?_
   intro i hi
   have hwi := wrap_i64 (n := (i : Int) + 1) (by omega)
   have hwa := wrap_i64 (n := (k : Int) + 1 + i) (by omega)
   have zi : ((i : Int)).toNat = i := by omega
   by_cases hlt : i < n
   ·have e1 : ((i : Int) < (n : Int)) = True := eq_true (by omega)
    have z2 : ((k : Int) + 1 + i).toNat = k + 1 + i := by omega
    have g2 := insAt_get (C := C) (k := k + 1 + i) (by omega)
    have hb : (insAt C (k + 1 + i)).b = wayArm C k i := by
     have : k + 1 + i < C.length := by omega
     simp [insAt, wayArm, List.getD, this]
    have hs := v8_setW (wayRow C k n i) i (wayArm C k i)
    rw [wayRow_set hlt] at hs
    have hl := wayRow_len (C := C) (k := k) (show i ≤ n by omega)
    have gi := v8_getD (W := wayRow C k n i) (i := i) (by omega)
    (repeat' (first | exact trivial | (with_reducible first | apply awA | apply awB | apply awC | apply awF | apply awI) | ((with_reducible first | apply awn | refine awQ ?_); intro r hr; simp only [go_sem, Nat.reduceBEq, Nat.reduceLT, Nat.reduceLeDiff, Nat.reduceAdd, Nat.reduceMul, e1, zi, hwi, hwa, hwk, z2, g2, gi, hb, hs, hl, setXs, v8_len, encIs_len, Nat.zero_add] at hr; subst hr; (first | refine awV ?_ ?_ | (refine condK (fun h => ?_) (fun h => ?_) <;> (try simp only [go_sem, reduceCtorEq] at h) <;> (try (exfalso; omega))))))) <;> (try omega)
    all_goals first | exact ⟨i + 1, by simp only [go_sem, Nat.reduceBEq] <;> exact rfl, hlt, by omega⟩ | skip
   ·have e1 : ((i : Int) < (n : Int)) = False := eq_false (by omega)
    obtain rfl : i = n := by omega
    have hl := wayRow_len (C := C) (k := k) (Nat.le_refl i)
    have ht : (v8 (wayRow C k i i)).take i = v8 (wayRow C k i i) := by rw [v8_take, List.take_of_length_le (by omega)]
    (repeat' (first | exact trivial | (with_reducible first | apply awA | apply awD | apply awE | apply awF | apply awG | apply awH | apply awJ | apply awK) | ((with_reducible first | apply awn | refine awQ ?_ | refine awR ?_); intro r hr; simp only [go_sem, Nat.reduceBEq, Nat.reduceLT, e1, hl, ht, v8_len, Nat.zero_add, List.drop_zero] at hr; subst hr; (first | refine awV ?_ ?_ | refine endK ?_ ?_ | (refine condK (fun h => ?_) (fun h => ?_) <;> (try simp only [go_sem, reduceCtorEq] at h) <;> (try (exfalso; omega))))))) <;> (try omega)
    all_goals first | exact rfl | exact AV.up_rfl _ | skip
 ·rw [if_neg h8]
  have f8 : (op = 8) = False := eq_false fun h => h8 (.inl h)
  have f41 : (op = 41) = False := eq_false fun h => h8 (.inr h)
  by_cases h7 : op = 7 ∨ op = 11 ∨ op = 12 ∨ op = 13 ∨ op = 14 ∨ op = 15 ∨ op = 40 ∨ op = 47
  ·rw [if_pos h7]
   rcases h7 with rfl | rfl | rfl | rfl | rfl | rfl | rfl | rfl
   all_goals
    refine go_fnU (tyOf_ok _) Try.func49 rfl rfl (by rw [Try.results49]) Try.ntmps49 rfl fun E => ?_
    (repeat' (first | exact trivial | (with_reducible first | apply awA | apply awB | apply awC | apply awD | apply awF | apply awG | apply awJ) | ((with_reducible first | apply awn | refine awQ ?_ | refine awR ?_); intro r hr; simp only [go_sem, Nat.reduceBEq, Nat.reduceLT, Nat.reduceLeDiff, Nat.reduceAdd, Nat.reduceMul, hwk, zk, gk, encIs_len, Int.reduceEq] at hr; subst hr; (first | refine awV ?_ ?_ | refine endK ?_ ?_ | (refine condK (fun h => ?_) (fun h => ?_) <;> (try simp only [go_sem, reduceCtorEq] at h) <;> (try (exfalso; omega))))))) <;> (try omega)
    all_goals first | exact rfl | exact AV.up_rfl _ | exact AV.up_nil _ | (exact Nat.le_of_ble_eq_true rfl) | skip
  ·rw [if_neg h7]
   have g1 : (op = 7) = False := eq_false (by omega)
   have g2 : (op = 11) = False := eq_false (by omega)
   have g3 : (op = 12) = False := eq_false (by omega)
   have g4 : (op = 13) = False := eq_false (by omega)
   have g5 : (op = 14) = False := eq_false (by omega)
   have g6 : (op = 15) = False := eq_false (by omega)
   have g7 : (op = 40) = False := eq_false (by omega)
   have g8 : (op = 47) = False := eq_false (by omega)
   refine go_fnU (tyOf_ok _) Try.func49 rfl rfl (by rw [Try.results49]) Try.ntmps49 rfl fun E => ?_
   (repeat' (first | exact trivial | (with_reducible first | apply awA | apply awB | apply awC | apply awD | apply awF | apply awI) | ((with_reducible first | apply awn | refine awQ ?_ | refine awR ?_); intro r hr; simp only [go_sem, Nat.reduceBEq, Nat.reduceLT, Nat.reduceLeDiff, Nat.reduceAdd, Nat.reduceMul, f19, f20, f9, f8, f41, g1, g2, g3, g4, g5, g6, g7, g8, hwk, zk, gk, encIs_len] at hr; subst hr; (first | refine awV ?_ ?_ | refine endK ?_ ?_ | (refine condK (fun h => ?_) (fun h => ?_) <;> (try simp only [go_sem, reduceCtorEq] at h) <;> (try (exfalso; omega))))))) <;> (try omega)
   all_goals first | exact rfl | exact AV.up_rfl _ | exact AV.up_nil _ | (exact Nat.le_of_ble_eq_true rfl) | skip
end Go.Proofs.Ytjeplogcfedmeaa
end
section
namespace Go.Proofs.Ytjeplogcfedmeaa
open Go.RowKit
set_option maxRecDepth 100000
set_option maxHeartbeats 8000000
theorem AV.up_dead (a : AV) : a.up .dead := fun _ _ _ _ _ => .dead
theorem hdown_G (e : Bool) (C : List InsM) (N : List Int) (L : LkM) (W : List Int) (hW : W.length ≤ 1000000000) (n : Nat) (hn : n ≤ W.length) :
  GCall Try.prog 52 [.ifc 72 (.ptr 1 10000 0 5), vI 0, vI n] (lkO e C N L W) .dead (lkO e C N L (downF W.length W n 0)) := by
 have hlen : (downF W.length W n 0).length = W.length := downF_len _ _ _ _ hn
 have hf0 : n ≤ 0 + W.length := by omega
 generalize hR : downF W.length W n 0 = R at hlen
 generalize hf : W.length = f0 at hR hf0
 unfold lkO lkV
 rw [hlen]
 refine go_fnG (tyOf_ok _) Try.func52 rfl rfl (by rw [Try.results52]) Try.ntmps52 rfl fun E => ?_
 (repeat' (first | exact trivial | (with_reducible first | apply awA | apply awB | apply awF) | ((with_reducible apply awn); intro r hr; simp only [go_sem, Nat.reduceBEq, Nat.reduceLT, Nat.reduceAdd] at hr; subst hr; (first | refine awV ?_ ?_)))) <;> (try omega)
 refine go_loop [0, 1, 2, 7] [10000, 15000, 15001, 15002] (fun x : Nat × Nat × List Int => ⟨[(0, true, .ifc 72 (.ptr 1 10000 0 5)), (1, true, vI 0), (2, true, vI n), (7, true, vI x.2.1)],
  [(10000, .var [vB e, .lst 4 (encIs C), .lst 1 (v8 N), .ref 62 6 15000 0 L.length, .ref 4 1 15001 0 L.length, .ref 3 1 15002 0 W.length]), (15000, .row 62 6 (encSts L)), (15001, .row 4 1 (encHas L)), (15002, .row 3 1 (v8 x.2.2))]⟩)
  (fun x => n ≤ x.2.1 + x.1 ∧ x.2.1 ≤ n ∧ x.2.2.length = W.length ∧ downF x.1 x.2.2 n x.2.1 = R) (fun x => n - x.2.1) (f0, 0, W) (by simp only [go_sem, Nat.reduceBEq] <;> exact rfl) ⟨hf0, Nat.zero_le _, rfl, hR⟩ ?_
 clear hR hf hf0 f0
 intro ⟨f, i, W'⟩ ⟨h1, h2, h3, h4⟩
 simp only at h1 h2 h3 h4 ⊢
 have ht : (v8 W').take W.length = v8 W' := by rw [v8_take, List.take_of_length_le (by omega)]
 have hw1 := wrap_i64 (n := 2 * (i : Int)) (by omega)
 have hw2 := wrap_i64 (n := 2 * (i : Int) + 1) (by omega)
 have hw3 := wrap_i64 (n := 2 * (i : Int) + 1 + 1) (by omega)
 have c1 : (2 * (i : Int) + 1) = ((2 * i + 1 : Nat) : Int) := by omega
 have c2 : (((2 * i + 1 : Nat) : Int) + 1) = ((2 * i + 2 : Nat) : Int) := by omega
 rw [c1] at hw2 hw3
 rw [c2] at hw3
 have z1 : (((2 * i + 1 : Nat) : Int) < 0) = False := eq_false (by omega)
 by_cases hA : n ≤ 2 * i + 1
 ·have hl : W' = R := by
   rw [← h4]
   cases f with
   | zero => rfl
   | succ f => unfold downF; rw [if_pos (.inl hA)]
  subst hl
  have e1 : ((n : Int) ≤ ((2 * i + 1 : Nat) : Int)) = True := eq_true (by omega)
  (repeat' (first | exact trivial | (with_reducible first | apply awA | apply awB | apply awD | apply awE | apply awF | apply awH | apply awK | refine awM (by decide) ?_) | ((with_reducible first | apply awn | refine awQ ?_ | refine awT ?_); intro r hr; simp only [go_sem, Nat.reduceBEq, Nat.reduceLT, reduceCtorEq, hw1, hw2, c1, e1, z1] at hr; subst hr; (first | refine awV ?_ ?_ | refine endGK ?_ ?_ ?_ | (refine condK (fun h => ?_) (fun h => ?_) <;> (try simp only [go_sem, reduceCtorEq] at h) <;> (try (exfalso; omega))))))) <;> (try omega)
  all_goals first | exact AV.up_rfl _ | exact AV.up_dead _ | (repeat first | exact obUp_nil | refine obUp_cons rfl ?_)
 ·have e1 : ((n : Int) ≤ ((2 * i + 1 : Nat) : Int)) = False := eq_false (by omega)
  obtain ⟨f, rfl⟩ : ∃ f', f = f' + 1 := ⟨f - 1, by omega⟩
  unfold downF at h4
  have hk := kidF_lt (l := W') (n := n) (i := i) (by omega)
  by_cases hB : 2 * i + 2 < n
  ·have e2 : (((2 * i + 2 : Nat) : Int) < (n : Int)) = True := eq_true (by omega)
   have hls0 := nless_G W' (by omega) (2 * i + 2) (2 * i + 1) (by omega) (by omega)
   by_cases hC : W'.getD (2 * i + 2) 0 < W'.getD (2 * i + 1) 0
   ·have hkid : kidF W' n i = 2 * i + 2 := by unfold kidF; rw [if_pos ⟨hB, hC⟩]
    rw [hkid] at hk
    rw [decide_eq_true hC] at hls0
    rw [hkid] at h4
    have hls := nless_G W' (by omega) (2 * i + 2) i (by omega) (by omega)
    by_cases hlt : W'.getD (2 * i + 2) 0 < W'.getD i 0
    ·rw [if_neg (by rintro (h | h) <;> omega)] at h4
     have hsw := nswap_G W' (by omega) W.length (by omega) i (2 * i + 2) (by omega) (by omega)
     rw [decide_eq_true hlt] at hls
     (repeat' (first | exact trivial | (with_reducible first | apply awA | apply awB | apply awC | apply awF | apply awI) | ((with_reducible first | apply awn | apply awo | refine awQ ?_); intro r hr; simp only [go_sem, Nat.reduceBEq, Nat.reduceLT, reduceCtorEq, hw1, hw2, hw3, c1, c2, e1, z1, e2] at hr; subst hr; (first | refine awV ?_ ?_ | refine awW ?_ ?_ | (refine condK (fun h => ?_) (fun h => ?_) <;> (try simp only [go_sem, reduceCtorEq] at h) <;> (try (exfalso; omega))))) | (refine al_skipC (vB true) rfl rfl ⟨by decide, by decide⟩ ?_) | (refine go_callId 32 rfl (tyOf_ok _) [] [] [] [] (by simp only [go_sem, Nat.reduceBEq, Nat.reduceLT, Nat.reduceLeDiff, Nat.reduceAdd, Nat.reduceMul, h3, ht, v8_len] <;> exact rfl) ?_ rfl rfl (by first | exact .inl rfl | exact .inr rfl) (by simp only [go_sem] <;> exact rfl) (hls0) (.inr ⟨rfl, ?_⟩) ?_) | (refine go_callId 38 rfl (tyOf_ok _) [] [] [] [] (by simp only [go_sem, Nat.reduceBEq, Nat.reduceLT, Nat.reduceLeDiff, Nat.reduceAdd, Nat.reduceMul, h3, ht, v8_len] <;> exact rfl) ?_ rfl rfl (by first | exact .inl rfl | exact .inr rfl) (by simp only [go_sem] <;> exact rfl) (hls) (.inr ⟨rfl, ?_⟩) ?_) | (refine go_callI (tyOf_ok _) [(15002, 10001)] [(10001, 15002)] [] [15002] (by simp only [go_sem, Nat.reduceBEq, Nat.reduceLT, Nat.reduceLeDiff, Nat.reduceAdd, Nat.reduceMul] <;> exact rfl) ?_ rfl rfl (by first | exact .inl rfl | exact .inr rfl) (by simp only [go_sem, Nat.reduceBEq] <;> exact rfl) (hsw) (.inl rfl) ?_))) <;> (try omega)
     refine ⟨(f, (2 * i + 2), swapL W' i (2 * i + 2)), ?_, ⟨by show n ≤ (2 * i + 2) + f; omega, by show (2 * i + 2) ≤ n; omega, by show (swapL W' i (2 * i + 2)).length = _; rw [swapL_len]; exact h3, h4⟩, by show n - (2 * i + 2) < n - i; omega⟩
     simp only [go_sem, Nat.reduceBEq]
    ·rw [if_pos (.inr hlt)] at h4
     subst h4
     rw [decide_eq_false hlt] at hls
     (repeat' (first | exact trivial | (with_reducible first | apply awA | apply awB | apply awC | apply awD | apply awE | apply awF | apply awH | apply awK | refine awM (by decide) ?_) | ((with_reducible first | apply awn | apply awo | refine awQ ?_ | refine awT ?_); intro r hr; simp only [go_sem, Nat.reduceBEq, Nat.reduceLT, reduceCtorEq, hw1, hw2, hw3, c1, c2, e1, z1, e2] at hr; subst hr; (first | refine awV ?_ ?_ | refine awW ?_ ?_ | refine endGK ?_ ?_ ?_ | (refine condK (fun h => ?_) (fun h => ?_) <;> (try simp only [go_sem, reduceCtorEq] at h) <;> (try (exfalso; omega))))) | (refine al_skipC (vB true) rfl rfl ⟨by decide, by decide⟩ ?_) | (refine go_callId 32 rfl (tyOf_ok _) [] [] [] [] (by simp only [go_sem, Nat.reduceBEq, Nat.reduceLT, Nat.reduceLeDiff, Nat.reduceAdd, Nat.reduceMul, h3, ht, v8_len] <;> exact rfl) ?_ rfl rfl (by first | exact .inl rfl | exact .inr rfl) (by simp only [go_sem] <;> exact rfl) (hls0) (.inr ⟨rfl, ?_⟩) ?_) | (refine go_callId 38 rfl (tyOf_ok _) [] [] [] [] (by simp only [go_sem, Nat.reduceBEq, Nat.reduceLT, Nat.reduceLeDiff, Nat.reduceAdd, Nat.reduceMul, h3, ht, v8_len] <;> exact rfl) ?_ rfl rfl (by first | exact .inl rfl | exact .inr rfl) (by simp only [go_sem] <;> exact rfl) (hls) (.inr ⟨rfl, ?_⟩) ?_))) <;> (try omega)
     all_goals first | exact AV.up_rfl _ | exact AV.up_dead _ | (repeat first | exact obUp_nil | refine obUp_cons rfl ?_)
   ·have hkid : kidF W' n i = 2 * i + 1 := by unfold kidF; rw [if_neg (by omega)]
    rw [hkid] at hk
    rw [decide_eq_false hC] at hls0
    rw [hkid] at h4
    have hls := nless_G W' (by omega) (2 * i + 1) i (by omega) (by omega)
    by_cases hlt : W'.getD (2 * i + 1) 0 < W'.getD i 0
    ·rw [if_neg (by rintro (h | h) <;> omega)] at h4
     have hsw := nswap_G W' (by omega) W.length (by omega) i (2 * i + 1) (by omega) (by omega)
     rw [decide_eq_true hlt] at hls
     (repeat' (first | exact trivial | (with_reducible first | apply awA | apply awB | apply awC | apply awF | apply awI) | ((with_reducible first | apply awn | apply awo | refine awQ ?_); intro r hr; simp only [go_sem, Nat.reduceBEq, Nat.reduceLT, reduceCtorEq, hw1, hw2, hw3, c1, c2, e1, z1, e2] at hr; subst hr; (first | refine awV ?_ ?_ | refine awW ?_ ?_ | (refine condK (fun h => ?_) (fun h => ?_) <;> (try simp only [go_sem, reduceCtorEq] at h) <;> (try (exfalso; omega))))) | (refine al_skipC (vB true) rfl rfl ⟨by decide, by decide⟩ ?_) | (refine go_callId 32 rfl (tyOf_ok _) [] [] [] [] (by simp only [go_sem, Nat.reduceBEq, Nat.reduceLT, Nat.reduceLeDiff, Nat.reduceAdd, Nat.reduceMul, h3, ht, v8_len] <;> exact rfl) ?_ rfl rfl (by first | exact .inl rfl | exact .inr rfl) (by simp only [go_sem] <;> exact rfl) (hls0) (.inr ⟨rfl, ?_⟩) ?_) | (refine go_callId 38 rfl (tyOf_ok _) [] [] [] [] (by simp only [go_sem, Nat.reduceBEq, Nat.reduceLT, Nat.reduceLeDiff, Nat.reduceAdd, Nat.reduceMul, h3, ht, v8_len] <;> exact rfl) ?_ rfl rfl (by first | exact .inl rfl | exact .inr rfl) (by simp only [go_sem] <;> exact rfl) (hls) (.inr ⟨rfl, ?_⟩) ?_) | (refine go_callI (tyOf_ok _) [(15002, 10001)] [(10001, 15002)] [] [15002] (by simp only [go_sem, Nat.reduceBEq, Nat.reduceLT, Nat.reduceLeDiff, Nat.reduceAdd, Nat.reduceMul] <;> exact rfl) ?_ rfl rfl (by first | exact .inl rfl | exact .inr rfl) (by simp only [go_sem, Nat.reduceBEq] <;> exact rfl) (hsw) (.inl rfl) ?_))) <;> (try omega)
     refine ⟨(f, (2 * i + 1), swapL W' i (2 * i + 1)), ?_, ⟨by show n ≤ (2 * i + 1) + f; omega, by show (2 * i + 1) ≤ n; omega, by show (swapL W' i (2 * i + 1)).length = _; rw [swapL_len]; exact h3, h4⟩, by show n - (2 * i + 1) < n - i; omega⟩
     simp only [go_sem, Nat.reduceBEq]
    ·rw [if_pos (.inr hlt)] at h4
     subst h4
     rw [decide_eq_false hlt] at hls
     (repeat' (first | exact trivial | (with_reducible first | apply awA | apply awB | apply awC | apply awD | apply awE | apply awF | apply awH | apply awK | refine awM (by decide) ?_) | ((with_reducible first | apply awn | apply awo | refine awQ ?_ | refine awT ?_); intro r hr; simp only [go_sem, Nat.reduceBEq, Nat.reduceLT, reduceCtorEq, hw1, hw2, hw3, c1, c2, e1, z1, e2] at hr; subst hr; (first | refine awV ?_ ?_ | refine awW ?_ ?_ | refine endGK ?_ ?_ ?_ | (refine condK (fun h => ?_) (fun h => ?_) <;> (try simp only [go_sem, reduceCtorEq] at h) <;> (try (exfalso; omega))))) | (refine al_skipC (vB true) rfl rfl ⟨by decide, by decide⟩ ?_) | (refine go_callId 32 rfl (tyOf_ok _) [] [] [] [] (by simp only [go_sem, Nat.reduceBEq, Nat.reduceLT, Nat.reduceLeDiff, Nat.reduceAdd, Nat.reduceMul, h3, ht, v8_len] <;> exact rfl) ?_ rfl rfl (by first | exact .inl rfl | exact .inr rfl) (by simp only [go_sem] <;> exact rfl) (hls0) (.inr ⟨rfl, ?_⟩) ?_) | (refine go_callId 38 rfl (tyOf_ok _) [] [] [] [] (by simp only [go_sem, Nat.reduceBEq, Nat.reduceLT, Nat.reduceLeDiff, Nat.reduceAdd, Nat.reduceMul, h3, ht, v8_len] <;> exact rfl) ?_ rfl rfl (by first | exact .inl rfl | exact .inr rfl) (by simp only [go_sem] <;> exact rfl) (hls) (.inr ⟨rfl, ?_⟩) ?_))) <;> (try omega)
     all_goals first | exact AV.up_rfl _ | exact AV.up_dead _ | (repeat first | exact obUp_nil | refine obUp_cons rfl ?_)
  ·have e2 : (((2 * i + 2 : Nat) : Int) < (n : Int)) = False := eq_false (by omega)
   have hkid : kidF W' n i = 2 * i + 1 := by unfold kidF; rw [if_neg (by omega)]
   rw [hkid] at hk
   rw [hkid] at h4
   have hls := nless_G W' (by omega) (2 * i + 1) i (by omega) (by omega)
   by_cases hlt : W'.getD (2 * i + 1) 0 < W'.getD i 0
   ·rw [if_neg (by rintro (h | h) <;> omega)] at h4
    have hsw := nswap_G W' (by omega) W.length (by omega) i (2 * i + 1) (by omega) (by omega)
    rw [decide_eq_true hlt] at hls
    (repeat' (first | exact trivial | (with_reducible first | apply awA | apply awB | apply awC | apply awF | apply awI) | ((with_reducible first | apply awn | apply awo | refine awQ ?_); intro r hr; simp only [go_sem, Nat.reduceBEq, Nat.reduceLT, reduceCtorEq, hw1, hw2, hw3, c1, c2, e1, z1, e2] at hr; subst hr; (first | refine awV ?_ ?_ | refine awW ?_ ?_ | (refine condK (fun h => ?_) (fun h => ?_) <;> (try simp only [go_sem, reduceCtorEq] at h) <;> (try (exfalso; omega))))) | (refine al_skipC (vB true) rfl rfl ⟨by decide, by decide⟩ ?_) | (refine go_callI (tyOf_ok _) [] [] [] [] (by simp only [go_sem, Nat.reduceBEq, Nat.reduceLT, Nat.reduceLeDiff, Nat.reduceAdd, Nat.reduceMul, h3, ht, v8_len] <;> exact rfl) ?_ rfl rfl (by first | exact .inl rfl | exact .inr rfl) (by simp only [go_sem] <;> exact rfl) (hls) (.inr ⟨rfl, ?_⟩) ?_) | (refine go_callI (tyOf_ok _) [(15002, 10001)] [(10001, 15002)] [] [15002] (by simp only [go_sem, Nat.reduceBEq, Nat.reduceLT, Nat.reduceLeDiff, Nat.reduceAdd, Nat.reduceMul] <;> exact rfl) ?_ rfl rfl (by first | exact .inl rfl | exact .inr rfl) (by simp only [go_sem, Nat.reduceBEq] <;> exact rfl) (hsw) (.inl rfl) ?_))) <;> (try omega)
    refine ⟨(f, (2 * i + 1), swapL W' i (2 * i + 1)), ?_, ⟨by show n ≤ (2 * i + 1) + f; omega, by show (2 * i + 1) ≤ n; omega, by show (swapL W' i (2 * i + 1)).length = _; rw [swapL_len]; exact h3, h4⟩, by show n - (2 * i + 1) < n - i; omega⟩
    simp only [go_sem, Nat.reduceBEq]
   ·rw [if_pos (.inr hlt)] at h4
    subst h4
    rw [decide_eq_false hlt] at hls
    (repeat' (first | exact trivial | (with_reducible first | apply awA | apply awB | apply awC | apply awD | apply awE | apply awF | apply awH | apply awK | refine awM (by decide) ?_) | ((with_reducible first | apply awn | apply awo | refine awQ ?_ | refine awT ?_); intro r hr; simp only [go_sem, Nat.reduceBEq, Nat.reduceLT, reduceCtorEq, hw1, hw2, hw3, c1, c2, e1, z1, e2] at hr; subst hr; (first | refine awV ?_ ?_ | refine awW ?_ ?_ | refine endGK ?_ ?_ ?_ | (refine condK (fun h => ?_) (fun h => ?_) <;> (try simp only [go_sem, reduceCtorEq] at h) <;> (try (exfalso; omega))))) | (refine al_skipC (vB true) rfl rfl ⟨by decide, by decide⟩ ?_) | (refine go_callI (tyOf_ok _) [] [] [] [] (by simp only [go_sem, Nat.reduceBEq, Nat.reduceLT, Nat.reduceLeDiff, Nat.reduceAdd, Nat.reduceMul, h3, ht, v8_len] <;> exact rfl) ?_ rfl rfl (by first | exact .inl rfl | exact .inr rfl) (by simp only [go_sem] <;> exact rfl) (hls) (.inr ⟨rfl, ?_⟩) ?_))) <;> (try omega)
    all_goals first | exact AV.up_rfl _ | exact AV.up_dead _ | (repeat first | exact obUp_nil | refine obUp_cons rfl ?_)
theorem hpush_G (e : Bool) (C : List InsM) (N : List Int) (L : LkM) (W : List Int) (hW : W.length ≤ 100000000) (x : Int) :
  GCall Try.prog 47 [.ifc 72 (.ptr 1 10000 0 5), .ifc 3 (vI x)] (lkO e C N L W) (.tup []) (lkO e C N L (upF (W.length + 1) (W ++ [x]) W.length)) := by
 have hp := npush_G e C N L W (by omega) x
 have hl : (W ++ [x]).length = W.length + 1 := by simp
 have hu := hup_G e C N L (W ++ [x]) (by omega) W.length (by omega)
 have hlen : (upF (W.length + 1) (W ++ [x]) W.length).length = W.length + 1 := by rw [(upF_perm _ _ _ (by omega)).length_eq, hl]
 have hn := nlen_G (W ++ [x])
 have hw := wrap_i64 (n := ((W.length + 1 : Nat) : Int) - 1) (by omega)
 have hz : ((W.length + 1 : Nat) : Int) - 1 = W.length := by omega
 have ht : (v8 (W ++ [x])).take (W.length + 1) = v8 (W ++ [x]) := by rw [v8_take, List.take_of_length_le (by omega)]
 rw [hz] at hw
 rw [hl] at hn
 unfold lkO lkV at hp hu ⊢
 rw [hl] at hp hu
 rw [hlen] at hu ⊢
 refine go_fnG (tyOf_ok _) Try.func47 rfl rfl (by rw [Try.results47]) Try.ntmps47 rfl fun E => ?_
 (repeat' (first | exact trivial | (with_reducible first | apply awA | apply awF) | ((with_reducible first | apply awn | apply awo | refine awU ?_); intro r hr; simp only [go_sem, Nat.reduceBEq, Nat.reduceLT, hw, hz] at hr; subst hr; (first | refine awV ?_ ?_ | refine awW ?_ ?_ | refine endGK ?_ ?_ ?_)) | (refine go_callI (tyOf_ok _) [(10000, 10000), (15000, 15000), (15001, 15001), (15002, 15002)] [(10000, 10000), (15000, 15000), (15001, 15001), (15002, 15002)] [15000, 15001, 15002] [10000] (by simp only [go_sem, Nat.reduceBEq, Nat.reduceLT, Nat.reduceLeDiff, Nat.reduceAdd, Nat.reduceMul] <;> exact rfl) ?_ rfl rfl (by first | exact .inl rfl | exact .inr rfl) (by simp only [go_sem, Nat.reduceBEq] <;> exact rfl) (hp) (.inl rfl) ?_) | (refine go_callI (tyOf_ok _) [] [] [] [] (by simp only [go_sem, Nat.reduceBEq, Nat.reduceLT, Nat.reduceLeDiff, Nat.reduceAdd, Nat.reduceMul, ht, hl, v8_len] <;> exact rfl) ?_ rfl rfl (by first | exact .inl rfl | exact .inr rfl) (by simp only [go_sem] <;> exact rfl) (hn) (.inr ⟨rfl, ?_⟩) ?_) | (refine go_callGE [(10000, 10000), (15000, 15000), (15001, 15001), (15002, 15002)] [(10000, 10000), (15000, 15000), (15001, 15001), (15002, 15002)] [15000, 15001, 15002] [10000] ?_; intro r hr; simp only [go_sem, Nat.reduceBEq, Nat.reduceLT] at hr; subst hr; refine callGK (hu) rfl rfl (by first | exact .inl rfl | exact .inr rfl) ?_ (.inl rfl) ?_))) <;> (try omega)
 all_goals first | exact AV.up_rfl _ | exact AV.up_dead _ | (repeat first | exact obUp_nil | refine obUp_cons rfl ?_)
theorem hpop_G (e : Bool) (C : List InsM) (N : List Int) (L : LkM) (W : List Int) (hW : W.length ≤ 100000000) (hne : W ≠ []) :
  GCall Try.prog 36 [.ifc 72 (.ptr 1 10000 0 5)] (lkO e C N L W) (.ifc 3 (vI (W.getD 0 0))) (lkO e C N L (popF W)) := by
 have hpos : 0 < W.length := List.length_pos_iff.2 hne
 have hn := nlen_G W
 have hsw := nswap_G W (by omega) W.length (by omega) 0 (W.length - 1) hpos (by omega)
 have hsl : (swapL W 0 (W.length - 1)).length = W.length := swapL_len _ _ _
 have hd := hdown_G e C N L (swapL W 0 (W.length - 1)) (by omega) (W.length - 1) (by omega)
 rw [hsl] at hd
 have hdl : (downF W.length (swapL W 0 (W.length - 1)) (W.length - 1) 0).length = W.length := by rw [downF_len _ _ _ _ (by omega), hsl]
 have hlast := pop_last hne
 have hp := npop_G e C N L (downF W.length (swapL W 0 (W.length - 1)) (W.length - 1) 0) (by omega) (by omega)
 rw [hdl, hlast] at hp
 have hpl : (popF W).length = W.length - 1 := by unfold popF; rw [List.length_take, hdl]; omega
 change GCall _ _ _ _ _ (lkO e C N L (popF W)) at hp
 generalize downF W.length (swapL W 0 (W.length - 1)) (W.length - 1) 0 = M at hd hp hdl
 generalize hS : swapL W 0 (W.length - 1) = S at hsw hd hsl
 have hw := wrap_i64 (n := (W.length : Int) - 1) (by omega)
 have hz : (W.length : Int) - 1 = ((W.length - 1 : Nat) : Int) := by omega
 have ht : (v8 W).take W.length = v8 W := by rw [v8_take, List.take_of_length_le (by omega)]
 rw [hz] at hw
 generalize popF W = R at hp hpl ⊢
 unfold lkO lkV at hp hd ⊢
 rw [hdl] at hp hd
 rw [hsl] at hd
 rw [hpl] at hp ⊢
 refine go_fnG (tyOf_ok _) Try.func36 rfl rfl (by rw [Try.results36]) Try.ntmps36 rfl fun E => ?_
 (repeat' (first | exact trivial | (with_reducible first | apply awA | apply awD | apply awF) | ((with_reducible first | apply awn | apply awo | refine awT ?_); intro r hr; simp only [go_sem, Nat.reduceBEq, Nat.reduceLT, hw, hz] at hr; subst hr; (first | refine awV ?_ ?_ | refine awW ?_ ?_ | refine endGK ?_ ?_ ?_)) | (refine go_callI (tyOf_ok _) [] [] [] [] (by simp only [go_sem, Nat.reduceBEq, Nat.reduceLT, Nat.reduceLeDiff, Nat.reduceAdd, Nat.reduceMul, ht, v8_len] <;> exact rfl) ?_ rfl rfl (by first | exact .inl rfl | exact .inr rfl) (by simp only [go_sem] <;> exact rfl) (hn) (.inr ⟨rfl, ?_⟩) ?_) | (refine go_callI (tyOf_ok _) [(15002, 10001)] [(10001, 15002)] [] [15002] (by simp only [go_sem, Nat.reduceBEq, Nat.reduceLT, Nat.reduceLeDiff, Nat.reduceAdd, Nat.reduceMul] <;> exact rfl) ?_ rfl rfl (by first | exact .inl rfl | exact .inr rfl) (by simp only [go_sem, Nat.reduceBEq] <;> exact rfl) (hsw) (.inl rfl) ?_) | (refine go_callGE [(10000, 10000), (15000, 15000), (15001, 15001), (15002, 15002)] [(10000, 10000), (15000, 15000), (15001, 15001), (15002, 15002)] [15000, 15001, 15002] [10000] ?_; intro r hr; simp only [go_sem, Nat.reduceBEq, Nat.reduceLT] at hr; subst hr; refine callGK (hd) rfl rfl (by first | exact .inl rfl | exact .inr rfl) ?_ (.inl rfl) ?_) | (refine go_callI (tyOf_ok _) [(10000, 10000), (15000, 15000), (15001, 15001), (15002, 15002)] [(10000, 10000), (15000, 15000), (15001, 15001), (15002, 15002)] [15000, 15001, 15002] [10000] (by simp only [go_sem, Nat.reduceBEq, Nat.reduceLT] <;> exact rfl) ?_ rfl rfl (by first | exact .inl rfl | exact .inr rfl) (by simp only [go_sem, Nat.reduceBEq] <;> exact rfl) (hp) (.inl rfl) ?_))) <;> (try omega)
 all_goals first | exact AV.up_rfl _ | exact AV.up_dead _ | (repeat first | exact obUp_nil | refine obUp_cons rfl ?_)
end Go.Proofs.Ytjeplogcfedmeaa
end
section
namespace Go.Proofs.Ytjeplogcfedmeaa
open Go.RowKit
set_option maxRecDepth 100000
section
variable {P : Program} {T : Nat → Option TyD} {tm : Array Value} {w w' : World} {β β' : Nat → Option Nat} {F : Nat → Prop} {X : Nat → Prop}
theorem eqL_runD (dp : Nat) (hT : TOK P T) {xs ys : List AV} {vs us : Array Value} (hv : ∀ (i : Nat) (c : AV) (u : Value), xs[i]? = some c → vs[i]? = some u → AVR F β w c u) (hu : ∀ (i : Nat) (c : AV) (u : Value), ys[i]? = some c → us[i]? = some u → AVR F β w c u)
  (lv : vs.size = xs.length) (lu : us.size = ys.length) : ∀ (l : List Field) (fs : List (Nat × Nat)) (i : Nat) (as' bs : List AV) (e : Bool), l.map (fun f => (f.offset, f.type)) = fs → (∀ f ∈ l, f.name ≠ "_") → eqL T i fs as' bs = some e →
  as' = xs.drop i → bs = ys.drop i → ∀ w', (Op.eqFields (dp + 1) vs us l).run P w' = .ok e w' := by
 intro l
 induction l with
 | nil =>
  intro fs i as' bs e hfs _ he _ _ w'
  subst hfs
  cases as' <;> cases bs <;> simp only [List.map_nil, eqL, Option.some.injEq, reduceCtorEq] at he
  subst he
  rfl
 | cons f l ih =>
  intro fs i as' bs e hfs hn he ha hb w'
  subst hfs
  rw [List.map_cons] at he
  cases as' with
  | nil => simp [eqL] at he
  | cons a as' =>
   cases bs with
   | nil => cases a <;> simp [eqL] at he
   | cons b bs =>
    cases a <;> cases b <;> simp only [eqL, reduceCtorEq] at he
    rename_i x y
    cases hoi : f.offset == i with
    | false => rw [hoi] at he; cases he
    | true =>
     rw [hoi] at he
     have hoi' : f.offset = i := by simpa using hoi
     simp only [cond_true] at he
     split at he
     case h_2 => cases he
     rename_i d hd
     split at he
     case h_2 => cases he
     rename_i e1 e2 h1 h2
     injection he with he
     subst he
     have hxi : xs[i]? = some (.v x) := by
      have := congrArg (fun l => l[0]?) ha
      simp only [List.getElem?_cons_zero, List.getElem?_drop, Nat.add_zero] at this
      exact this.symm
     have hyi : ys[i]? = some (.v y) := by
      have := congrArg (fun l => l[0]?) hb
      simp only [List.getElem?_cons_zero, List.getElem?_drop, Nat.add_zero] at this
      exact this.symm
     have hvi : vs[i]? = some x := by
      have hlt : i < vs.size := by rw [lv]; exact lt_of_get hxi
      have := hv i _ vs[i] hxi (Array.getElem?_eq_getElem hlt)
      cases this with | s h => cases h; rw [Array.getElem?_eq_getElem hlt]
     have hui : us[i]? = some y := by
      have hlt : i < us.size := by rw [lu]; exact lt_of_get hyi
      have := hu i _ us[i] hyi (Array.getElem?_eq_getElem hlt)
      cases this with | s h => cases h; rw [Array.getElem?_eq_getElem hlt]
     have hpart : ∀ (zs : Array Value) (z : Value), zs[i]? = some z → (part f.type zs f.offset).run P w' = .ok z w' := fun zs z hz => by
      rw [hoi']
      simp [part, eqV_notAgg hT hd h1 w', hz]
     have hrest := ih _ (i + 1) as' bs e2 rfl (fun g hg => hn g (by simp [hg])) h2 (by
      have := congrArg List.tail ha
      simpa [List.tail_drop] using this) (by
      have := congrArg List.tail hb
      simpa [List.tail_drop] using this) w'
     rw [Op.eqFields, if_pos (hn f (by simp))]
     simp only [Sem.run_bind, hpart vs x hvi, hpart us y hui, Result.andThen_ok, eqV_run hT hd h1 dp w']
     cases e1 with
     | true => simpa using hrest
     | false => rfl
variable {E : Env} {s : AState} {n : Nat} {ops : Array Oper} {Q : Exit → AState → Prop} {D : Dr} {rest : List Oper} {o : Oper}
theorem drop_rel {xs : List AV} {vs : Array Value} (k : Nat) (hv : ∀ (i : Nat) (c : AV) (u : Value), xs[i]? = some c → vs[i]? = some u → AVR F β w c u) (m : Nat) : ∀ (i : Nat) (c : AV) (u : Value), ((xs.drop k).take m)[i]? = some c → (vs.extract k (k + m))[i]? = some u → AVR F β w c u := fun i c u hc hu => by
 rcases Nat.lt_or_ge i m with hi | hi
 ·rw [List.getElem?_take_of_lt hi, List.getElem?_drop] at hc
  rw [Array.getElem?_extract] at hu
  split at hu
  ·exact hv (k + i) c u hc hu
  ·cases hu
 ·rw [List.getElem?_eq_none (by rw [List.length_take]; omega)] at hc; cases hc
theorem al_skipN (ra : AV) (hg : guardAV ops s o.guard = some false) (hkd : kindN o.op = true) (hdst : dstOK n o.dst) (hr : AListD P E n ops D rest Q (s.put o.dst false ra)) : AListR P E n ops D (o :: rest) Q s := by
 intro a w β hn hd hs
 have hw := guard_ok (ops := ops) hs hg
 obtain ⟨g1, g2, g3⟩ := putRel hn hd hs hdst false ra (v := undef) (fun h => by cases h) (fun _ => rfl)
 exact step_N hkd hw (fun h => by cases h) (fun _ => rfl) (hr _ _ _ g1 g2 g3)
theorem al_eq2 (hT : TOK P T) {x y : Operand} {t t' ft k : Nat} {fs : List (Nat × Nat)} {d df : TyD} {xs ys : List AV} {e1 e2 : Bool} (hG : guardAV ops s o.guard = some true) (ho : o.op = .binOp .eql t x y t') (hdst : dstOK n o.dst) (hgx : s.gd x = true) (hgy : s.gd y = true)
  (hx : s.ev x = .agg xs) (hy : s.ev y = .agg ys) (hTt : T t = some d) (hsh : d.sh = .strct [(0, ft), (k, ft)] true) (hTf : T ft = some df) (hshf : df.sh = .strct fs true) (hk : df.size = k) (hlx : xs.length = k + k) (hly : ys.length = k + k)
  (h1 : eqL T 0 fs (xs.take k) (ys.take k) = some e1) (h2 : eqL T 0 fs (xs.drop k) (ys.drop k) = some e2) (hr : AListD P E n ops D rest Q (s.put o.dst true (.v (.bool (e1 && e2))))) : AListR P E n ops D (o :: rest) Q s := by
 intro a w β hn hd hs
 have hw := guard_ok (ops := ops) hs hG
 have vx := hs.ev x hgx (a := a) rfl
 have vy := hs.ev y hgy (a := a) rfl
 rw [hx] at vx
 rw [hy] at vy
 generalize hux : a.eval x = ux at vx
 generalize huy : a.eval y = uy at vy
 obtain ⟨vs, rfl, lv, _, hv⟩ := agg_cells vx
 obtain ⟨us, rfl, lu, _, hu⟩ := agg_cells vy
 have hcmp := (hT t _ hTt).2.2.2
 rw [hsh] at hcmp
 obtain ⟨fields, hun, hfl, hcmp⟩ := hcmp
 obtain ⟨c1, c2, c3⟩ := hcmp rfl
 have hcf := (hT ft _ hTf).2.2.2
 rw [hshf] at hcf
 obtain ⟨ffields, hunf, hff, hcf⟩ := hcf
 obtain ⟨f1, f2, f3⟩ := hcf rfl
 have hfo : P.fieldsOf t = fields := by simp [Program.fieldsOf, hun]
 have hfof : P.fieldsOf ft = ffields := by simp [Program.fieldsOf, hunf]
 obtain ⟨g1, g2, hgl⟩ : ∃ g1 g2, fields.toList = [g1, g2] := by
  have := congrArg List.length hfl
  simp only [List.length_map, List.length_cons, List.length_nil] at this
  match fields.toList, this with
  | [g1, g2], _ => exact ⟨g1, g2, rfl⟩
 rw [hgl] at hfl c3
 simp only [List.map_cons, List.map_nil, List.cons.injEq, Prod.mk.injEq, and_true] at hfl
 obtain ⟨⟨o1, t1⟩, o2, t2⟩ := hfl
 have inner : ∀ (off : Nat) (e : Bool), eqL T 0 fs ((xs.drop off).take k) ((ys.drop off).take k) = some e → off + k ≤ vs.size → off + k ≤ us.size → ∀ w', (Op.equalIn 9999 ft (.agg (vs.extract off (off + k))) (.agg (us.extract off (off + k)))).run P w' = .ok e w' := fun off e he hl1 hl2 w' => by
  rw [run_equalIn_struct w' 9998 ft _ _ (by rw [hfof]; exact hunf) f1, hfof]
  exact eqL_runD 9997 hT (drop_rel off hv k) (drop_rel off hu k) (by simp; omega) (by simp; omega) ffields.toList fs 0 _ _ e hff f3 he rfl rfl w'
 have hpart : ∀ (zs : Array Value) (off : Nat) (w' : World), off + k ≤ zs.size → (part ft zs off).run P w' = .ok (.agg (zs.extract off (off + k))) w' := fun zs off w' hz => by
  have hag : (isAgg ft).run P w' = .ok true w' := by rw [T_agg hT hTf w', hshf]; rfl
  simp [part, hag, T_size hT hTf w', hk]
 have hb : ∀ w', (do eqGuard .eql t x y (.agg vs) (.agg us); binOp .eql t (.agg vs) (.agg us) : Sem Value).run P w' = .ok (.bool (e1 && e2)) w' := fun w' => by
  rw [Sem.run_bind, run_eqGuard_agg w' .eql t x y vs us c2, Result.andThen_ok, run_eql_struct, run_equalIn_struct w' 9999 t vs us (by rw [hfo]; exact hun) c1, hfo, hgl]
  have i1 := inner 0 e1 (by simpa using h1) (by omega) (by omega) w'
  have i2 := inner k e2 (by rw [List.take_of_length_le (by rw [List.length_drop]; omega), List.take_of_length_le (by rw [List.length_drop]; omega)]; exact h2) (by omega) (by omega) w'
  rw [Op.eqFields, if_pos (c3 g1 (by simp))]
  simp only [Sem.run_bind, o1, t1, hpart vs 0 w' (by omega), hpart us 0 w' (by omega), Result.andThen_ok, i1]
  cases e1 with
  | false => rfl
  | true =>
   simp only [Bool.not_true, Bool.false_eq_true, if_false]
   rw [Op.eqFields, if_pos (c3 g2 (by simp))]
   simp only [Sem.run_bind, o2, t2, hpart vs k w' (by omega), hpart us k w' (by omega), Result.andThen_ok, i2]
   cases e2 <;> rfl
 obtain ⟨p1, p2, p3⟩ := putRel hn hd hs hdst true (.v (.bool (e1 && e2))) (v := .bool (e1 && e2)) (fun _ => .s (.v rfl)) (fun h => by cases h)
 refine step_N (v := .bool (e1 && e2)) (by rw [ho]; rfl) hw (fun _ w' _ => ?_) (fun h => by cases h) (hr _ _ _ p1 p2 p3)
 simp only [execOp, ho, hux, huy]
 rw [Sem.run_bind, hb w']
 rfl
end
end Go.Proofs.Ytjeplogcfedmeaa
end
section
namespace Go.Proofs.Ytjeplogcfedmeaa
open Go.RowKit
set_option maxRecDepth 100000
set_option maxHeartbeats 8000000
structure CodeOK (C : List InsM) (N : List Int) : Prop where
 len : C.length ≤ 1048576
 lenN : N.length ≤ 1048576
 runs : ∀ k, k < C.length → (insAt C k).op = 2 → (0 ≤ (insAt C k).a ∧ (insAt C k).a ≤ 64) ∧ 0 ≤ (insAt C k).b ∧ (insAt C k).b ≤ 64
 arms : ∀ k, k < C.length → (insAt C k).op = 8 ∨ (insAt C k).op = 41 → 0 ≤ (insAt C k).a ∧ k + (insAt C k).a < C.length
 ways : ∀ k, k < C.length → ∀ j ∈ waysF C k (insAt C k), 0 ≤ j
 calls : ∀ k, k < C.length → (insAt C k).op = 16 → 0 ≤ (insAt C k).c ∧ (insAt C k).c < N.length
 entry : ∀ n ∈ N, 0 ≤ n ∧ n < C.length
theorem encSts_len (L : LkM) : (encSts L).length = L.length := by simp [encSts]
theorem encHas_len (L : LkM) : (encHas L).length = L.length := by simp [encHas]
theorem encSts_get {L : LkM} {k : Nat} (h : k < L.length) : (encSts L)[k]? = some (cSt (stAt L k)) := by simp [encSts, encSt, stAt, List.getD, h]
theorem encHas_get {L : LkM} {k : Nat} (h : k < L.length) : (encHas L)[k]? = some [vB (L.getD k none).isSome] := by simp [encHas, List.getD, h]
theorem encSts_set (L : LkM) (k : Nat) (s : StM) : (encSts L).set k (cSt s) = encSts (L.set k (some s)) := by simp [encSts, encSt, List.map_set]
theorem encHas_set (L : LkM) (k : Nat) (s : StM) : (encHas L).set k [vB true] = encHas (L.set k (some s)) := by simp [encHas, List.map_set]
theorem stEq_false {a b : StM} (h : ¬a = b) : (decide (a.place = b.place) && (decide (a.kids = b.kids) && (decide (a.table = b.table) && (decide (a.parts = b.parts) && (decide (a.free = b.free) && decide (a.left = b.left)))))) = false := by
 cases hc : (decide (a.place = b.place) && (decide (a.kids = b.kids) && (decide (a.table = b.table) && (decide (a.parts = b.parts) && (decide (a.free = b.free) && decide (a.left = b.left)))))) with
 | false => rfl
 | true =>
  exfalso
  apply h
  obtain ⟨a1, a2, a3, a4, a5, a6⟩ := a
  obtain ⟨b1, b2, b3, b4, b5, b6⟩ := b
  simp only [Bool.and_eq_true, decide_eq_true_eq] at hc
  obtain ⟨rfl, rfl, rfl, rfl, rfl, rfl⟩ := hc
  rfl
theorem efEq_false {a b : EfM} (h : ¬a = b) : ((decide (a.next.place = b.next.place) && (decide (a.next.kids = b.next.kids) && (decide (a.next.table = b.next.table) && (decide (a.next.parts = b.next.parts) && (decide (a.next.free = b.next.free) && decide (a.next.left = b.next.left)))))) && (decide (a.target.place = b.target.place) && (decide (a.target.kids = b.target.kids) && (decide (a.target.table = b.target.table) && (decide (a.target.parts = b.target.parts) && (decide (a.target.free = b.target.free) && decide (a.target.left = b.target.left))))))) = false := by
 cases hc : ((decide (a.next.place = b.next.place) && (decide (a.next.kids = b.next.kids) && (decide (a.next.table = b.next.table) && (decide (a.next.parts = b.next.parts) && (decide (a.next.free = b.next.free) && decide (a.next.left = b.next.left)))))) && (decide (a.target.place = b.target.place) && (decide (a.target.kids = b.target.kids) && (decide (a.target.table = b.target.table) && (decide (a.target.parts = b.target.parts) && (decide (a.target.free = b.target.free) && decide (a.target.left = b.target.left))))))) with
 | false => rfl
 | true =>
  exfalso
  apply h
  obtain ⟨⟨a1, a2, a3, a4, a5, a6⟩, ⟨c1, c2, c3, c4, c5, c6⟩⟩ := a
  obtain ⟨⟨b1, b2, b3, b4, b5, b6⟩, ⟨d1, d2, d3, d4, d5, d6⟩⟩ := b
  simp only [Bool.and_eq_true, decide_eq_true_eq] at hc
  obtain ⟨⟨rfl, rfl, rfl, rfl, rfl, rfl⟩, rfl, rfl, rfl, rfl, rfl, rfl⟩ := hc
  rfl
theorem stand_G (e : Bool) (C : List InsM) (N : List Int) (h : CodeOK C N) (L : LkM) (W : List Int) (k : Nat) (hk : k < C.length) (s : StM) (t : Int) :
  GCall Try.prog 48 [.ptr 1 10000 0 0, vI k, vSt s, vI t] (lkO e C N L W) (.tup [vEf (standF e (insAt C k) s t).1, vB (standF e (insAt C k) s t).2]) (lkO e C N L W) := by
 have hC := h.len
 have zk : ((k : Int)).toNat = k := by omega
 have gk := insAt_get hk
 unfold standF
 cases e with
 | true =>
  have he := encodes_any s (insAt C k) t
  simp only [if_true]
  unfold lkO lkV
  refine go_fnG (tyOf_ok _) Try.func48 rfl rfl (by rw [Try.results48]) Try.ntmps48 rfl fun E => ?_
  (repeat' (first | exact trivial | (with_reducible first | apply awA | apply awD | apply awF | apply awG) | (refine aw_draw (id := 2) (t := (.node [0, 1, 2, 3, 4, 5, 6, 7, 8, 9, 10, 11, 12, 13, 14] [])) (drR [6, 10000] [23] []) mixed (by kernel_rfl) (by kernel_rfl) (fun _ _ h => h) ?_) | (refine at_done (by simp only [go_sem]; exact rfl) ?_) | (refine at_alt (by simp only [go_sem]; exact rfl) ?_) | refine qalt_normal ?_ | refine ats_cons ?_ ?_ | exact ats_nil | ((with_reducible first | apply awn | apply awp | refine awQ ?_ | refine awT ?_); intro r hr; simp only [go_sem, Nat.reduceBEq, Nat.reduceLT, Nat.reduceLeDiff, Nat.reduceAdd, Nat.reduceMul, reduceCtorEq, zk, gk, encIs_len] at hr; subst hr; (first | refine caC (he) rfl ?_ ?_ ?_ | refine awV ?_ ?_ | refine endGK ?_ ?_ ?_ | (refine condK (fun h => ?_) (fun h => ?_) <;> (try simp only [go_sem, reduceCtorEq] at h) <;> (try (exfalso; omega))))))) <;> (try omega)
  all_goals first | exact AV.up_rfl _ | exact AV.up_dead _ | (repeat first | exact obUp_nil | refine obUp_cons rfl ?_)
 | false =>
  have he := decodes_any s (insAt C k) t (h.runs k hk)
  simp only [Bool.false_eq_true, if_false]
  unfold lkO lkV
  refine go_fnG (tyOf_ok _) Try.func48 rfl rfl (by rw [Try.results48]) Try.ntmps48 rfl fun E => ?_
  (repeat' (first | exact trivial | (with_reducible first | apply awA | apply awC | apply awD | apply awF) | (refine aw_draw (id := 3) (t := (.node [0, 1, 2, 3, 4, 5, 6, 7, 8, 9, 10, 11, 12, 13, 14] [])) (drR [6, 10000] [36] []) mixed (by kernel_rfl) (by kernel_rfl) (fun _ _ h => h) ?_) | (refine at_done (by simp only [go_sem]; exact rfl) ?_) | (refine at_alt (by simp only [go_sem]; exact rfl) ?_) | refine qalt_normal ?_ | refine ats_cons ?_ ?_ | exact ats_nil | ((with_reducible first | apply awn | apply awp | refine awQ ?_ | refine awT ?_); intro r hr; simp only [go_sem, Nat.reduceBEq, Nat.reduceLT, Nat.reduceLeDiff, Nat.reduceAdd, Nat.reduceMul, reduceCtorEq, zk, gk, encIs_len] at hr; subst hr; (first | refine caC (he) rfl ?_ ?_ ?_ | refine awV ?_ ?_ | refine endGK ?_ ?_ ?_ | (refine condK (fun h => ?_) (fun h => ?_) <;> (try simp only [go_sem, reduceCtorEq] at h) <;> (try (exfalso; omega))))))) <;> (try omega)
  all_goals first | exact AV.up_rfl _ | exact AV.up_dead _ | (repeat first | exact obUp_nil | refine obUp_cons rfl ?_)
theorem hand_new (e : Bool) (C : List InsM) (N : List Int) (h : CodeOK C N) (L : LkM) (hL : L.length = C.length) (W : List Int) (hW : W.length ≤ 10000000) (k : Nat) (hk : k < C.length) (s : StM) (t : Int) (hn : L.getD k none = none) :
  GCall Try.prog 34 [.ptr 1 10000 0 0, vI k, vSt s, vI t] (lkO e C N L W) (vB true) (lkO e C N (L.set k (some s)) (upF (W.length + 1) (W ++ [(k : Int)]) W.length)) := by
 have hC := h.len
 have zk : ((k : Int)).toNat = k := by omega
 have gh := encHas_get (L := L) (k := k) (by omega)
 have gs := encSts_get (L := L) (k := k) (by omega)
 have s1 := encSts_set L k s
 have s2 := encHas_set L k s
 have hp := hpush_G e C N (L.set k (some s)) W (by omega) k
 rw [hn] at gh
 simp only [Option.isSome_none] at gh
 have hls : (L.set k (some s)).length = L.length := by simp
 have hlu : (upF (W.length + 1) (W ++ [(k : Int)]) W.length).length = W.length + 1 := by rw [(upF_perm _ _ _ (by simp)).length_eq]; simp
 unfold lkO lkV at hp ⊢
 rw [hls, hlu] at hp ⊢
 refine go_fnG (tyOf_ok _) Try.func34 rfl rfl (by rw [Try.results34]) Try.ntmps34 rfl fun E => ?_
 (repeat' (first | exact trivial | (with_reducible first | apply awA | apply awD | apply awF | apply awG) | (refine aw_draw (id := 2) (t := (.node [0, 1, 2, 3, 4, 5, 6, 7, 8, 9, 10, 11, 12, 13, 14] [])) (drR [10000, 6] [] []) mixed (by kernel_rfl) (by kernel_rfl) (fun _ _ h => h) ?_) | (refine at_done (by simp only [go_sem]; exact rfl) ?_) | (refine at_alt (by simp only [go_sem]; exact rfl) ?_) | refine qalt_normal ?_ | refine ats_cons ?_ ?_ | exact ats_nil | ((with_reducible first | apply awn | apply awo | apply awp | refine awQ ?_ | refine awT ?_); intro r hr; simp only [go_sem, Nat.reduceBEq, Nat.reduceLT, Nat.reduceLeDiff, Nat.reduceAdd, Nat.reduceMul, reduceCtorEq, zk, gh, gs, s1, s2, setXs, encSts_len, encHas_len, Nat.zero_add] at hr; subst hr; (first | refine awV ?_ ?_ | refine awW ?_ ?_ | refine endGK ?_ ?_ ?_ | (refine condK (fun h => ?_) (fun h => ?_) <;> (try simp only [go_sem, reduceCtorEq] at h) <;> (try (exfalso; omega))))) | (refine go_callGE [(10000, 10000), (15000, 15000), (15001, 15001), (15002, 15002)] [(10000, 10000), (15000, 15000), (15001, 15001), (15002, 15002)] [15000, 15001, 15002] [10000] ?_; intro r hr; simp only [go_sem, Nat.reduceBEq, Nat.reduceLT] at hr; subst hr; refine callGK (hp) rfl rfl (by first | exact .inl rfl | exact .inr rfl) ?_ (.inl rfl) ?_))) <;> (try omega)
 all_goals first | exact AV.up_rfl _ | exact AV.up_dead _ | (repeat first | exact obUp_nil | refine obUp_cons rfl ?_)
theorem hand_old (e : Bool) (C : List InsM) (N : List Int) (h : CodeOK C N) (L : LkM) (hL : L.length = C.length) (W : List Int) (k : Nat) (hk : k < C.length) (s s0 : StM) (t : Int) (hn : L.getD k none = some s0) :
  GCall Try.prog 34 [.ptr 1 10000 0 0, vI k, vSt s, vI t] (lkO e C N L W) (vB (handF e C L k s t).isSome) (lkO e C N L W) := by
 have hC := h.len
 have zk : ((k : Int)).toNat = k := by omega
 have gh := encHas_get (L := L) (k := k) (by omega)
 have gs := encSts_get (L := L) (k := k) (by omega)
 rw [hn] at gh
 simp only [Option.isSome_some] at gh
 have hst : stAt L k = s0 := by unfold stAt; rw [hn]; rfl
 rw [hst] at gs
 unfold handF
 rw [hn]
 simp only
 have st0 := stand_G e C N h L W k hk s0 t
 have st1 := stand_G e C N h L W k hk s t
 by_cases hs : s0 = s
 ·subst hs
  rw [if_pos rfl]
  unfold lkO lkV at *
  refine go_fnG (tyOf_ok _) Try.func34 rfl rfl (by rw [Try.results34]) Try.ntmps34 rfl fun E => ?_
  (repeat' (first | exact trivial | (with_reducible first | apply awA | apply awC | apply awD | apply awF | apply awG) | (refine aw_draw (id := 5) (t := (.node [0, 1, 2, 3, 4, 5, 6, 7, 8] [])) (drR [10000, 6] [47] []) mixed (by kernel_rfl) (by kernel_rfl) (fun _ _ h => h) ?_) | (refine at_done (by simp only [go_sem]; exact rfl) ?_) | (refine at_alt (by simp only [go_sem]; exact rfl) ?_) | refine qalt_normal ?_ | refine ats_cons ?_ ?_ | exact ats_nil | ((with_reducible first | apply awn | apply awp | refine awQ ?_ | refine awT ?_); intro r hr; simp only [go_sem, Nat.reduceBEq, Nat.reduceLT, Nat.reduceLeDiff, Nat.reduceAdd, Nat.reduceMul, reduceCtorEq, zk, gh, gs, Nat.zero_add] at hr; subst hr; (first | refine awV ?_ ?_ | refine endGK ?_ ?_ ?_ | (refine condK (fun h => ?_) (fun h => ?_) <;> (try simp only [go_sem, reduceCtorEq] at h) <;> (try (exfalso; omega))))))) <;> (try omega)
  all_goals first | exact AV.up_rfl _ | exact AV.up_dead _ | (repeat first | exact obUp_nil | refine obUp_cons rfl ?_)
 ·rw [if_neg hs]
  generalize hr0 : standF e (insAt C k) s0 t = r0 at st0 ⊢
  generalize hr1 : standF e (insAt C k) s t = r1 at st1 ⊢
  obtain ⟨E0, o0⟩ := r0
  obtain ⟨E1, o1⟩ := r1
  clear hr0 hr1
  have hse := stEq_false hs
  simp only
  unfold lkO lkV at *
  cases o1 with
  | false =>
   simp only [Bool.false_eq_true, false_and, if_false, Option.isSome_none]
   refine go_fnG (tyOf_ok _) Try.func34 rfl rfl (by rw [Try.results34]) Try.ntmps34 rfl fun E => ?_
   (repeat' (first | exact trivial | (with_reducible first | apply awA | apply awC | apply awD | apply awF) | (refine aw_draw (id := 5) (t := (.node [0, 1, 2, 3, 4, 5, 6, 7, 8] [])) (drR [10000, 6] [47] []) mixed (by kernel_rfl) (by kernel_rfl) (fun _ _ h => h) ?_) | (refine at_done (by simp only [go_sem]; exact rfl) ?_) | (refine at_alt (by simp only [go_sem]; exact rfl) ?_) | refine qalt_normal ?_ | refine ats_cons ?_ ?_ | exact ats_nil | ((with_reducible first | apply awn | apply awo | apply awp | refine awQ ?_ | refine awT ?_); intro r hr; simp only [go_sem, Nat.reduceBEq, Nat.reduceLT, Nat.reduceLeDiff, Nat.reduceAdd, Nat.reduceMul, reduceCtorEq, zk, gh, gs, hse, Nat.zero_add] at hr; subst hr; (first | refine awV ?_ ?_ | refine awW ?_ ?_ | refine endGK ?_ ?_ ?_ | (refine condK (fun h => ?_) (fun h => ?_) <;> (try simp only [go_sem, reduceCtorEq] at h) <;> (try (exfalso; omega))))) | (refine al_skipN (vB false) rfl rfl ⟨by decide, by decide⟩ ?_) | (refine go_callGd 61 rfl [(10000, 10000), (15000, 15000), (15001, 15001), (15002, 15002)] [(10000, 10000), (15000, 15000), (15001, 15001), (15002, 15002)] [15000, 15001, 15002] [10000] (by simp only [go_sem, Nat.reduceBEq, Nat.reduceLT]; exact rfl) ?_ rfl rfl (by first | exact .inl rfl | exact .inr rfl) (by simp only [go_sem, Nat.reduceBEq] <;> exact rfl) (st0) (.inl rfl) ?_) | (refine go_callGd 69 rfl [(10000, 10000), (15000, 15000), (15001, 15001), (15002, 15002)] [(10000, 10000), (15000, 15000), (15001, 15001), (15002, 15002)] [15000, 15001, 15002] [10000] (by simp only [go_sem, Nat.reduceBEq, Nat.reduceLT]; exact rfl) ?_ rfl rfl (by first | exact .inl rfl | exact .inr rfl) (by simp only [go_sem, Nat.reduceBEq] <;> exact rfl) (st1) (.inl rfl) ?_))) <;> (try omega)
   all_goals first | exact AV.up_rfl _ | exact AV.up_dead _ | (repeat first | exact obUp_nil | refine obUp_cons rfl ?_)
  | true =>
   by_cases hE : E0 = E1
   ·subst hE
    simp only [true_and, if_true, Option.isSome_some]
    refine go_fnG (tyOf_ok _) Try.func34 rfl rfl (by rw [Try.results34]) Try.ntmps34 rfl fun E => ?_
    (repeat' (first | exact trivial | (with_reducible first | apply awA | apply awC | apply awD | apply awF) | (refine aw_draw (id := 5) (t := (.node [0, 1, 2, 3, 4, 5, 6, 7, 8] [])) (drR [10000, 6] [47] []) mixed (by kernel_rfl) (by kernel_rfl) (fun _ _ h => h) ?_) | (refine at_done (by simp only [go_sem]; exact rfl) ?_) | (refine at_alt (by simp only [go_sem]; exact rfl) ?_) | refine qalt_normal ?_ | refine ats_cons ?_ ?_ | exact ats_nil | ((with_reducible first | apply awn | apply awo | apply awp | refine awQ ?_ | refine awT ?_); intro r hr; simp only [go_sem, Nat.reduceBEq, Nat.reduceLT, Nat.reduceLeDiff, Nat.reduceAdd, Nat.reduceMul, reduceCtorEq, zk, gh, gs, hse, Nat.zero_add] at hr; subst hr; (first | refine awV ?_ ?_ | refine awW ?_ ?_ | refine endGK ?_ ?_ ?_ | (refine condK (fun h => ?_) (fun h => ?_) <;> (try simp only [go_sem, reduceCtorEq] at h) <;> (try (exfalso; omega))))) | (refine al_eq2 (tyOf_ok _) (ft := 62) (k := 6) rfl rfl ⟨by decide, by decide⟩ rfl rfl rfl rfl t89 rfl t62 rfl rfl rfl rfl (by simp only [go_sem, Nat.reduceAdd]; exact rfl) (by simp only [go_sem, Nat.reduceAdd]; exact rfl) ?_) | (refine go_callGd 61 rfl [(10000, 10000), (15000, 15000), (15001, 15001), (15002, 15002)] [(10000, 10000), (15000, 15000), (15001, 15001), (15002, 15002)] [15000, 15001, 15002] [10000] (by simp only [go_sem, Nat.reduceBEq, Nat.reduceLT]; exact rfl) ?_ rfl rfl (by first | exact .inl rfl | exact .inr rfl) (by simp only [go_sem, Nat.reduceBEq] <;> exact rfl) (st0) (.inl rfl) ?_) | (refine go_callGd 69 rfl [(10000, 10000), (15000, 15000), (15001, 15001), (15002, 15002)] [(10000, 10000), (15000, 15000), (15001, 15001), (15002, 15002)] [15000, 15001, 15002] [10000] (by simp only [go_sem, Nat.reduceBEq, Nat.reduceLT]; exact rfl) ?_ rfl rfl (by first | exact .inl rfl | exact .inr rfl) (by simp only [go_sem, Nat.reduceBEq] <;> exact rfl) (st1) (.inl rfl) ?_))) <;> (try omega)
    all_goals first | exact AV.up_rfl _ | exact AV.up_dead _ | (repeat first | exact obUp_nil | refine obUp_cons rfl ?_)
   ·have hee := efEq_false hE
    simp only [hE, and_false, if_false, Option.isSome_none]
    refine go_fnG (tyOf_ok _) Try.func34 rfl rfl (by rw [Try.results34]) Try.ntmps34 rfl fun E => ?_
    (repeat' (first | exact trivial | (with_reducible first | apply awA | apply awC | apply awD | apply awF) | (refine aw_draw (id := 5) (t := (.node [0, 1, 2, 3, 4, 5, 6, 7, 8] [])) (drR [10000, 6] [47] []) mixed (by kernel_rfl) (by kernel_rfl) (fun _ _ h => h) ?_) | (refine at_done (by simp only [go_sem]; exact rfl) ?_) | (refine at_alt (by simp only [go_sem]; exact rfl) ?_) | refine qalt_normal ?_ | refine ats_cons ?_ ?_ | exact ats_nil | ((with_reducible first | apply awn | apply awo | apply awp | refine awQ ?_ | refine awT ?_); intro r hr; simp only [go_sem, Nat.reduceBEq, Nat.reduceLT, Nat.reduceLeDiff, Nat.reduceAdd, Nat.reduceMul, reduceCtorEq, zk, gh, gs, hse, hee, Nat.zero_add] at hr; subst hr; (first | refine awV ?_ ?_ | refine awW ?_ ?_ | refine endGK ?_ ?_ ?_ | (refine condK (fun h => ?_) (fun h => ?_) <;> (try simp only [go_sem, reduceCtorEq] at h) <;> (try (exfalso; omega))))) | (refine al_eq2 (tyOf_ok _) (ft := 62) (k := 6) rfl rfl ⟨by decide, by decide⟩ rfl rfl rfl rfl t89 rfl t62 rfl rfl rfl rfl (by simp only [go_sem, Nat.reduceAdd]; exact rfl) (by simp only [go_sem, Nat.reduceAdd]; exact rfl) ?_) | (refine go_callGd 61 rfl [(10000, 10000), (15000, 15000), (15001, 15001), (15002, 15002)] [(10000, 10000), (15000, 15000), (15001, 15001), (15002, 15002)] [15000, 15001, 15002] [10000] (by simp only [go_sem, Nat.reduceBEq, Nat.reduceLT]; exact rfl) ?_ rfl rfl (by first | exact .inl rfl | exact .inr rfl) (by simp only [go_sem, Nat.reduceBEq] <;> exact rfl) (st0) (.inl rfl) ?_) | (refine go_callGd 69 rfl [(10000, 10000), (15000, 15000), (15001, 15001), (15002, 15002)] [(10000, 10000), (15000, 15000), (15001, 15001), (15002, 15002)] [15000, 15001, 15002] [10000] (by simp only [go_sem, Nat.reduceBEq, Nat.reduceLT]; exact rfl) ?_ rfl rfl (by first | exact .inl rfl | exact .inr rfl) (by simp only [go_sem, Nat.reduceBEq] <;> exact rfl) (st1) (.inl rfl) ?_))) <;> (try omega)
    all_goals first | exact AV.up_rfl _ | exact AV.up_dead _ | (repeat first | exact obUp_nil | refine obUp_cons rfl ?_)
end Go.Proofs.Ytjeplogcfedmeaa
end
