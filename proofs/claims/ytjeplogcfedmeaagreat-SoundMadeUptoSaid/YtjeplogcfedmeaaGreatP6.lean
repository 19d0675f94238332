import Derived.Test.YtjeplogcfedmeaaGreatP5
set_option linter.all false
set_option maxRecDepth 100000
set_option maxHeartbeats 8000000
namespace Go.Proofs.YtjeplogcfedmeaaGreat
section
open Go.RowKit
theorem YJ (s : StM) (x : InsM) (ho : x.op = 9) : zQ Tryz.prog 90 [WC x, vSt s, vSt s.still] (fun r => r = .tup [.lst 6 (sts []), vB false]) := by
 refine yh (zb _) Tryz.func90 rfl rfl (by rw [Tryz.results90]) Tryz.ntmps90 rfl fun E => ?_
 (repeat' (first | exact trivial | (with_reducible first | apply awA | apply awB | apply awC | apply awD | apply awF | apply awI) | ((with_reducible first | apply awn | refine awQ ?_ | refine awR ?_); intro r hr; simp only [go_sem, Nat.reduceBEq, Nat.reduceLT, Nat.reduceLeDiff, Nat.reduceAdd, Nat.reduceMul, ho, Int.reduceEq] at hr; subst hr; (first | refine awV ?_ ?_ | refine zM ?_ ?_ | (refine zh (fun h => ?_) (fun h => ?_) <;> (try simp only [go_sem, reduceCtorEq] at h) <;> (try (exfalso; omega))))))) <;> (try omega)
 all_goals first | exact AV.up_nil2 _ _ | trace_state
theorem Zz (C : List InsM) (N : List Int) (k : Nat) (hC : C.length ≤ 1048576) (hx : FormI false C k) (s : StM) (t : Int) :
  zQ Tryz.prog 72 [pG false C N, vI k, vSt s, vI t] (fun r => r = .tup [.lst 6 (sts (qr (zg C k) (kU s (zg C k) t).1 (zO C k (zg C k)).length)), vB (kU s (zg C k) t).2]) := by
 by_cases h2 : (zg C k).op = 2
 ·exact ZA C N k hC hx h2 s t
 have hk := hx.lt
 have hw := xS false C N k hk hC hx.arms
 have gC := wE hk
 have zk : ((k : Int)).toNat = k := by omega
 have hop := hx.de rfl
 have hkid := hx.kid
 have hrun := hx.run
 have harm := hx.arms
 have l1 := vo (C := C) (k := k)
 have l2 := vn (C := C) (k := k)
 have l8 := wZ (C := C) (k := k)
 have l0 := w7 (C := C) (k := k)
 generalize zO C k (zg C k) = ws at hw l1 l2 l8 l0 ⊢
 clear hx
 generalize zg C k = x at gC hop hkid hrun harm l1 l2 l8 l0 h2 ⊢
 unfold qt at l1 l2
 obtain ⟨op, a, b, c⟩ := x
 dsimp only at h2 hop hkid hrun harm l1 l2 l8 l0 gC
 unfold pG at hw ⊢
 have one : ∀ E : EfM, sts (qr ⟨op, a, b, c⟩ E 1) = sts (jI 1 E.next) := fun E => by
  unfold qr
  split <;> rfl
 unfold kU
 dsimp only
 by_cases hF : op = 1 ∨ op = 3 ∨ op = 4 ∨ op = 16
 ·have hl := l1 (by omega) (by omega) (by omega)
  have hf := vU s a (hkid (by omega))
  rw [hl]
  generalize s.filledD a = q at hf ⊢
  obtain ⟨q1, q2⟩ := q
  have hs := yi q1 1 (by decide)
  have o1 := one (both q1)
  rcases hF with rfl | rfl | rfl | rfl
  all_goals
   simp only [Int.reduceEq, or_false, or_true, if_true, if_false, o1]
   refine yh (zb _) Tryz.func72 rfl rfl (by rw [Tryz.results72]) Tryz.ntmps72 rfl fun E => ?_
  all_goals (repeat' (first | exact trivial | (with_reducible first | apply awA | apply awB | apply awC | apply awD | apply awF | apply awG | apply awJ) | (refine zA (id := 39) (t := (.node [0, 1, 3, 2, 4, 5, 6, 7, 8, 9, 10, 11] [])) (drR [21, 10] [] []) zH (by kernel_rfl) (by kernel_rfl) (fun _ _ h => h) ?_) | (refine zB (by simp only [go_sem]; exact rfl) ?_) | (refine zD (by simp only [go_sem]; exact rfl) ?_) | refine zl ?_ | refine zq ?_ ?_ | exact zC | ((with_reducible first | apply awn | apply awo | apply awp | refine awQ ?_ | refine awR ?_); intro r hr; simp only [go_sem, Nat.reduceBEq, Nat.reduceLT, Nat.reduceLeDiff, Nat.reduceAdd, Nat.reduceMul, reduceCtorEq, zd, gC, zk, zp, hl, Int.cast_ofNat_Int, Int.reduceEq] at hr; subst hr; (first | refine caC (hw) rfl ?_ ?_ ?_ | refine caC (hf) rfl ?_ ?_ ?_ | refine caC (hs) rfl ?_ ?_ ?_ | refine awV ?_ ?_ | refine zM ?_ ?_ | (refine zh (fun h => ?_) (fun h => ?_) <;> (try simp only [go_sem, reduceCtorEq] at h) <;> (try (exfalso; omega))))))) <;> (try omega)
  all_goals first | exact AV.up_rfl _ | trace_state
 by_cases h10 : op = 10
 ·subst h10
  have hl := l1 (by omega) (by omega) (by omega)
  have hf := YG s a
  rw [hl]
  generalize s.offsetD a = q at hf ⊢
  obtain ⟨q1, q2⟩ := q
  have hs := yi q1.next 1 (by decide)
  have o1 := one q1
  simp only [Int.reduceEq, or_false, if_true, if_false, o1]
  refine yh (zb _) Tryz.func72 rfl rfl (by rw [Tryz.results72]) Tryz.ntmps72 rfl fun E => ?_
  (repeat' (first | exact trivial | (with_reducible first | apply awA | apply awB | apply awD | apply awF | apply awG | apply awJ) | ((with_reducible first | apply awn | apply awo | refine awQ ?_ | refine awR ?_); intro r hr; simp only [go_sem, Nat.reduceBEq, Nat.reduceLT, Nat.reduceLeDiff, Nat.reduceAdd, Nat.reduceMul, zd, gC, zk, zp, hl, Int.cast_ofNat_Int, Int.reduceEq] at hr; subst hr; (first | refine caC (hw) rfl ?_ ?_ ?_ | refine caC (hf) rfl ?_ ?_ ?_ | refine caC (hs) rfl ?_ ?_ ?_ | refine awV ?_ ?_ | refine zM ?_ ?_ | (refine zh (fun h => ?_) (fun h => ?_) <;> (try simp only [go_sem, reduceCtorEq] at h) <;> (try (exfalso; omega))))))) <;> (try omega)
  all_goals first | exact AV.up_rfl _ | trace_state
 by_cases h17 : op = 17
 ·subst h17
  have hl := l1 (by omega) (by omega) (by omega)
  have hf := VW s ⟨17, a, b, c⟩ (hkid (by omega))
  rw [hl]
  generalize s.partD ⟨17, a, b, c⟩ = q at hf ⊢
  obtain ⟨q1, q2⟩ := q
  have hs := yi q1.next 1 (by decide)
  have o1 := one q1
  simp only [Int.reduceEq, or_false, if_true, if_false, o1]
  refine yh (zb _) Tryz.func72 rfl rfl (by rw [Tryz.results72]) Tryz.ntmps72 rfl fun E => ?_
  (repeat' (first | exact trivial | (with_reducible first | apply awA | apply awB | apply awD | apply awF | apply awG | apply awJ) | (refine zA (id := 42) (t := (.node [0, 1, 3, 2, 4, 5, 6, 7, 8, 9, 10, 11] [])) (drR [23, 10] [] []) zH (by kernel_rfl) (by kernel_rfl) (fun _ _ h => h) ?_) | (refine zB (by simp only [go_sem]; exact rfl) ?_) | (refine zD (by simp only [go_sem]; exact rfl) ?_) | refine zl ?_ | refine zq ?_ ?_ | exact zC | ((with_reducible first | apply awn | apply awo | apply awp | refine awQ ?_ | refine awR ?_); intro r hr; simp only [go_sem, Nat.reduceBEq, Nat.reduceLT, Nat.reduceLeDiff, Nat.reduceAdd, Nat.reduceMul, reduceCtorEq, zd, gC, zk, zp, hl, Int.cast_ofNat_Int, Int.reduceEq] at hr; subst hr; (first | refine caC (hw) rfl ?_ ?_ ?_ | refine caC (hf) rfl ?_ ?_ ?_ | refine caC (hs) rfl ?_ ?_ ?_ | refine awV ?_ ?_ | refine zM ?_ ?_ | (refine zh (fun h => ?_) (fun h => ?_) <;> (try simp only [go_sem, reduceCtorEq] at h) <;> (try (exfalso; omega))))))) <;> (try omega)
  all_goals first | exact AV.up_rfl _ | trace_state
 by_cases hN : op = 5 ∨ op = 6 ∨ op = 19
 ·have hl := l1 (by omega) (by omega) (by omega)
  rw [hl]
  have s5 := yi ⟨1, s.kids, s.table, s.parts, 1, s.left⟩ 1 (by decide)
  have s6 := yi ⟨2, s.kids, s.table, s.parts, 0, s.left⟩ 1 (by decide)
  have s9 := yi s 1 (by decide)
  rcases hN with rfl | rfl | rfl
  all_goals
   simp only [Int.reduceEq, or_false, if_true, if_false, one]
   refine yh (zb _) Tryz.func72 rfl rfl (by rw [Tryz.results72]) Tryz.ntmps72 rfl fun E => ?_
  all_goals (repeat' (first | exact trivial | (with_reducible first | apply awA | apply awB | apply awD | apply awF | apply awG | apply awJ) | (refine zA (id := 22) (t := (.node [0, 1, 3, 4, 5, 2, 6, 7] [])) (drR [12, 6] [] []) zH (by kernel_rfl) (by kernel_rfl) (fun _ _ h => h) ?_) | (refine zA (id := 25) (t := (.node [0, 1, 3, 4, 5, 2, 6, 7] [])) (drR [12, 6] [] []) zH (by kernel_rfl) (by kernel_rfl) (fun _ _ h => h) ?_) | (refine zB (by simp only [go_sem]; exact rfl) ?_) | (refine zD (by simp only [go_sem]; exact rfl) ?_) | refine zl ?_ | refine zq ?_ ?_ | exact zC | ((with_reducible first | apply awn | apply awo | apply awp | refine awQ ?_ | refine awR ?_); intro r hr; simp only [go_sem, Nat.reduceBEq, Nat.reduceLT, Nat.reduceLeDiff, Nat.reduceAdd, Nat.reduceMul, reduceCtorEq, zd, gC, zk, zp, hl, Int.cast_ofNat_Int, Int.reduceEq] at hr; subst hr; (first | refine caC (hw) rfl ?_ ?_ ?_ | refine caC (s5) rfl ?_ ?_ ?_ | refine caC (s6) rfl ?_ ?_ ?_ | refine caC (s9) rfl ?_ ?_ ?_ | refine awV ?_ ?_ | refine zM ?_ ?_ | (refine zh (fun h => ?_) (fun h => ?_) <;> (try simp only [go_sem, reduceCtorEq] at h) <;> (try (exfalso; omega))))))) <;> (try omega)
  all_goals first | exact AV.up_rfl _ | trace_state
 by_cases h8 : op = 8
 ·subst h8
  have hl := l8 (.inl rfl)
  have := harm (.inl rfl)
  have hs := yi ⟨3, s.kids, s.table, s.parts, 0, s.left⟩ a.toNat (by omega)
  rw [hl, wY (.inl rfl)]
  simp only [Int.reduceEq, or_false, if_true, if_false]
  refine yh (zb _) Tryz.func72 rfl rfl (by rw [Tryz.results72]) Tryz.ntmps72 rfl fun E => ?_
  (repeat' (first | exact trivial | (with_reducible first | apply awA | apply awB | apply awD | apply awF | apply awG | apply awJ) | (refine zA (id := 33) (t := (.node [0, 1, 3, 4, 5, 2, 6, 7] [])) (drR [12, 6] [] []) zH (by kernel_rfl) (by kernel_rfl) (fun _ _ h => h) ?_) | (refine zB (by simp only [go_sem]; exact rfl) ?_) | (refine zD (by simp only [go_sem]; exact rfl) ?_) | refine zl ?_ | refine zq ?_ ?_ | exact zC | ((with_reducible first | apply awn | apply awo | apply awp | refine awQ ?_ | refine awR ?_); intro r hr; simp only [go_sem, Nat.reduceBEq, Nat.reduceLT, Nat.reduceLeDiff, Nat.reduceAdd, Nat.reduceMul, reduceCtorEq, zd, gC, zk, zp, hl, Int.reduceEq] at hr; subst hr; (first | refine caC (hw) rfl ?_ ?_ ?_ | refine caC (hs) rfl ?_ ?_ ?_ | refine awV ?_ ?_ | refine zM ?_ ?_ | (refine zh (fun h => ?_) (fun h => ?_) <;> (try simp only [go_sem, reduceCtorEq] at h) <;> (try (exfalso; omega))))))) <;> (try omega)
  all_goals first | exact AV.up_rfl _ | trace_state
 by_cases h7 : op = 7
 ·subst h7
  have hl := l2 (by omega)
  rw [hl, yI (by intro q; dsimp only at q; omega)]
  simp only [Int.reduceEq, or_false, if_true, if_false]
  refine yh (zb _) Tryz.func72 rfl rfl (by rw [Tryz.results72]) Tryz.ntmps72 rfl fun E => ?_
  (repeat' (first | exact trivial | (with_reducible first | apply awA | apply awB | apply awD | apply awF | apply awG | apply awJ) | (refine zA (id := 30) (t := (.node [0, 1, 3, 4, 5, 2, 6, 7] [])) (drR [18, 12, 6] [] []) zH (by kernel_rfl) (by kernel_rfl) (fun _ _ h => h) ?_) | (refine zB (by simp only [go_sem]; exact rfl) ?_) | (refine zD (by simp only [go_sem]; exact rfl) ?_) | refine zl ?_ | refine zq ?_ ?_ | exact zC | ((with_reducible first | apply awn | apply awo | apply awp | refine awQ ?_ | refine awR ?_); intro r hr; simp only [go_sem, Nat.reduceBEq, Nat.reduceLT, Nat.reduceLeDiff, Nat.reduceAdd, Nat.reduceMul, reduceCtorEq, zd, gC, zk, zp, hl, Int.cast_ofNat_Int, Int.reduceEq] at hr; subst hr; (first | refine caC (hw) rfl ?_ ?_ ?_ | refine awV ?_ ?_ | refine zM ?_ ?_ | (refine zh (fun h => ?_) (fun h => ?_) <;> (try simp only [go_sem, reduceCtorEq] at h) <;> (try (exfalso; omega))))))) <;> (try omega)
  all_goals first | exact AV.up_rfl _ | trace_state
 by_cases hL : op = 11 ∨ op = 12 ∨ op = 13 ∨ op = 14 ∨ op = 15
 ·have hl := l2 (by omega)
  have hf := Wc s ⟨op, a, b, c⟩ hL
  rw [hl, yI (by intro q; dsimp only at q; omega)]
  show zQ _ _ _ (fun r => r = .tup [.lst 6 (sts [_, _]), _])
  rcases hL with rfl | rfl | rfl | rfl | rfl
  all_goals
   simp only [Int.reduceEq, or_false, or_true, if_true, if_false]
   generalize s.rounds _ = q at hf ⊢
   obtain ⟨q1, q2⟩ := q
   refine yh (zb _) Tryz.func72 rfl rfl (by rw [Tryz.results72]) Tryz.ntmps72 rfl fun E => ?_
  all_goals (repeat' (first | exact trivial | (with_reducible first | apply awA | apply awB | apply awC | apply awD | apply awF | apply awI) | ((with_reducible first | apply awn | apply awo | refine awQ ?_ | refine awR ?_); intro r hr; simp only [go_sem, Nat.reduceBEq, Nat.reduceLT, Nat.reduceLeDiff, Nat.reduceAdd, Nat.reduceMul, zd, gC, zk, zp, hl, Int.cast_ofNat_Int, Int.reduceEq] at hr; subst hr; (first | refine caC (hw) rfl ?_ ?_ ?_ | refine caC (hf) rfl ?_ ?_ ?_ | refine awV ?_ ?_ | refine zM ?_ ?_ | (refine zh (fun h => ?_) (fun h => ?_) <;> (try simp only [go_sem, reduceCtorEq] at h) <;> (try (exfalso; omega))))))) <;> (try omega)
  all_goals first | exact AV.up_rfl _ | trace_state
 by_cases h18 : op = 18
 ·subst h18
  have hl := l1 (by omega) (by omega) (by omega)
  have hf := YI s ⟨18, a, b, c⟩ rfl
  have hn : (s.rounds ⟨18, a, b, c⟩).1.next = s.still := by
   unfold StM.rounds
   simp only [Int.reduceEq, if_false]
   rfl
  rw [hl]
  simp only [Int.reduceEq, or_false, or_true, if_true, if_false, one, hn]
  generalize (s.rounds _).2 = q at hf ⊢
  show zQ _ _ _ (fun r => r = .tup [.lst 6 (sts [_]), _])
  refine yh (zb _) Tryz.func72 rfl rfl (by rw [Tryz.results72]) Tryz.ntmps72 rfl fun E => ?_
  (repeat' (first | exact trivial | (with_reducible first | apply awA | apply awB | apply awC | apply awD | apply awF | apply awI) | ((with_reducible first | apply awn | apply awo | refine awQ ?_ | refine awR ?_); intro r hr; simp only [go_sem, Nat.reduceBEq, Nat.reduceLT, Nat.reduceLeDiff, Nat.reduceAdd, Nat.reduceMul, zd, gC, zk, zp, hl, Int.cast_ofNat_Int, Int.reduceEq] at hr; subst hr; (first | refine caC (hw) rfl ?_ ?_ ?_ | refine caC (hf) rfl ?_ ?_ ?_ | refine awV ?_ ?_ | refine zM ?_ ?_ | (refine zh (fun h => ?_) (fun h => ?_) <;> (try simp only [go_sem, reduceCtorEq] at h) <;> (try (exfalso; omega))))))) <;> (try omega)
  all_goals first | exact AV.up_rfl _ | trace_state
 by_cases h20 : op = 20
 ·subst h20
  have hl := l0 (.inl rfl)
  have hf := VV s
  rw [hl, yI (by intro q; dsimp only at q; omega)]
  simp only [Int.reduceEq, or_false, if_true, if_false]
  refine yh (zb _) Tryz.func72 rfl rfl (by rw [Tryz.results72]) Tryz.ntmps72 rfl fun E => ?_
  (repeat' (first | exact trivial | (with_reducible first | apply awA | apply awB | apply awD | apply awF | apply awG | apply awJ) | ((with_reducible first | apply awn | apply awo | refine awQ ?_ | refine awR ?_); intro r hr; simp only [go_sem, Nat.reduceBEq, Nat.reduceLT, Nat.reduceLeDiff, Nat.reduceAdd, Nat.reduceMul, zd, gC, zk, zp, hl, Int.cast_ofNat_Int, Int.reduceEq] at hr; subst hr; (first | refine caC (hw) rfl ?_ ?_ ?_ | refine caC (hf) rfl ?_ ?_ ?_ | refine awV ?_ ?_ | refine zM ?_ ?_ | (refine zh (fun h => ?_) (fun h => ?_) <;> (try simp only [go_sem, reduceCtorEq] at h) <;> (try (exfalso; omega))))))) <;> (try omega)
  all_goals first | exact AV.up_nil2 _ _ | trace_state
 by_cases h9 : op = 9
 ·subst h9
  have hl := l0 (.inr rfl)
  have hf := YJ s ⟨9, a, b, c⟩ rfl
  rw [hl, yI (by intro q; dsimp only at q; omega)]
  simp only [Int.reduceEq, or_false, if_false]
  refine yh (zb _) Tryz.func72 rfl rfl (by rw [Tryz.results72]) Tryz.ntmps72 rfl fun E => ?_
  (repeat' (first | exact trivial | (with_reducible first | apply awA | apply awB | apply awC | apply awD | apply awF | apply awI) | ((with_reducible first | apply awn | apply awo | refine awQ ?_ | refine awR ?_); intro r hr; simp only [go_sem, Nat.reduceBEq, Nat.reduceLT, Nat.reduceLeDiff, Nat.reduceAdd, Nat.reduceMul, zd, gC, zk, zp, hl, Int.cast_ofNat_Int, Int.reduceEq] at hr; subst hr; (first | refine caC (hw) rfl ?_ ?_ ?_ | refine caC (hf) rfl ?_ ?_ ?_ | refine awV ?_ ?_ | refine zM ?_ ?_ | (refine zh (fun h => ?_) (fun h => ?_) <;> (try simp only [go_sem, reduceCtorEq] at h) <;> (try (exfalso; omega))))))) <;> (try omega)
  all_goals first | exact AV.up_rfl _ | trace_state
 omega
end
section
open Go.RowKit
theorem ZB (C : List InsM) (N : List Int) (k : Nat) (hC : C.length ≤ 1048576) (hx : FormI true C k) (s : StM) (t : Int) :
  zQ Tryz.prog 71 [pG true C N, vI k, vSt s, vI t] (fun r => r = .tup [.lst 6 (sts (qr (zg C k) (qp s (zg C k) t).1 (zO C k (zg C k)).length)), vB (qp s (zg C k) t).2]) := by
 have hk := hx.lt
 have hw := xS true C N k hk hC hx.arms
 have gC := wE hk
 have zk : ((k : Int)).toNat = k := by omega
 have hop := hx.en rfl
 have harm := hx.arms
 have l1 := vo (C := C) (k := k)
 have l2 := vn (C := C) (k := k)
 have l8 := wZ (C := C) (k := k)
 have l0 := w7 (C := C) (k := k)
 generalize zO C k (zg C k) = ws at hw l1 l2 l8 l0 ⊢
 clear hx
 generalize zg C k = x at gC hop harm l1 l2 l8 l0 ⊢
 unfold qt at l1 l2
 obtain ⟨op, a, b, c⟩ := x
 dsimp only at hop harm l1 l2 l8 l0 gC
 unfold pG at hw ⊢
 have one : ∀ E : EfM, sts (qr ⟨op, a, b, c⟩ E 1) = sts (jI 1 E.next) := fun E => by
  unfold qr
  split <;> rfl
 have ht := Wb s
 have hu := YH s
 have m1 := yi s.takenD.1 1 (by decide)
 have m2 := yi s.turn.1 1 (by decide)
 have m3 := yi s 1 (by decide)
 unfold qp
 dsimp only
 generalize s.takenD = q at ht m1 ⊢
 generalize s.turn = u at hu m2 ⊢
 obtain ⟨q1, q2⟩ := q
 obtain ⟨u1, u2⟩ := u
 dsimp only at ht hu m1 m2
 by_cases hA : op = 33 ∨ op = 35
 ·have hl := l1 (by omega) (by omega) (by omega)
  rw [hl]
  by_cases ha : a = -1
  ·have ea : (a = -1) = True := eq_true ha
   rcases hA with rfl | rfl
   all_goals
    simp only [Int.reduceEq, or_false, or_true, if_true, if_false, one, ea]
    refine yh (zb _) Tryz.func71 rfl rfl (by rw [Tryz.results71]) Tryz.ntmps71 rfl fun E => ?_
   all_goals (repeat' (first | exact trivial | (with_reducible first | apply awA | apply awB | apply awC | apply awD | apply awF | apply awG | apply awJ) | ((with_reducible first | apply awn | apply awo | refine awQ ?_ | refine awR ?_); intro r hr; simp only [go_sem, Nat.reduceBEq, Nat.reduceLT, Nat.reduceLeDiff, Nat.reduceAdd, Nat.reduceMul, zd, gC, zk, ea, zp, hl, Int.cast_ofNat_Int, Int.reduceEq] at hr; subst hr; (first | refine caC (hw) rfl ?_ ?_ ?_ | refine caC (hu) rfl ?_ ?_ ?_ | refine caC (m2) rfl ?_ ?_ ?_ | refine awV ?_ ?_ | refine zM ?_ ?_ | (refine zh (fun h => ?_) (fun h => ?_) <;> (try simp only [go_sem, reduceCtorEq] at h) <;> (try (exfalso; omega))))))) <;> (try omega)
   all_goals first | exact AV.up_rfl _ | trace_state
  ·have ea : (a = -1) = False := eq_false ha
   rcases hA with rfl | rfl
   all_goals
    simp only [Int.reduceEq, or_false, or_true, if_true, if_false, one, ea]
    refine yh (zb _) Tryz.func71 rfl rfl (by rw [Tryz.results71]) Tryz.ntmps71 rfl fun E => ?_
   all_goals (repeat' (first | exact trivial | (with_reducible first | apply awA | apply awB | apply awC | apply awD | apply awF | apply awG | apply awJ) | ((with_reducible first | apply awn | apply awo | refine awQ ?_ | refine awR ?_); intro r hr; simp only [go_sem, Nat.reduceBEq, Nat.reduceLT, Nat.reduceLeDiff, Nat.reduceAdd, Nat.reduceMul, zd, gC, zk, ea, zp, hl, Int.cast_ofNat_Int, Int.reduceEq] at hr; subst hr; (first | refine caC (hw) rfl ?_ ?_ ?_ | refine caC (ht) rfl ?_ ?_ ?_ | refine caC (m1) rfl ?_ ?_ ?_ | refine awV ?_ ?_ | refine zM ?_ ?_ | (refine zh (fun h => ?_) (fun h => ?_) <;> (try simp only [go_sem, reduceCtorEq] at h) <;> (try (exfalso; omega))))))) <;> (try omega)
   all_goals first | exact AV.up_rfl _ | trace_state
 by_cases h34 : op = 34
 ·subst h34
  have hl := l1 (by omega) (by omega) (by omega)
  rw [hl]
  have hs := yi ⟨s.place, s.kids, s.table, s.parts, s.free, IntKind.i64.wrap (s.left - b)⟩ 1 (by decide)
  simp only [Int.reduceEq, or_self, if_true, if_false, one]
  refine yh (zb _) Tryz.func71 rfl rfl (by rw [Tryz.results71]) Tryz.ntmps71 rfl fun E => ?_
  (repeat' (first | exact trivial | (with_reducible first | apply awA | apply awB | apply awD | apply awF | apply awG | apply awJ) | ((with_reducible first | apply awn | apply awo | refine awQ ?_ | refine awR ?_); intro r hr; simp only [go_sem, Nat.reduceBEq, Nat.reduceLT, Nat.reduceLeDiff, Nat.reduceAdd, Nat.reduceMul, zd, gC, zk, zp, hl, Int.cast_ofNat_Int, Int.reduceEq] at hr; subst hr; (first | refine caC (hw) rfl ?_ ?_ ?_ | refine caC (hs) rfl ?_ ?_ ?_ | refine awV ?_ ?_ | refine zM ?_ ?_ | (refine zh (fun h => ?_) (fun h => ?_) <;> (try simp only [go_sem, reduceCtorEq] at h) <;> (try (exfalso; omega))))))) <;> (try omega)
  all_goals first | exact AV.up_rfl _ | trace_state
 by_cases hh36 : op = 36 ∨ op = 44
 ·have hl := l1 (by omega) (by omega) (by omega)
  rw [hl]
  rcases hh36 with rfl | rfl
  all_goals
   simp only [Int.reduceEq, or_self, if_true, if_false, one]
   refine yh (zb _) Tryz.func71 rfl rfl (by rw [Tryz.results71]) Tryz.ntmps71 rfl fun E => ?_
  all_goals (repeat' (first | exact trivial | (with_reducible first | apply awA | apply awB | apply awD | apply awF | apply awG | apply awJ) | (refine zA (id := 35) (t := (.node [0, 1, 3, 2, 4, 5, 6, 7, 8, 9, 10, 11] [])) (drR [20, 10] [] []) zH (by kernel_rfl) (by kernel_rfl) (fun _ _ h => h) ?_) | (refine zB (by simp only [go_sem]; exact rfl) ?_) | (refine zD (by simp only [go_sem]; exact rfl) ?_) | refine zl ?_ | refine zq ?_ ?_ | exact zC | ((with_reducible first | apply awn | apply awo | apply awp | refine awQ ?_ | refine awR ?_); intro r hr; simp only [go_sem, Nat.reduceBEq, Nat.reduceLT, Nat.reduceLeDiff, Nat.reduceAdd, Nat.reduceMul, reduceCtorEq, zd, gC, zk, zp, hl, Int.cast_ofNat_Int, Int.reduceEq] at hr; subst hr; (first | refine caC (hw) rfl ?_ ?_ ?_ | refine caC (ht) rfl ?_ ?_ ?_ | refine caC (m1) rfl ?_ ?_ ?_ | refine awV ?_ ?_ | refine zM ?_ ?_ | (refine zh (fun h => ?_) (fun h => ?_) <;> (try simp only [go_sem, reduceCtorEq] at h) <;> (try (exfalso; omega))))))) <;> (try omega)
  all_goals first | exact AV.up_rfl _ | trace_state
 by_cases h45 : op = 45
 ·subst h45
  have hl := l1 (by omega) (by omega) (by omega)
  rw [hl]
  simp only [Int.reduceEq, or_self, if_true, if_false, one]
  refine yh (zb _) Tryz.func71 rfl rfl (by rw [Tryz.results71]) Tryz.ntmps71 rfl fun E => ?_
  (repeat' (first | exact trivial | (with_reducible first | apply awA | apply awB | apply awD | apply awF | apply awG | apply awJ) | (refine zA (id := 38) (t := (.node [0, 1, 3, 2, 4, 5, 6, 7, 8, 9, 10, 11] [])) (drR [22, 10] [] []) zH (by kernel_rfl) (by kernel_rfl) (fun _ _ h => h) ?_) | (refine zB (by simp only [go_sem]; exact rfl) ?_) | (refine zD (by simp only [go_sem]; exact rfl) ?_) | refine zl ?_ | refine zq ?_ ?_ | exact zC | ((with_reducible first | apply awn | apply awo | apply awp | refine awQ ?_ | refine awR ?_); intro r hr; simp only [go_sem, Nat.reduceBEq, Nat.reduceLT, Nat.reduceLeDiff, Nat.reduceAdd, Nat.reduceMul, reduceCtorEq, zd, gC, zk, zp, hl, Int.cast_ofNat_Int, Int.reduceEq] at hr; subst hr; (first | refine caC (hw) rfl ?_ ?_ ?_ | refine caC (hu) rfl ?_ ?_ ?_ | refine caC (m2) rfl ?_ ?_ ?_ | refine awV ?_ ?_ | refine zM ?_ ?_ | (refine zh (fun h => ?_) (fun h => ?_) <;> (try simp only [go_sem, reduceCtorEq] at h) <;> (try (exfalso; omega))))))) <;> (try omega)
  all_goals first | exact AV.up_rfl _ | trace_state
 by_cases h46 : op = 46
 ·subst h46
  have hl := l1 (by omega) (by omega) (by omega)
  rw [hl]
  by_cases h7 : s.place = 7
  ·have e7 : (s.place = 7) = True := eq_true h7
   simp only [Int.reduceEq, or_self, if_true, if_false, one, e7]
   refine yh (zb _) Tryz.func71 rfl rfl (by rw [Tryz.results71]) Tryz.ntmps71 rfl fun E => ?_
   (repeat' (first | exact trivial | (with_reducible first | apply awA | apply awB | apply awD | apply awF | apply awG | apply awJ) | (refine zA (id := 43) (t := (.node [0, 1, 3, 2, 4, 5, 6, 7, 8, 9, 10, 11] [])) (drR [24, 10] [] []) zH (by kernel_rfl) (by kernel_rfl) (fun _ _ h => h) ?_) | (refine zB (by simp only [go_sem]; exact rfl) ?_) | (refine zD (by simp only [go_sem]; exact rfl) ?_) | refine zl ?_ | refine zq ?_ ?_ | exact zC | ((with_reducible first | apply awn | apply awo | apply awp | refine awQ ?_ | refine awR ?_); intro r hr; simp only [go_sem, Nat.reduceBEq, Nat.reduceLT, Nat.reduceLeDiff, Nat.reduceAdd, Nat.reduceMul, reduceCtorEq, zd, gC, zk, e7, zp, hl, Int.cast_ofNat_Int, Int.reduceEq] at hr; subst hr; (first | refine caC (hw) rfl ?_ ?_ ?_ | refine caC (ht) rfl ?_ ?_ ?_ | refine caC (hu) rfl ?_ ?_ ?_ | refine caC (m2) rfl ?_ ?_ ?_ | refine awV ?_ ?_ | refine zM ?_ ?_ | (refine zh (fun h => ?_) (fun h => ?_) <;> (try simp only [go_sem, reduceCtorEq] at h) <;> (try (exfalso; omega))))))) <;> (try omega)
   all_goals first | exact AV.up_rfl _ | trace_state
  ·have e7 : (s.place = 7) = False := eq_false h7
   simp only [Int.reduceEq, or_self, if_true, if_false, one, e7]
   refine yh (zb _) Tryz.func71 rfl rfl (by rw [Tryz.results71]) Tryz.ntmps71 rfl fun E => ?_
   (repeat' (first | exact trivial | (with_reducible first | apply awA | apply awB | apply awC | apply awD | apply awF | apply awG | apply awJ) | (refine zA (id := 43) (t := (.node [0, 1, 3, 2, 4, 5, 6, 7, 8, 9, 10, 11] [])) (drR [24, 10] [] []) zH (by kernel_rfl) (by kernel_rfl) (fun _ _ h => h) ?_) | (refine zB (by simp only [go_sem]; exact rfl) ?_) | (refine zD (by simp only [go_sem]; exact rfl) ?_) | refine zl ?_ | refine zq ?_ ?_ | exact zC | ((with_reducible first | apply awn | apply awo | apply awp | refine awQ ?_ | refine awR ?_); intro r hr; simp only [go_sem, Nat.reduceBEq, Nat.reduceLT, Nat.reduceLeDiff, Nat.reduceAdd, Nat.reduceMul, reduceCtorEq, zd, gC, zk, e7, zp, hl, Int.cast_ofNat_Int, Int.reduceEq] at hr; subst hr; (first | refine caC (hw) rfl ?_ ?_ ?_ | refine caC (ht) rfl ?_ ?_ ?_ | refine caC (m1) rfl ?_ ?_ ?_ | refine awV ?_ ?_ | refine zM ?_ ?_ | (refine zh (fun h => ?_) (fun h => ?_) <;> (try simp only [go_sem, reduceCtorEq] at h) <;> (try (exfalso; omega))))))) <;> (try omega)
   all_goals first | exact AV.up_rfl _ | trace_state
 by_cases hh37 : op = 37 ∨ op = 38 ∨ op = 39
 ·have hl := l1 (by omega) (by omega) (by omega)
  rw [hl]
  have s7 := yi ⟨7, 0, 0, 0, 2, 0⟩ 1 (by decide)
  have s8 := yi ⟨7, 0, 0, 0, 0, 0⟩ 1 (by decide)
  have s9 := yi ⟨6, 0, 0, 0, 0, a⟩ 1 (by decide)
  rcases hh37 with rfl | rfl | rfl
  all_goals
   simp only [Int.reduceEq, or_self, if_true, if_false, one]
   refine yh (zb _) Tryz.func71 rfl rfl (by rw [Tryz.results71]) Tryz.ntmps71 rfl fun E => ?_
  all_goals (repeat' (first | exact trivial | (with_reducible first | apply awA | apply awB | apply awD | apply awF | apply awG | apply awJ) | ((with_reducible first | apply awn | apply awo | refine awQ ?_ | refine awR ?_); intro r hr; simp only [go_sem, Nat.reduceBEq, Nat.reduceLT, Nat.reduceLeDiff, Nat.reduceAdd, Nat.reduceMul, zd, gC, zk, zp, hl, Int.cast_ofNat_Int, Int.reduceEq] at hr; subst hr; (first | refine caC (hw) rfl ?_ ?_ ?_ | refine caC (s7) rfl ?_ ?_ ?_ | refine caC (s8) rfl ?_ ?_ ?_ | refine caC (s9) rfl ?_ ?_ ?_ | refine awV ?_ ?_ | refine zM ?_ ?_ | (refine zh (fun h => ?_) (fun h => ?_) <;> (try simp only [go_sem, reduceCtorEq] at h) <;> (try (exfalso; omega))))))) <;> (try omega)
  all_goals first | exact AV.up_rfl _ | trace_state
 by_cases h40 : op = 40
 ·subst h40
  have hl := l2 (by omega)
  rw [hl, yI (by intro q; dsimp only at q; omega)]
  simp only [Int.reduceEq, or_self, if_true, if_false]
  refine yh (zb _) Tryz.func71 rfl rfl (by rw [Tryz.results71]) Tryz.ntmps71 rfl fun E => ?_
  (repeat' (first | exact trivial | (with_reducible first | apply awA | apply awB | apply awD | apply awF | apply awG | apply awJ) | ((with_reducible first | apply awn | apply awo | refine awQ ?_ | refine awR ?_); intro r hr; simp only [go_sem, Nat.reduceBEq, Nat.reduceLT, Nat.reduceLeDiff, Nat.reduceAdd, Nat.reduceMul, zd, gC, zk, zp, hl, Int.cast_ofNat_Int, Int.reduceEq] at hr; subst hr; (first | refine caC (hw) rfl ?_ ?_ ?_ | refine awV ?_ ?_ | refine zM ?_ ?_ | (refine zh (fun h => ?_) (fun h => ?_) <;> (try simp only [go_sem, reduceCtorEq] at h) <;> (try (exfalso; omega))))))) <;> (try omega)
  all_goals first | exact AV.up_rfl _ | trace_state
 by_cases h47 : op = 47
 ·subst h47
  have hl := l2 (by omega)
  rw [hl, yI (by intro q; dsimp only at q; omega)]
  simp only [Int.reduceEq, or_self, if_true, if_false]
  refine yh (zb _) Tryz.func71 rfl rfl (by rw [Tryz.results71]) Tryz.ntmps71 rfl fun E => ?_
  (repeat' (first | exact trivial | (with_reducible first | apply awA | apply awB | apply awD | apply awF | apply awG | apply awJ) | (refine zA (id := 45) (t := (.node [0, 1, 3, 4, 5, 2, 6, 7] [])) (drR [6] [] []) zH (by kernel_rfl) (by kernel_rfl) (fun _ _ h => h) ?_) | (refine zB (by simp only [go_sem]; exact rfl) ?_) | (refine zD (by simp only [go_sem]; exact rfl) ?_) | refine zl ?_ | refine zq ?_ ?_ | exact zC | ((with_reducible first | apply awn | apply awo | apply awp | refine awQ ?_ | refine awR ?_); intro r hr; simp only [go_sem, Nat.reduceBEq, Nat.reduceLT, Nat.reduceLeDiff, Nat.reduceAdd, Nat.reduceMul, zd, gC, zk, zp, hl, Int.cast_ofNat_Int, Int.reduceEq] at hr; subst hr; (first | refine caC (hw) rfl ?_ ?_ ?_ | refine awV ?_ ?_ | refine zM ?_ ?_ | (refine zh (fun h => ?_) (fun h => ?_) <;> (try simp only [go_sem, reduceCtorEq] at h) <;> (try (exfalso; omega))))))) <;> (try omega)
  all_goals first | exact AV.up_rfl _ | trace_state
 by_cases h41 : op = 41
 ·subst h41
  have hl := l8 (.inr rfl)
  have := harm (.inr rfl)
  have hs := yi ⟨6, 0, 0, 0, 0, 1⟩ a.toNat (by omega)
  rw [hl, wY (.inr rfl)]
  simp only [Int.reduceEq, or_self, if_true, if_false]
  refine yh (zb _) Tryz.func71 rfl rfl (by rw [Tryz.results71]) Tryz.ntmps71 rfl fun E => ?_
  (repeat' (first | exact trivial | (with_reducible first | apply awA | apply awB | apply awD | apply awF | apply awG | apply awJ) | ((with_reducible first | apply awn | apply awo | refine awQ ?_ | refine awR ?_); intro r hr; simp only [go_sem, Nat.reduceBEq, Nat.reduceLT, Nat.reduceLeDiff, Nat.reduceAdd, Nat.reduceMul, zd, gC, zk, zp, hl, Int.reduceEq] at hr; subst hr; (first | refine caC (hw) rfl ?_ ?_ ?_ | refine caC (hs) rfl ?_ ?_ ?_ | refine awV ?_ ?_ | refine zM ?_ ?_ | (refine zh (fun h => ?_) (fun h => ?_) <;> (try simp only [go_sem, reduceCtorEq] at h) <;> (try (exfalso; omega))))))) <;> (try omega)
  all_goals first | exact AV.up_rfl _ | trace_state
 by_cases hh42 : op = 42 ∨ op = 43 ∨ op = 19
 ·have hl := l1 (by omega) (by omega) (by omega)
  rw [hl]
  rcases hh42 with rfl | rfl | rfl
  all_goals
   simp only [Int.reduceEq, or_self, if_true, if_false, one]
   refine yh (zb _) Tryz.func71 rfl rfl (by rw [Tryz.results71]) Tryz.ntmps71 rfl fun E => ?_
  all_goals (repeat' (first | exact trivial | (with_reducible first | apply awA | apply awB | apply awD | apply awF | apply awG | apply awJ) | (refine zA (id := 30) (t := (.node [0, 1, 3, 4, 5, 2, 6, 7, 8, 9, 10, 11, 12, 13, 14, 15, 16, 17] [])) (drR [6, 10] [] []) zH (by kernel_rfl) (by kernel_rfl) (fun _ _ h => h) ?_) | (refine zA (id := 32) (t := (.node [0, 1, 3, 4, 5, 2, 6, 7, 8, 9, 10, 11, 12, 13, 14, 15, 16, 17, 18, 19, 20, 21, 22, 23, 24, 25, 26, 27] [])) (drR [6, 10] [] []) zH (by kernel_rfl) (by kernel_rfl) (fun _ _ h => h) ?_) | (refine zB (by simp only [go_sem]; exact rfl) ?_) | (refine zD (by simp only [go_sem]; exact rfl) ?_) | refine zl ?_ | refine zq ?_ ?_ | exact zC | ((with_reducible first | apply awn | apply awo | apply awp | refine awQ ?_ | refine awR ?_); intro r hr; simp only [go_sem, Nat.reduceBEq, Nat.reduceLT, Nat.reduceLeDiff, Nat.reduceAdd, Nat.reduceMul, reduceCtorEq, zd, gC, zk, zp, hl, Int.cast_ofNat_Int, Int.reduceEq] at hr; subst hr; (first | refine caC (hw) rfl ?_ ?_ ?_ | refine caC (m3) rfl ?_ ?_ ?_ | refine awV ?_ ?_ | refine zM ?_ ?_ | (refine zh (fun h => ?_) (fun h => ?_) <;> (try simp only [go_sem, reduceCtorEq] at h) <;> (try (exfalso; omega))))))) <;> (try omega)
  all_goals first | exact AV.up_rfl _ | (simp only [decide_not]; exact AV.up_rfl _) | trace_state
 by_cases h20 : op = 20
 ·subst h20
  have hl := l0 (.inl rfl)
  rw [hl, yI (by intro q; dsimp only at q; omega)]
  simp only [Int.reduceEq, or_self, if_false]
  refine yh (zb _) Tryz.func71 rfl rfl (by rw [Tryz.results71]) Tryz.ntmps71 rfl fun E => ?_
  (repeat' (first | exact trivial | (with_reducible first | apply awA | apply awB | apply awC | apply awD | apply awF | apply awI) | (refine zA (id := 48) (t := (.node [0, 1, 2, 3, 4, 5, 6, 7, 8, 9, 10, 11, 12, 13, 14] [])) (drR [10, 6] [] []) zH (by kernel_rfl) (by kernel_rfl) (fun _ _ h => h) ?_) | (refine zB (by simp only [go_sem]; exact rfl) ?_) | (refine zD (by simp only [go_sem]; exact rfl) ?_) | refine zl ?_ | refine zq ?_ ?_ | exact zC | ((with_reducible first | apply awn | apply awo | apply awp | refine awQ ?_ | refine awR ?_); intro r hr; simp only [go_sem, Nat.reduceBEq, Nat.reduceLT, Nat.reduceLeDiff, Nat.reduceAdd, Nat.reduceMul, reduceCtorEq, zd, gC, zk, zp, hl, Int.cast_ofNat_Int, Int.reduceEq] at hr; subst hr; (first | refine caC (hw) rfl ?_ ?_ ?_ | refine awV ?_ ?_ | refine zM ?_ ?_ | (refine zh (fun h => ?_) (fun h => ?_) <;> (try simp only [go_sem, reduceCtorEq] at h) <;> (try (exfalso; omega))))))) <;> (try omega)
  all_goals first | exact AV.up_nil2 _ _ | trace_state
 obtain rfl : op = 9 := by omega
 have hl := l0 (.inr rfl)
 rw [hl, yI (by intro q; dsimp only at q; omega)]
 simp only [Int.reduceEq, or_self, if_false]
 refine yh (zb _) Tryz.func71 rfl rfl (by rw [Tryz.results71]) Tryz.ntmps71 rfl fun E => ?_
 (repeat' (first | exact trivial | (with_reducible first | apply awA | apply awB | apply awC | apply awD | apply awF | apply awI) | (refine zA (id := 48) (t := (.node [0, 1, 2, 3, 4, 5, 6, 7, 8, 9, 10, 11, 12, 13, 14] [])) (drR [10, 6] [] []) zH (by kernel_rfl) (by kernel_rfl) (fun _ _ h => h) ?_) | (refine zB (by simp only [go_sem]; exact rfl) ?_) | (refine zD (by simp only [go_sem]; exact rfl) ?_) | refine zl ?_ | refine zq ?_ ?_ | exact zC | ((with_reducible first | apply awn | apply awo | apply awp | refine awQ ?_ | refine awR ?_); intro r hr; simp only [go_sem, Nat.reduceBEq, Nat.reduceLT, Nat.reduceLeDiff, Nat.reduceAdd, Nat.reduceMul, reduceCtorEq, zd, gC, zk, zp, hl, Int.cast_ofNat_Int, Int.reduceEq] at hr; subst hr; (first | refine caC (hw) rfl ?_ ?_ ?_ | refine awV ?_ ?_ | refine zM ?_ ?_ | (refine zh (fun h => ?_) (fun h => ?_) <;> (try simp only [go_sem, reduceCtorEq] at h) <;> (try (exfalso; omega))))))) <;> (try omega)
 all_goals first | exact AV.up_nil2 _ _ | trace_state
end
section
open Go.RowKit
def inF (n lo hi : Int) : Bool := decide (lo ≤ n) && decide (n ≤ hi)
theorem y3 (n lo hi : Int) : zQ Tryz.prog 34 [vI n, vI lo, vI hi] (fun r => r = vB (inF n lo hi)) := by
 unfold inF
 refine zE (zb _) Tryz.func34 rfl rfl (by rw [Tryz.results34]) Tryz.ntmps34 rfl fun E => ?_
 (repeat' (first | exact trivial | (with_reducible first | apply awA | apply awD | apply awF) | ((with_reducible first | apply awn | refine awR ?_); intro r hr; simp only [go_sem, Nat.reduceBEq, Nat.reduceLT, Nat.reduceAdd] at hr; subst hr; (first | refine awV ?_ ?_ | refine zM ?_ ?_)))) <;> (try omega)
 all_goals exact rfl
theorem YQ (n lo hi : Int) : zQ Tryz.prog 28 [vI n, vI lo, vI hi] (fun r => r = vB (inF n lo hi)) := by
 unfold inF
 refine zE (zb _) Tryz.func28 rfl rfl (by rw [Tryz.results28]) Tryz.ntmps28 rfl fun E => ?_
 (repeat' (first | exact trivial | (with_reducible first | apply awA | apply awD | apply awF) | ((with_reducible first | apply awn | refine awR ?_); intro r hr; simp only [go_sem, Nat.reduceBEq, Nat.reduceLT, Nat.reduceAdd] at hr; subst hr; (first | refine awV ?_ ?_ | refine zM ?_ ?_)))) <;> (try omega)
 all_goals exact rfl
end
section
open Go.RowKit
def kz (nC nN : Nat) (w n : Int) : Bool :=
 if w = 32 then decide (n = 0) else
 if w = 107 then inF n (-1) 63 else
 if w = 112 then inF n (-1) 63 else
 if w = 75 then inF n 0 63 else
 if w = 119 then decide (n = 1) || decide (n = 2) || decide (n = 4) || decide (n = 8) else
 if w = 110 then inF n 2 64 else
 if w = 102 then inF n 4 16777216 else
 if w = 109 then inF n 1 1048576 else
 if w = 115 then inF n 1 64 else
 if w = 97 then inF n 1 64 else
 if w = 103 then inF n 0 255 else
 if w = 80 then inF n (-1) 16777215 else
 if w = 113 then inF n 0 16777215 else
 if w = 98 then decide (n = -1) || inF n 1 16777216 else
 if w = 122 then inF n 1 16777216 else
 if w = 116 then inF n 0 ((nC : Int) - 1) else
 inF n 0 ((nN : Int) - 1)
theorem YR (e : Bool) (C : List InsM) (N : List Int) (hC : C.length ≤ 1000000000) (hN : N.length ≤ 1000000000) (w n : Int) : zQ Tryz.prog 54 [pG e C N, vU8 w, vI n] (fun r => r = vB (kz C.length N.length w n)) := by
 have hw1 := zy (n := (C.length : Int) - 1) (by omega)
 have hw2 := zy (n := (N.length : Int) - 1) (by omega)
 unfold kz pG
 by_cases h32 : w = 32
 ·subst h32
  simp only [reduceIte, Int.reduceEq]
  refine zE (zb _) Tryz.func54 rfl rfl (by rw [Tryz.results54]) Tryz.ntmps54 rfl fun E => ?_
  (repeat' (first | exact trivial | (with_reducible first | apply awA | apply awB | apply awD | apply awF | apply awG | apply awJ) | ((with_reducible first | apply awn | refine awQ ?_ | refine awR ?_); intro r hr; simp only [go_sem, Nat.reduceBEq, Nat.reduceLT, Nat.reduceAdd] at hr; subst hr; (first | refine caA (fun _ => y3 _ _ _) rfl ?_ ?_ ?_ | refine awV ?_ ?_ | refine zM ?_ ?_ | (refine zh (fun h => ?_) (fun h => ?_) <;> (try simp only [go_sem, reduceCtorEq] at h) <;> (try (exfalso; omega))))))) <;> (try omega)
  all_goals exact rfl
 by_cases h107 : w = 107
 ·subst h107
  simp only [reduceIte, Int.reduceEq]
  refine zE (zb _) Tryz.func54 rfl rfl (by rw [Tryz.results54]) Tryz.ntmps54 rfl fun E => ?_
  (repeat' (first | exact trivial | (with_reducible first | apply awA | apply awB | apply awC | apply awD | apply awF | apply awG | apply awJ) | ((with_reducible first | apply awn | apply awo | refine awQ ?_ | refine awR ?_); intro r hr; simp only [go_sem, Nat.reduceBEq, Nat.reduceLT, Nat.reduceAdd, Int.reduceEq] at hr; subst hr; (first | refine caA (fun _ => y3 _ _ _) rfl ?_ ?_ ?_ | refine awV ?_ ?_ | refine zM ?_ ?_ | (refine zh (fun h => ?_) (fun h => ?_) <;> (try simp only [go_sem, reduceCtorEq] at h) <;> (try (exfalso; omega))))))) <;> (try omega)
  all_goals exact rfl
 by_cases h112 : w = 112
 ·subst h112
  simp only [reduceIte, Int.reduceEq]
  refine zE (zb _) Tryz.func54 rfl rfl (by rw [Tryz.results54]) Tryz.ntmps54 rfl fun E => ?_
  (repeat' (first | exact trivial | (with_reducible first | apply awA | apply awB | apply awD | apply awF | apply awG | apply awJ) | ((with_reducible first | apply awn | apply awo | refine awQ ?_ | refine awR ?_); intro r hr; simp only [go_sem, Nat.reduceBEq, Nat.reduceLT, Nat.reduceAdd, Int.reduceEq] at hr; subst hr; (first | refine caA (fun _ => y3 _ _ _) rfl ?_ ?_ ?_ | refine awV ?_ ?_ | refine zM ?_ ?_ | (refine zh (fun h => ?_) (fun h => ?_) <;> (try simp only [go_sem, reduceCtorEq] at h) <;> (try (exfalso; omega))))))) <;> (try omega)
  all_goals exact rfl
 by_cases h75 : w = 75
 ·subst h75
  simp only [reduceIte, Int.reduceEq]
  refine zE (zb _) Tryz.func54 rfl rfl (by rw [Tryz.results54]) Tryz.ntmps54 rfl fun E => ?_
  (repeat' (first | exact trivial | (with_reducible first | apply awA | apply awB | apply awD | apply awF | apply awG | apply awJ) | ((with_reducible first | apply awn | apply awo | refine awQ ?_ | refine awR ?_); intro r hr; simp only [go_sem, Nat.reduceBEq, Nat.reduceLT, Nat.reduceAdd, Int.reduceEq] at hr; subst hr; (first | refine caA (fun _ => y3 _ _ _) rfl ?_ ?_ ?_ | refine awV ?_ ?_ | refine zM ?_ ?_ | (refine zh (fun h => ?_) (fun h => ?_) <;> (try simp only [go_sem, reduceCtorEq] at h) <;> (try (exfalso; omega))))))) <;> (try omega)
  all_goals exact rfl
 by_cases h119 : w = 119
 ·subst h119
  simp only [reduceIte, Int.reduceEq]
  refine zE (zb _) Tryz.func54 rfl rfl (by rw [Tryz.results54]) Tryz.ntmps54 rfl fun E => ?_
  (repeat' (first | exact trivial | (with_reducible first | apply awA | apply awB | apply awD | apply awF | apply awG | apply awJ) | ((with_reducible first | apply awn | refine awQ ?_ | refine awR ?_); intro r hr; simp only [go_sem, Nat.reduceBEq, Nat.reduceLT, Nat.reduceAdd, Int.reduceEq] at hr; subst hr; (first | refine caA (fun _ => y3 _ _ _) rfl ?_ ?_ ?_ | refine awV ?_ ?_ | refine zM ?_ ?_ | (refine zh (fun h => ?_) (fun h => ?_) <;> (try simp only [go_sem, reduceCtorEq] at h) <;> (try (exfalso; omega))))))) <;> (try omega)
  all_goals exact rfl
 by_cases h110 : w = 110
 ·subst h110
  simp only [reduceIte, Int.reduceEq]
  refine zE (zb _) Tryz.func54 rfl rfl (by rw [Tryz.results54]) Tryz.ntmps54 rfl fun E => ?_
  (repeat' (first | exact trivial | (with_reducible first | apply awA | apply awB | apply awD | apply awF | apply awG | apply awJ) | ((with_reducible first | apply awn | apply awo | refine awQ ?_ | refine awR ?_); intro r hr; simp only [go_sem, Nat.reduceBEq, Nat.reduceLT, Nat.reduceAdd, Int.reduceEq] at hr; subst hr; (first | refine caA (fun _ => y3 _ _ _) rfl ?_ ?_ ?_ | refine awV ?_ ?_ | refine zM ?_ ?_ | (refine zh (fun h => ?_) (fun h => ?_) <;> (try simp only [go_sem, reduceCtorEq] at h) <;> (try (exfalso; omega))))))) <;> (try omega)
  all_goals exact rfl
 by_cases h102 : w = 102
 ·subst h102
  simp only [reduceIte, Int.reduceEq]
  refine zE (zb _) Tryz.func54 rfl rfl (by rw [Tryz.results54]) Tryz.ntmps54 rfl fun E => ?_
  (repeat' (first | exact trivial | (with_reducible first | apply awA | apply awB | apply awD | apply awF | apply awG | apply awJ) | ((with_reducible first | apply awn | apply awo | refine awQ ?_ | refine awR ?_); intro r hr; simp only [go_sem, Nat.reduceBEq, Nat.reduceLT, Nat.reduceAdd, Int.reduceEq] at hr; subst hr; (first | refine caA (fun _ => y3 _ _ _) rfl ?_ ?_ ?_ | refine awV ?_ ?_ | refine zM ?_ ?_ | (refine zh (fun h => ?_) (fun h => ?_) <;> (try simp only [go_sem, reduceCtorEq] at h) <;> (try (exfalso; omega))))))) <;> (try omega)
  all_goals exact rfl
 by_cases h109 : w = 109
 ·subst h109
  simp only [reduceIte, Int.reduceEq]
  refine zE (zb _) Tryz.func54 rfl rfl (by rw [Tryz.results54]) Tryz.ntmps54 rfl fun E => ?_
  (repeat' (first | exact trivial | (with_reducible first | apply awA | apply awB | apply awD | apply awF | apply awG | apply awJ) | ((with_reducible first | apply awn | apply awo | refine awQ ?_ | refine awR ?_); intro r hr; simp only [go_sem, Nat.reduceBEq, Nat.reduceLT, Nat.reduceAdd, Int.reduceEq] at hr; subst hr; (first | refine caA (fun _ => y3 _ _ _) rfl ?_ ?_ ?_ | refine awV ?_ ?_ | refine zM ?_ ?_ | (refine zh (fun h => ?_) (fun h => ?_) <;> (try simp only [go_sem, reduceCtorEq] at h) <;> (try (exfalso; omega))))))) <;> (try omega)
  all_goals exact rfl
 by_cases h115 : w = 115
 ·subst h115
  simp only [reduceIte, Int.reduceEq]
  refine zE (zb _) Tryz.func54 rfl rfl (by rw [Tryz.results54]) Tryz.ntmps54 rfl fun E => ?_
  (repeat' (first | exact trivial | (with_reducible first | apply awA | apply awB | apply awD | apply awF | apply awG | apply awJ) | ((with_reducible first | apply awn | apply awo | refine awQ ?_ | refine awR ?_); intro r hr; simp only [go_sem, Nat.reduceBEq, Nat.reduceLT, Nat.reduceAdd, Int.reduceEq] at hr; subst hr; (first | refine caA (fun _ => y3 _ _ _) rfl ?_ ?_ ?_ | refine awV ?_ ?_ | refine zM ?_ ?_ | (refine zh (fun h => ?_) (fun h => ?_) <;> (try simp only [go_sem, reduceCtorEq] at h) <;> (try (exfalso; omega))))))) <;> (try omega)
  all_goals exact rfl
 by_cases h97 : w = 97
 ·subst h97
  simp only [reduceIte, Int.reduceEq]
  refine zE (zb _) Tryz.func54 rfl rfl (by rw [Tryz.results54]) Tryz.ntmps54 rfl fun E => ?_
  (repeat' (first | exact trivial | (with_reducible first | apply awA | apply awB | apply awD | apply awF | apply awG | apply awJ) | ((with_reducible first | apply awn | apply awo | refine awQ ?_ | refine awR ?_); intro r hr; simp only [go_sem, Nat.reduceBEq, Nat.reduceLT, Nat.reduceAdd, Int.reduceEq] at hr; subst hr; (first | refine caA (fun _ => y3 _ _ _) rfl ?_ ?_ ?_ | refine awV ?_ ?_ | refine zM ?_ ?_ | (refine zh (fun h => ?_) (fun h => ?_) <;> (try simp only [go_sem, reduceCtorEq] at h) <;> (try (exfalso; omega))))))) <;> (try omega)
  all_goals exact rfl
 by_cases h103 : w = 103
 ·subst h103
  simp only [reduceIte, Int.reduceEq]
  refine zE (zb _) Tryz.func54 rfl rfl (by rw [Tryz.results54]) Tryz.ntmps54 rfl fun E => ?_
  (repeat' (first | exact trivial | (with_reducible first | apply awA | apply awB | apply awD | apply awF | apply awG | apply awJ) | ((with_reducible first | apply awn | apply awo | refine awQ ?_ | refine awR ?_); intro r hr; simp only [go_sem, Nat.reduceBEq, Nat.reduceLT, Nat.reduceAdd, Int.reduceEq] at hr; subst hr; (first | refine caA (fun _ => y3 _ _ _) rfl ?_ ?_ ?_ | refine awV ?_ ?_ | refine zM ?_ ?_ | (refine zh (fun h => ?_) (fun h => ?_) <;> (try simp only [go_sem, reduceCtorEq] at h) <;> (try (exfalso; omega))))))) <;> (try omega)
  all_goals exact rfl
 by_cases h80 : w = 80
 ·subst h80
  simp only [reduceIte, Int.reduceEq]
  refine zE (zb _) Tryz.func54 rfl rfl (by rw [Tryz.results54]) Tryz.ntmps54 rfl fun E => ?_
  (repeat' (first | exact trivial | (with_reducible first | apply awA | apply awB | apply awD | apply awF | apply awG | apply awJ) | ((with_reducible first | apply awn | apply awo | refine awQ ?_ | refine awR ?_); intro r hr; simp only [go_sem, Nat.reduceBEq, Nat.reduceLT, Nat.reduceAdd, Int.reduceEq] at hr; subst hr; (first | refine caA (fun _ => y3 _ _ _) rfl ?_ ?_ ?_ | refine awV ?_ ?_ | refine zM ?_ ?_ | (refine zh (fun h => ?_) (fun h => ?_) <;> (try simp only [go_sem, reduceCtorEq] at h) <;> (try (exfalso; omega))))))) <;> (try omega)
  all_goals exact rfl
 by_cases h113 : w = 113
 ·subst h113
  simp only [reduceIte, Int.reduceEq]
  refine zE (zb _) Tryz.func54 rfl rfl (by rw [Tryz.results54]) Tryz.ntmps54 rfl fun E => ?_
  (repeat' (first | exact trivial | (with_reducible first | apply awA | apply awB | apply awD | apply awF | apply awG | apply awJ) | ((with_reducible first | apply awn | apply awo | refine awQ ?_ | refine awR ?_); intro r hr; simp only [go_sem, Nat.reduceBEq, Nat.reduceLT, Nat.reduceAdd, Int.reduceEq] at hr; subst hr; (first | refine caA (fun _ => y3 _ _ _) rfl ?_ ?_ ?_ | refine awV ?_ ?_ | refine zM ?_ ?_ | (refine zh (fun h => ?_) (fun h => ?_) <;> (try simp only [go_sem, reduceCtorEq] at h) <;> (try (exfalso; omega))))))) <;> (try omega)
  all_goals exact rfl
 by_cases h98 : w = 98
 ·subst h98
  simp only [reduceIte, Int.reduceEq]
  refine zE (zb _) Tryz.func54 rfl rfl (by rw [Tryz.results54]) Tryz.ntmps54 rfl fun E => ?_
  (repeat' (first | exact trivial | (with_reducible first | apply awA | apply awB | apply awD | apply awF | apply awG | apply awJ) | ((with_reducible first | apply awn | apply awo | refine awQ ?_ | refine awR ?_); intro r hr; simp only [go_sem, Nat.reduceBEq, Nat.reduceLT, Nat.reduceAdd, Int.reduceEq] at hr; subst hr; (first | refine caA (fun _ => y3 _ _ _) rfl ?_ ?_ ?_ | refine awV ?_ ?_ | refine zM ?_ ?_ | (refine zh (fun h => ?_) (fun h => ?_) <;> (try simp only [go_sem, reduceCtorEq] at h) <;> (try (exfalso; omega))))))) <;> (try omega)
  all_goals exact rfl
 by_cases h122 : w = 122
 ·subst h122
  simp only [reduceIte, Int.reduceEq]
  refine zE (zb _) Tryz.func54 rfl rfl (by rw [Tryz.results54]) Tryz.ntmps54 rfl fun E => ?_
  (repeat' (first | exact trivial | (with_reducible first | apply awA | apply awB | apply awD | apply awF | apply awG | apply awJ) | ((with_reducible first | apply awn | apply awo | refine awQ ?_ | refine awR ?_); intro r hr; simp only [go_sem, Nat.reduceBEq, Nat.reduceLT, Nat.reduceAdd, Int.reduceEq] at hr; subst hr; (first | refine caA (fun _ => y3 _ _ _) rfl ?_ ?_ ?_ | refine awV ?_ ?_ | refine zM ?_ ?_ | (refine zh (fun h => ?_) (fun h => ?_) <;> (try simp only [go_sem, reduceCtorEq] at h) <;> (try (exfalso; omega))))))) <;> (try omega)
  all_goals exact rfl
 by_cases h116 : w = 116
 ·subst h116
  simp only [reduceIte, Int.reduceEq]
  refine zE (zb _) Tryz.func54 rfl rfl (by rw [Tryz.results54]) Tryz.ntmps54 rfl fun E => ?_
  (repeat' (first | exact trivial | (with_reducible first | apply awA | apply awB | apply awD | apply awF | apply awG | apply awJ) | ((with_reducible first | apply awn | apply awo | refine awQ ?_ | refine awR ?_); intro r hr; simp only [go_sem, Nat.reduceBEq, Nat.reduceLT, Nat.reduceLeDiff, Nat.reduceAdd, Nat.reduceMul, hw1, zd, Int.reduceEq] at hr; subst hr; (first | refine caA (fun _ => y3 _ _ _) rfl ?_ ?_ ?_ | refine awV ?_ ?_ | refine zM ?_ ?_ | (refine zh (fun h => ?_) (fun h => ?_) <;> (try simp only [go_sem, reduceCtorEq] at h) <;> (try (exfalso; omega))))))) <;> (try omega)
  all_goals exact rfl
 have e32 : (w = 32) = False := eq_false h32
 have e107 : (w = 107) = False := eq_false h107
 have e112 : (w = 112) = False := eq_false h112
 have e75 : (w = 75) = False := eq_false h75
 have e119 : (w = 119) = False := eq_false h119
 have e110 : (w = 110) = False := eq_false h110
 have e102 : (w = 102) = False := eq_false h102
 have e109 : (w = 109) = False := eq_false h109
 have e115 : (w = 115) = False := eq_false h115
 have e97 : (w = 97) = False := eq_false h97
 have e103 : (w = 103) = False := eq_false h103
 have e80 : (w = 80) = False := eq_false h80
 have e113 : (w = 113) = False := eq_false h113
 have e98 : (w = 98) = False := eq_false h98
 have e122 : (w = 122) = False := eq_false h122
 have e116 : (w = 116) = False := eq_false h116
 simp only [e32, e107, e112, e75, e119, e110, e102, e109, e115, e97, e103, e80, e113, e98, e122, e116, if_false]
 refine zE (zb _) Tryz.func54 rfl rfl (by rw [Tryz.results54]) Tryz.ntmps54 rfl fun E => ?_
 (repeat' (first | exact trivial | (with_reducible first | apply awA | apply awB | apply awC | apply awD | apply awF | apply awI) | ((with_reducible first | apply awn | apply awo | refine awQ ?_ | refine awR ?_); intro r hr; simp only [go_sem, Nat.reduceBEq, Nat.reduceLT, Nat.reduceLeDiff, Nat.reduceAdd, Nat.reduceMul, hw2, e32, e107, e112, e75, e119, e110, e102, e109, e115, e97, e103, e80, e113, e98, e122, e116, zp] at hr; subst hr; (first | refine caA (fun _ => y3 _ _ _) rfl ?_ ?_ ?_ | refine awV ?_ ?_ | refine zM ?_ ?_ | (refine zh (fun h => ?_) (fun h => ?_) <;> (try simp only [go_sem, reduceCtorEq] at h) <;> (try (exfalso; omega))))))) <;> (try omega)
 all_goals exact rfl
end
section
open Go.RowKit
abbrev cSt (s : StM) : List AV := [vI s.place, .v (.int .u64 s.kids), vI s.table, vI s.parts, vI s.free, vI s.left]
abbrev jQ (x : InsM) : List AV := [vI x.op, vI x.a, vI x.b, vI x.c]
theorem JP (s : StM) (x : InsM) (ha : 0 ≤ x.a ∧ x.a ≤ 64) (hb : 0 ≤ x.b ∧ x.b ≤ 64) : zQ Tryz.prog 97 [vSt s, WC x] (fun r => r = .tup [vEf (s.run x).1, vB (s.run x).2]) := by
 unfold StM.run
 dsimp only
 generalize hR : runN x.b.toNat x.a s (decide (s.place = 2)) = R
 have hb1 := yA R.1
 have hw := zy (n := x.a + x.b) (by omega)
 refine zE (zb _) Tryz.func97 rfl rfl (by rw [Tryz.results97]) Tryz.ntmps97 rfl fun E => ?_
 (repeat' (first | exact trivial | (with_reducible first | apply awA | apply awB | apply awF) | ((with_reducible apply awn); intro r hr; simp only [go_sem, Nat.reduceBEq, Nat.reduceLT, Nat.reduceLeDiff, Nat.reduceAdd, Nat.reduceMul] at hr; subst hr; (first | refine awV ?_ ?_)))) <;> (try omega)
 refine zI [2, 3, 4, 5, 6, 7] [2, 3, 4] (fun q : Nat × Int × StM × Bool => ⟨[(2, true, .ptr 1 2 0 0), (3, true, .ptr 1 3 0 0), (4, true, .ptr 1 4 0 0), (5, true, vB false), (6, true, vB q.2.2.2), (7, true, vI q.2.1)],
  [(2, .var (cSt q.2.2.1)), (3, .var (jQ x)), (4, .var (cSt .zero ++ cSt .zero))]⟩) (fun q => q.2.1 + q.1 = x.a + x.b ∧ 0 ≤ q.2.1 ∧ runN q.1 q.2.1 q.2.2.1 q.2.2.2 = R) (fun q => q.1) (x.b.toNat, x.a, s, decide (s.place = 2)) (by simp only [go_sem, Nat.reduceBEq] <;> exact rfl) ⟨by show x.a + (x.b.toNat : Int) = _; omega, ha.1, hR⟩ ?_
 clear hR
 intro ⟨m, k, s1, ok⟩ ⟨h1, h2, h3⟩
 simp only at h1 h2 h3 ⊢
 have hwk := zy (n := k + 1) (by omega)
 cases ok with
 | false =>
  have : (s1, false) = R := by rw [← h3]; cases m <;> rfl
  subst this
  (repeat' (first | exact trivial | (with_reducible first | apply awA | apply awD | apply awE | apply awF | apply awH | apply awK) | ((with_reducible first | apply awn | apply awo | refine awQ ?_ | refine awR ?_); intro r hr; simp only [go_sem, Nat.reduceBEq, Nat.reduceLT, Nat.reduceLeDiff, Nat.reduceAdd, Nat.reduceMul, reduceCtorEq, List.cons_append, List.nil_append, StM.zero] at hr; subst hr; (first | refine caC (hb1) rfl ?_ ?_ ?_ | refine awV ?_ ?_ | refine zM ?_ ?_ | (refine zh (fun h => ?_) (fun h => ?_) <;> (try simp only [go_sem, reduceCtorEq] at h) <;> (try (exfalso; omega))))))) <;> (try omega)
  all_goals exact rfl
 | true =>
  cases m with
  | zero =>
   have e1 : (k < x.a + x.b) = False := eq_false (by omega)
   subst h3
   (repeat' (first | exact trivial | (with_reducible first | apply awA | apply awD | apply awE | apply awF | apply awH | apply awK) | ((with_reducible first | apply awn | apply awo | refine awQ ?_ | refine awR ?_); intro r hr; simp only [go_sem, Nat.reduceBEq, Nat.reduceLT, Nat.reduceLeDiff, Nat.reduceAdd, Nat.reduceMul, reduceCtorEq, hw, e1, List.cons_append, List.nil_append, StM.zero] at hr; subst hr; (first | refine caC (hb1) rfl ?_ ?_ ?_ | refine awV ?_ ?_ | refine zM ?_ ?_ | (refine zh (fun h => ?_) (fun h => ?_) <;> (try simp only [go_sem, reduceCtorEq] at h) <;> (try (exfalso; omega))))))) <;> (try omega)
   all_goals exact rfl
  | succ m =>
   have e1 : (k < x.a + x.b) = True := eq_true (by omega)
   have hf := jP s1 k
   unfold runN at h3
   rw [if_pos rfl] at h3
   generalize s1.fill k = q at hf h3
   obtain ⟨f, ok⟩ := q
   simp only at hf h3
   (repeat' (first | exact trivial | (with_reducible first | apply awA | apply awB | apply awC | apply awF | apply awI) | ((with_reducible first | apply awn | apply awo | refine awQ ?_); intro r hr; simp only [go_sem, Nat.reduceBEq, Nat.reduceLT, Nat.reduceLeDiff, Nat.reduceAdd, Nat.reduceMul, reduceCtorEq, hw, hwk, e1] at hr; subst hr; (first | refine caC (hf) rfl ?_ ?_ ?_ | refine awV ?_ ?_ | (refine zh (fun h => ?_) (fun h => ?_) <;> (try simp only [go_sem, reduceCtorEq] at h) <;> (try (exfalso; omega))))))) <;> (try omega)
   refine ⟨(m, k + 1, f, ok), ?_, ⟨by show k + 1 + m = _; omega, by show 0 ≤ k + 1; omega, h3⟩, Nat.lt_succ_self m⟩
   simp only [go_sem, Nat.reduceBEq]
theorem Wk (s : StM) (x : InsM) : zQ Tryz.prog 102 [vSt s, WC x] (fun r => r = .tup [vEf (s.rounds x).1, vB (s.rounds x).2]) := by
 have hs := xz s
 have w2 := qv s.still 2
 have w3 := qv s.still 3
 have w4 := qv s.still 4
 have hb := yA s.still
 unfold StM.rounds
 dsimp only
 by_cases h1 : x.op = 11
 ·have e1 : (x.op = 11) = True := eq_true h1
  rw [if_pos h1]
  refine zE (zb _) Tryz.func102 rfl rfl (by rw [Tryz.results102]) Tryz.ntmps102 rfl fun E => ?_
  (repeat' (first | exact trivial | (with_reducible first | apply awA | apply awB | apply awD | apply awF | apply awG | apply awJ) | (refine zA (id := 1) (t := (.node [0, 1, 2, 3, 4, 5, 6, 7] [])) (drR [2] [] []) zH (by kernel_rfl) (by kernel_rfl) (fun _ _ h => h) ?_) | (refine zA (id := 7) (t := (.node [0, 1, 2, 3, 4, 5, 6, 7, 8, 9, 10] [])) (drR [8, 2] [] []) zH (by kernel_rfl) (by kernel_rfl) (fun _ _ h => h) ?_) | (refine zB (by simp only [go_sem]; exact rfl) ?_) | (refine zD (by simp only [go_sem]; exact rfl) ?_) | refine zl ?_ | refine zq ?_ ?_ | exact zC | ((with_reducible first | apply awn | apply awo | apply awp | refine awQ ?_ | refine awR ?_); intro r hr; simp only [go_sem, Nat.reduceBEq, Nat.reduceLT, Nat.reduceLeDiff, Nat.reduceAdd, Nat.reduceMul, reduceCtorEq, e1] at hr; subst hr; (first | refine caC (hs) rfl ?_ ?_ ?_ | refine awV ?_ ?_ | refine zM ?_ ?_ | (refine zh (fun h => ?_) (fun h => ?_) <;> (try simp only [go_sem, reduceCtorEq] at h) <;> (try (exfalso; omega))))))) <;> (try omega)
  all_goals exact rfl
 have e1 : (x.op = 11) = False := eq_false h1
 rw [if_neg h1]
 by_cases h2 : x.op = 12
 ·have e2 : (x.op = 12) = True := eq_true h2
  rw [if_pos h2]
  refine zE (zb _) Tryz.func102 rfl rfl (by rw [Tryz.results102]) Tryz.ntmps102 rfl fun E => ?_
  (repeat' (first | exact trivial | (with_reducible first | apply awA | apply awB | apply awD | apply awF | apply awG | apply awJ) | (refine zA (id := 1) (t := (.node [0, 1, 2, 3, 4, 5, 6, 7] [])) (drR [2] [] []) zH (by kernel_rfl) (by kernel_rfl) (fun _ _ h => h) ?_) | (refine zA (id := 9) (t := (.node [0, 1, 4, 2, 3, 5, 6, 7, 8, 9] [])) (drR [2] [] []) zH (by kernel_rfl) (by kernel_rfl) (fun _ _ h => h) ?_) | (refine zB (by simp only [go_sem]; exact rfl) ?_) | (refine zD (by simp only [go_sem]; exact rfl) ?_) | refine zl ?_ | refine zq ?_ ?_ | exact zC | ((with_reducible first | apply awn | apply awo | apply awp | refine awQ ?_ | refine awR ?_); intro r hr; simp only [go_sem, Nat.reduceBEq, Nat.reduceLT, Nat.reduceLeDiff, Nat.reduceAdd, Nat.reduceMul, e1, e2] at hr; subst hr; (first | refine caC (hs) rfl ?_ ?_ ?_ | refine caC (w3) rfl ?_ ?_ ?_ | refine awV ?_ ?_ | refine zM ?_ ?_ | (refine zh (fun h => ?_) (fun h => ?_) <;> (try simp only [go_sem, reduceCtorEq] at h) <;> (try (exfalso; omega))))))) <;> (try omega)
  all_goals exact rfl
 have e2 : (x.op = 12) = False := eq_false h2
 rw [if_neg h2]
 by_cases h3 : x.op = 13
 ·have e3 : (x.op = 13) = True := eq_true h3
  rw [if_pos h3]
  refine zE (zb _) Tryz.func102 rfl rfl (by rw [Tryz.results102]) Tryz.ntmps102 rfl fun E => ?_
  (repeat' (first | exact trivial | (with_reducible first | apply awA | apply awB | apply awD | apply awF | apply awG | apply awJ) | (refine zA (id := 1) (t := (.node [0, 1, 2, 3, 4, 5, 6, 7] [])) (drR [2] [] []) zH (by kernel_rfl) (by kernel_rfl) (fun _ _ h => h) ?_) | (refine zA (id := 11) (t := (.node [0, 2, 4, 1, 3, 5, 6] [])) (drR [2] [] []) zH (by kernel_rfl) (by kernel_rfl) (fun _ _ h => h) ?_) | (refine zB (by simp only [go_sem]; exact rfl) ?_) | (refine zD (by simp only [go_sem]; exact rfl) ?_) | refine zl ?_ | refine zq ?_ ?_ | exact zC | ((with_reducible first | apply awn | apply awo | apply awp | refine awQ ?_ | refine awR ?_); intro r hr; simp only [go_sem, Nat.reduceBEq, Nat.reduceLT, Nat.reduceLeDiff, Nat.reduceAdd, Nat.reduceMul, e1, e2, e3] at hr; subst hr; (first | refine caC (hs) rfl ?_ ?_ ?_ | refine caC (w2) rfl ?_ ?_ ?_ | refine awV ?_ ?_ | refine zM ?_ ?_ | (refine zh (fun h => ?_) (fun h => ?_) <;> (try simp only [go_sem, reduceCtorEq] at h) <;> (try (exfalso; omega))))))) <;> (try omega)
  all_goals exact rfl
 have e3 : (x.op = 13) = False := eq_false h3
 rw [if_neg h3]
 by_cases h4 : x.op = 14
 ·have e4 : (x.op = 14) = True := eq_true h4
  rw [if_pos h4]
  refine zE (zb _) Tryz.func102 rfl rfl (by rw [Tryz.results102]) Tryz.ntmps102 rfl fun E => ?_
  (repeat' (first | exact trivial | (with_reducible first | apply awA | apply awB | apply awD | apply awF | apply awG | apply awJ) | (refine zA (id := 1) (t := (.node [0, 1, 2, 3, 4, 5, 6, 7] [])) (drR [2] [] []) zH (by kernel_rfl) (by kernel_rfl) (fun _ _ h => h) ?_) | (refine zA (id := 13) (t := (.node [0, 1, 4, 2, 3, 5, 6] [])) (drR [2] [] []) zH (by kernel_rfl) (by kernel_rfl) (fun _ _ h => h) ?_) | (refine zB (by simp only [go_sem]; exact rfl) ?_) | (refine zD (by simp only [go_sem]; exact rfl) ?_) | refine zl ?_ | refine zq ?_ ?_ | exact zC | ((with_reducible first | apply awn | apply awo | apply awp | refine awQ ?_ | refine awR ?_); intro r hr; simp only [go_sem, Nat.reduceBEq, Nat.reduceLT, Nat.reduceLeDiff, Nat.reduceAdd, Nat.reduceMul, e1, e2, e3, e4] at hr; subst hr; (first | refine caC (hs) rfl ?_ ?_ ?_ | refine caC (w2) rfl ?_ ?_ ?_ | refine awV ?_ ?_ | refine zM ?_ ?_ | (refine zh (fun h => ?_) (fun h => ?_) <;> (try simp only [go_sem, reduceCtorEq] at h) <;> (try (exfalso; omega))))))) <;> (try omega)
  all_goals exact rfl
 have e4 : (x.op = 14) = False := eq_false h4
 rw [if_neg h4]
 by_cases h5 : x.op = 15
 ·have e5 : (x.op = 15) = True := eq_true h5
  rw [if_pos h5]
  refine zE (zb _) Tryz.func102 rfl rfl (by rw [Tryz.results102]) Tryz.ntmps102 rfl fun E => ?_
  (repeat' (first | exact trivial | (with_reducible first | apply awA | apply awB | apply awD | apply awF | apply awG | apply awJ) | (refine zA (id := 1) (t := (.node [0, 1, 2, 3, 4, 5, 6, 7] [])) (drR [2] [] []) zH (by kernel_rfl) (by kernel_rfl) (fun _ _ h => h) ?_) | (refine zA (id := 15) (t := (.node [0, 1, 4, 2, 3, 5, 6, 7, 8, 9] [])) (drR [2] [] []) zH (by kernel_rfl) (by kernel_rfl) (fun _ _ h => h) ?_) | (refine zB (by simp only [go_sem]; exact rfl) ?_) | (refine zD (by simp only [go_sem]; exact rfl) ?_) | refine zl ?_ | refine zq ?_ ?_ | exact zC | ((with_reducible first | apply awn | apply awo | apply awp | refine awQ ?_ | refine awR ?_); intro r hr; simp only [go_sem, Nat.reduceBEq, Nat.reduceLT, Nat.reduceLeDiff, Nat.reduceAdd, Nat.reduceMul, e1, e2, e3, e4, e5] at hr; subst hr; (first | refine caC (hs) rfl ?_ ?_ ?_ | refine caC (w4) rfl ?_ ?_ ?_ | refine awV ?_ ?_ | refine zM ?_ ?_ | (refine zh (fun h => ?_) (fun h => ?_) <;> (try simp only [go_sem, reduceCtorEq] at h) <;> (try (exfalso; omega))))))) <;> (try omega)
  all_goals exact rfl
 have e5 : (x.op = 15) = False := eq_false h5
 rw [if_neg h5]
 refine zE (zb _) Tryz.func102 rfl rfl (by rw [Tryz.results102]) Tryz.ntmps102 rfl fun E => ?_
 (repeat' (first | exact trivial | (with_reducible first | apply awA | apply awB | apply awC | apply awD | apply awF | apply awI) | (refine zA (id := 1) (t := (.node [0, 1, 2, 3, 4, 5, 6, 7] [])) (drR [2] [] []) zH (by kernel_rfl) (by kernel_rfl) (fun _ _ h => h) ?_) | (refine zA (id := 16) (t := (.node [0, 2, 3, 4, 1, 5, 6, 7, 8, 9, 10, 11, 12, 13, 14, 15, 16, 17, 18, 19, 20, 21, 22, 23, 24, 25, 26, 27, 28, 29] [])) (drR [2, 3] [] []) zH (by kernel_rfl) (by kernel_rfl) (fun _ _ h => h) ?_) | (refine zB (by simp only [go_sem]; exact rfl) ?_) | (refine zD (by simp only [go_sem]; exact rfl) ?_) | refine zl ?_ | refine zq ?_ ?_ | exact zC | ((with_reducible first | apply awn | apply awo | apply awp | refine awQ ?_ | refine awR ?_); intro r hr; simp only [go_sem, Nat.reduceBEq, Nat.reduceLT, Nat.reduceLeDiff, Nat.reduceAdd, Nat.reduceMul, reduceCtorEq, e1, e2, e3, e4, e5] at hr; subst hr; (first | refine caC (hs) rfl ?_ ?_ ?_ | refine caC (hb) rfl ?_ ?_ ?_ | refine awV ?_ ?_ | refine zM ?_ ?_ | (refine zh (fun h => ?_) (fun h => ?_) <;> (try simp only [go_sem, reduceCtorEq] at h) <;> (try (exfalso; omega))))))) <;> (try omega)
 all_goals exact rfl
end
section
open Go.RowKit
theorem YN (s : StM) (x : InsM) (t : Int) (hx : x.op = 2 → (0 ≤ x.a ∧ x.a ≤ 64) ∧ 0 ≤ x.b ∧ x.b ≤ 64) : zQ Tryz.prog 80 [vSt s, WC x, vI t] (fun r => r = .tup [vEf (vC s x t).1, vB (vC s x t).2]) := by
 obtain ⟨op, a, b, c⟩ := x
 unfold vC
 dsimp only at hx ⊢
 have no : ((7 : Nat) + 0 = 7) = True := eq_true rfl
 by_cases hA : (op = 1 ∨ op = 3 ∨ op = 4) ∨ op = 16 ∧ ¬ t ≤ c
 ·have hf := jP s a
  generalize s.fill a = q at hf ⊢
  obtain ⟨f, ok⟩ := q
  have hb := yA f
  dsimp only
  have hA : (op = 1 ∧ ((7 : Nat) + 0 = 7) = True) ∨ (op = 3 ∧ ((7 : Nat) + 0 = 7) = True) ∨ (op = 4 ∧ ((7 : Nat) + 0 = 7) = True) ∨ (op = 16 ∧ (t ≤ c) = False) := by
   rcases hA with (h | h | h) | ⟨h, hc⟩
   ·exact .inl ⟨h, no⟩
   ·exact .inr (.inl ⟨h, no⟩)
   ·exact .inr (.inr (.inl ⟨h, no⟩))
   ·exact .inr (.inr (.inr ⟨h, eq_false hc⟩))
  rcases hA with ⟨rfl, ec⟩ | ⟨rfl, ec⟩ | ⟨rfl, ec⟩ | ⟨rfl, ec⟩
  all_goals
   simp only [ec, Int.reduceEq, or_false, or_true, or_self, if_true, if_false]
   refine zE (zb _) Tryz.func80 rfl rfl (by rw [Tryz.results80]) Tryz.ntmps80 rfl fun E => ?_
  all_goals (repeat' (first | exact trivial | (with_reducible first | apply awA | apply awB | apply awC | apply awD | apply awE | apply awF | apply awG | apply awH | apply awI | apply awJ | apply awK | refine awM (by decide) ?_) | ((with_reducible first | apply awn | apply awo | refine awQ ?_ | refine awR ?_); intro r hr; simp only [go_sem, Nat.reduceBEq, Nat.reduceLT, Nat.reduceLeDiff, Nat.reduceAdd, Nat.reduceMul, ec, Int.reduceEq] at hr; subst hr; (first | refine caC (hf) rfl ?_ ?_ ?_ | refine caC (hb) rfl ?_ ?_ ?_ | refine awV ?_ ?_ | refine zM ?_ ?_ | (refine zh (fun h => ?_) (fun h => ?_) <;> (try simp only [go_sem, reduceCtorEq] at h) <;> (try (exfalso; omega))))))) <;> (try omega)
  all_goals exact rfl
 by_cases hC : (op = 16 ∨ op = 17) ∧ t ≤ c
 ·have ec : (t ≤ c) = True := eq_true hC.2
  rcases hC.1 with rfl | rfl
  all_goals
   simp only [ec, Int.reduceEq, or_self, if_true, if_false]
   refine zE (zb _) Tryz.func80 rfl rfl (by rw [Tryz.results80]) Tryz.ntmps80 rfl fun E => ?_
  all_goals (repeat' (first | exact trivial | (with_reducible first | apply awA | apply awB | apply awC | apply awD | apply awE | apply awF | apply awG | apply awH | apply awJ | apply awK | refine awM (by decide) ?_) | ((with_reducible first | apply awn | refine awQ ?_ | refine awR ?_); intro r hr; simp only [go_sem, Nat.reduceBEq, Nat.reduceLT, Nat.reduceLeDiff, Nat.reduceAdd, Nat.reduceMul, ec, Int.reduceEq] at hr; subst hr; (first | refine awV ?_ ?_ | refine zM ?_ ?_ | (refine zh (fun h => ?_) (fun h => ?_) <;> (try simp only [go_sem, reduceCtorEq] at h) <;> (try (exfalso; omega))))))) <;> (try omega)
  all_goals exact rfl
 by_cases hB : (op = 2 ∨ op = 10 ∨ op = 11 ∨ op = 12 ∨ op = 13 ∨ op = 14 ∨ op = 15 ∨ op = 18 ∨ op = 20) ∨ op = 17
 ·have ho := Wj s a
  have hv := Xq s
  have hp := Q7 s ⟨17, a, b, c⟩
  have hB : (t ≤ c) = False ∧ op = 17 ∨ ((7 : Nat) + 0 = 7) = True ∧ (op = 2 ∨ op = 10 ∨ op = 11 ∨ op = 12 ∨ op = 13 ∨ op = 14 ∨ op = 15 ∨ op = 18 ∨ op = 20) := by
   rcases hB with h | h
   ·exact .inr ⟨no, h⟩
   ·exact .inl ⟨eq_false fun g => hC ⟨.inr h, g⟩, h⟩
  rcases hB with ⟨ec, rfl⟩ | ⟨ec, rfl | rfl | rfl | rfl | rfl | rfl | rfl | rfl | rfl⟩
  all_goals
   simp only [ec, Int.reduceEq, or_false, or_true, or_self, if_true, if_false]
   refine zE (zb _) Tryz.func80 rfl rfl (by rw [Tryz.results80]) Tryz.ntmps80 rfl fun E => ?_
  all_goals (repeat' (first | exact trivial | (with_reducible first | apply awA | apply awB | apply awC | apply awD | apply awE | apply awF | apply awG | apply awH | apply awJ | apply awK | refine awM (by decide) ?_) | ((with_reducible first | apply awn | apply awo | refine awQ ?_ | refine awR ?_); intro r hr; simp only [go_sem, Nat.reduceBEq, Nat.reduceLT, Nat.reduceLeDiff, Nat.reduceAdd, Nat.reduceMul, ec, Int.reduceEq] at hr; subst hr; (first | refine caC (hp) rfl ?_ ?_ ?_ | refine caC (JP s ⟨2, a, b, c⟩ (hx rfl).1 (hx rfl).2) rfl ?_ ?_ ?_ | refine caC (ho) rfl ?_ ?_ ?_ | refine caC (Wk s ⟨_, a, b, c⟩) rfl ?_ ?_ ?_ | refine caC (hv) rfl ?_ ?_ ?_ | refine awV ?_ ?_ | refine zM ?_ ?_ | (refine zh (fun h => ?_) (fun h => ?_) <;> (try simp only [go_sem, reduceCtorEq] at h) <;> (try (exfalso; omega))))))) <;> (try omega)
  all_goals exact rfl
 by_cases hE : op = 5 ∨ op = 6 ∨ op = 7 ∨ op = 8 ∨ op = 19
 ·have a1 := ZL s 1
  have a2 := ZL s 2
  have a3 := ZL s 3
  have a4 := ZL s 4
  have wi := qv (s.at_ 1) 1
  have b5 := yA ((s.at_ 1).wth 1)
  have b6 := yA (s.at_ 2)
  have b8 := yA (s.at_ 3)
  have b9 := yA s
  rcases hE with rfl | rfl | rfl | rfl | rfl
  all_goals
   simp only [Int.reduceEq, or_self, if_true, if_false]
   refine zE (zb _) Tryz.func80 rfl rfl (by rw [Tryz.results80]) Tryz.ntmps80 rfl fun E => ?_
  all_goals (repeat' (first | exact trivial | (with_reducible first | apply awA | apply awB | apply awC | apply awD | apply awE | apply awF | apply awG | apply awH | apply awJ | apply awK | refine awM (by decide) ?_) | (refine zA (id := 29) (t := (.node [0, 2, 5, 1, 3, 4, 6, 7] [])) (drR [3] [] []) zH (by kernel_rfl) (by kernel_rfl) (fun _ _ h => h) ?_) | (refine zB (by simp only [go_sem]; exact rfl) ?_) | (refine zD (by simp only [go_sem]; exact rfl) ?_) | refine zl ?_ | refine zq ?_ ?_ | exact zC | ((with_reducible first | apply awn | apply awo | apply awp | refine awQ ?_ | refine awR ?_); intro r hr; simp only [go_sem, Nat.reduceBEq, Nat.reduceLT, Nat.reduceLeDiff, Nat.reduceAdd, Nat.reduceMul, Int.reduceEq] at hr; subst hr; (first | refine caC (a1) rfl ?_ ?_ ?_ | refine caC (a2) rfl ?_ ?_ ?_ | refine caC (a3) rfl ?_ ?_ ?_ | refine caC (a4) rfl ?_ ?_ ?_ | refine caC (wi) rfl ?_ ?_ ?_ | refine caC (b5) rfl ?_ ?_ ?_ | refine caC (b6) rfl ?_ ?_ ?_ | refine caC (b8) rfl ?_ ?_ ?_ | refine caC (b9) rfl ?_ ?_ ?_ | refine awV ?_ ?_ | refine zM ?_ ?_ | (refine zh (fun h => ?_) (fun h => ?_) <;> (try simp only [go_sem, reduceCtorEq] at h) <;> (try (exfalso; omega))))))) <;> (try omega)
  all_goals exact rfl
 have key : ∀ k : Int, k = 16 ∨ k = 1 ∨ k = 3 ∨ k = 4 ∨ k = 2 ∨ k = 5 ∨ k = 6 ∨ k = 7 ∨ k = 8 ∨ k = 10 ∨ k = 17 ∨ k = 11 ∨ k = 12 ∨ k = 13 ∨ k = 14 ∨ k = 15 ∨ k = 18 ∨ k = 19 ∨ k = 20 → (op = k) = False := fun k hk => eq_false fun h => by omega
 have e16 := key 16 (by decide)
 have e1 := key 1 (by decide)
 have e3 := key 3 (by decide)
 have e4 := key 4 (by decide)
 have e2 := key 2 (by decide)
 have e5 := key 5 (by decide)
 have e6 := key 6 (by decide)
 have e7 := key 7 (by decide)
 have e8 := key 8 (by decide)
 have e10 := key 10 (by decide)
 have e17 := key 17 (by decide)
 have e11 := key 11 (by decide)
 have e12 := key 12 (by decide)
 have e13 := key 13 (by decide)
 have e14 := key 14 (by decide)
 have e15 := key 15 (by decide)
 have e18 := key 18 (by decide)
 have e19 := key 19 (by decide)
 have e20 := key 20 (by decide)
 clear key hA hB hC hE
 simp only [e16, e1, e3, e4, e2, e5, e6, e7, e8, e10, e17, e11, e12, e13, e14, e15, e18, e19, e20, or_self, if_false]
 refine zE (zb _) Tryz.func80 rfl rfl (by rw [Tryz.results80]) Tryz.ntmps80 rfl fun E => ?_
 (repeat' (first | exact trivial | (with_reducible first | apply awA | apply awB | apply awC | apply awD | apply awE | apply awF | apply awH | apply awK | refine awM (by decide) ?_) | ((with_reducible first | apply awn | refine awQ ?_ | refine awR ?_); intro r hr; simp only [go_sem, Nat.reduceBEq, Nat.reduceLT, Nat.reduceLeDiff, Nat.reduceAdd, Nat.reduceMul, e16, e1, e3, e4, e2, e5, e6, e7, e8, e10, e17, e11, e12, e13, e14, e15, e18, e19, e20] at hr; subst hr; (first | refine awV ?_ ?_ | refine zM ?_ ?_ | (refine zh (fun h => ?_) (fun h => ?_) <;> (try simp only [go_sem, reduceCtorEq] at h) <;> (try (exfalso; omega))))))) <;> (try omega)
 all_goals exact rfl
end
section
open Go.RowKit
theorem YO (s : StM) (x : InsM) (t : Int) : zQ Tryz.prog 79 [vSt s, WC x, vI t] (fun r => r = .tup [vEf (vd s x t).1, vB (vd s x t).2]) := by
 obtain ⟨op, a, b, c⟩ := x
 unfold vd
 dsimp only
 have no : ((7 : Nat) + 0 = 7) = True := eq_true rfl
 by_cases hC : (op = 44 ∨ op = 45 ∨ op = 46) ∧ t ≤ c
 ·have ec : (t ≤ c) = True := eq_true hC.2
  rcases hC.1 with rfl | rfl | rfl
  all_goals
   simp only [ec, Int.reduceEq, or_false, false_or, or_true, or_self, false_and, if_true, if_false]
   refine zE (zb _) Tryz.func79 rfl rfl (by rw [Tryz.results79]) Tryz.ntmps79 rfl fun E => ?_
  all_goals (repeat' (first | exact trivial | (with_reducible first | apply awA | apply awB | apply awC | apply awD | apply awE | apply awF | apply awG | apply awH | apply awJ | apply awK) | ((with_reducible first | apply awn | refine awQ ?_ | refine awR ?_); intro r hr; simp only [go_sem, Nat.reduceBEq, Nat.reduceLT, Nat.reduceLeDiff, Nat.reduceAdd, Nat.reduceMul, ec, Int.reduceEq] at hr; subst hr; (first | refine awV ?_ ?_ | refine zM ?_ ?_ | (refine zh (fun h => ?_) (fun h => ?_) <;> (try simp only [go_sem, reduceCtorEq] at h) <;> (try (exfalso; omega))))))) <;> (try omega)
  all_goals exact rfl
 by_cases hT : (op = 44 ∨ op = 45 ∨ op = 46) ∨ op = 33 ∨ op = 35 ∨ op = 36
 ·have h1 := Xp s 1
  generalize s.take 1 = q at h1 ⊢
  obtain ⟨f1, o1⟩ := q
  have h2 := Q6 s
  generalize s.turn = q at h2 ⊢
  obtain ⟨f2, o2⟩ := q
  have b1 := yA f1
  have b2 := yA f2
  dsimp only
  have hT : ((t ≤ c) = False ∧ ((s.place = 7) = True ∨ (s.place = 7) = False) ∧ (op = 44 ∨ op = 45 ∨ op = 46)) ∨ ((a = -1) = True ∨ (a = -1) = False) ∧ ((7 : Nat) + 0 = 7) = True ∧ (op = 33 ∨ op = 35 ∨ op = 36) := by
   rcases hT with h | h
   ·refine .inl ⟨eq_false fun g => hC ⟨h, g⟩, ?_, h⟩
    by_cases g : s.place = 7
    ·exact .inl (eq_true g)
    ·exact .inr (eq_false g)
   ·refine .inr ⟨?_, no, h⟩
    by_cases g : a = -1
    ·exact .inl (eq_true g)
    ·exact .inr (eq_false g)
  rcases hT with ⟨ec, e7 | e7, rfl | rfl | rfl⟩ | ⟨ec | ec, e7, rfl | rfl | rfl⟩
  all_goals
   simp only [ec, e7, and_true, Int.reduceEq, or_false, or_true, or_self, false_and, and_false, if_true, if_false]
   refine zE (zb _) Tryz.func79 rfl rfl (by rw [Tryz.results79]) Tryz.ntmps79 rfl fun E => ?_
  all_goals (repeat' (first | exact trivial | (with_reducible first | apply awA | apply awB | apply awC | apply awD | apply awE | apply awF | apply awG | apply awH | apply awI | apply awJ | apply awK | refine awM (by decide) ?_) | ((with_reducible first | apply awn | apply awo | refine awQ ?_ | refine awR ?_); intro r hr; simp only [go_sem, Nat.reduceBEq, Nat.reduceLT, Nat.reduceLeDiff, Nat.reduceAdd, Nat.reduceMul, reduceCtorEq, ec, e7, Int.reduceEq] at hr; subst hr; (first | refine caC (h1) rfl ?_ ?_ ?_ | refine caC (h2) rfl ?_ ?_ ?_ | refine caC (b1) rfl ?_ ?_ ?_ | refine caC (b2) rfl ?_ ?_ ?_ | refine awV ?_ ?_ | refine zM ?_ ?_ | (refine zh (fun h => ?_) (fun h => ?_) <;> (try simp only [go_sem, reduceCtorEq] at h) <;> (try (exfalso; omega))))))) <;> (try omega)
  all_goals exact rfl
 by_cases h34 : op = 34
 ·subst h34
  have h1 := Xp s b
  generalize s.take b = q at h1 ⊢
  obtain ⟨f1, o1⟩ := q
  have b1 := yA f1
  dsimp only
  all_goals
   simp only [Int.reduceEq, or_self, false_and, if_true, if_false]
   refine zE (zb _) Tryz.func79 rfl rfl (by rw [Tryz.results79]) Tryz.ntmps79 rfl fun E => ?_
  all_goals (repeat' (first | exact trivial | (with_reducible first | apply awA | apply awB | apply awC | apply awD | apply awE | apply awF | apply awG | apply awH | apply awJ | apply awK | refine awM (by decide) ?_) | (refine zA (id := 29) (t := (.node [0, 2, 1, 3, 4, 5, 6, 7, 8, 9] [])) (drR [12, 3] [] []) zH (by kernel_rfl) (by kernel_rfl) (fun _ _ h => h) ?_) | (refine zB (by simp only [go_sem]; exact rfl) ?_) | (refine zD (by simp only [go_sem]; exact rfl) ?_) | refine zl ?_ | refine zq ?_ ?_ | exact zC | ((with_reducible first | apply awn | apply awo | apply awp | refine awQ ?_ | refine awR ?_); intro r hr; simp only [go_sem, Nat.reduceBEq, Nat.reduceLT, Nat.reduceLeDiff, Nat.reduceAdd, Nat.reduceMul, reduceCtorEq, Int.reduceEq] at hr; subst hr; (first | refine caC (h1) rfl ?_ ?_ ?_ | refine caC (b1) rfl ?_ ?_ ?_ | refine awV ?_ ?_ | refine zM ?_ ?_ | (refine zh (fun h => ?_) (fun h => ?_) <;> (try simp only [go_sem, reduceCtorEq] at h) <;> (try (exfalso; omega))))))) <;> (try omega)
  all_goals exact rfl
 by_cases hB : op = 37 ∨ op = 38 ∨ op = 39 ∨ op = 40 ∨ op = 41 ∨ op = 42 ∨ op = 43 ∨ op = 47 ∨ op = 19
 ·have b1 := yA ⟨7, 0, 0, 0, 2, 0⟩
  have b2 := yA ⟨7, 0, 0, 0, 0, 0⟩
  have b3 := yA ⟨6, 0, 0, 0, 0, a⟩
  have b4 := yA ⟨6, 0, 0, 0, 0, 1⟩
  have b5 := yA s
  rcases hB with rfl | rfl | rfl | rfl | rfl | rfl | rfl | rfl | rfl
  all_goals
   simp only [Int.reduceEq, or_self, false_and, if_true, if_false]
   refine zE (zb _) Tryz.func79 rfl rfl (by rw [Tryz.results79]) Tryz.ntmps79 rfl fun E => ?_
  all_goals (repeat' (first | exact trivial | (with_reducible first | apply awA | apply awB | apply awC | apply awD | apply awE | apply awF | apply awG | apply awH | apply awJ | apply awK | refine awM (by decide) ?_) | (refine zA (id := 35) (t := (.node [0, 2, 3, 4, 1, 5, 6, 7, 8, 9, 10, 11, 12, 13, 14, 15] [])) (drR [3] [] []) zH (by kernel_rfl) (by kernel_rfl) (fun _ _ h => h) ?_) | (refine zA (id := 36) (t := (.node [0, 2, 3, 4, 1, 5, 6, 7, 8, 9, 10, 11, 12, 13, 14, 15, 16, 17, 18, 19, 20, 21, 22, 23] [])) (drR [3] [] []) zH (by kernel_rfl) (by kernel_rfl) (fun _ _ h => h) ?_) | (refine zA (id := 37) (t := (.node [0, 1, 2, 3, 4, 5, 6, 7] [])) (drR [3] [] []) zH (by kernel_rfl) (by kernel_rfl) (fun _ _ h => h) ?_) | (refine zB (by simp only [go_sem]; exact rfl) ?_) | (refine zD (by simp only [go_sem]; exact rfl) ?_) | refine zl ?_ | refine zq ?_ ?_ | exact zC | ((with_reducible first | apply awn | apply awo | apply awp | refine awQ ?_ | refine awR ?_); intro r hr; simp only [go_sem, Nat.reduceBEq, Nat.reduceLT, Nat.reduceLeDiff, Nat.reduceAdd, Nat.reduceMul, Int.reduceEq] at hr; subst hr; (first | refine caC (b1) rfl ?_ ?_ ?_ | refine caC (b2) rfl ?_ ?_ ?_ | refine caC (b3) rfl ?_ ?_ ?_ | refine caC (b4) rfl ?_ ?_ ?_ | refine caC (b5) rfl ?_ ?_ ?_ | refine awV ?_ ?_ | refine zM ?_ ?_ | (refine zh (fun h => ?_) (fun h => ?_) <;> (try simp only [go_sem, reduceCtorEq] at h) <;> (try (exfalso; omega))))))) <;> (try omega)
  all_goals exact rfl
 by_cases h20 : op = 20
 ·subst h20
  have hv := Xq s
  by_cases h6 : s.place = 6
  ·have e6 : (s.place = 6) = True := eq_true h6
   rw [decide_eq_true h6, Bool.true_and]
   all_goals
    simp only [Int.reduceEq, or_self, false_and, if_true, if_false]
    refine zE (zb _) Tryz.func79 rfl rfl (by rw [Tryz.results79]) Tryz.ntmps79 rfl fun E => ?_
   all_goals (repeat' (first | exact trivial | (with_reducible first | apply awA | apply awB | apply awC | apply awD | apply awE | apply awF | apply awG | apply awH | apply awJ | apply awK | refine awM (by decide) ?_) | ((with_reducible first | apply awn | apply awo | refine awQ ?_ | refine awR ?_); intro r hr; simp only [go_sem, Nat.reduceBEq, Nat.reduceLT, Nat.reduceLeDiff, Nat.reduceAdd, Nat.reduceMul, reduceCtorEq, e6, Int.reduceEq] at hr; subst hr; (first | refine caA (fun _ => hv) rfl ?_ ?_ ?_ | refine awV ?_ ?_ | refine zM ?_ ?_ | (refine zh (fun h => ?_) (fun h => ?_) <;> (try simp only [go_sem, reduceCtorEq] at h) <;> (try (exfalso; omega))))))) <;> (try omega)
   all_goals exact rfl
  ·have e6 : (s.place = 6) = False := eq_false h6
   rw [decide_eq_false h6, Bool.false_and]
   all_goals
    simp only [Int.reduceEq, or_self, false_and, if_true, if_false]
    refine zE (zb _) Tryz.func79 rfl rfl (by rw [Tryz.results79]) Tryz.ntmps79 rfl fun E => ?_
   all_goals (repeat' (first | exact trivial | (with_reducible first | apply awA | apply awB | apply awC | apply awD | apply awE | apply awF | apply awG | apply awH | apply awJ | apply awK | refine awM (by decide) ?_) | ((with_reducible first | apply awn | apply awo | refine awQ ?_ | refine awR ?_); intro r hr; simp only [go_sem, Nat.reduceBEq, Nat.reduceLT, Nat.reduceLeDiff, Nat.reduceAdd, Nat.reduceMul, reduceCtorEq, e6, Int.reduceEq] at hr; subst hr; (first | refine awV ?_ ?_ | refine awW ?_ ?_ | refine zM ?_ ?_ | (refine zh (fun h => ?_) (fun h => ?_) <;> (try simp only [go_sem, reduceCtorEq] at h) <;> (try (exfalso; omega))))) | (refine yD (vB true) rfl rfl ⟨by decide, by decide⟩ ?_))) <;> (try omega)
   all_goals exact rfl
 have key : ∀ k : Int, k = 44 ∨ k = 45 ∨ k = 46 ∨ k = 33 ∨ k = 35 ∨ k = 36 ∨ k = 34 ∨ k = 37 ∨ k = 38 ∨ k = 39 ∨ k = 40 ∨ k = 41 ∨ k = 42 ∨ k = 43 ∨ k = 47 ∨ k = 19 ∨ k = 20 → (op = k) = False := fun k hk => eq_false fun h => by omega
 have e44 := key 44 (by decide)
 have e45 := key 45 (by decide)
 have e46 := key 46 (by decide)
 have e33 := key 33 (by decide)
 have e35 := key 35 (by decide)
 have e36 := key 36 (by decide)
 have e34 := key 34 (by decide)
 have e37 := key 37 (by decide)
 have e38 := key 38 (by decide)
 have e39 := key 39 (by decide)
 have e40 := key 40 (by decide)
 have e41 := key 41 (by decide)
 have e42 := key 42 (by decide)
 have e43 := key 43 (by decide)
 have e47 := key 47 (by decide)
 have e19 := key 19 (by decide)
 have e20 := key 20 (by decide)
 clear key hC hT hB
 simp only [e44, e45, e46, e33, e35, e36, e34, e37, e38, e39, e40, e41, e42, e43, e47, e19, e20, or_self, if_false]
 refine zE (zb _) Tryz.func79 rfl rfl (by rw [Tryz.results79]) Tryz.ntmps79 rfl fun E => ?_
 (repeat' (first | exact trivial | (with_reducible first | apply awA | apply awB | apply awC | apply awD | apply awE | apply awF | apply awH | apply awK | refine awM (by decide) ?_) | ((with_reducible first | apply awn | refine awQ ?_ | refine awR ?_); intro r hr; simp only [go_sem, Nat.reduceBEq, Nat.reduceLT, Nat.reduceLeDiff, Nat.reduceAdd, Nat.reduceMul, e44, e45, e46, e33, e35, e36, e34, e37, e38, e39, e40, e41, e42, e43, e47, e19, e20] at hr; subst hr; (first | refine awV ?_ ?_ | refine zM ?_ ?_ | (refine zh (fun h => ?_) (fun h => ?_) <;> (try simp only [go_sem, reduceCtorEq] at h) <;> (try (exfalso; omega))))))) <;> (try omega)
 all_goals exact rfl
end
section
open Go.RowKit
theorem yC {C : List InsM} {k : Nat} (h : k < C.length) : (zF C)[k]? = some (jQ (zg C k)) := by
 rw [qU h]; simp [zg, List.getD, h]
def qc (C : List InsM) (k i : Nat) : Int := ((C[k + 1 + i]?).map (·.b)).getD 0
def xn (C : List InsM) (k n i : Nat) : List Int := (List.range i).map (qc C k) ++ List.replicate (n - i) 0
theorem vq {C : List InsM} {k n i : Nat} (h : i ≤ n) : (xn C k n i).length = n := by simp [xn]; omega
theorem kV {C : List InsM} {k n i : Nat} (h : i < n) : (xn C k n i).set i (qc C k i) = xn C k n (i + 1) := by
 unfold xn
 obtain ⟨m, hm⟩ : ∃ m, n - i = m + 1 := ⟨n - i - 1, by omega⟩
 rw [hm, List.set_append_right _ _ (by simp), List.length_map, List.length_range, Nat.sub_self, List.replicate_succ, List.set_cons_zero, List.range_succ, List.map_append, List.append_assoc, show n - (i + 1) = m by omega]
 rfl
theorem jR (e : Bool) (C : List InsM) (N : List Int) (hC : C.length ≤ 10000000) (k : Nat) (hk : k < C.length) (hw : (zg C k).op = 8 ∨ (zg C k).op = 41 → 0 ≤ (zg C k).a ∧ k + (zg C k).a < C.length) :
  zQ Tryz.prog 59 [pG e C N, vI k] (fun r => r = .lst 1 (v8 (zO C k (zg C k)))) := by
 have zk : ((k : Int)).toNat = k := by omega
 have gk := yC hk
 have hwk := zy (n := (k : Int) + 1) (by omega)
 unfold pG zO
 generalize zg C k = x at *
 obtain ⟨op, a, b, c⟩ := x
 dsimp only at hw ⊢
 by_cases h19 : op = 19
 ·subst h19
  simp only [if_true]
  refine yh (zb _) Tryz.func59 rfl rfl (by rw [Tryz.results59]) Tryz.ntmps59 rfl fun E => ?_
  (repeat' (first | exact trivial | (with_reducible first | apply awA | apply awB | apply awD | apply awF | apply awG | apply awJ) | ((with_reducible first | apply awn | refine awQ ?_ | refine awR ?_); intro r hr; simp only [go_sem, Nat.reduceBEq, Nat.reduceLT, Nat.reduceLeDiff, Nat.reduceAdd, Nat.reduceMul, zk, gk, zd] at hr; subst hr; (first | refine awV ?_ ?_ | refine zM ?_ ?_ | (refine zh (fun h => ?_) (fun h => ?_) <;> (try simp only [go_sem, reduceCtorEq] at h) <;> (try (exfalso; omega))))))) <;> (try omega)
  all_goals first | exact rfl | exact AV.up_rfl _ | exact AV.up_nil _ | (exact Nat.le_of_ble_eq_true rfl) | skip
 by_cases h20 : op = 20
 ·subst h20
  simp only [reduceIte, Int.reduceEq, true_or]
  refine yh (zb _) Tryz.func59 rfl rfl (by rw [Tryz.results59]) Tryz.ntmps59 rfl fun E => ?_
  (repeat' (first | exact trivial | (with_reducible first | apply awA | apply awB | apply awC | apply awD | apply awF | apply awG | apply awJ) | ((with_reducible first | apply awn | refine awQ ?_ | refine awR ?_); intro r hr; simp only [go_sem, Nat.reduceBEq, Nat.reduceLT, Nat.reduceLeDiff, Nat.reduceAdd, Nat.reduceMul, zk, gk, zd, Int.reduceEq] at hr; subst hr; (first | refine awV ?_ ?_ | refine zM ?_ ?_ | (refine zh (fun h => ?_) (fun h => ?_) <;> (try simp only [go_sem, reduceCtorEq] at h) <;> (try (exfalso; omega))))))) <;> (try omega)
  all_goals first | exact rfl | exact AV.up_rfl _ | exact AV.up_nil _ | (exact Nat.le_of_ble_eq_true rfl) | skip
 by_cases h9 : op = 9
 ·subst h9
  simp only [reduceIte, Int.reduceEq, or_true]
  refine yh (zb _) Tryz.func59 rfl rfl (by rw [Tryz.results59]) Tryz.ntmps59 rfl fun E => ?_
  (repeat' (first | exact trivial | (with_reducible first | apply awA | apply awB | apply awD | apply awF | apply awG | apply awJ) | ((with_reducible first | apply awn | refine awQ ?_ | refine awR ?_); intro r hr; simp only [go_sem, Nat.reduceBEq, Nat.reduceLT, Nat.reduceLeDiff, Nat.reduceAdd, Nat.reduceMul, zk, gk, zd, Int.reduceEq] at hr; subst hr; (first | refine awV ?_ ?_ | refine zM ?_ ?_ | (refine zh (fun h => ?_) (fun h => ?_) <;> (try simp only [go_sem, reduceCtorEq] at h) <;> (try (exfalso; omega))))))) <;> (try omega)
  all_goals first | exact rfl | exact AV.up_rfl _ | exact AV.up_nil _ | (exact Nat.le_of_ble_eq_true rfl) | skip
 have f19 : (op = 19) = False := eq_false h19
 have f20 : (op = 20) = False := eq_false h20
 have f9 : (op = 9) = False := eq_false h9
 simp only [f19, f20, f9, or_self, if_false]
 by_cases h8 : op = 8 ∨ op = 41
 ·rw [if_pos h8]
  obtain ⟨ha, hal⟩ := hw h8
  obtain ⟨n, rfl⟩ : ∃ n : Nat, a = n := ⟨a.toNat, by omega⟩
  rw [Int.toNat_natCast]
  have hrow : (List.replicate n [vI 0] : List (List AV)) = v8 (xn C k n 0) := by simp [xn, v8]
  have hfin : v8 (xn C k n n) = v8 ((List.range n).map fun i => ((C[k + 1 + i]?).map (·.b)).getD 0) := by simp [xn]; rfl
  rw [← hfin]
  have f8 : op = 8 ∨ ((op = 8) = False ∧ op = 41) := by rcases h8 with h | h; (· exact .inl h); exact .inr ⟨eq_false (by omega), h⟩
  refine yh (zb _) Tryz.func59 rfl rfl (by rw [Tryz.results59]) Tryz.ntmps59 rfl fun E => ?_
  rcases f8 with rfl | ⟨g8, rfl⟩
  ·have f8 : True := trivial
   have f41 : True := trivial
   (repeat' (first | exact trivial | (with_reducible first | apply awA | apply awB | apply awC | apply awF) | ((with_reducible first | apply awn | refine awQ ?_); intro r hr; simp only [go_sem, Nat.reduceBEq, Nat.reduceLT, Nat.reduceLeDiff, Nat.reduceAdd, Nat.reduceMul, f19, f20, f9, zk, gk, zd, hrow, Int.cast_ofNat_Int] at hr; subst hr; (first | refine awV ?_ ?_ | (refine zh (fun h => ?_) (fun h => ?_) <;> (try simp only [go_sem, reduceCtorEq] at h) <;> (try (exfalso; omega))))))) <;> (try omega)
   refine zI [1, 2, 5, 6, 30, 31] [2, 5, 28] (fun i : Nat => ⟨[(1, true, vI k), (2, true, .ptr 1 2 0 0), (5, true, .ptr 1 5 0 0), (6, true, .ref 3 1 28 0 n), (30, true, vI n), (31, true, vI i)],
    [(2, .var [vB e, .lst 4 (zF C), .lst 1 (v8 N)]), (5, .var (jQ ⟨8, n, b, c⟩)), (28, .row 3 1 (v8 (xn C k n i)))]⟩) (fun i => i ≤ n) (fun i => n - i) 0 (by simp only [go_sem, Nat.reduceBEq] <;> exact rfl) (Nat.zero_le _) ?_
   intro i hi
   have hwi := zy (n := (i : Int) + 1) (by omega)
   have hwa := zy (n := (k : Int) + 1 + i) (by omega)
   have zi : ((i : Int)).toNat = i := by omega
   by_cases hlt : i < n
   ·have e1 : ((i : Int) < (n : Int)) = True := eq_true (by omega)
    have z2 : ((k : Int) + 1 + i).toNat = k + 1 + i := by omega
    have g2 := yC (C := C) (k := k + 1 + i) (by omega)
    have hb : (zg C (k + 1 + i)).b = qc C k i := by
     have : k + 1 + i < C.length := by omega
     simp [zg, qc, List.getD, this]
    have hs := qP (xn C k n i) i (qc C k i)
    rw [kV hlt] at hs
    have hl := vq (C := C) (k := k) (show i ≤ n by omega)
    have gi := wA (W := xn C k n i) (i := i) (by omega)
    (repeat' (first | exact trivial | (with_reducible first | apply awA | apply awB | apply awC | apply awF | apply awI) | ((with_reducible first | apply awn | refine awQ ?_); intro r hr; simp only [go_sem, Nat.reduceBEq, Nat.reduceLT, Nat.reduceLeDiff, Nat.reduceAdd, Nat.reduceMul, e1, zi, hwi, hwa, hwk, z2, g2, gi, hb, hs, hl, vw, zp, zd, Nat.zero_add] at hr; subst hr; (first | refine awV ?_ ?_ | (refine zh (fun h => ?_) (fun h => ?_) <;> (try simp only [go_sem, reduceCtorEq] at h) <;> (try (exfalso; omega))))))) <;> (try omega)
    all_goals first | exact ⟨i + 1, by simp only [go_sem, Nat.reduceBEq] <;> exact rfl, hlt, by omega⟩ | skip
   ·have e1 : ((i : Int) < (n : Int)) = False := eq_false (by omega)
    obtain rfl : i = n := by omega
    have hl := vq (C := C) (k := k) (Nat.le_refl i)
    have ht : (v8 (xn C k i i)).take i = v8 (xn C k i i) := by rw [yR, List.take_of_length_le (by omega)]
    (repeat' (first | exact trivial | (with_reducible first | apply awA | apply awD | apply awE | apply awF | apply awG | apply awH | apply awJ | apply awK) | ((with_reducible first | apply awn | refine awQ ?_ | refine awR ?_); intro r hr; simp only [go_sem, Nat.reduceBEq, Nat.reduceLT, e1, hl, ht, zp, Nat.zero_add, List.drop_zero] at hr; subst hr; (first | refine awV ?_ ?_ | refine zM ?_ ?_ | (refine zh (fun h => ?_) (fun h => ?_) <;> (try simp only [go_sem, reduceCtorEq] at h) <;> (try (exfalso; omega))))))) <;> (try omega)
    all_goals first | exact rfl | exact AV.up_rfl _ | skip
  ·have f8 : True := trivial
   have f41 : True := trivial
   (repeat' (first | exact trivial | (with_reducible first | apply awA | apply awB | apply awF) | ((with_reducible first | apply awn | refine awQ ?_); intro r hr; simp only [go_sem, Nat.reduceBEq, Nat.reduceLT, Nat.reduceLeDiff, Nat.reduceAdd, Nat.reduceMul, f19, f20, f9, zk, gk, zd, hrow, Int.cast_ofNat_Int, Int.reduceEq] at hr; subst hr; (first | refine awV ?_ ?_ | (refine zh (fun h => ?_) (fun h => ?_) <;> (try simp only [go_sem, reduceCtorEq] at h) <;> (try (exfalso; omega))))))) <;> (try omega)
   refine zI [1, 2, 5, 6, 30, 31] [2, 5, 28] (fun i : Nat => ⟨[(1, true, vI k), (2, true, .ptr 1 2 0 0), (5, true, .ptr 1 5 0 0), (6, true, .ref 3 1 28 0 n), (30, true, vI n), (31, true, vI i)],
    [(2, .var [vB e, .lst 4 (zF C), .lst 1 (v8 N)]), (5, .var (jQ ⟨41, n, b, c⟩)), (28, .row 3 1 (v8 (xn C k n i)))]⟩) (fun i => i ≤ n) (fun i => n - i) 0 (by simp only [go_sem, Nat.reduceBEq] <;> exact rfl) (Nat.zero_le _) ?_
   intro i hi
   have hwi := zy (n := (i : Int) + 1) (by omega)
   have hwa := zy (n := (k : Int) + 1 + i) (by omega)
   have zi : ((i : Int)).toNat = i := by omega
   by_cases hlt : i < n
   ·have e1 : ((i : Int) < (n : Int)) = True := eq_true (by omega)
    have z2 : ((k : Int) + 1 + i).toNat = k + 1 + i := by omega
    have g2 := yC (C := C) (k := k + 1 + i) (by omega)
    have hb : (zg C (k + 1 + i)).b = qc C k i := by
     have : k + 1 + i < C.length := by omega
     simp [zg, qc, List.getD, this]
    have hs := qP (xn C k n i) i (qc C k i)
    rw [kV hlt] at hs
    have hl := vq (C := C) (k := k) (show i ≤ n by omega)
    have gi := wA (W := xn C k n i) (i := i) (by omega)
    (repeat' (first | exact trivial | (with_reducible first | apply awA | apply awB | apply awC | apply awF | apply awI) | ((with_reducible first | apply awn | refine awQ ?_); intro r hr; simp only [go_sem, Nat.reduceBEq, Nat.reduceLT, Nat.reduceLeDiff, Nat.reduceAdd, Nat.reduceMul, e1, zi, hwi, hwa, hwk, z2, g2, gi, hb, hs, hl, vw, zp, zd, Nat.zero_add] at hr; subst hr; (first | refine awV ?_ ?_ | (refine zh (fun h => ?_) (fun h => ?_) <;> (try simp only [go_sem, reduceCtorEq] at h) <;> (try (exfalso; omega))))))) <;> (try omega)
    all_goals first | exact ⟨i + 1, by simp only [go_sem, Nat.reduceBEq] <;> exact rfl, hlt, by omega⟩ | skip
   ·have e1 : ((i : Int) < (n : Int)) = False := eq_false (by omega)
    obtain rfl : i = n := by omega
    have hl := vq (C := C) (k := k) (Nat.le_refl i)
    have ht : (v8 (xn C k i i)).take i = v8 (xn C k i i) := by rw [yR, List.take_of_length_le (by omega)]
    (repeat' (first | exact trivial | (with_reducible first | apply awA | apply awD | apply awE | apply awF | apply awG | apply awH | apply awJ | apply awK) | ((with_reducible first | apply awn | refine awQ ?_ | refine awR ?_); intro r hr; simp only [go_sem, Nat.reduceBEq, Nat.reduceLT, e1, hl, ht, zp, Nat.zero_add, List.drop_zero] at hr; subst hr; (first | refine awV ?_ ?_ | refine zM ?_ ?_ | (refine zh (fun h => ?_) (fun h => ?_) <;> (try simp only [go_sem, reduceCtorEq] at h) <;> (try (exfalso; omega))))))) <;> (try omega)
    all_goals first | exact rfl | exact AV.up_rfl _ | skip
 ·rw [if_neg h8]
  have f8 : (op = 8) = False := eq_false fun h => h8 (.inl h)
  have f41 : (op = 41) = False := eq_false fun h => h8 (.inr h)
  by_cases h7 : op = 7 ∨ op = 11 ∨ op = 12 ∨ op = 13 ∨ op = 14 ∨ op = 15 ∨ op = 40 ∨ op = 47
  ·rw [if_pos h7]
   rcases h7 with rfl | rfl | rfl | rfl | rfl | rfl | rfl | rfl
   all_goals
    refine yh (zb _) Tryz.func59 rfl rfl (by rw [Tryz.results59]) Tryz.ntmps59 rfl fun E => ?_
    (repeat' (first | exact trivial | (with_reducible first | apply awA | apply awB | apply awC | apply awD | apply awF | apply awG | apply awJ) | ((with_reducible first | apply awn | refine awQ ?_ | refine awR ?_); intro r hr; simp only [go_sem, Nat.reduceBEq, Nat.reduceLT, Nat.reduceLeDiff, Nat.reduceAdd, Nat.reduceMul, hwk, zk, gk, zd, Int.reduceEq] at hr; subst hr; (first | refine awV ?_ ?_ | refine zM ?_ ?_ | (refine zh (fun h => ?_) (fun h => ?_) <;> (try simp only [go_sem, reduceCtorEq] at h) <;> (try (exfalso; omega))))))) <;> (try omega)
    all_goals first | exact rfl | exact AV.up_rfl _ | exact AV.up_nil _ | (exact Nat.le_of_ble_eq_true rfl) | skip
  ·rw [if_neg h7]
   have g1 : (op = 7) = False := eq_false (by omega)
   have g2 : (op = 11) = False := eq_false (by omega)
   have g3 : (op = 12) = False := eq_false (by omega)
   have g4 : (op = 13) = False := eq_false (by omega)
   have g5 : (op = 14) = False := eq_false (by omega)
   have g6 : (op = 15) = False := eq_false (by omega)
   have g7 : (op = 40) = False := eq_false (by omega)
   have g8 : (op = 47) = False := eq_false (by omega)
   refine yh (zb _) Tryz.func59 rfl rfl (by rw [Tryz.results59]) Tryz.ntmps59 rfl fun E => ?_
   (repeat' (first | exact trivial | (with_reducible first | apply awA | apply awB | apply awC | apply awD | apply awF | apply awI) | ((with_reducible first | apply awn | refine awQ ?_ | refine awR ?_); intro r hr; simp only [go_sem, Nat.reduceBEq, Nat.reduceLT, Nat.reduceLeDiff, Nat.reduceAdd, Nat.reduceMul, f19, f20, f9, f8, f41, g1, g2, g3, g4, g5, g6, g7, g8, hwk, zk, gk, zd] at hr; subst hr; (first | refine awV ?_ ?_ | refine zM ?_ ?_ | (refine zh (fun h => ?_) (fun h => ?_) <;> (try simp only [go_sem, reduceCtorEq] at h) <;> (try (exfalso; omega))))))) <;> (try omega)
   all_goals first | exact rfl | exact AV.up_rfl _ | exact AV.up_nil _ | (exact Nat.le_of_ble_eq_true rfl) | skip
end
section
open Go.RowKit
theorem AV.up_dead (a : AV) : a.up .dead := fun _ _ _ _ _ => .dead
theorem Jt (e : Bool) (C : List InsM) (N : List Int) (L : LkM) (W : List Int) (hW : W.length ≤ 1000000000) (n : Nat) (hn : n ≤ W.length) :
  yb Tryz.prog 62 [.ifc 76 (.ptr 1 10000 0 5), vI 0, vI n] (lkO e C N L W) .dead (lkO e C N L (wd W.length W n 0)) := by
 have hlen : (wd W.length W n 0).length = W.length := Zt _ _ _ _ hn
 have hf0 : n ≤ 0 + W.length := by omega
 generalize hR : wd W.length W n 0 = R at hlen
 generalize hf : W.length = f0 at hR hf0
 unfold lkO lkV
 rw [hlen]
 refine zJ (zb _) Tryz.func62 rfl rfl (by rw [Tryz.results62]) Tryz.ntmps62 rfl fun E => ?_
 (repeat' (first | exact trivial | (with_reducible first | apply awA | apply awB | apply awF) | ((with_reducible apply awn); intro r hr; simp only [go_sem, Nat.reduceBEq, Nat.reduceLT, Nat.reduceAdd] at hr; subst hr; (first | refine awV ?_ ?_)))) <;> (try omega)
 refine zI [0, 1, 2, 7] [10000, 15000, 15001, 15002] (fun x : Nat × Nat × List Int => ⟨[(0, true, .ifc 76 (.ptr 1 10000 0 5)), (1, true, vI 0), (2, true, vI n), (7, true, vI x.2.1)],
  [(10000, .var [vB e, .lst 4 (zF C), .lst 1 (v8 N), .ref 52 6 15000 0 L.length, .ref 4 1 15001 0 L.length, .ref 3 1 15002 0 W.length]), (15000, .row 52 6 (yk L)), (15001, .row 4 1 (yl L)), (15002, .row 3 1 (v8 x.2.2))]⟩)
  (fun x => n ≤ x.2.1 + x.1 ∧ x.2.1 ≤ n ∧ x.2.2.length = W.length ∧ wd x.1 x.2.2 n x.2.1 = R) (fun x => n - x.2.1) (f0, 0, W) (by simp only [go_sem, Nat.reduceBEq] <;> exact rfl) ⟨hf0, Nat.zero_le _, rfl, hR⟩ ?_
 clear hR hf hf0 f0
 intro ⟨f, i, W'⟩ ⟨h1, h2, h3, h4⟩
 simp only at h1 h2 h3 h4 ⊢
 have ht : (v8 W').take W.length = v8 W' := by rw [yR, List.take_of_length_le (by omega)]
 have hw1 := zy (n := 2 * (i : Int)) (by omega)
 have hw2 := zy (n := 2 * (i : Int) + 1) (by omega)
 have hw3 := zy (n := 2 * (i : Int) + 1 + 1) (by omega)
 have c1 : (2 * (i : Int) + 1) = ((2 * i + 1 : Nat) : Int) := by omega
 have c2 : (((2 * i + 1 : Nat) : Int) + 1) = ((2 * i + 2 : Nat) : Int) := by omega
 rw [c1] at hw2 hw3
 rw [c2] at hw3
 have z1 : (((2 * i + 1 : Nat) : Int) < 0) = False := eq_false (by omega)
 by_cases hA : n ≤ 2 * i + 1
 ·have hl : W' = R := by
   rw [← h4]
   cases f with
   | zero => rfl
   | succ f => unfold wd; rw [if_pos (.inl hA)]
  subst hl
  have e1 : ((n : Int) ≤ ((2 * i + 1 : Nat) : Int)) = True := eq_true (by omega)
  (repeat' (first | exact trivial | (with_reducible first | apply awA | apply awB | apply awD | apply awE | apply awF | apply awH | apply awK | refine awM (by decide) ?_) | ((with_reducible first | apply awn | refine awQ ?_ | refine awT ?_); intro r hr; simp only [go_sem, Nat.reduceBEq, Nat.reduceLT, reduceCtorEq, hw1, hw2, c1, e1, z1] at hr; subst hr; (first | refine awV ?_ ?_ | refine zP ?_ ?_ ?_ | (refine zh (fun h => ?_) (fun h => ?_) <;> (try simp only [go_sem, reduceCtorEq] at h) <;> (try (exfalso; omega))))))) <;> (try omega)
  all_goals first | exact AV.up_rfl _ | exact AV.up_dead _ | (repeat first | exact zo | refine zn rfl ?_)
 ·have e1 : ((n : Int) ≤ ((2 * i + 1 : Nat) : Int)) = False := eq_false (by omega)
  obtain ⟨f, rfl⟩ : ∃ f', f = f' + 1 := ⟨f - 1, by omega⟩
  unfold wd at h4
  have hk := qN (l := W') (n := n) (i := i) (by omega)
  by_cases hB : 2 * i + 2 < n
  ·have e2 : (((2 * i + 2 : Nat) : Int) < (n : Int)) = True := eq_true (by omega)
   have hls0 := qO W' (by omega) (2 * i + 2) (2 * i + 1) (by omega) (by omega)
   by_cases hC : W'.getD (2 * i + 2) 0 < W'.getD (2 * i + 1) 0
   ·have hkid : kP W' n i = 2 * i + 2 := by unfold kP; rw [if_pos ⟨hB, hC⟩]
    rw [hkid] at hk
    rw [decide_eq_true hC] at hls0
    rw [hkid] at h4
    have hls := qO W' (by omega) (2 * i + 2) i (by omega) (by omega)
    by_cases hlt : W'.getD (2 * i + 2) 0 < W'.getD i 0
    ·rw [if_neg (by rintro (h | h) <;> omega)] at h4
     have hsw := qQ W' (by omega) W.length (by omega) i (2 * i + 2) (by omega) (by omega)
     rw [decide_eq_true hlt] at hls
     (repeat' (first | exact trivial | (with_reducible first | apply awA | apply awB | apply awC | apply awF | apply awI) | ((with_reducible first | apply awn | apply awo | refine awQ ?_); intro r hr; simp only [go_sem, Nat.reduceBEq, Nat.reduceLT, reduceCtorEq, hw1, hw2, hw3, c1, c2, e1, z1, e2] at hr; subst hr; (first | refine awV ?_ ?_ | refine awW ?_ ?_ | (refine zh (fun h => ?_) (fun h => ?_) <;> (try simp only [go_sem, reduceCtorEq] at h) <;> (try (exfalso; omega))))) | (refine yD (vB true) rfl rfl ⟨by decide, by decide⟩ ?_) | (refine yH 32 rfl (zb _) [] [] [] [] (by simp only [go_sem, Nat.reduceBEq, Nat.reduceLT, Nat.reduceLeDiff, Nat.reduceAdd, Nat.reduceMul, h3, ht, zp] <;> exact rfl) ?_ rfl rfl (by first | exact .inl rfl | exact .inr rfl) (by simp only [go_sem] <;> exact rfl) (hls0) (.inr ⟨rfl, ?_⟩) ?_) | (refine yH 38 rfl (zb _) [] [] [] [] (by simp only [go_sem, Nat.reduceBEq, Nat.reduceLT, Nat.reduceLeDiff, Nat.reduceAdd, Nat.reduceMul, h3, ht, zp] <;> exact rfl) ?_ rfl rfl (by first | exact .inl rfl | exact .inr rfl) (by simp only [go_sem] <;> exact rfl) (hls) (.inr ⟨rfl, ?_⟩) ?_) | (refine yr (zb _) [(15002, 10001)] [(10001, 15002)] [] [15002] (by simp only [go_sem, Nat.reduceBEq, Nat.reduceLT, Nat.reduceLeDiff, Nat.reduceAdd, Nat.reduceMul] <;> exact rfl) ?_ rfl rfl (by first | exact .inl rfl | exact .inr rfl) (by simp only [go_sem, Nat.reduceBEq] <;> exact rfl) (hsw) (.inl rfl) ?_))) <;> (try omega)
     refine ⟨(f, (2 * i + 2), yN W' i (2 * i + 2)), ?_, ⟨by show n ≤ (2 * i + 2) + f; omega, by show (2 * i + 2) ≤ n; omega, by show (yN W' i (2 * i + 2)).length = _; rw [yz]; exact h3, h4⟩, by show n - (2 * i + 2) < n - i; omega⟩
     simp only [go_sem, Nat.reduceBEq]
    ·rw [if_pos (.inr hlt)] at h4
     subst h4
     rw [decide_eq_false hlt] at hls
     (repeat' (first | exact trivial | (with_reducible first | apply awA | apply awB | apply awC | apply awD | apply awE | apply awF | apply awH | apply awK | refine awM (by decide) ?_) | ((with_reducible first | apply awn | apply awo | refine awQ ?_ | refine awT ?_); intro r hr; simp only [go_sem, Nat.reduceBEq, Nat.reduceLT, reduceCtorEq, hw1, hw2, hw3, c1, c2, e1, z1, e2] at hr; subst hr; (first | refine awV ?_ ?_ | refine awW ?_ ?_ | refine zP ?_ ?_ ?_ | (refine zh (fun h => ?_) (fun h => ?_) <;> (try simp only [go_sem, reduceCtorEq] at h) <;> (try (exfalso; omega))))) | (refine yD (vB true) rfl rfl ⟨by decide, by decide⟩ ?_) | (refine yH 32 rfl (zb _) [] [] [] [] (by simp only [go_sem, Nat.reduceBEq, Nat.reduceLT, Nat.reduceLeDiff, Nat.reduceAdd, Nat.reduceMul, h3, ht, zp] <;> exact rfl) ?_ rfl rfl (by first | exact .inl rfl | exact .inr rfl) (by simp only [go_sem] <;> exact rfl) (hls0) (.inr ⟨rfl, ?_⟩) ?_) | (refine yH 38 rfl (zb _) [] [] [] [] (by simp only [go_sem, Nat.reduceBEq, Nat.reduceLT, Nat.reduceLeDiff, Nat.reduceAdd, Nat.reduceMul, h3, ht, zp] <;> exact rfl) ?_ rfl rfl (by first | exact .inl rfl | exact .inr rfl) (by simp only [go_sem] <;> exact rfl) (hls) (.inr ⟨rfl, ?_⟩) ?_))) <;> (try omega)
     all_goals first | exact AV.up_rfl _ | exact AV.up_dead _ | (repeat first | exact zo | refine zn rfl ?_)
   ·have hkid : kP W' n i = 2 * i + 1 := by unfold kP; rw [if_neg (by omega)]
    rw [hkid] at hk
    rw [decide_eq_false hC] at hls0
    rw [hkid] at h4
    have hls := qO W' (by omega) (2 * i + 1) i (by omega) (by omega)
    by_cases hlt : W'.getD (2 * i + 1) 0 < W'.getD i 0
    ·rw [if_neg (by rintro (h | h) <;> omega)] at h4
     have hsw := qQ W' (by omega) W.length (by omega) i (2 * i + 1) (by omega) (by omega)
     rw [decide_eq_true hlt] at hls
     (repeat' (first | exact trivial | (with_reducible first | apply awA | apply awB | apply awC | apply awF | apply awI) | ((with_reducible first | apply awn | apply awo | refine awQ ?_); intro r hr; simp only [go_sem, Nat.reduceBEq, Nat.reduceLT, reduceCtorEq, hw1, hw2, hw3, c1, c2, e1, z1, e2] at hr; subst hr; (first | refine awV ?_ ?_ | refine awW ?_ ?_ | (refine zh (fun h => ?_) (fun h => ?_) <;> (try simp only [go_sem, reduceCtorEq] at h) <;> (try (exfalso; omega))))) | (refine yD (vB true) rfl rfl ⟨by decide, by decide⟩ ?_) | (refine yH 32 rfl (zb _) [] [] [] [] (by simp only [go_sem, Nat.reduceBEq, Nat.reduceLT, Nat.reduceLeDiff, Nat.reduceAdd, Nat.reduceMul, h3, ht, zp] <;> exact rfl) ?_ rfl rfl (by first | exact .inl rfl | exact .inr rfl) (by simp only [go_sem] <;> exact rfl) (hls0) (.inr ⟨rfl, ?_⟩) ?_) | (refine yH 38 rfl (zb _) [] [] [] [] (by simp only [go_sem, Nat.reduceBEq, Nat.reduceLT, Nat.reduceLeDiff, Nat.reduceAdd, Nat.reduceMul, h3, ht, zp] <;> exact rfl) ?_ rfl rfl (by first | exact .inl rfl | exact .inr rfl) (by simp only [go_sem] <;> exact rfl) (hls) (.inr ⟨rfl, ?_⟩) ?_) | (refine yr (zb _) [(15002, 10001)] [(10001, 15002)] [] [15002] (by simp only [go_sem, Nat.reduceBEq, Nat.reduceLT, Nat.reduceLeDiff, Nat.reduceAdd, Nat.reduceMul] <;> exact rfl) ?_ rfl rfl (by first | exact .inl rfl | exact .inr rfl) (by simp only [go_sem, Nat.reduceBEq] <;> exact rfl) (hsw) (.inl rfl) ?_))) <;> (try omega)
     refine ⟨(f, (2 * i + 1), yN W' i (2 * i + 1)), ?_, ⟨by show n ≤ (2 * i + 1) + f; omega, by show (2 * i + 1) ≤ n; omega, by show (yN W' i (2 * i + 1)).length = _; rw [yz]; exact h3, h4⟩, by show n - (2 * i + 1) < n - i; omega⟩
     simp only [go_sem, Nat.reduceBEq]
    ·rw [if_pos (.inr hlt)] at h4
     subst h4
     rw [decide_eq_false hlt] at hls
     (repeat' (first | exact trivial | (with_reducible first | apply awA | apply awB | apply awC | apply awD | apply awE | apply awF | apply awH | apply awK | refine awM (by decide) ?_) | ((with_reducible first | apply awn | apply awo | refine awQ ?_ | refine awT ?_); intro r hr; simp only [go_sem, Nat.reduceBEq, Nat.reduceLT, reduceCtorEq, hw1, hw2, hw3, c1, c2, e1, z1, e2] at hr; subst hr; (first | refine awV ?_ ?_ | refine awW ?_ ?_ | refine zP ?_ ?_ ?_ | (refine zh (fun h => ?_) (fun h => ?_) <;> (try simp only [go_sem, reduceCtorEq] at h) <;> (try (exfalso; omega))))) | (refine yD (vB true) rfl rfl ⟨by decide, by decide⟩ ?_) | (refine yH 32 rfl (zb _) [] [] [] [] (by simp only [go_sem, Nat.reduceBEq, Nat.reduceLT, Nat.reduceLeDiff, Nat.reduceAdd, Nat.reduceMul, h3, ht, zp] <;> exact rfl) ?_ rfl rfl (by first | exact .inl rfl | exact .inr rfl) (by simp only [go_sem] <;> exact rfl) (hls0) (.inr ⟨rfl, ?_⟩) ?_) | (refine yH 38 rfl (zb _) [] [] [] [] (by simp only [go_sem, Nat.reduceBEq, Nat.reduceLT, Nat.reduceLeDiff, Nat.reduceAdd, Nat.reduceMul, h3, ht, zp] <;> exact rfl) ?_ rfl rfl (by first | exact .inl rfl | exact .inr rfl) (by simp only [go_sem] <;> exact rfl) (hls) (.inr ⟨rfl, ?_⟩) ?_))) <;> (try omega)
     all_goals first | exact AV.up_rfl _ | exact AV.up_dead _ | (repeat first | exact zo | refine zn rfl ?_)
  ·have e2 : (((2 * i + 2 : Nat) : Int) < (n : Int)) = False := eq_false (by omega)
   have hkid : kP W' n i = 2 * i + 1 := by unfold kP; rw [if_neg (by omega)]
   rw [hkid] at hk
   rw [hkid] at h4
   have hls := qO W' (by omega) (2 * i + 1) i (by omega) (by omega)
   by_cases hlt : W'.getD (2 * i + 1) 0 < W'.getD i 0
   ·rw [if_neg (by rintro (h | h) <;> omega)] at h4
    have hsw := qQ W' (by omega) W.length (by omega) i (2 * i + 1) (by omega) (by omega)
    rw [decide_eq_true hlt] at hls
    (repeat' (first | exact trivial | (with_reducible first | apply awA | apply awB | apply awC | apply awF | apply awI) | ((with_reducible first | apply awn | apply awo | refine awQ ?_); intro r hr; simp only [go_sem, Nat.reduceBEq, Nat.reduceLT, reduceCtorEq, hw1, hw2, hw3, c1, c2, e1, z1, e2] at hr; subst hr; (first | refine awV ?_ ?_ | refine awW ?_ ?_ | (refine zh (fun h => ?_) (fun h => ?_) <;> (try simp only [go_sem, reduceCtorEq] at h) <;> (try (exfalso; omega))))) | (refine yD (vB true) rfl rfl ⟨by decide, by decide⟩ ?_) | (refine yr (zb _) [] [] [] [] (by simp only [go_sem, Nat.reduceBEq, Nat.reduceLT, Nat.reduceLeDiff, Nat.reduceAdd, Nat.reduceMul, h3, ht, zp] <;> exact rfl) ?_ rfl rfl (by first | exact .inl rfl | exact .inr rfl) (by simp only [go_sem] <;> exact rfl) (hls) (.inr ⟨rfl, ?_⟩) ?_) | (refine yr (zb _) [(15002, 10001)] [(10001, 15002)] [] [15002] (by simp only [go_sem, Nat.reduceBEq, Nat.reduceLT, Nat.reduceLeDiff, Nat.reduceAdd, Nat.reduceMul] <;> exact rfl) ?_ rfl rfl (by first | exact .inl rfl | exact .inr rfl) (by simp only [go_sem, Nat.reduceBEq] <;> exact rfl) (hsw) (.inl rfl) ?_))) <;> (try omega)
    refine ⟨(f, (2 * i + 1), yN W' i (2 * i + 1)), ?_, ⟨by show n ≤ (2 * i + 1) + f; omega, by show (2 * i + 1) ≤ n; omega, by show (yN W' i (2 * i + 1)).length = _; rw [yz]; exact h3, h4⟩, by show n - (2 * i + 1) < n - i; omega⟩
    simp only [go_sem, Nat.reduceBEq]
   ·rw [if_pos (.inr hlt)] at h4
    subst h4
    rw [decide_eq_false hlt] at hls
    (repeat' (first | exact trivial | (with_reducible first | apply awA | apply awB | apply awC | apply awD | apply awE | apply awF | apply awH | apply awK | refine awM (by decide) ?_) | ((with_reducible first | apply awn | apply awo | refine awQ ?_ | refine awT ?_); intro r hr; simp only [go_sem, Nat.reduceBEq, Nat.reduceLT, reduceCtorEq, hw1, hw2, hw3, c1, c2, e1, z1, e2] at hr; subst hr; (first | refine awV ?_ ?_ | refine awW ?_ ?_ | refine zP ?_ ?_ ?_ | (refine zh (fun h => ?_) (fun h => ?_) <;> (try simp only [go_sem, reduceCtorEq] at h) <;> (try (exfalso; omega))))) | (refine yD (vB true) rfl rfl ⟨by decide, by decide⟩ ?_) | (refine yr (zb _) [] [] [] [] (by simp only [go_sem, Nat.reduceBEq, Nat.reduceLT, Nat.reduceLeDiff, Nat.reduceAdd, Nat.reduceMul, h3, ht, zp] <;> exact rfl) ?_ rfl rfl (by first | exact .inl rfl | exact .inr rfl) (by simp only [go_sem] <;> exact rfl) (hls) (.inr ⟨rfl, ?_⟩) ?_))) <;> (try omega)
    all_goals first | exact AV.up_rfl _ | exact AV.up_dead _ | (repeat first | exact zo | refine zn rfl ?_)
theorem Ju (e : Bool) (C : List InsM) (N : List Int) (L : LkM) (W : List Int) (hW : W.length ≤ 100000000) (x : Int) :
  yb Tryz.prog 57 [.ifc 76 (.ptr 1 10000 0 5), .ifc 3 (vI x)] (lkO e C N L W) (.tup []) (lkO e C N L (upF (W.length + 1) (W ++ [x]) W.length)) := by
 have hp := Js e C N L W (by omega) x
 have hl : (W ++ [x]).length = W.length + 1 := by simp
 have hu := za6 e C N L (W ++ [x]) (by omega) W.length (by omega)
 have hlen : (upF (W.length + 1) (W ++ [x]) W.length).length = W.length + 1 := by rw [(qm _ _ _ (by omega)).length_eq, hl]
 have hn := KA (W ++ [x])
 have hw := zy (n := ((W.length + 1 : Nat) : Int) - 1) (by omega)
 have hz : ((W.length + 1 : Nat) : Int) - 1 = W.length := by omega
 have ht : (v8 (W ++ [x])).take (W.length + 1) = v8 (W ++ [x]) := by rw [yR, List.take_of_length_le (by omega)]
 rw [hz] at hw
 rw [hl] at hn
 unfold lkO lkV at hp hu ⊢
 rw [hl] at hp hu
 rw [hlen] at hu ⊢
 refine zJ (zb _) Tryz.func57 rfl rfl (by rw [Tryz.results57]) Tryz.ntmps57 rfl fun E => ?_
 (repeat' (first | exact trivial | (with_reducible first | apply awA | apply awF) | ((with_reducible first | apply awn | apply awo | refine awU ?_); intro r hr; simp only [go_sem, Nat.reduceBEq, Nat.reduceLT, hw, hz] at hr; subst hr; (first | refine awV ?_ ?_ | refine awW ?_ ?_ | refine zP ?_ ?_ ?_)) | (refine yr (zb _) [(10000, 10000), (15000, 15000), (15001, 15001), (15002, 15002)] [(10000, 10000), (15000, 15000), (15001, 15001), (15002, 15002)] [15000, 15001, 15002] [10000] (by simp only [go_sem, Nat.reduceBEq, Nat.reduceLT, Nat.reduceLeDiff, Nat.reduceAdd, Nat.reduceMul] <;> exact rfl) ?_ rfl rfl (by first | exact .inl rfl | exact .inr rfl) (by simp only [go_sem, Nat.reduceBEq] <;> exact rfl) (hp) (.inl rfl) ?_) | (refine yr (zb _) [] [] [] [] (by simp only [go_sem, Nat.reduceBEq, Nat.reduceLT, Nat.reduceLeDiff, Nat.reduceAdd, Nat.reduceMul, ht, hl, zp] <;> exact rfl) ?_ rfl rfl (by first | exact .inl rfl | exact .inr rfl) (by simp only [go_sem] <;> exact rfl) (hn) (.inr ⟨rfl, ?_⟩) ?_) | (refine zz [(10000, 10000), (15000, 15000), (15001, 15001), (15002, 15002)] [(10000, 10000), (15000, 15000), (15001, 15001), (15002, 15002)] [15000, 15001, 15002] [10000] ?_; intro r hr; simp only [go_sem, Nat.reduceBEq, Nat.reduceLT] at hr; subst hr; refine zR (hu) rfl rfl (by first | exact .inl rfl | exact .inr rfl) ?_ (.inl rfl) ?_))) <;> (try omega)
 all_goals first | exact AV.up_rfl _ | exact AV.up_dead _ | (repeat first | exact zo | refine zn rfl ?_)
theorem zaw (e : Bool) (C : List InsM) (N : List Int) (L : LkM) (W : List Int) (hW : W.length ≤ 100000000) (hne : W ≠ []) :
  yb Tryz.prog 37 [.ifc 76 (.ptr 1 10000 0 5)] (lkO e C N L W) (.ifc 3 (vI (W.getD 0 0))) (lkO e C N L (YA W)) := by
 have hpos : 0 < W.length := List.length_pos_iff.2 hne
 have hn := KA W
 have hsw := qQ W (by omega) W.length (by omega) 0 (W.length - 1) hpos (by omega)
 have hsl : (yN W 0 (W.length - 1)).length = W.length := yz _ _ _
 have hd := Jt e C N L (yN W 0 (W.length - 1)) (by omega) (W.length - 1) (by omega)
 rw [hsl] at hd
 have hdl : (wd W.length (yN W 0 (W.length - 1)) (W.length - 1) 0).length = W.length := by rw [Zt _ _ _ _ (by omega), hsl]
 have hlast := Xd hne
 have hp := zav e C N L (wd W.length (yN W 0 (W.length - 1)) (W.length - 1) 0) (by omega) (by omega)
 rw [hdl, hlast] at hp
 have hpl : (YA W).length = W.length - 1 := by unfold YA; rw [List.length_take, hdl]; omega
 change yb _ _ _ _ _ (lkO e C N L (YA W)) at hp
 generalize wd W.length (yN W 0 (W.length - 1)) (W.length - 1) 0 = M at hd hp hdl
 generalize hS : yN W 0 (W.length - 1) = S at hsw hd hsl
 have hw := zy (n := (W.length : Int) - 1) (by omega)
 have hz : (W.length : Int) - 1 = ((W.length - 1 : Nat) : Int) := by omega
 have ht : (v8 W).take W.length = v8 W := by rw [yR, List.take_of_length_le (by omega)]
 rw [hz] at hw
 generalize YA W = R at hp hpl ⊢
 unfold lkO lkV at hp hd ⊢
 rw [hdl] at hp hd
 rw [hsl] at hd
 rw [hpl] at hp ⊢
 refine zJ (zb _) Tryz.func37 rfl rfl (by rw [Tryz.results37]) Tryz.ntmps37 rfl fun E => ?_
 (repeat' (first | exact trivial | (with_reducible first | apply awA | apply awD | apply awF) | ((with_reducible first | apply awn | apply awo | refine awT ?_); intro r hr; simp only [go_sem, Nat.reduceBEq, Nat.reduceLT, hw, hz] at hr; subst hr; (first | refine awV ?_ ?_ | refine awW ?_ ?_ | refine zP ?_ ?_ ?_)) | (refine yr (zb _) [] [] [] [] (by simp only [go_sem, Nat.reduceBEq, Nat.reduceLT, Nat.reduceLeDiff, Nat.reduceAdd, Nat.reduceMul, ht, zp] <;> exact rfl) ?_ rfl rfl (by first | exact .inl rfl | exact .inr rfl) (by simp only [go_sem] <;> exact rfl) (hn) (.inr ⟨rfl, ?_⟩) ?_) | (refine yr (zb _) [(15002, 10001)] [(10001, 15002)] [] [15002] (by simp only [go_sem, Nat.reduceBEq, Nat.reduceLT, Nat.reduceLeDiff, Nat.reduceAdd, Nat.reduceMul] <;> exact rfl) ?_ rfl rfl (by first | exact .inl rfl | exact .inr rfl) (by simp only [go_sem, Nat.reduceBEq] <;> exact rfl) (hsw) (.inl rfl) ?_) | (refine zz [(10000, 10000), (15000, 15000), (15001, 15001), (15002, 15002)] [(10000, 10000), (15000, 15000), (15001, 15001), (15002, 15002)] [15000, 15001, 15002] [10000] ?_; intro r hr; simp only [go_sem, Nat.reduceBEq, Nat.reduceLT] at hr; subst hr; refine zR (hd) rfl rfl (by first | exact .inl rfl | exact .inr rfl) ?_ (.inl rfl) ?_) | (refine yr (zb _) [(10000, 10000), (15000, 15000), (15001, 15001), (15002, 15002)] [(10000, 10000), (15000, 15000), (15001, 15001), (15002, 15002)] [15000, 15001, 15002] [10000] (by simp only [go_sem, Nat.reduceBEq, Nat.reduceLT] <;> exact rfl) ?_ rfl rfl (by first | exact .inl rfl | exact .inr rfl) (by simp only [go_sem, Nat.reduceBEq] <;> exact rfl) (hp) (.inl rfl) ?_))) <;> (try omega)
 all_goals first | exact AV.up_rfl _ | exact AV.up_dead _ | (repeat first | exact zo | refine zn rfl ?_)
end
end Go.Proofs.YtjeplogcfedmeaaGreat
