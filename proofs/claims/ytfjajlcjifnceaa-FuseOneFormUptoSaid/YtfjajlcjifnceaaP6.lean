import Derived.Maps.RangeRun
import Derived.Laws.Externs
import Derived.Laws.CopyRow
import Derived.Test.YtfjajlcjifnceaaP5
set_option linter.all false
set_option maxRecDepth 100000
set_option maxHeartbeats 8000000
namespace Go.Proofs.Ytfjajlcjifnceaa
section
open Go.RowKit
theorem yy {C : List InsM} {k : Nat} (h : k < C.length) : (zz C)[k]? = some (qF (zb C k)) := by
 rw [kZ h]; simp [zb, List.getD, h]
def qG (C : List InsM) (k i : Nat) : Int := ((C[k + 1 + i]?).map (·.b)).getD 0
def xo (C : List InsM) (k n i : Nat) : List Int := (List.range i).map (qG C k) ++ List.replicate (n - i) 0
theorem vN {C : List InsM} {k n i : Nat} (h : i ≤ n) : (xo C k n i).length = n := by simp [xo]; omega
theorem jX {C : List InsM} {k n i : Nat} (h : i < n) : (xo C k n i).set i (qG C k i) = xo C k n (i + 1) := by
 unfold xo
 obtain ⟨m, hm⟩ : ∃ m, n - i = m + 1 := ⟨n - i - 1, by omega⟩
 rw [hm, List.set_append_right _ _ (by simp), List.length_map, List.length_range, Nat.sub_self, List.replicate_succ, List.set_cons_zero, List.range_succ, List.map_append, List.append_assoc, show n - (i + 1) = m by omega]
 rfl
theorem ZK (e : Bool) (C : List InsM) (N : List Int) (hC : C.length ≤ 10000000) (k : Nat) (hk : k < C.length) (hw : (zb C k).op = 8 ∨ (zb C k).op = 41 → 0 ≤ (zb C k).a ∧ k + (zb C k).a < C.length) :
  zN Try.prog 56 [pG e C N, vI k] (fun r => r = .lst 1 (v8 (yz C k (zb C k)))) := by
 have zk : ((k : Int)).toNat = k := by omega
 have gk := yy hk
 have hwk := zg (n := (k : Int) + 1) (by omega)
 unfold pG yz
 generalize zb C k = x at *
 obtain ⟨op, a, b, c⟩ := x
 dsimp only at hw ⊢
 by_cases h19 : op = 19
 ·subst h19
  simp only [if_true]
  refine qt (za _) Try.func56 rfl rfl (by rw [Try.results56]) Try.ntmps56 rfl fun E => ?_
  (repeat' (first | exact trivial | (with_reducible first | apply awA | apply awB | apply awD | apply awF | apply awG | apply awJ) | ((with_reducible first | apply awn | refine awQ ?_ | refine awR ?_); intro r hr; simp only [go_sem, Nat.reduceBEq, Nat.reduceLT, Nat.reduceLeDiff, Nat.reduceAdd, Nat.reduceMul, zk, gk, zd] at hr; subst hr; (first | refine awV ?_ ?_ | refine zR ?_ ?_ | (refine zf (fun h => ?_) (fun h => ?_) <;> (try simp only [go_sem, reduceCtorEq] at h) <;> (try (exfalso; omega))))))) <;> (try omega)
  all_goals first | exact rfl | exact AV.up_rfl _ | exact AV.up_nil _ | (exact Nat.le_of_ble_eq_true rfl) | skip
 by_cases h20 : op = 20
 ·subst h20
  simp only [reduceIte, Int.reduceEq, true_or]
  refine qt (za _) Try.func56 rfl rfl (by rw [Try.results56]) Try.ntmps56 rfl fun E => ?_
  (repeat' (first | exact trivial | (with_reducible first | apply awA | apply awB | apply awC | apply awD | apply awF | apply awG | apply awJ) | ((with_reducible first | apply awn | refine awQ ?_ | refine awR ?_); intro r hr; simp only [go_sem, Nat.reduceBEq, Nat.reduceLT, Nat.reduceLeDiff, Nat.reduceAdd, Nat.reduceMul, zk, gk, zd, Int.reduceEq] at hr; subst hr; (first | refine awV ?_ ?_ | refine zR ?_ ?_ | (refine zf (fun h => ?_) (fun h => ?_) <;> (try simp only [go_sem, reduceCtorEq] at h) <;> (try (exfalso; omega))))))) <;> (try omega)
  all_goals first | exact rfl | exact AV.up_rfl _ | exact AV.up_nil _ | (exact Nat.le_of_ble_eq_true rfl) | skip
 by_cases h9 : op = 9
 ·subst h9
  simp only [reduceIte, Int.reduceEq, or_true]
  refine qt (za _) Try.func56 rfl rfl (by rw [Try.results56]) Try.ntmps56 rfl fun E => ?_
  (repeat' (first | exact trivial | (with_reducible first | apply awA | apply awB | apply awD | apply awF | apply awG | apply awJ) | ((with_reducible first | apply awn | refine awQ ?_ | refine awR ?_); intro r hr; simp only [go_sem, Nat.reduceBEq, Nat.reduceLT, Nat.reduceLeDiff, Nat.reduceAdd, Nat.reduceMul, zk, gk, zd, Int.reduceEq] at hr; subst hr; (first | refine awV ?_ ?_ | refine zR ?_ ?_ | (refine zf (fun h => ?_) (fun h => ?_) <;> (try simp only [go_sem, reduceCtorEq] at h) <;> (try (exfalso; omega))))))) <;> (try omega)
  all_goals first | exact rfl | exact AV.up_rfl _ | exact AV.up_nil _ | (exact Nat.le_of_ble_eq_true rfl) | skip
 have f19 : (op = 19) = False := eq_false h19
 have f20 : (op = 20) = False := eq_false h20
 have f9 : (op = 9) = False := eq_false h9
 simp only [f19, f20, f9, or_self, if_false]
 by_cases h8 : op = 8 ∨ op = 41
 ·rw [if_pos h8]
  obtain ⟨ha, hal⟩ := hw h8
  obtain ⟨n, rfl⟩ : ∃ n : Nat, a = n := ⟨a.toNat, by omega⟩
  rw [Int.toNat_natCast]
  have hrow : (List.replicate n [vI 0] : List (List AV)) = v8 (xo C k n 0) := by simp [xo, v8]
  have hfin : v8 (xo C k n n) = v8 ((List.range n).map fun i => ((C[k + 1 + i]?).map (·.b)).getD 0) := by simp [xo]; rfl
  rw [← hfin]
  have f8 : op = 8 ∨ ((op = 8) = False ∧ op = 41) := by rcases h8 with h | h; (· exact .inl h); exact .inr ⟨eq_false (by omega), h⟩
  refine qt (za _) Try.func56 rfl rfl (by rw [Try.results56]) Try.ntmps56 rfl fun E => ?_
  rcases f8 with rfl | ⟨g8, rfl⟩
  ·have f8 : True := trivial
   have f41 : True := trivial
   (repeat' (first | exact trivial | (with_reducible first | apply awA | apply awB | apply awC | apply awF) | ((with_reducible first | apply awn | refine awQ ?_); intro r hr; simp only [go_sem, Nat.reduceBEq, Nat.reduceLT, Nat.reduceLeDiff, Nat.reduceAdd, Nat.reduceMul, f19, f20, f9, zk, gk, zd, hrow, Int.cast_ofNat_Int] at hr; subst hr; (first | refine awV ?_ ?_ | (refine zf (fun h => ?_) (fun h => ?_) <;> (try simp only [go_sem, reduceCtorEq] at h) <;> (try (exfalso; omega))))))) <;> (try omega)
   refine zC [1, 2, 5, 6, 30, 31] [2, 5, 28] (fun i : Nat => ⟨[(1, true, vI k), (2, true, .ptr 1 2 0 0), (5, true, .ptr 1 5 0 0), (6, true, .ref 3 1 28 0 n), (30, true, vI n), (31, true, vI i)],
    [(2, .var [vB e, .lst 4 (zz C), .lst 1 (v8 N)]), (5, .var (qF ⟨8, n, b, c⟩)), (28, .row 3 1 (v8 (xo C k n i)))]⟩) (fun i => i ≤ n) (fun i => n - i) 0 (by simp only [go_sem, Nat.reduceBEq] <;> exact rfl) (Nat.zero_le _) ?_
   intro i hi
   have hwi := zg (n := (i : Int) + 1) (by omega)
   have hwa := zg (n := (k : Int) + 1 + i) (by omega)
   have zi : ((i : Int)).toNat = i := by omega
   by_cases hlt : i < n
   ·have e1 : ((i : Int) < (n : Int)) = True := eq_true (by omega)
    have z2 : ((k : Int) + 1 + i).toNat = k + 1 + i := by omega
    have g2 := yy (C := C) (k := k + 1 + i) (by omega)
    have hb : (zb C (k + 1 + i)).b = qG C k i := by
     have : k + 1 + i < C.length := by omega
     simp [zb, qG, List.getD, this]
    have hs := ZD (xo C k n i) i (qG C k i)
    rw [jX hlt] at hs
    have hl := vN (C := C) (k := k) (show i ≤ n by omega)
    have gi := vu (W := xo C k n i) (i := i) (by omega)
    (repeat' (first | exact trivial | (with_reducible first | apply awA | apply awB | apply awC | apply awF | apply awI) | ((with_reducible first | apply awn | refine awQ ?_); intro r hr; simp only [go_sem, Nat.reduceBEq, Nat.reduceLT, Nat.reduceLeDiff, Nat.reduceAdd, Nat.reduceMul, e1, zi, hwi, hwa, hwk, z2, g2, gi, hb, hs, hl, Z9, zq, zd, Nat.zero_add] at hr; subst hr; (first | refine awV ?_ ?_ | (refine zf (fun h => ?_) (fun h => ?_) <;> (try simp only [go_sem, reduceCtorEq] at h) <;> (try (exfalso; omega))))))) <;> (try omega)
    all_goals first | exact ⟨i + 1, by simp only [go_sem, Nat.reduceBEq] <;> exact rfl, hlt, by omega⟩ | skip
   ·have e1 : ((i : Int) < (n : Int)) = False := eq_false (by omega)
    obtain rfl : i = n := by omega
    have hl := vN (C := C) (k := k) (Nat.le_refl i)
    have ht : (v8 (xo C k i i)).take i = v8 (xo C k i i) := by rw [yT, List.take_of_length_le (by omega)]
    (repeat' (first | exact trivial | (with_reducible first | apply awA | apply awD | apply awE | apply awF | apply awG | apply awH | apply awJ | apply awK) | ((with_reducible first | apply awn | refine awQ ?_ | refine awR ?_); intro r hr; simp only [go_sem, Nat.reduceBEq, Nat.reduceLT, e1, hl, ht, zq, Nat.zero_add, List.drop_zero] at hr; subst hr; (first | refine awV ?_ ?_ | refine zR ?_ ?_ | (refine zf (fun h => ?_) (fun h => ?_) <;> (try simp only [go_sem, reduceCtorEq] at h) <;> (try (exfalso; omega))))))) <;> (try omega)
    all_goals first | exact rfl | exact AV.up_rfl _ | skip
  ·have f8 : True := trivial
   have f41 : True := trivial
   (repeat' (first | exact trivial | (with_reducible first | apply awA | apply awB | apply awF) | ((with_reducible first | apply awn | refine awQ ?_); intro r hr; simp only [go_sem, Nat.reduceBEq, Nat.reduceLT, Nat.reduceLeDiff, Nat.reduceAdd, Nat.reduceMul, f19, f20, f9, zk, gk, zd, hrow, Int.cast_ofNat_Int, Int.reduceEq] at hr; subst hr; (first | refine awV ?_ ?_ | (refine zf (fun h => ?_) (fun h => ?_) <;> (try simp only [go_sem, reduceCtorEq] at h) <;> (try (exfalso; omega))))))) <;> (try omega)
   refine zC [1, 2, 5, 6, 30, 31] [2, 5, 28] (fun i : Nat => ⟨[(1, true, vI k), (2, true, .ptr 1 2 0 0), (5, true, .ptr 1 5 0 0), (6, true, .ref 3 1 28 0 n), (30, true, vI n), (31, true, vI i)],
    [(2, .var [vB e, .lst 4 (zz C), .lst 1 (v8 N)]), (5, .var (qF ⟨41, n, b, c⟩)), (28, .row 3 1 (v8 (xo C k n i)))]⟩) (fun i => i ≤ n) (fun i => n - i) 0 (by simp only [go_sem, Nat.reduceBEq] <;> exact rfl) (Nat.zero_le _) ?_
   intro i hi
   have hwi := zg (n := (i : Int) + 1) (by omega)
   have hwa := zg (n := (k : Int) + 1 + i) (by omega)
   have zi : ((i : Int)).toNat = i := by omega
   by_cases hlt : i < n
   ·have e1 : ((i : Int) < (n : Int)) = True := eq_true (by omega)
    have z2 : ((k : Int) + 1 + i).toNat = k + 1 + i := by omega
    have g2 := yy (C := C) (k := k + 1 + i) (by omega)
    have hb : (zb C (k + 1 + i)).b = qG C k i := by
     have : k + 1 + i < C.length := by omega
     simp [zb, qG, List.getD, this]
    have hs := ZD (xo C k n i) i (qG C k i)
    rw [jX hlt] at hs
    have hl := vN (C := C) (k := k) (show i ≤ n by omega)
    have gi := vu (W := xo C k n i) (i := i) (by omega)
    (repeat' (first | exact trivial | (with_reducible first | apply awA | apply awB | apply awC | apply awF | apply awI) | ((with_reducible first | apply awn | refine awQ ?_); intro r hr; simp only [go_sem, Nat.reduceBEq, Nat.reduceLT, Nat.reduceLeDiff, Nat.reduceAdd, Nat.reduceMul, e1, zi, hwi, hwa, hwk, z2, g2, gi, hb, hs, hl, Z9, zq, zd, Nat.zero_add] at hr; subst hr; (first | refine awV ?_ ?_ | (refine zf (fun h => ?_) (fun h => ?_) <;> (try simp only [go_sem, reduceCtorEq] at h) <;> (try (exfalso; omega))))))) <;> (try omega)
    all_goals first | exact ⟨i + 1, by simp only [go_sem, Nat.reduceBEq] <;> exact rfl, hlt, by omega⟩ | skip
   ·have e1 : ((i : Int) < (n : Int)) = False := eq_false (by omega)
    obtain rfl : i = n := by omega
    have hl := vN (C := C) (k := k) (Nat.le_refl i)
    have ht : (v8 (xo C k i i)).take i = v8 (xo C k i i) := by rw [yT, List.take_of_length_le (by omega)]
    (repeat' (first | exact trivial | (with_reducible first | apply awA | apply awD | apply awE | apply awF | apply awG | apply awH | apply awJ | apply awK) | ((with_reducible first | apply awn | refine awQ ?_ | refine awR ?_); intro r hr; simp only [go_sem, Nat.reduceBEq, Nat.reduceLT, e1, hl, ht, zq, Nat.zero_add, List.drop_zero] at hr; subst hr; (first | refine awV ?_ ?_ | refine zR ?_ ?_ | (refine zf (fun h => ?_) (fun h => ?_) <;> (try simp only [go_sem, reduceCtorEq] at h) <;> (try (exfalso; omega))))))) <;> (try omega)
    all_goals first | exact rfl | exact AV.up_rfl _ | skip
 ·rw [if_neg h8]
  have f8 : (op = 8) = False := eq_false fun h => h8 (.inl h)
  have f41 : (op = 41) = False := eq_false fun h => h8 (.inr h)
  by_cases h7 : op = 7 ∨ op = 11 ∨ op = 12 ∨ op = 13 ∨ op = 14 ∨ op = 15 ∨ op = 40 ∨ op = 47
  ·rw [if_pos h7]
   rcases h7 with rfl | rfl | rfl | rfl | rfl | rfl | rfl | rfl
   all_goals
    refine qt (za _) Try.func56 rfl rfl (by rw [Try.results56]) Try.ntmps56 rfl fun E => ?_
    (repeat' (first | exact trivial | (with_reducible first | apply awA | apply awB | apply awC | apply awD | apply awF | apply awG | apply awJ) | ((with_reducible first | apply awn | refine awQ ?_ | refine awR ?_); intro r hr; simp only [go_sem, Nat.reduceBEq, Nat.reduceLT, Nat.reduceLeDiff, Nat.reduceAdd, Nat.reduceMul, hwk, zk, gk, zd, Int.reduceEq] at hr; subst hr; (first | refine awV ?_ ?_ | refine zR ?_ ?_ | (refine zf (fun h => ?_) (fun h => ?_) <;> (try simp only [go_sem, reduceCtorEq] at h) <;> (try (exfalso; omega))))))) <;> (try omega)
    all_goals first | exact rfl | exact AV.up_rfl _ | exact AV.up_nil _ | (exact Nat.le_of_ble_eq_true rfl) | skip
  ·rw [if_neg h7]
   have g1 : (op = 7) = False := eq_false (by omega)
   have g2 : (op = 11) = False := eq_false (by omega)
   have g3 : (op = 12) = False := eq_false (by omega)
   have g4 : (op = 13) = False := eq_false (by omega)
   have g5 : (op = 14) = False := eq_false (by omega)
   have g6 : (op = 15) = False := eq_false (by omega)
   have g7 : (op = 40) = False := eq_false (by omega)
   have g8 : (op = 47) = False := eq_false (by omega)
   refine qt (za _) Try.func56 rfl rfl (by rw [Try.results56]) Try.ntmps56 rfl fun E => ?_
   (repeat' (first | exact trivial | (with_reducible first | apply awA | apply awB | apply awC | apply awD | apply awF | apply awI) | ((with_reducible first | apply awn | refine awQ ?_ | refine awR ?_); intro r hr; simp only [go_sem, Nat.reduceBEq, Nat.reduceLT, Nat.reduceLeDiff, Nat.reduceAdd, Nat.reduceMul, f19, f20, f9, f8, f41, g1, g2, g3, g4, g5, g6, g7, g8, hwk, zk, gk, zd] at hr; subst hr; (first | refine awV ?_ ?_ | refine zR ?_ ?_ | (refine zf (fun h => ?_) (fun h => ?_) <;> (try simp only [go_sem, reduceCtorEq] at h) <;> (try (exfalso; omega))))))) <;> (try omega)
   all_goals first | exact rfl | exact AV.up_rfl _ | exact AV.up_nil _ | (exact Nat.le_of_ble_eq_true rfl) | skip
end
section
open Go.RowKit
theorem AV.up_dead (a : AV) : a.up .dead := fun _ _ _ _ _ => .dead
theorem zbt (e : Bool) (C : List InsM) (N : List Int) (L : LkM) (W : List Int) (hW : W.length ≤ 1000000000) (n : Nat) (hn : n ≤ W.length) :
  yq Try.prog 59 [.ifc 81 (.ptr 1 10000 0 5), vI 0, vI n] (lkO e C N L W) .dead (lkO e C N L (wx W.length W n 0)) := by
 have hlen : (wx W.length W n 0).length = W.length := Yx _ _ _ _ hn
 have hf0 : n ≤ 0 + W.length := by omega
 generalize hR : wx W.length W n 0 = R at hlen
 generalize hf : W.length = f0 at hR hf0
 unfold lkO lkV
 rw [hlen]
 refine zW (za _) Try.func59 rfl rfl (by rw [Try.results59]) Try.ntmps59 rfl fun E => ?_
 (repeat' (first | exact trivial | (with_reducible first | apply awA | apply awB | apply awF) | ((with_reducible apply awn); intro r hr; simp only [go_sem, Nat.reduceBEq, Nat.reduceLT, Nat.reduceAdd] at hr; subst hr; (first | refine awV ?_ ?_)))) <;> (try omega)
 refine zC [0, 1, 2, 7] [10000, 15000, 15001, 15002] (fun x : Nat × Nat × List Int => ⟨[(0, true, .ifc 81 (.ptr 1 10000 0 5)), (1, true, vI 0), (2, true, vI n), (7, true, vI x.2.1)],
  [(10000, .var [vB e, .lst 4 (zz C), .lst 1 (v8 N), .ref 77 6 15000 0 L.length, .ref 4 1 15001 0 L.length, .ref 3 1 15002 0 W.length]), (15000, .row 77 6 (xf L)), (15001, .row 4 1 (xg L)), (15002, .row 3 1 (v8 x.2.2))]⟩)
  (fun x => n ≤ x.2.1 + x.1 ∧ x.2.1 ≤ n ∧ x.2.2.length = W.length ∧ wx x.1 x.2.2 n x.2.1 = R) (fun x => n - x.2.1) (f0, 0, W) (by simp only [go_sem, Nat.reduceBEq] <;> exact rfl) ⟨hf0, Nat.zero_le _, rfl, hR⟩ ?_
 clear hR hf hf0 f0
 intro ⟨f, i, W'⟩ ⟨h1, h2, h3, h4⟩
 simp only at h1 h2 h3 h4 ⊢
 have ht : (v8 W').take W.length = v8 W' := by rw [yT, List.take_of_length_le (by omega)]
 have hw1 := zg (n := 2 * (i : Int)) (by omega)
 have hw2 := zg (n := 2 * (i : Int) + 1) (by omega)
 have hw3 := zg (n := 2 * (i : Int) + 1 + 1) (by omega)
 have c1 : (2 * (i : Int) + 1) = ((2 * i + 1 : Nat) : Int) := by omega
 have c2 : (((2 * i + 1 : Nat) : Int) + 1) = ((2 * i + 2 : Nat) : Int) := by omega
 rw [c1] at hw2 hw3
 rw [c2] at hw3
 have z1 : (((2 * i + 1 : Nat) : Int) < 0) = False := eq_false (by omega)
 by_cases hA : n ≤ 2 * i + 1
 ·have hl : W' = R := by
   rw [← h4]
   cases f with
   | zero => rfl
   | succ f => unfold wx; rw [if_pos (.inl hA)]
  subst hl
  have e1 : ((n : Int) ≤ ((2 * i + 1 : Nat) : Int)) = True := eq_true (by omega)
  (repeat' (first | exact trivial | (with_reducible first | apply awA | apply awB | apply awD | apply awE | apply awF | apply awH | apply awK | refine awM (by decide) ?_) | ((with_reducible first | apply awn | refine awQ ?_ | refine awT ?_); intro r hr; simp only [go_sem, Nat.reduceBEq, Nat.reduceLT, reduceCtorEq, hw1, hw2, c1, e1, z1] at hr; subst hr; (first | refine awV ?_ ?_ | refine yl ?_ ?_ ?_ | (refine zf (fun h => ?_) (fun h => ?_) <;> (try simp only [go_sem, reduceCtorEq] at h) <;> (try (exfalso; omega))))))) <;> (try omega)
  all_goals first | exact AV.up_rfl _ | exact AV.up_dead _ | (repeat first | exact zo | refine zh rfl ?_)
 ·have e1 : ((n : Int) ≤ ((2 * i + 1 : Nat) : Int)) = False := eq_false (by omega)
  obtain ⟨f, rfl⟩ : ∃ f', f = f' + 1 := ⟨f - 1, by omega⟩
  unfold wx at h4
  have hk := kS (l := W') (n := n) (i := i) (by omega)
  by_cases hB : 2 * i + 2 < n
  ·have e2 : (((2 * i + 2 : Nat) : Int) < (n : Int)) = True := eq_true (by omega)
   have hls0 := kT W' (by omega) (2 * i + 2) (2 * i + 1) (by omega) (by omega)
   by_cases hC : W'.getD (2 * i + 2) 0 < W'.getD (2 * i + 1) 0
   ·have hkid : jQ W' n i = 2 * i + 2 := by unfold jQ; rw [if_pos ⟨hB, hC⟩]
    rw [hkid] at hk
    rw [decide_eq_true hC] at hls0
    rw [hkid] at h4
    have hls := kT W' (by omega) (2 * i + 2) i (by omega) (by omega)
    by_cases hlt : W'.getD (2 * i + 2) 0 < W'.getD i 0
    ·rw [if_neg (by rintro (h | h) <;> omega)] at h4
     have hsw := kU W' (by omega) W.length (by omega) i (2 * i + 2) (by omega) (by omega)
     rw [decide_eq_true hlt] at hls
     (repeat' (first | exact trivial | (with_reducible first | apply awA | apply awB | apply awC | apply awF | apply awI) | ((with_reducible first | apply awn | apply awo | refine awQ ?_); intro r hr; simp only [go_sem, Nat.reduceBEq, Nat.reduceLT, reduceCtorEq, hw1, hw2, hw3, c1, c2, e1, z1, e2] at hr; subst hr; (first | refine awV ?_ ?_ | refine awW ?_ ?_ | (refine zf (fun h => ?_) (fun h => ?_) <;> (try simp only [go_sem, reduceCtorEq] at h) <;> (try (exfalso; omega))))) | (refine yW (vB true) rfl rfl ⟨by decide, by decide⟩ ?_) | (refine yH 32 rfl (za _) [] [] [] [] (by simp only [go_sem, Nat.reduceBEq, Nat.reduceLT, Nat.reduceLeDiff, Nat.reduceAdd, Nat.reduceMul, h3, ht, zq] <;> exact rfl) ?_ rfl rfl (by first | exact .inl rfl | exact .inr rfl) (by simp only [go_sem] <;> exact rfl) (hls0) (.inr ⟨rfl, ?_⟩) ?_) | (refine yH 38 rfl (za _) [] [] [] [] (by simp only [go_sem, Nat.reduceBEq, Nat.reduceLT, Nat.reduceLeDiff, Nat.reduceAdd, Nat.reduceMul, h3, ht, zq] <;> exact rfl) ?_ rfl rfl (by first | exact .inl rfl | exact .inr rfl) (by simp only [go_sem] <;> exact rfl) (hls) (.inr ⟨rfl, ?_⟩) ?_) | (refine yf (za _) [(15002, 10001)] [(10001, 15002)] [] [15002] (by simp only [go_sem, Nat.reduceBEq, Nat.reduceLT, Nat.reduceLeDiff, Nat.reduceAdd, Nat.reduceMul] <;> exact rfl) ?_ rfl rfl (by first | exact .inl rfl | exact .inr rfl) (by simp only [go_sem, Nat.reduceBEq] <;> exact rfl) (hsw) (.inl rfl) ?_))) <;> (try omega)
     refine ⟨(f, (2 * i + 2), yJ W' i (2 * i + 2)), ?_, ⟨by show n ≤ (2 * i + 2) + f; omega, by show (2 * i + 2) ≤ n; omega, by show (yJ W' i (2 * i + 2)).length = _; rw [yx]; exact h3, h4⟩, by show n - (2 * i + 2) < n - i; omega⟩
     simp only [go_sem, Nat.reduceBEq]
    ·rw [if_pos (.inr hlt)] at h4
     subst h4
     rw [decide_eq_false hlt] at hls
     (repeat' (first | exact trivial | (with_reducible first | apply awA | apply awB | apply awC | apply awD | apply awE | apply awF | apply awH | apply awK | refine awM (by decide) ?_) | ((with_reducible first | apply awn | apply awo | refine awQ ?_ | refine awT ?_); intro r hr; simp only [go_sem, Nat.reduceBEq, Nat.reduceLT, reduceCtorEq, hw1, hw2, hw3, c1, c2, e1, z1, e2] at hr; subst hr; (first | refine awV ?_ ?_ | refine awW ?_ ?_ | refine yl ?_ ?_ ?_ | (refine zf (fun h => ?_) (fun h => ?_) <;> (try simp only [go_sem, reduceCtorEq] at h) <;> (try (exfalso; omega))))) | (refine yW (vB true) rfl rfl ⟨by decide, by decide⟩ ?_) | (refine yH 32 rfl (za _) [] [] [] [] (by simp only [go_sem, Nat.reduceBEq, Nat.reduceLT, Nat.reduceLeDiff, Nat.reduceAdd, Nat.reduceMul, h3, ht, zq] <;> exact rfl) ?_ rfl rfl (by first | exact .inl rfl | exact .inr rfl) (by simp only [go_sem] <;> exact rfl) (hls0) (.inr ⟨rfl, ?_⟩) ?_) | (refine yH 38 rfl (za _) [] [] [] [] (by simp only [go_sem, Nat.reduceBEq, Nat.reduceLT, Nat.reduceLeDiff, Nat.reduceAdd, Nat.reduceMul, h3, ht, zq] <;> exact rfl) ?_ rfl rfl (by first | exact .inl rfl | exact .inr rfl) (by simp only [go_sem] <;> exact rfl) (hls) (.inr ⟨rfl, ?_⟩) ?_))) <;> (try omega)
     all_goals first | exact AV.up_rfl _ | exact AV.up_dead _ | (repeat first | exact zo | refine zh rfl ?_)
   ·have hkid : jQ W' n i = 2 * i + 1 := by unfold jQ; rw [if_neg (by omega)]
    rw [hkid] at hk
    rw [decide_eq_false hC] at hls0
    rw [hkid] at h4
    have hls := kT W' (by omega) (2 * i + 1) i (by omega) (by omega)
    by_cases hlt : W'.getD (2 * i + 1) 0 < W'.getD i 0
    ·rw [if_neg (by rintro (h | h) <;> omega)] at h4
     have hsw := kU W' (by omega) W.length (by omega) i (2 * i + 1) (by omega) (by omega)
     rw [decide_eq_true hlt] at hls
     (repeat' (first | exact trivial | (with_reducible first | apply awA | apply awB | apply awC | apply awF | apply awI) | ((with_reducible first | apply awn | apply awo | refine awQ ?_); intro r hr; simp only [go_sem, Nat.reduceBEq, Nat.reduceLT, reduceCtorEq, hw1, hw2, hw3, c1, c2, e1, z1, e2] at hr; subst hr; (first | refine awV ?_ ?_ | refine awW ?_ ?_ | (refine zf (fun h => ?_) (fun h => ?_) <;> (try simp only [go_sem, reduceCtorEq] at h) <;> (try (exfalso; omega))))) | (refine yW (vB true) rfl rfl ⟨by decide, by decide⟩ ?_) | (refine yH 32 rfl (za _) [] [] [] [] (by simp only [go_sem, Nat.reduceBEq, Nat.reduceLT, Nat.reduceLeDiff, Nat.reduceAdd, Nat.reduceMul, h3, ht, zq] <;> exact rfl) ?_ rfl rfl (by first | exact .inl rfl | exact .inr rfl) (by simp only [go_sem] <;> exact rfl) (hls0) (.inr ⟨rfl, ?_⟩) ?_) | (refine yH 38 rfl (za _) [] [] [] [] (by simp only [go_sem, Nat.reduceBEq, Nat.reduceLT, Nat.reduceLeDiff, Nat.reduceAdd, Nat.reduceMul, h3, ht, zq] <;> exact rfl) ?_ rfl rfl (by first | exact .inl rfl | exact .inr rfl) (by simp only [go_sem] <;> exact rfl) (hls) (.inr ⟨rfl, ?_⟩) ?_) | (refine yf (za _) [(15002, 10001)] [(10001, 15002)] [] [15002] (by simp only [go_sem, Nat.reduceBEq, Nat.reduceLT, Nat.reduceLeDiff, Nat.reduceAdd, Nat.reduceMul] <;> exact rfl) ?_ rfl rfl (by first | exact .inl rfl | exact .inr rfl) (by simp only [go_sem, Nat.reduceBEq] <;> exact rfl) (hsw) (.inl rfl) ?_))) <;> (try omega)
     refine ⟨(f, (2 * i + 1), yJ W' i (2 * i + 1)), ?_, ⟨by show n ≤ (2 * i + 1) + f; omega, by show (2 * i + 1) ≤ n; omega, by show (yJ W' i (2 * i + 1)).length = _; rw [yx]; exact h3, h4⟩, by show n - (2 * i + 1) < n - i; omega⟩
     simp only [go_sem, Nat.reduceBEq]
    ·rw [if_pos (.inr hlt)] at h4
     subst h4
     rw [decide_eq_false hlt] at hls
     (repeat' (first | exact trivial | (with_reducible first | apply awA | apply awB | apply awC | apply awD | apply awE | apply awF | apply awH | apply awK | refine awM (by decide) ?_) | ((with_reducible first | apply awn | apply awo | refine awQ ?_ | refine awT ?_); intro r hr; simp only [go_sem, Nat.reduceBEq, Nat.reduceLT, reduceCtorEq, hw1, hw2, hw3, c1, c2, e1, z1, e2] at hr; subst hr; (first | refine awV ?_ ?_ | refine awW ?_ ?_ | refine yl ?_ ?_ ?_ | (refine zf (fun h => ?_) (fun h => ?_) <;> (try simp only [go_sem, reduceCtorEq] at h) <;> (try (exfalso; omega))))) | (refine yW (vB true) rfl rfl ⟨by decide, by decide⟩ ?_) | (refine yH 32 rfl (za _) [] [] [] [] (by simp only [go_sem, Nat.reduceBEq, Nat.reduceLT, Nat.reduceLeDiff, Nat.reduceAdd, Nat.reduceMul, h3, ht, zq] <;> exact rfl) ?_ rfl rfl (by first | exact .inl rfl | exact .inr rfl) (by simp only [go_sem] <;> exact rfl) (hls0) (.inr ⟨rfl, ?_⟩) ?_) | (refine yH 38 rfl (za _) [] [] [] [] (by simp only [go_sem, Nat.reduceBEq, Nat.reduceLT, Nat.reduceLeDiff, Nat.reduceAdd, Nat.reduceMul, h3, ht, zq] <;> exact rfl) ?_ rfl rfl (by first | exact .inl rfl | exact .inr rfl) (by simp only [go_sem] <;> exact rfl) (hls) (.inr ⟨rfl, ?_⟩) ?_))) <;> (try omega)
     all_goals first | exact AV.up_rfl _ | exact AV.up_dead _ | (repeat first | exact zo | refine zh rfl ?_)
  ·have e2 : (((2 * i + 2 : Nat) : Int) < (n : Int)) = False := eq_false (by omega)
   have hkid : jQ W' n i = 2 * i + 1 := by unfold jQ; rw [if_neg (by omega)]
   rw [hkid] at hk
   rw [hkid] at h4
   have hls := kT W' (by omega) (2 * i + 1) i (by omega) (by omega)
   by_cases hlt : W'.getD (2 * i + 1) 0 < W'.getD i 0
   ·rw [if_neg (by rintro (h | h) <;> omega)] at h4
    have hsw := kU W' (by omega) W.length (by omega) i (2 * i + 1) (by omega) (by omega)
    rw [decide_eq_true hlt] at hls
    (repeat' (first | exact trivial | (with_reducible first | apply awA | apply awB | apply awC | apply awF | apply awI) | ((with_reducible first | apply awn | apply awo | refine awQ ?_); intro r hr; simp only [go_sem, Nat.reduceBEq, Nat.reduceLT, reduceCtorEq, hw1, hw2, hw3, c1, c2, e1, z1, e2] at hr; subst hr; (first | refine awV ?_ ?_ | refine awW ?_ ?_ | (refine zf (fun h => ?_) (fun h => ?_) <;> (try simp only [go_sem, reduceCtorEq] at h) <;> (try (exfalso; omega))))) | (refine yW (vB true) rfl rfl ⟨by decide, by decide⟩ ?_) | (refine yf (za _) [] [] [] [] (by simp only [go_sem, Nat.reduceBEq, Nat.reduceLT, Nat.reduceLeDiff, Nat.reduceAdd, Nat.reduceMul, h3, ht, zq] <;> exact rfl) ?_ rfl rfl (by first | exact .inl rfl | exact .inr rfl) (by simp only [go_sem] <;> exact rfl) (hls) (.inr ⟨rfl, ?_⟩) ?_) | (refine yf (za _) [(15002, 10001)] [(10001, 15002)] [] [15002] (by simp only [go_sem, Nat.reduceBEq, Nat.reduceLT, Nat.reduceLeDiff, Nat.reduceAdd, Nat.reduceMul] <;> exact rfl) ?_ rfl rfl (by first | exact .inl rfl | exact .inr rfl) (by simp only [go_sem, Nat.reduceBEq] <;> exact rfl) (hsw) (.inl rfl) ?_))) <;> (try omega)
    refine ⟨(f, (2 * i + 1), yJ W' i (2 * i + 1)), ?_, ⟨by show n ≤ (2 * i + 1) + f; omega, by show (2 * i + 1) ≤ n; omega, by show (yJ W' i (2 * i + 1)).length = _; rw [yx]; exact h3, h4⟩, by show n - (2 * i + 1) < n - i; omega⟩
    simp only [go_sem, Nat.reduceBEq]
   ·rw [if_pos (.inr hlt)] at h4
    subst h4
    rw [decide_eq_false hlt] at hls
    (repeat' (first | exact trivial | (with_reducible first | apply awA | apply awB | apply awC | apply awD | apply awE | apply awF | apply awH | apply awK | refine awM (by decide) ?_) | ((with_reducible first | apply awn | apply awo | refine awQ ?_ | refine awT ?_); intro r hr; simp only [go_sem, Nat.reduceBEq, Nat.reduceLT, reduceCtorEq, hw1, hw2, hw3, c1, c2, e1, z1, e2] at hr; subst hr; (first | refine awV ?_ ?_ | refine awW ?_ ?_ | refine yl ?_ ?_ ?_ | (refine zf (fun h => ?_) (fun h => ?_) <;> (try simp only [go_sem, reduceCtorEq] at h) <;> (try (exfalso; omega))))) | (refine yW (vB true) rfl rfl ⟨by decide, by decide⟩ ?_) | (refine yf (za _) [] [] [] [] (by simp only [go_sem, Nat.reduceBEq, Nat.reduceLT, Nat.reduceLeDiff, Nat.reduceAdd, Nat.reduceMul, h3, ht, zq] <;> exact rfl) ?_ rfl rfl (by first | exact .inl rfl | exact .inr rfl) (by simp only [go_sem] <;> exact rfl) (hls) (.inr ⟨rfl, ?_⟩) ?_))) <;> (try omega)
    all_goals first | exact AV.up_rfl _ | exact AV.up_dead _ | (repeat first | exact zo | refine zh rfl ?_)
theorem zbu (e : Bool) (C : List InsM) (N : List Int) (L : LkM) (W : List Int) (hW : W.length ≤ 100000000) (x : Int) :
  yq Try.prog 54 [.ifc 81 (.ptr 1 10000 0 5), .ifc 3 (vI x)] (lkO e C N L W) (.tup []) (lkO e C N L (upF (W.length + 1) (W ++ [x]) W.length)) := by
 have hp := zbs e C N L W (by omega) x
 have hl : (W ++ [x]).length = W.length + 1 := by simp
 have hu := zdn e C N L (W ++ [x]) (by omega) W.length (by omega)
 have hlen : (upF (W.length + 1) (W ++ [x]) W.length).length = W.length + 1 := by rw [(qX _ _ _ (by omega)).length_eq, hl]
 have hn := zal (W ++ [x])
 have hw := zg (n := ((W.length + 1 : Nat) : Int) - 1) (by omega)
 have hz : ((W.length + 1 : Nat) : Int) - 1 = W.length := by omega
 have ht : (v8 (W ++ [x])).take (W.length + 1) = v8 (W ++ [x]) := by rw [yT, List.take_of_length_le (by omega)]
 rw [hz] at hw
 rw [hl] at hn
 unfold lkO lkV at hp hu ⊢
 rw [hl] at hp hu
 rw [hlen] at hu ⊢
 refine zW (za _) Try.func54 rfl rfl (by rw [Try.results54]) Try.ntmps54 rfl fun E => ?_
 (repeat' (first | exact trivial | (with_reducible first | apply awA | apply awF) | ((with_reducible first | apply awn | apply awo | refine awU ?_); intro r hr; simp only [go_sem, Nat.reduceBEq, Nat.reduceLT, hw, hz] at hr; subst hr; (first | refine awV ?_ ?_ | refine awW ?_ ?_ | refine yl ?_ ?_ ?_)) | (refine yf (za _) [(10000, 10000), (15000, 15000), (15001, 15001), (15002, 15002)] [(10000, 10000), (15000, 15000), (15001, 15001), (15002, 15002)] [15000, 15001, 15002] [10000] (by simp only [go_sem, Nat.reduceBEq, Nat.reduceLT, Nat.reduceLeDiff, Nat.reduceAdd, Nat.reduceMul] <;> exact rfl) ?_ rfl rfl (by first | exact .inl rfl | exact .inr rfl) (by simp only [go_sem, Nat.reduceBEq] <;> exact rfl) (hp) (.inl rfl) ?_) | (refine yf (za _) [] [] [] [] (by simp only [go_sem, Nat.reduceBEq, Nat.reduceLT, Nat.reduceLeDiff, Nat.reduceAdd, Nat.reduceMul, ht, hl, zq] <;> exact rfl) ?_ rfl rfl (by first | exact .inl rfl | exact .inr rfl) (by simp only [go_sem] <;> exact rfl) (hn) (.inr ⟨rfl, ?_⟩) ?_) | (refine zp [(10000, 10000), (15000, 15000), (15001, 15001), (15002, 15002)] [(10000, 10000), (15000, 15000), (15001, 15001), (15002, 15002)] [15000, 15001, 15002] [10000] ?_; intro r hr; simp only [go_sem, Nat.reduceBEq, Nat.reduceLT] at hr; subst hr; refine yo (hu) rfl rfl (by first | exact .inl rfl | exact .inr rfl) ?_ (.inl rfl) ?_))) <;> (try omega)
 all_goals first | exact AV.up_rfl _ | exact AV.up_dead _ | (repeat first | exact zo | refine zh rfl ?_)
theorem zcN (e : Bool) (C : List InsM) (N : List Int) (L : LkM) (W : List Int) (hW : W.length ≤ 100000000) (hne : W ≠ []) :
  yq Try.prog 43 [.ifc 81 (.ptr 1 10000 0 5)] (lkO e C N L W) (.ifc 3 (vI (W.getD 0 0))) (lkO e C N L (XB W)) := by
 have hpos : 0 < W.length := List.length_pos_iff.2 hne
 have hn := zal W
 have hsw := kU W (by omega) W.length (by omega) 0 (W.length - 1) hpos (by omega)
 have hsl : (yJ W 0 (W.length - 1)).length = W.length := yx _ _ _
 have hd := zbt e C N L (yJ W 0 (W.length - 1)) (by omega) (W.length - 1) (by omega)
 rw [hsl] at hd
 have hdl : (wx W.length (yJ W 0 (W.length - 1)) (W.length - 1) 0).length = W.length := by rw [Yx _ _ _ _ (by omega), hsl]
 have hlast := WE hne
 have hp := zcM e C N L (wx W.length (yJ W 0 (W.length - 1)) (W.length - 1) 0) (by omega) (by omega)
 rw [hdl, hlast] at hp
 have hpl : (XB W).length = W.length - 1 := by unfold XB; rw [List.length_take, hdl]; omega
 change yq _ _ _ _ _ (lkO e C N L (XB W)) at hp
 generalize wx W.length (yJ W 0 (W.length - 1)) (W.length - 1) 0 = M at hd hp hdl
 generalize hS : yJ W 0 (W.length - 1) = S at hsw hd hsl
 have hw := zg (n := (W.length : Int) - 1) (by omega)
 have hz : (W.length : Int) - 1 = ((W.length - 1 : Nat) : Int) := by omega
 have ht : (v8 W).take W.length = v8 W := by rw [yT, List.take_of_length_le (by omega)]
 rw [hz] at hw
 generalize XB W = R at hp hpl ⊢
 unfold lkO lkV at hp hd ⊢
 rw [hdl] at hp hd
 rw [hsl] at hd
 rw [hpl] at hp ⊢
 refine zW (za _) Try.func43 rfl rfl (by rw [Try.results43]) Try.ntmps43 rfl fun E => ?_
 (repeat' (first | exact trivial | (with_reducible first | apply awA | apply awD | apply awF) | ((with_reducible first | apply awn | apply awo | refine awT ?_); intro r hr; simp only [go_sem, Nat.reduceBEq, Nat.reduceLT, hw, hz] at hr; subst hr; (first | refine awV ?_ ?_ | refine awW ?_ ?_ | refine yl ?_ ?_ ?_)) | (refine yf (za _) [] [] [] [] (by simp only [go_sem, Nat.reduceBEq, Nat.reduceLT, Nat.reduceLeDiff, Nat.reduceAdd, Nat.reduceMul, ht, zq] <;> exact rfl) ?_ rfl rfl (by first | exact .inl rfl | exact .inr rfl) (by simp only [go_sem] <;> exact rfl) (hn) (.inr ⟨rfl, ?_⟩) ?_) | (refine yf (za _) [(15002, 10001)] [(10001, 15002)] [] [15002] (by simp only [go_sem, Nat.reduceBEq, Nat.reduceLT, Nat.reduceLeDiff, Nat.reduceAdd, Nat.reduceMul] <;> exact rfl) ?_ rfl rfl (by first | exact .inl rfl | exact .inr rfl) (by simp only [go_sem, Nat.reduceBEq] <;> exact rfl) (hsw) (.inl rfl) ?_) | (refine zp [(10000, 10000), (15000, 15000), (15001, 15001), (15002, 15002)] [(10000, 10000), (15000, 15000), (15001, 15001), (15002, 15002)] [15000, 15001, 15002] [10000] ?_; intro r hr; simp only [go_sem, Nat.reduceBEq, Nat.reduceLT] at hr; subst hr; refine yo (hd) rfl rfl (by first | exact .inl rfl | exact .inr rfl) ?_ (.inl rfl) ?_) | (refine yf (za _) [(10000, 10000), (15000, 15000), (15001, 15001), (15002, 15002)] [(10000, 10000), (15000, 15000), (15001, 15001), (15002, 15002)] [15000, 15001, 15002] [10000] (by simp only [go_sem, Nat.reduceBEq, Nat.reduceLT] <;> exact rfl) ?_ rfl rfl (by first | exact .inl rfl | exact .inr rfl) (by simp only [go_sem, Nat.reduceBEq] <;> exact rfl) (hp) (.inl rfl) ?_))) <;> (try omega)
 all_goals first | exact AV.up_rfl _ | exact AV.up_dead _ | (repeat first | exact zo | refine zh rfl ?_)
end
section
open Go.RowKit
section
variable {P : Program} {T : Nat → Option TyD} {tm : Array Value} {w w' : World} {β β' : Nat → Option Nat} {F : Nat → Prop} {X : Nat → Prop}
theorem K6 (dp : Nat) (hT : TOK P T) {xs ys : List AV} {vs us : Array Value} (hv : ∀ (i : Nat) (c : AV) (u : Value), xs[i]? = some c → vs[i]? = some u → AVR F β w c u) (hu : ∀ (i : Nat) (c : AV) (u : Value), ys[i]? = some c → us[i]? = some u → AVR F β w c u)
  (lv : vs.size = xs.length) (lu : us.size = ys.length) : ∀ (l : List Field) (fs : List (Nat × Nat)) (i : Nat) (as' bs : List AV) (e : Bool), l.map (fun f => (f.offset, f.type)) = fs → (∀ f ∈ l, f.name ≠ "_") → eqL T i fs as' bs = some e →
  as' = xs.drop i → bs = ys.drop i → ∀ w', (Op.eqFields (dp + 1) vs us l).run P w' = .ok e w' := by
 intro l
 induction l with
 | nil =>
  intro fs i as' bs e hfs _ he _ _ w'
  subst hfs
  cases as' <;> cases bs <;> simp only [List.map_nil, eqL, Option.some.injEq, reduceCtorEq] at he
  subst he
  rfl
 | cons f l ih =>
  intro fs i as' bs e hfs hn he ha hb w'
  subst hfs
  rw [List.map_cons] at he
  cases as' with
  | nil => simp [eqL] at he
  | cons a as' =>
   cases bs with
   | nil => cases a <;> simp [eqL] at he
   | cons b bs =>
    cases a <;> cases b <;> simp only [eqL, reduceCtorEq] at he
    rename_i x y
    cases hoi : f.offset == i with
    | false => rw [hoi] at he; cases he
    | true =>
     rw [hoi] at he
     have hoi' : f.offset = i := by simpa using hoi
     simp only [cond_true] at he
     split at he
     case h_2 => cases he
     rename_i d hd
     split at he
     case h_2 => cases he
     rename_i e1 e2 h1 h2
     injection he with he
     subst he
     have hxi : xs[i]? = some (.v x) := by
      have := congrArg (fun l => l[0]?) ha
      simp only [List.getElem?_cons_zero, List.getElem?_drop, Nat.add_zero] at this
      exact this.symm
     have hyi : ys[i]? = some (.v y) := by
      have := congrArg (fun l => l[0]?) hb
      simp only [List.getElem?_cons_zero, List.getElem?_drop, Nat.add_zero] at this
      exact this.symm
     have hvi : vs[i]? = some x := by
      have hlt : i < vs.size := by rw [lv]; exact zE hxi
      have := hv i _ vs[i] hxi (Array.getElem?_eq_getElem hlt)
      cases this with | s h => cases h; rw [Array.getElem?_eq_getElem hlt]
     have hui : us[i]? = some y := by
      have hlt : i < us.size := by rw [lu]; exact zE hyi
      have := hu i _ us[i] hyi (Array.getElem?_eq_getElem hlt)
      cases this with | s h => cases h; rw [Array.getElem?_eq_getElem hlt]
     have hpart : ∀ (zs : Array Value) (z : Value), zs[i]? = some z → (part f.type zs f.offset).run P w' = .ok z w' := fun zs z hz => by
      rw [hoi']
      simp [part, jx hT hd h1 w', hz]
     have hrest := ih _ (i + 1) as' bs e2 rfl (fun g hg => hn g (by simp [hg])) h2 (by
      have := congrArg List.tail ha
      simpa [List.tail_drop] using this) (by
      have := congrArg List.tail hb
      simpa [List.tail_drop] using this) w'
     rw [Op.eqFields, if_pos (hn f (by simp))]
     simp only [Sem.run_bind, hpart vs x hvi, hpart us y hui, Result.andThen_ok, Ua hT hd h1 dp w']
     cases e1 with
     | true => simpa using hrest
     | false => rfl
variable {E : Env} {s : AState} {n : Nat} {ops : Array Oper} {Q : Exit → AState → Prop} {D : Dr} {rest : List Oper} {o : Oper}
theorem X5 {xs : List AV} {vs : Array Value} (k : Nat) (hv : ∀ (i : Nat) (c : AV) (u : Value), xs[i]? = some c → vs[i]? = some u → AVR F β w c u) (m : Nat) : ∀ (i : Nat) (c : AV) (u : Value), ((xs.drop k).take m)[i]? = some c → (vs.extract k (k + m))[i]? = some u → AVR F β w c u := fun i c u hc hu => by
 rcases Nat.lt_or_ge i m with hi | hi
 ·rw [List.getElem?_take_of_lt hi, List.getElem?_drop] at hc
  rw [Array.getElem?_extract] at hu
  split at hu
  ·exact hv (k + i) c u hc hu
  ·cases hu
 ·rw [List.getElem?_eq_none (by rw [List.length_take]; omega)] at hc; cases hc
theorem Zh (ra : AV) (hg : z6 ops s o.guard = some false) (hkd : wY o.op = true) (hdst : yQ n o.dst) (hr : zL P E n ops D rest Q (s.put o.dst false ra)) : yp P E n ops D (o :: rest) Q s := by
 intro a w β hn hd hs
 have hw := yn (ops := ops) hs hg
 obtain ⟨g1, g2, g3⟩ := yN hn hd hs hdst false ra (v := undef) (fun h => by cases h) (fun _ => rfl)
 exact vT hkd hw (fun h => by cases h) (fun _ => rfl) (hr _ _ _ g1 g2 g3)
theorem J9 (hT : TOK P T) {x y : Operand} {t t' ft k : Nat} {fs : List (Nat × Nat)} {d df : TyD} {xs ys : List AV} {e1 e2 : Bool} (hG : z6 ops s o.guard = some true) (ho : o.op = .binOp .eql t x y t') (hdst : yQ n o.dst) (hgx : s.gd x = true) (hgy : s.gd y = true)
  (hx : s.ev x = .agg xs) (hy : s.ev y = .agg ys) (hTt : T t = some d) (hsh : d.sh = .strct [(0, ft), (k, ft)] true) (hTf : T ft = some df) (hshf : df.sh = .strct fs true) (hk : df.size = k) (hlx : xs.length = k + k) (hly : ys.length = k + k)
  (h1 : eqL T 0 fs (xs.take k) (ys.take k) = some e1) (h2 : eqL T 0 fs (xs.drop k) (ys.drop k) = some e2) (hr : zL P E n ops D rest Q (s.put o.dst true (.v (.bool (e1 && e2))))) : yp P E n ops D (o :: rest) Q s := by
 intro a w β hn hd hs
 have hw := yn (ops := ops) hs hG
 have vx := hs.ev x hgx (a := a) rfl
 have vy := hs.ev y hgy (a := a) rfl
 rw [hx] at vx
 rw [hy] at vy
 generalize hux : a.eval x = ux at vx
 generalize huy : a.eval y = uy at vy
 obtain ⟨vs, rfl, lv, _, hv⟩ := x5 vx
 obtain ⟨us, rfl, lu, _, hu⟩ := x5 vy
 have hcmp := (hT t _ hTt).2.2.2
 rw [hsh] at hcmp
 obtain ⟨fields, hun, hfl, hcmp⟩ := hcmp
 obtain ⟨c1, c2, c3⟩ := hcmp rfl
 have hcf := (hT ft _ hTf).2.2.2
 rw [hshf] at hcf
 obtain ⟨ffields, hunf, hff, hcf⟩ := hcf
 obtain ⟨f1, f2, f3⟩ := hcf rfl
 have hfo : P.fieldsOf t = fields := by simp [Program.fieldsOf, hun]
 have hfof : P.fieldsOf ft = ffields := by simp [Program.fieldsOf, hunf]
 obtain ⟨g1, g2, hgl⟩ : ∃ g1 g2, fields.toList = [g1, g2] := by
  have := congrArg List.length hfl
  simp only [List.length_map, List.length_cons, List.length_nil] at this
  match fields.toList, this with
  | [g1, g2], _ => exact ⟨g1, g2, rfl⟩
 rw [hgl] at hfl c3
 simp only [List.map_cons, List.map_nil, List.cons.injEq, Prod.mk.injEq, and_true] at hfl
 obtain ⟨⟨o1, t1⟩, o2, t2⟩ := hfl
 have inner : ∀ (off : Nat) (e : Bool), eqL T 0 fs ((xs.drop off).take k) ((ys.drop off).take k) = some e → off + k ≤ vs.size → off + k ≤ us.size → ∀ w', (Op.equalIn 9999 ft (.agg (vs.extract off (off + k))) (.agg (us.extract off (off + k)))).run P w' = .ok e w' := fun off e he hl1 hl2 w' => by
  rw [run_equalIn_struct w' 9998 ft _ _ (by rw [hfof]; exact hunf) f1, hfof]
  exact K6 9997 hT (X5 off hv k) (X5 off hu k) (by simp; omega) (by simp; omega) ffields.toList fs 0 _ _ e hff f3 he rfl rfl w'
 have hpart : ∀ (zs : Array Value) (off : Nat) (w' : World), off + k ≤ zs.size → (part ft zs off).run P w' = .ok (.agg (zs.extract off (off + k))) w' := fun zs off w' hz => by
  have hag : (isAgg ft).run P w' = .ok true w' := by rw [Vd hT hTf w', hshf]; rfl
  simp [part, hag, xq hT hTf w', hk]
 have hb : ∀ w', (do eqGuard .eql t x y (.agg vs) (.agg us); binOp .eql t (.agg vs) (.agg us) : Sem Value).run P w' = .ok (.bool (e1 && e2)) w' := fun w' => by
  rw [Sem.run_bind, run_eqGuard_agg w' .eql t x y vs us c2, Result.andThen_ok, run_eql_struct, run_equalIn_struct w' 9999 t vs us (by rw [hfo]; exact hun) c1, hfo, hgl]
  have i1 := inner 0 e1 (by simpa using h1) (by omega) (by omega) w'
  have i2 := inner k e2 (by rw [List.take_of_length_le (by rw [List.length_drop]; omega), List.take_of_length_le (by rw [List.length_drop]; omega)]; exact h2) (by omega) (by omega) w'
  rw [Op.eqFields, if_pos (c3 g1 (by simp))]
  simp only [Sem.run_bind, o1, t1, hpart vs 0 w' (by omega), hpart us 0 w' (by omega), Result.andThen_ok, i1]
  cases e1 with
  | false => rfl
  | true =>
   simp only [Bool.not_true, Bool.false_eq_true, if_false]
   rw [Op.eqFields, if_pos (c3 g2 (by simp))]
   simp only [Sem.run_bind, o2, t2, hpart vs k w' (by omega), hpart us k w' (by omega), Result.andThen_ok, i2]
   cases e2 <;> rfl
 obtain ⟨p1, p2, p3⟩ := yN hn hd hs hdst true (.v (.bool (e1 && e2))) (v := .bool (e1 && e2)) (fun _ => .s (.v rfl)) (fun h => by cases h)
 refine vT (v := .bool (e1 && e2)) (by rw [ho]; rfl) hw (fun _ w' _ => ?_) (fun h => by cases h) (hr _ _ _ p1 p2 p3)
 simp only [execOp, ho, hux, huy]
 rw [Sem.run_bind, hb w']
 rfl
end
end
section
open Go.RowKit
structure CodeOK (C : List InsM) (N : List Int) : Prop where
 len : C.length ≤ 1048576
 lenN : N.length ≤ 1048576
 runs : ∀ k, k < C.length → (zb C k).op = 2 → (0 ≤ (zb C k).a ∧ (zb C k).a ≤ 64) ∧ 0 ≤ (zb C k).b ∧ (zb C k).b ≤ 64
 arms : ∀ k, k < C.length → (zb C k).op = 8 ∨ (zb C k).op = 41 → 0 ≤ (zb C k).a ∧ k + (zb C k).a < C.length
 ways : ∀ k, k < C.length → ∀ j ∈ yz C k (zb C k), 0 ≤ j
 calls : ∀ k, k < C.length → (zb C k).op = 16 → 0 ≤ (zb C k).c ∧ (zb C k).c < N.length
 entry : ∀ n ∈ N, 0 ≤ n ∧ n < C.length
theorem VG (L : LkM) : (xf L).length = L.length := by simp [xf]
theorem VH (L : LkM) : (xg L).length = L.length := by simp [xg]
theorem qj {L : LkM} {k : Nat} (h : k < L.length) : (xf L)[k]? = some (cSt (jb L k)) := by simp [xf, Jw, jb, List.getD, h]
theorem jY {L : LkM} {k : Nat} (h : k < L.length) : (xg L)[k]? = some [vB (L.getD k none).isSome] := by simp [xg, List.getD, h]
theorem VI (L : LkM) (k : Nat) (s : StM) : (xf L).set k (cSt s) = xf (L.set k (some s)) := by simp [xf, Jw, List.map_set]
theorem VJ (L : LkM) (k : Nat) (s : StM) : (xg L).set k [vB true] = xg (L.set k (some s)) := by simp [xg, List.map_set]
theorem VK {a b : StM} (h : ¬a = b) : (decide (a.place = b.place) && (decide (a.kids = b.kids) && (decide (a.table = b.table) && (decide (a.parts = b.parts) && (decide (a.free = b.free) && decide (a.left = b.left)))))) = false := by
 cases hc : (decide (a.place = b.place) && (decide (a.kids = b.kids) && (decide (a.table = b.table) && (decide (a.parts = b.parts) && (decide (a.free = b.free) && decide (a.left = b.left)))))) with
 | false => rfl
 | true =>
  exfalso
  apply h
  obtain ⟨a1, a2, a3, a4, a5, a6⟩ := a
  obtain ⟨b1, b2, b3, b4, b5, b6⟩ := b
  simp only [Bool.and_eq_true, decide_eq_true_eq] at hc
  obtain ⟨rfl, rfl, rfl, rfl, rfl, rfl⟩ := hc
  rfl
theorem VL {a b : EfM} (h : ¬a = b) : ((decide (a.next.place = b.next.place) && (decide (a.next.kids = b.next.kids) && (decide (a.next.table = b.next.table) && (decide (a.next.parts = b.next.parts) && (decide (a.next.free = b.next.free) && decide (a.next.left = b.next.left)))))) && (decide (a.target.place = b.target.place) && (decide (a.target.kids = b.target.kids) && (decide (a.target.table = b.target.table) && (decide (a.target.parts = b.target.parts) && (decide (a.target.free = b.target.free) && decide (a.target.left = b.target.left))))))) = false := by
 cases hc : ((decide (a.next.place = b.next.place) && (decide (a.next.kids = b.next.kids) && (decide (a.next.table = b.next.table) && (decide (a.next.parts = b.next.parts) && (decide (a.next.free = b.next.free) && decide (a.next.left = b.next.left)))))) && (decide (a.target.place = b.target.place) && (decide (a.target.kids = b.target.kids) && (decide (a.target.table = b.target.table) && (decide (a.target.parts = b.target.parts) && (decide (a.target.free = b.target.free) && decide (a.target.left = b.target.left))))))) with
 | false => rfl
 | true =>
  exfalso
  apply h
  obtain ⟨⟨a1, a2, a3, a4, a5, a6⟩, ⟨c1, c2, c3, c4, c5, c6⟩⟩ := a
  obtain ⟨⟨b1, b2, b3, b4, b5, b6⟩, ⟨d1, d2, d3, d4, d5, d6⟩⟩ := b
  simp only [Bool.and_eq_true, decide_eq_true_eq] at hc
  obtain ⟨⟨rfl, rfl, rfl, rfl, rfl, rfl⟩, rfl, rfl, rfl, rfl, rfl, rfl⟩ := hc
  rfl
theorem XJ (e : Bool) (C : List InsM) (N : List Int) (h : CodeOK C N) (L : LkM) (W : List Int) (k : Nat) (hk : k < C.length) (s : StM) (t : Int) :
  yq Try.prog 55 [.ptr 1 10000 0 0, vI k, vSt s, vI t] (lkO e C N L W) (.tup [vEf (z5 e (zb C k) s t).1, vB (z5 e (zb C k) s t).2]) (lkO e C N L W) := by
 have hC := h.len
 have zk : ((k : Int)).toNat = k := by omega
 have gk := yy hk
 unfold z5
 cases e with
 | true =>
  have he := XI s (zb C k) t
  simp only [if_true]
  unfold lkO lkV
  refine zW (za _) Try.func55 rfl rfl (by rw [Try.results55]) Try.ntmps55 rfl fun E => ?_
  (repeat' (first | exact trivial | (with_reducible first | apply awA | apply awD | apply awF | apply awG) | (refine zn (id := 2) (t := (.node [0, 1, 2, 3, 4, 5, 6, 7, 8, 9, 10, 11, 12, 13, 14] [])) (drR [6, 10000] [23] []) zD (by kernel_rfl) (by kernel_rfl) (fun _ _ h => h) ?_) | (refine zx (by simp only [go_sem]; exact rfl) ?_) | (refine zA (by simp only [go_sem]; exact rfl) ?_) | refine ze ?_ | refine zl ?_ ?_ | exact zy | ((with_reducible first | apply awn | apply awp | refine awQ ?_ | refine awT ?_); intro r hr; simp only [go_sem, Nat.reduceBEq, Nat.reduceLT, Nat.reduceLeDiff, Nat.reduceAdd, Nat.reduceMul, reduceCtorEq, zk, gk, zd] at hr; subst hr; (first | refine caC (he) rfl ?_ ?_ ?_ | refine awV ?_ ?_ | refine yl ?_ ?_ ?_ | (refine zf (fun h => ?_) (fun h => ?_) <;> (try simp only [go_sem, reduceCtorEq] at h) <;> (try (exfalso; omega))))))) <;> (try omega)
  all_goals first | exact AV.up_rfl _ | exact AV.up_dead _ | (repeat first | exact zo | refine zh rfl ?_)
 | false =>
  have he := XH s (zb C k) t (h.runs k hk)
  simp only [Bool.false_eq_true, if_false]
  unfold lkO lkV
  refine zW (za _) Try.func55 rfl rfl (by rw [Try.results55]) Try.ntmps55 rfl fun E => ?_
  (repeat' (first | exact trivial | (with_reducible first | apply awA | apply awC | apply awD | apply awF) | (refine zn (id := 3) (t := (.node [0, 1, 2, 3, 4, 5, 6, 7, 8, 9, 10, 11, 12, 13, 14] [])) (drR [6, 10000] [36] []) zD (by kernel_rfl) (by kernel_rfl) (fun _ _ h => h) ?_) | (refine zx (by simp only [go_sem]; exact rfl) ?_) | (refine zA (by simp only [go_sem]; exact rfl) ?_) | refine ze ?_ | refine zl ?_ ?_ | exact zy | ((with_reducible first | apply awn | apply awp | refine awQ ?_ | refine awT ?_); intro r hr; simp only [go_sem, Nat.reduceBEq, Nat.reduceLT, Nat.reduceLeDiff, Nat.reduceAdd, Nat.reduceMul, reduceCtorEq, zk, gk, zd] at hr; subst hr; (first | refine caC (he) rfl ?_ ?_ ?_ | refine awV ?_ ?_ | refine yl ?_ ?_ ?_ | (refine zf (fun h => ?_) (fun h => ?_) <;> (try simp only [go_sem, reduceCtorEq] at h) <;> (try (exfalso; omega))))))) <;> (try omega)
  all_goals first | exact AV.up_rfl _ | exact AV.up_dead _ | (repeat first | exact zo | refine zh rfl ?_)
theorem q9 (e : Bool) (C : List InsM) (N : List Int) (h : CodeOK C N) (L : LkM) (hL : L.length = C.length) (W : List Int) (hW : W.length ≤ 10000000) (k : Nat) (hk : k < C.length) (s : StM) (t : Int) (hn : L.getD k none = none) :
  yq Try.prog 41 [.ptr 1 10000 0 0, vI k, vSt s, vI t] (lkO e C N L W) (vB true) (lkO e C N (L.set k (some s)) (upF (W.length + 1) (W ++ [(k : Int)]) W.length)) := by
 have hC := h.len
 have zk : ((k : Int)).toNat = k := by omega
 have gh := jY (L := L) (k := k) (by omega)
 have gs := qj (L := L) (k := k) (by omega)
 have s1 := VI L k s
 have s2 := VJ L k s
 have hp := zbu e C N (L.set k (some s)) W (by omega) k
 rw [hn] at gh
 simp only [Option.isSome_none] at gh
 have hls : (L.set k (some s)).length = L.length := by simp
 have hlu : (upF (W.length + 1) (W ++ [(k : Int)]) W.length).length = W.length + 1 := by rw [(qX _ _ _ (by simp)).length_eq]; simp
 unfold lkO lkV at hp ⊢
 rw [hls, hlu] at hp ⊢
 refine zW (za _) Try.func41 rfl rfl (by rw [Try.results41]) Try.ntmps41 rfl fun E => ?_
 (repeat' (first | exact trivial | (with_reducible first | apply awA | apply awD | apply awF | apply awG) | (refine zn (id := 2) (t := (.node [0, 1, 2, 3, 4, 5, 6, 7, 8, 9, 10, 11, 12, 13, 14] [])) (drR [10000, 6] [] []) zD (by kernel_rfl) (by kernel_rfl) (fun _ _ h => h) ?_) | (refine zx (by simp only [go_sem]; exact rfl) ?_) | (refine zA (by simp only [go_sem]; exact rfl) ?_) | refine ze ?_ | refine zl ?_ ?_ | exact zy | ((with_reducible first | apply awn | apply awo | apply awp | refine awQ ?_ | refine awT ?_); intro r hr; simp only [go_sem, Nat.reduceBEq, Nat.reduceLT, Nat.reduceLeDiff, Nat.reduceAdd, Nat.reduceMul, reduceCtorEq, zk, gh, gs, s1, s2, Z9, VG, VH, Nat.zero_add] at hr; subst hr; (first | refine awV ?_ ?_ | refine awW ?_ ?_ | refine yl ?_ ?_ ?_ | (refine zf (fun h => ?_) (fun h => ?_) <;> (try simp only [go_sem, reduceCtorEq] at h) <;> (try (exfalso; omega))))) | (refine zp [(10000, 10000), (15000, 15000), (15001, 15001), (15002, 15002)] [(10000, 10000), (15000, 15000), (15001, 15001), (15002, 15002)] [15000, 15001, 15002] [10000] ?_; intro r hr; simp only [go_sem, Nat.reduceBEq, Nat.reduceLT] at hr; subst hr; refine yo (hp) rfl rfl (by first | exact .inl rfl | exact .inr rfl) ?_ (.inl rfl) ?_))) <;> (try omega)
 all_goals first | exact AV.up_rfl _ | exact AV.up_dead _ | (repeat first | exact zo | refine zh rfl ?_)
theorem ka (e : Bool) (C : List InsM) (N : List Int) (h : CodeOK C N) (L : LkM) (hL : L.length = C.length) (W : List Int) (k : Nat) (hk : k < C.length) (s s0 : StM) (t : Int) (hn : L.getD k none = some s0) :
  yq Try.prog 41 [.ptr 1 10000 0 0, vI k, vSt s, vI t] (lkO e C N L W) (vB (w7 e C L k s t).isSome) (lkO e C N L W) := by
 have hC := h.len
 have zk : ((k : Int)).toNat = k := by omega
 have gh := jY (L := L) (k := k) (by omega)
 have gs := qj (L := L) (k := k) (by omega)
 rw [hn] at gh
 simp only [Option.isSome_some] at gh
 have hst : jb L k = s0 := by unfold jb; rw [hn]; rfl
 rw [hst] at gs
 unfold w7
 rw [hn]
 simp only
 have st0 := XJ e C N h L W k hk s0 t
 have st1 := XJ e C N h L W k hk s t
 by_cases hs : s0 = s
 ·subst hs
  rw [if_pos rfl]
  unfold lkO lkV at *
  refine zW (za _) Try.func41 rfl rfl (by rw [Try.results41]) Try.ntmps41 rfl fun E => ?_
  (repeat' (first | exact trivial | (with_reducible first | apply awA | apply awC | apply awD | apply awF | apply awG) | (refine zn (id := 5) (t := (.node [0, 1, 2, 3, 4, 5, 6, 7, 8] [])) (drR [10000, 6] [47] []) zD (by kernel_rfl) (by kernel_rfl) (fun _ _ h => h) ?_) | (refine zx (by simp only [go_sem]; exact rfl) ?_) | (refine zA (by simp only [go_sem]; exact rfl) ?_) | refine ze ?_ | refine zl ?_ ?_ | exact zy | ((with_reducible first | apply awn | apply awp | refine awQ ?_ | refine awT ?_); intro r hr; simp only [go_sem, Nat.reduceBEq, Nat.reduceLT, Nat.reduceLeDiff, Nat.reduceAdd, Nat.reduceMul, reduceCtorEq, zk, gh, gs, Nat.zero_add] at hr; subst hr; (first | refine awV ?_ ?_ | refine yl ?_ ?_ ?_ | (refine zf (fun h => ?_) (fun h => ?_) <;> (try simp only [go_sem, reduceCtorEq] at h) <;> (try (exfalso; omega))))))) <;> (try omega)
  all_goals first | exact AV.up_rfl _ | exact AV.up_dead _ | (repeat first | exact zo | refine zh rfl ?_)
 ·rw [if_neg hs]
  generalize hr0 : z5 e (zb C k) s0 t = r0 at st0 ⊢
  generalize hr1 : z5 e (zb C k) s t = r1 at st1 ⊢
  obtain ⟨E0, o0⟩ := r0
  obtain ⟨E1, o1⟩ := r1
  clear hr0 hr1
  have hse := VK hs
  simp only
  unfold lkO lkV at *
  cases o1 with
  | false =>
   simp only [Bool.false_eq_true, false_and, if_false, Option.isSome_none]
   refine zW (za _) Try.func41 rfl rfl (by rw [Try.results41]) Try.ntmps41 rfl fun E => ?_
   (repeat' (first | exact trivial | (with_reducible first | apply awA | apply awC | apply awD | apply awF) | (refine zn (id := 5) (t := (.node [0, 1, 2, 3, 4, 5, 6, 7, 8] [])) (drR [10000, 6] [47] []) zD (by kernel_rfl) (by kernel_rfl) (fun _ _ h => h) ?_) | (refine zx (by simp only [go_sem]; exact rfl) ?_) | (refine zA (by simp only [go_sem]; exact rfl) ?_) | refine ze ?_ | refine zl ?_ ?_ | exact zy | ((with_reducible first | apply awn | apply awo | apply awp | refine awQ ?_ | refine awT ?_); intro r hr; simp only [go_sem, Nat.reduceBEq, Nat.reduceLT, Nat.reduceLeDiff, Nat.reduceAdd, Nat.reduceMul, reduceCtorEq, zk, gh, gs, hse, Nat.zero_add] at hr; subst hr; (first | refine awV ?_ ?_ | refine awW ?_ ?_ | refine yl ?_ ?_ ?_ | (refine zf (fun h => ?_) (fun h => ?_) <;> (try simp only [go_sem, reduceCtorEq] at h) <;> (try (exfalso; omega))))) | (refine Zh (vB false) rfl rfl ⟨by decide, by decide⟩ ?_) | (refine wI 61 rfl [(10000, 10000), (15000, 15000), (15001, 15001), (15002, 15002)] [(10000, 10000), (15000, 15000), (15001, 15001), (15002, 15002)] [15000, 15001, 15002] [10000] (by simp only [go_sem, Nat.reduceBEq, Nat.reduceLT]; exact rfl) ?_ rfl rfl (by first | exact .inl rfl | exact .inr rfl) (by simp only [go_sem, Nat.reduceBEq] <;> exact rfl) (st0) (.inl rfl) ?_) | (refine wI 69 rfl [(10000, 10000), (15000, 15000), (15001, 15001), (15002, 15002)] [(10000, 10000), (15000, 15000), (15001, 15001), (15002, 15002)] [15000, 15001, 15002] [10000] (by simp only [go_sem, Nat.reduceBEq, Nat.reduceLT]; exact rfl) ?_ rfl rfl (by first | exact .inl rfl | exact .inr rfl) (by simp only [go_sem, Nat.reduceBEq] <;> exact rfl) (st1) (.inl rfl) ?_))) <;> (try omega)
   all_goals first | exact AV.up_rfl _ | exact AV.up_dead _ | (repeat first | exact zo | refine zh rfl ?_)
  | true =>
   by_cases hE : E0 = E1
   ·subst hE
    simp only [true_and, if_true, Option.isSome_some]
    refine zW (za _) Try.func41 rfl rfl (by rw [Try.results41]) Try.ntmps41 rfl fun E => ?_
    (repeat' (first | exact trivial | (with_reducible first | apply awA | apply awC | apply awD | apply awF) | (refine zn (id := 5) (t := (.node [0, 1, 2, 3, 4, 5, 6, 7, 8] [])) (drR [10000, 6] [47] []) zD (by kernel_rfl) (by kernel_rfl) (fun _ _ h => h) ?_) | (refine zx (by simp only [go_sem]; exact rfl) ?_) | (refine zA (by simp only [go_sem]; exact rfl) ?_) | refine ze ?_ | refine zl ?_ ?_ | exact zy | ((with_reducible first | apply awn | apply awo | apply awp | refine awQ ?_ | refine awT ?_); intro r hr; simp only [go_sem, Nat.reduceBEq, Nat.reduceLT, Nat.reduceLeDiff, Nat.reduceAdd, Nat.reduceMul, reduceCtorEq, zk, gh, gs, hse, Nat.zero_add] at hr; subst hr; (first | refine awV ?_ ?_ | refine awW ?_ ?_ | refine yl ?_ ?_ ?_ | (refine zf (fun h => ?_) (fun h => ?_) <;> (try simp only [go_sem, reduceCtorEq] at h) <;> (try (exfalso; omega))))) | (refine J9 (za _) (ft := 77) (k := 6) rfl rfl ⟨by decide, by decide⟩ rfl rfl rfl rfl t98 rfl t77 rfl rfl rfl rfl (by simp only [go_sem, Nat.reduceAdd]; exact rfl) (by simp only [go_sem, Nat.reduceAdd]; exact rfl) ?_) | (refine wI 61 rfl [(10000, 10000), (15000, 15000), (15001, 15001), (15002, 15002)] [(10000, 10000), (15000, 15000), (15001, 15001), (15002, 15002)] [15000, 15001, 15002] [10000] (by simp only [go_sem, Nat.reduceBEq, Nat.reduceLT]; exact rfl) ?_ rfl rfl (by first | exact .inl rfl | exact .inr rfl) (by simp only [go_sem, Nat.reduceBEq] <;> exact rfl) (st0) (.inl rfl) ?_) | (refine wI 69 rfl [(10000, 10000), (15000, 15000), (15001, 15001), (15002, 15002)] [(10000, 10000), (15000, 15000), (15001, 15001), (15002, 15002)] [15000, 15001, 15002] [10000] (by simp only [go_sem, Nat.reduceBEq, Nat.reduceLT]; exact rfl) ?_ rfl rfl (by first | exact .inl rfl | exact .inr rfl) (by simp only [go_sem, Nat.reduceBEq] <;> exact rfl) (st1) (.inl rfl) ?_))) <;> (try omega)
    all_goals first | exact AV.up_rfl _ | exact AV.up_dead _ | (repeat first | exact zo | refine zh rfl ?_)
   ·have hee := VL hE
    simp only [hE, and_false, if_false, Option.isSome_none]
    refine zW (za _) Try.func41 rfl rfl (by rw [Try.results41]) Try.ntmps41 rfl fun E => ?_
    (repeat' (first | exact trivial | (with_reducible first | apply awA | apply awC | apply awD | apply awF) | (refine zn (id := 5) (t := (.node [0, 1, 2, 3, 4, 5, 6, 7, 8] [])) (drR [10000, 6] [47] []) zD (by kernel_rfl) (by kernel_rfl) (fun _ _ h => h) ?_) | (refine zx (by simp only [go_sem]; exact rfl) ?_) | (refine zA (by simp only [go_sem]; exact rfl) ?_) | refine ze ?_ | refine zl ?_ ?_ | exact zy | ((with_reducible first | apply awn | apply awo | apply awp | refine awQ ?_ | refine awT ?_); intro r hr; simp only [go_sem, Nat.reduceBEq, Nat.reduceLT, Nat.reduceLeDiff, Nat.reduceAdd, Nat.reduceMul, reduceCtorEq, zk, gh, gs, hse, hee, Nat.zero_add] at hr; subst hr; (first | refine awV ?_ ?_ | refine awW ?_ ?_ | refine yl ?_ ?_ ?_ | (refine zf (fun h => ?_) (fun h => ?_) <;> (try simp only [go_sem, reduceCtorEq] at h) <;> (try (exfalso; omega))))) | (refine J9 (za _) (ft := 77) (k := 6) rfl rfl ⟨by decide, by decide⟩ rfl rfl rfl rfl t98 rfl t77 rfl rfl rfl rfl (by simp only [go_sem, Nat.reduceAdd]; exact rfl) (by simp only [go_sem, Nat.reduceAdd]; exact rfl) ?_) | (refine wI 61 rfl [(10000, 10000), (15000, 15000), (15001, 15001), (15002, 15002)] [(10000, 10000), (15000, 15000), (15001, 15001), (15002, 15002)] [15000, 15001, 15002] [10000] (by simp only [go_sem, Nat.reduceBEq, Nat.reduceLT]; exact rfl) ?_ rfl rfl (by first | exact .inl rfl | exact .inr rfl) (by simp only [go_sem, Nat.reduceBEq] <;> exact rfl) (st0) (.inl rfl) ?_) | (refine wI 69 rfl [(10000, 10000), (15000, 15000), (15001, 15001), (15002, 15002)] [(10000, 10000), (15000, 15000), (15001, 15001), (15002, 15002)] [15000, 15001, 15002] [10000] (by simp only [go_sem, Nat.reduceBEq, Nat.reduceLT]; exact rfl) ?_ rfl rfl (by first | exact .inl rfl | exact .inr rfl) (by simp only [go_sem, Nat.reduceBEq] <;> exact rfl) (st1) (.inl rfl) ?_))) <;> (try omega)
    all_goals first | exact AV.up_rfl _ | exact AV.up_dead _ | (repeat first | exact zo | refine zh rfl ?_)
end
section
open Go.RowKit Go.MapKept
open Go.ChangeMaps (setBlock)
section
variable {α : Type}
def mf (k : Int) : List (Nat × Int × α) → Option α
 | [] => none
 | (_, k', a) :: L => if k' = k then some a else mf k L
def wj (c : Nat) (k : Int) (a : α) : List (Nat × Int × α) → List (Nat × Int × α)
 | [] => [(c, k, a)]
 | (b, k', a') :: L => if k' = k then (b, k, a) :: L else (b, k', a') :: wj c k a L
def vY (c : Nat) (k : Int) (L : List (Nat × Int × α)) : Nat := bif (mf k L).isSome then c else c + 1
def XF (k : Int) : List (Nat × Int × α) → List (Nat × Int × α)
 | [] => []
 | e :: L => if e.2.1 = k then L else e :: XF k L
def mI (f : α → AV) (L : List (Nat × Int × α)) : List (Nat × AV × AV) := L.map fun e => (e.1, vI e.2.1, f e.2.2)
theorem YD (f : α → AV) (L : List (Nat × Int × α)) : (mI f L).length = L.length := by simp [mI]
theorem QQ {f : α → AV} {L : List (Nat × Int × α)} {i : Nat} {e : Nat × AV × AV} (h : (mI f L)[i]? = some e) : ∃ x, L[i]? = some x ∧ e = (x.1, vI x.2.1, f x.2.2) := by
 rw [mI, List.getElem?_map] at h
 cases hc : L[i]? with
 | none => rw [hc] at h; cases h
 | some x => rw [hc] at h; injection h with h; exact ⟨x, rfl, h.symm⟩
def VB (ok : Bool) (x : Option α) (f : α → AV) (z : Value) : AV :=
 match ok, x with
 | true, some a => .tup [f a, vB true]
 | true, none => .tup [.v z, vB false]
 | false, some a => f a
 | false, none => .v z
theorem wR {g : AV → AV} {f : α → AV} (h : ∀ a, g (f a) = f a) (L : List (Nat × Int × α)) : mapM g (mI f L) = mI f L := by
 rw [Y6, mI, List.map_map]
 exact List.map_congr_left fun e _ => by simp [h]
end
section
variable {P : Program} {T : Nat → Option TyD} {E : Env} {s : AState} {tm : Array Value} {w w' : World} {β : Nat → Option Nat} {n : Nat} {ops : Array Oper} {Q : Exit → AState → Prop} {rest : List Oper} {o : Oper} {α : Type} {F : Nat → Prop}
def ZS (F : Nat → Prop) (β : Nat → Option Nat) (w : World) (es : List (Nat × AV × AV)) (ms : List MapEntry) : Prop := ms.length = es.length ∧ ∀ (i : Nat) (e : Nat × AV × AV) (m : MapEntry), es[i]? = some e → ms[i]? = some m → m.born = e.1 ∧ SVR F w e.2.1 m.key ∧ AVR F β w e.2.2 m.val
theorem ZS.cons {e : Nat × AV × AV} {es : List (Nat × AV × AV)} {ms : List MapEntry} (h : ZS F β w (e :: es) ms) : ∃ m ms', ms = m :: ms' ∧ (m.born = e.1 ∧ SVR F w e.2.1 m.key ∧ AVR F β w e.2.2 m.val) ∧ ZS F β w es ms' := by
 obtain ⟨h1, h2⟩ := h
 cases ms with
 | nil => simp at h1
 | cons m ms => exact ⟨m, ms, rfl, h2 0 e m rfl rfl, by simpa using h1, fun i e m g1 g2 => h2 (i + 1) e m (by simpa using g1) (by simpa using g2)⟩
theorem XG {k : Int} {x : Value} (h : SVR F w (vI k) x) : x = .int .i64 k := by cases h; rfl
theorem zbB {f : α → AV} (key : Int) : ∀ (L : List (Nat × Int × α)) (ms : List MapEntry) (i : Nat), ZS F β w (mI f L) ms →
  (∃ q e m, L[q]? = some e ∧ ms[q]? = some m ∧ m.key = .int .i64 key ∧ mf key L = some e.2.2 ∧ (∀ c v, wj c key v L = L.set q (e.1, key, v)) ∧ XF key L = L.eraseIdx q ∧ Instr.findNow (.int .i64) (.int .i64 key) ms i = some (some (i + q, m.val))) ∨
  (mf key L = none ∧ (∀ c v, wj c key v L = L ++ [(c, key, v)]) ∧ XF key L = L ∧ Instr.findNow (.int .i64) (.int .i64 key) ms i = some none) := by
 intro L
 induction L with
 | nil =>
  intro ms i h
  have : ms = [] := List.eq_nil_of_length_eq_zero (by simpa [mI] using h.1)
  subst this
  exact .inr ⟨rfl, fun _ _ => rfl, rfl, rfl⟩
 | cons e L ih =>
  intro ms i h
  obtain ⟨b, k, a⟩ := e
  obtain ⟨m, ms', rfl, ⟨h1, h2, h3⟩, h4⟩ := ZS.cons (e := (b, vI k, f a)) (es := mI f L) h
  have hk := XG h2
  have hn : Instr.sameNow (.int .i64) (.int .i64 key) m.key = some (decide (key = k)) := by rw [hk]; simp [Instr.sameNow, ko]
  by_cases hkk : k = key
  ·subst hkk
   refine .inl ⟨0, _, m, rfl, rfl, hk, by simp [mf], fun c v => by simp [wj], by simp [XF], ?_⟩
   rw [decide_eq_true rfl] at hn
   simp [Instr.findNow, hn]
  ·rw [decide_eq_false (Ne.symm hkk)] at hn
   rcases ih ms' (i + 1) h4 with ⟨q, e, m', g1, g2, g3, g4, g5, g6, g7⟩ | ⟨g4, g5, g6, g7⟩
   ·exact .inl ⟨q + 1, e, m', by simpa using g1, by simpa using g2, g3, by simp [mf, hkk, g4], fun c v => by simp [wj, hkk, g5 c v], by simp [XF, hkk, g6], by simp [Instr.findNow, hn, g7]; omega⟩
   ·exact .inr ⟨by simp [mf, hkk, g4], fun c v => by simp [wj, hkk, g5 c v], by simp [XF, hkk, g6], by simp [Instr.findNow, hn, g7]⟩
theorem ZS.snoc {es : List (Nat × AV × AV)} {ms : List MapEntry} (h : ZS F β w es ms) {e : Nat × AV × AV} {m : MapEntry} (hm : m.born = e.1 ∧ SVR F w e.2.1 m.key ∧ AVR F β w e.2.2 m.val) : ZS F β w (es ++ [e]) (ms ++ [m]) := by
 refine ⟨by simp [h.1], fun i x y hx hy => ?_⟩
 by_cases hi : i < es.length
 ·rw [List.getElem?_append_left hi] at hx
  rw [List.getElem?_append_left (by rw [h.1]; exact hi)] at hy
  exact h.2 i x y hx hy
 ·rw [List.getElem?_append_right (by omega)] at hx
  rw [List.getElem?_append_right (by rw [h.1]; omega), h.1] at hy
  have hie : i - es.length = 0 := by have := zE hx; simp at this; omega
  rw [hie] at hx hy
  simp only [List.getElem?_cons_zero, Option.some.injEq] at hx hy
  subst hx
  subst hy
  exact hm
theorem ZS.set {es : List (Nat × AV × AV)} {ms : List MapEntry} (h : ZS F β w es ms) (q : Nat) {e : Nat × AV × AV} {m : MapEntry} (hm : m.born = e.1 ∧ SVR F w e.2.1 m.key ∧ AVR F β w e.2.2 m.val) : ZS F β w (es.set q e) (ms.set q m) := by
 refine ⟨by simp [h.1], fun i x y hx hy => ?_⟩
 rw [List.getElem?_set] at hx hy
 by_cases hi : q = i
 ·subst hi
  rw [if_pos rfl] at hx hy
  split at hx
  ·split at hy
   ·injection hx with hx
    injection hy with hy
    subst hx
    subst hy
    exact hm
   ·cases hy
  ·cases hx
 ·rw [if_neg hi] at hx hy
  exact h.2 i x y hx hy
theorem ZS.erase {es : List (Nat × AV × AV)} {ms : List MapEntry} (h : ZS F β w es ms) (q : Nat) : ZS F β w (es.eraseIdx q) (ms.eraseIdx q) := by
 refine ⟨by rw [List.length_eraseIdx, List.length_eraseIdx, h.1], fun i x y hx hy => ?_⟩
 rw [List.getElem?_eraseIdx] at hx hy
 by_cases hi : i < q
 ·rw [if_pos hi] at hx hy; exact h.2 i x y hx hy
 ·rw [if_neg hi] at hx hy; exact h.2 _ x y hx hy
theorem wr {clk d : Nat} {es : List (Nat × AV × AV)} (h : xW F β w d (.mapr clk es)) : ∃ b arr, β d = some b ∧ w.heap[b]? = some (.map arr clk) ∧ ZS F β w es arr.toList := by
 obtain ⟨b, arr, h1, h2, h3, h4⟩ := h
 exact ⟨b, arr, h1, h2, by simpa using h3, fun i e m he hm => h4 i e m he (by simpa using hm)⟩
theorem wy {b : Nat} {ob : Obj} {X : Nat → Prop} (hX : X b) : Keeps X w (setBlock w b ob) := ⟨rfl, rfl, rfl, by simp [setBlock], fun c _ hc => by
 have : c ≠ b := fun h => hc (h ▸ hX)
 exact Array.getElem?_setIfInBounds_ne (Ne.symm this)⟩
theorem SRel.mapr (hs : SRel E s tm w β) {d b clk clk' : Nat} {arr arr' : Array MapEntry} {es' : List (Nat × AV × AV)} (hb : β d = some b) (wl : w.heap[b]? = some (.map arr clk)) (hrel : ZS (FF E β w) β w es' arr'.toList) :
  SRel E { fr := s.fr, ob := (d, .mapr clk' es') :: rmo d s.ob } tm (setBlock w b (.map arr' clk')) β ∧ xz (fun b => β d = some b) w (setBlock w b (.map arr' clk')) := by
 have hlt : b < w.heap.size := (hs.rng d b hb).2
 have hK : Keeps (fun c => β d = some c) w (setBlock w b (.map arr' clk')) := wy hb
 have hnew : (setBlock w b (.map arr' clk')).heap[b]? = some (.map arr' clk') := by simp [setBlock, hlt]
 have nosh : ∀ c te n, β d = some c → Shp w c te n → False := fun c te n hc' ⟨a', e1, _⟩ => by
  rw [hb] at hc'; injection hc' with hc'; subst hc'; rw [wl] at e1; cases e1
 have hS := hs.content d hK fun c te n hc' h => (nosh c te n hc' h).elim
 have hF : ∀ c, FF E β w c → FF E β (setBlock w b (.map arr' clk')) c := fun c ⟨h1, h2, h3⟩ => ⟨Nat.lt_of_lt_of_le h1 hK.size, h2, h3⟩
 have hFw : ∀ c, FF E β w c → (setBlock w b (.map arr' clk')).heap[c]? = w.heap[c]? := fun c hc => hK.block c hc.1 (hc.2.2 d)
 have hSh : ∀ e c t n, β e = some c → Shp w c t n → Shp (setBlock w b (.map arr' clk')) c t n := fun e c t n hc h => by
  by_cases he : e = d
  ·subst he; exact (nosh c t n hc h).elim
  ·exact h.of_heap (hK.block c (hs.rng e c hc).2 fun g => he (hs.inj e d c hc g))
 refine ⟨hS.add d _ ⟨b, arr', hb, hnew, by simpa using hrel.1, fun i e m he hm => ?_⟩, ⟨hK.size, fun c hc hn => hK.block c hc hn⟩⟩
 obtain ⟨g1, g2, g3⟩ := hrel.2 i e m he (by simpa using hm)
 exact ⟨g1, g2.mono hF hFw, g3.mono hF hFw (fun _ _ h => h) hSh⟩
theorem uQ {β : Nat → Option Nat} {d : Nat} (h : xz (fun b => β d = some b) w w') (hd : yZ.dst o = true) : yG (yZ.dst o) (XW yZ β) w (XW yZ β) w' := ⟨fun h => (by rw [hd] at h; cases h), ⟨h.1, fun b hb hn => h.2 b hb fun hd' => hn ⟨d, rfl, hd'⟩⟩, fun _ _ h => h⟩
theorem qZ {β : Nat → Option Nat} : yG (yZ.dst o) (XW yZ β) w (XW yZ β) w := ⟨fun _ => ⟨Nat.le_refl _, fun _ _ _ => rfl⟩, ⟨Nat.le_refl _, fun _ _ _ => rfl⟩, fun _ _ h => h⟩
theorem wS {d : Nat} {v : Value} (h : AVR F β w (.map d) v) : ∃ b, v = .map (some b) ∧ β d = some b := by
 cases h with
 | s h => cases h
 | map h => exact ⟨_, rfl, h⟩
theorem kX {k : Int} {v : Value} (h : AVR F β w (vI k) v) : v = .int .i64 k := by
 cases h with
 | s h => exact XG h
theorem kY (hT : TOK P T) {m k : Operand} {t d kt vt clk : Nat} {ok : Bool} {L : List (Nat × Int × α)} {f : α → AV} {key : Int} {dt dk : TyD} {z : Value} {r : AV} (hG : z6 ops s o.guard = some true) (ho : o.op = .lookup t m k ok) (hdst : yQ n o.dst) (hgm : s.gd m = true) (hgk : s.gd k = true)
  (hm : s.ev m = .map d) (hk : s.ev k = vI key) (hTt : T t = some dt) (hsh : dt.sh = .map kt vt) (hTk : T kt = some dk) (hsk : dk.sh = .int .i64) (hz : ∀ w, (zeroValue vt).run P w = .ok z w) (hfz : uO z = true)
  (hob : lk s.ob d = some (.mapr clk (mI f L))) (hr0 : (VB ok (mf key L) f z).up r) (hr : zL P E n ops yZ rest Q (s.put o.dst true r)) : yp P E n ops yZ (o :: rest) Q s := by
 intro a w β hn hd hs
 have hw := yn (ops := ops) hs hG
 have vm := hs.ev m hgm (a := a) rfl
 have vk := hs.ev k hgk (a := a) rfl
 rw [hm] at vm
 rw [hk] at vk
 obtain ⟨b, hmb, hb⟩ := wS vm
 have hkv := kX vk
 obtain ⟨b', arr, hb', harr, hent⟩ := wr (hs.ob d _ hob)
 rw [hb] at hb'
 injection hb' with hb'
 subst hb'
 have hu := kl hT hTt hsh
 have hku := ji hT hTk hsk
 have hget := yu (P := P) harr (fun _ _ _ h => by cases h)
 have hcheck : ∀ em, (Instr.checkKey em 10000 kt (.int .i64 key)).run P w = .ok () w := fun em => run_checkKey (P := P) (w := w) hku (show IsKey (.int .i64) (.int .i64 key) from rfl) em 9999
 have hrun : ∃ v, (Instr.lookup t (.map (some b)) (.int .i64 key) ok).run P w = .ok v w ∧ AVR (FF E β w) β w r v := by
  suffices hsuf : ∃ v, (Instr.lookup t (.map (some b)) (.int .i64 key) ok).run P w = .ok v w ∧ AVR (FF E β w) β w (VB ok (mf key L) f z) v by
   obtain ⟨v, h1, h2⟩ := hsuf
   exact ⟨v, h1, hr0 _ _ _ _ h2⟩
  have tup2 : ∀ (x : AV) (v : Value) (c : Bool), AVR (FF E β w) β w x v → AVR (FF E β w) β w (.tup [x, vB c]) (.tuple #[v, .bool c]) := fun x v c hx => .tup rfl fun i y u hy hu => by
   rcases i with _ | _ | i
   ·simp only [List.getElem?_cons_zero, Option.some.injEq, List.getElem?_toArray] at hy hu; subst hy; subst hu; exact hx
   ·simp only [List.getElem?_cons_zero, List.getElem?_cons_succ, Option.some.injEq, List.getElem?_toArray] at hy hu; subst hy; subst hu; exact .s (.v rfl)
   ·simp at hy
  rcases zbB (f := f) key L arr.toList 0 hent with ⟨q, e, me, g1, g2, g3, g4, g5, g6, g7⟩ | ⟨g4, g5, g6, g7⟩
  ·have hr1 : AVR (FF E β w) β w (f e.2.2) me.val := (hent.2 q (e.1, vI e.2.1, f e.2.2) me (by rw [mI, List.getElem?_map, g1]; rfl) g2).2.2
   rw [g4]
   refine ⟨if ok then .tuple #[me.val, .bool true] else me.val, ?_, ?_⟩
   ·simp only [Instr.lookup, Sem.run_bind, run_underlying hu, Result.andThen_ok, hget, Sem.run_pure, hcheck, run_findKey hku g7]
   ·cases ok
    ·exact hr1
    ·exact tup2 _ _ _ hr1
  ·rw [g4]
   refine ⟨if ok then .tuple #[z, .bool false] else z, ?_, ?_⟩
   ·simp only [Instr.lookup, Sem.run_bind, run_underlying hu, Result.andThen_ok, hget, Sem.run_pure, hcheck, run_findKey hku g7, hz]
   ·cases ok
    ·exact .s (.v hfz)
    ·exact tup2 _ _ _ (.s (.v hfz))
 obtain ⟨v, h1, h2⟩ := hrun
 refine yi (by rw [ho]; rfl) hw (fun _ => ?_) (fun hGf => by cases hGf)
 obtain ⟨g1, g2, g3⟩ := yN hn hd hs hdst true r (v := v) (fun _ => h2) (fun h => by cases h)
 exact y9 (w' := w) (by simp [execOp, ho, hmb, hkv, h1]) ⟨XW yZ β, qZ, hr _ _ _ g1 g2 g3⟩
theorem z7 (hT : TOK P T) {m k : Operand} {t d kt vt clk : Nat} {ok : Bool} {L : List (Nat × Int × α)} {f : α → AV} {key : Int} {dt dk : TyD} {z : Value} {r : AV} (hG : z6 ops s o.guard = some true) (ho : o.op = .lookup t m k ok) (hdst : yQ n o.dst) (hgm : s.gd m = true) (hgk : s.gd k = true)
  (hm : s.ev m = .map d) (hk : s.ev k = vI key) (hTt : T t = some dt) (hsh : dt.sh = .map kt vt) (hTk : T kt = some dk) (hsk : dk.sh = .int .i64) (hz : ∀ w, (zeroValue vt).run P w = .ok z w) (hfz : uO z = true)
  (hob : lk s.ob d = some (.mapr clk (mI f L))) (hr0 : VB ok (mf key L) f z = r) (hr : zL P E n ops yZ rest Q (s.put o.dst true r)) : yp P E n ops yZ (o :: rest) Q s :=
 kY hT hG ho hdst hgm hgk hm hk hTt hsh hTk hsk hz hfz hob (hr0 ▸ AV.up_rfl _) hr
theorem qi (hT : TOK P T) {m k x : Operand} {t d kt vt clk : Nat} {L : List (Nat × Int × α)} {f : α → AV} {key : Int} {dt dk : TyD} (v : α) (hG : z6 ops s o.guard = some true) (ho : o.op = .mapUpdate t m k x) (hdst : o.dst = none) (hgm : s.gd m = true) (hgk : s.gd k = true) (hgx : s.gd x = true)
  (hm : s.ev m = .map d) (hk : s.ev k = vI key) (hx : s.ev x = f v ∨ f v = .dead) (hTt : T t = some dt) (hsh : dt.sh = .map kt vt) (hTk : T kt = some dk) (hsk : dk.sh = .int .i64)
  (hob : lk s.ob d = some (.mapr clk (mI f L))) {c' : Nat} {L' : List (Nat × Int × α)} (hc' : vY clk key L = c') (hL' : wj clk key v L = L') (hr : zL P E n ops yZ rest Q { fr := s.fr, ob := (d, .mapr c' (mI f L')) :: rmo d s.ob }) : yp P E n ops yZ (o :: rest) Q s := by
 subst hc'
 subst hL'
 intro a w β hn hd hs
 have hw := yn (ops := ops) hs hG
 have vm := hs.ev m hgm (a := a) rfl
 have vk := hs.ev k hgk (a := a) rfl
 have vx := hs.ev x hgx (a := a) rfl
 rw [hm] at vm
 rw [hk] at vk
 obtain ⟨b, hmb, hb⟩ := wS vm
 have hkv := kX vk
 have hxv : AVR (FF E β w) β w (f v) (a.eval x) := by
  rcases hx with hx | hx
  ·rw [← hx]; exact vx
  ·rw [hx]; exact .dead
 obtain ⟨b', arr, hb', harr, hent⟩ := wr (hs.ob d _ hob)
 rw [hb] at hb'
 injection hb' with hb'
 subst hb'
 have hu := kl hT hTt hsh
 have hku := ji hT hTk hsk
 have hget := yu (P := P) harr (fun _ _ _ h => by cases h)
 have hik : IsKey (.int .i64) (.int .i64 key) := rfl
 have hcheck : ∀ em, (Instr.checkKey em 10000 kt (.int .i64 key)).run P w = .ok () w := fun em => run_checkKey (P := P) (w := w) hku hik em 9999
 have hset : ∀ o' : Obj, (setObj b o').run P w = .ok () (setBlock w b o') := fun o' => by simp [setObj, Sem.run, harr, setBlock]
 have hrun : ∃ arr', (Instr.mapUpdate t (.map (some b)) (.int .i64 key) (a.eval x)).run P w = .ok () (setBlock w b (.map arr' (vY clk key L))) ∧ ZS (FF E β w) β w (mI f (wj clk key v L)) arr'.toList := by
  rcases zbB (f := f) key L arr.toList 0 hent with ⟨q, e, me, g1, g2, g3, g4, g5, g6, g7⟩ | ⟨g4, g5, g6, g7⟩
  ·have hq2 : arr[q]? = some me := by simpa using g2
   refine ⟨arr.modify q fun e => { e with key := .int .i64 key, val := a.eval x }, ?_, ?_⟩
   ·simp only [Instr.mapUpdate, Sem.run_bind, run_underlying hu, Result.andThen_ok, hget, hcheck, run_findKey hku g7, Nat.zero_add, hq2, Option.map_some, Option.getD_some, g3, run_keyThatStays hik, hset, vY, g4, Option.isSome_some, cond_true]
   ·rw [g5, mI, List.map_set]
    have he : (arr.modify q fun e => { e with key := .int .i64 key, val := a.eval x }).toList = arr.toList.set q { me with key := .int .i64 key, val := a.eval x } := by
     apply List.ext_getElem?
     intro i
     rw [Array.getElem?_toList, Array.getElem?_modify, List.getElem?_set, Array.getElem?_toList]
     by_cases hi : q = i
     ·subst hi
      have hlt : q < arr.size := (Array.getElem?_eq_some_iff.1 hq2).1
      rw [if_pos rfl, if_pos rfl, hq2, if_pos (by simpa using hlt)]
      rfl
     ·rw [if_neg hi, if_neg hi]
    rw [he]
    have hborn := (hent.2 q (e.1, vI e.2.1, f e.2.2) me (by rw [mI, List.getElem?_map, g1]; rfl) g2).1
    exact hent.set q ⟨hborn, .v rfl, hxv⟩
  ·refine ⟨arr.push { key := .int .i64 key, val := a.eval x, born := clk }, ?_, ?_⟩
   ·simp only [Instr.mapUpdate, Sem.run_bind, run_underlying hu, Result.andThen_ok, hget, hcheck, run_findKey hku g7, hset, vY, g4, Option.isSome_none, cond_false]
   ·rw [g5, mI, List.map_append, Array.toList_push]
    exact hent.snoc ⟨rfl, .v rfl, hxv⟩
 obtain ⟨arr', h1, h2⟩ := hrun
 obtain ⟨h3, h4⟩ := hs.mapr (clk' := vY clk key L) hb harr h2
 refine yi (by rw [ho]; rfl) hw (fun _ => ?_) (fun hGf => by cases hGf)
 refine qS (w' := setBlock w b (.map arr' (vY clk key L))) (by simp [execOp, ho, hmb, hkv, h1]) ⟨XW yZ β, uQ (d := d) h4 (by rw [Dr.dst, ho]; rfl), hr _ _ _ ?_ ?_ ?_⟩
 ·rw [hdst]; exact hn
 ·rw [hdst]; exact hd
 ·rw [hdst]; exact h3
end
attribute [go_sem] VB
end
section
open Go.RowKit Go.MapKept
open Go.ChangeMaps (setBlock)
section
variable {P : Program} {T : Nat → Option TyD} {E : Env} {s : AState} {tm : Array Value} {w w' : World} {β : Nat → Option Nat} {n : Nat} {ops : Array Oper} {Q : Exit → AState → Prop} {rest : List Oper} {o : Oper} {α : Type} {F : Nat → Prop}
theorem VC (w : World) : Below w.heap.size w w.drew := ⟨rfl, rfl, rfl, Nat.le_refl _, fun _ _ => rfl⟩
theorem zbC (hT : TOK P T) {m k : Operand} {t t2 d kt vt clk : Nat} {L : List (Nat × Int × α)} {f : α → AV} {key : Int} {dt dk : TyD} (hG : z6 ops s o.guard = some true) (ho : o.op = .call ⟨.builtin .delete, #[m, k], #[t, t2]⟩) (hdst : o.dst = none) (hgm : s.gd m = true) (hgk : s.gd k = true)
  (hm : s.ev m = .map d) (hk : s.ev k = vI key) (hTt : T t = some dt) (hsh : dt.sh = .map kt vt) (hTk : T kt = some dk) (hsk : dk.sh = .int .i64)
  (hob : lk s.ob d = some (.mapr clk (mI f L))) (hr : zL P E n ops yZ rest Q { fr := s.fr, ob := (d, .mapr clk (mI f (XF key L))) :: rmo d s.ob }) : yp P E n ops yZ (o :: rest) Q s := by
 intro a w β hn hd hs
 have hw := yn (ops := ops) hs hG
 have vm := hs.ev m hgm (a := a) rfl
 have vk := hs.ev k hgk (a := a) rfl
 rw [hm] at vm
 rw [hk] at vk
 obtain ⟨b, hmb, hb⟩ := wS vm
 have hkv := kX vk
 obtain ⟨b', arr, hb', harr, hent⟩ := wr (hs.ob d _ hob)
 rw [hb] at hb'
 injection hb' with hb'
 subst hb'
 have hu := kl hT hTt hsh
 have hku := ji hT hTk hsk
 have hget := yu (P := P) harr (fun _ _ _ h => by cases h)
 have hik : IsKey (.int .i64) (.int .i64 key) := rfl
 have hcheck : ∀ em, (Instr.checkKey em 10000 kt (.int .i64 key)).run P w = .ok () w := fun em => run_checkKey (P := P) (w := w) hku hik em 9999
 have hset : ∀ o' : Obj, (setObj b o').run P w = .ok () (setBlock w b o') := fun o' => by simp [setObj, Sem.run, harr, setBlock]
 have hrun : ∃ arr', (Builtin.delete_ #[t, t2] o.type #[.map (some b), .int .i64 key]).run P w = .ok (.tuple #[]) (setBlock w b (.map arr' clk)) ∧ ZS (FF E β w) β w (mI f (XF key L)) arr'.toList := by
  rcases zbB (f := f) key L arr.toList 0 hent with ⟨q, e, me, g1, g2, g3, g4, g5, g6, g7⟩ | ⟨g4, g5, g6, g7⟩
  ·refine ⟨arr.eraseIdxIfInBounds q, ?_, ?_⟩
   ·simp [Builtin.delete_, run_underlying hu, hget, hcheck, run_findKey hku g7, hset]
   ·have he : (arr.eraseIdxIfInBounds q).toList = arr.toList.eraseIdx q := by simp
    rw [he, g6, mI, Go.ChangeMaps.map_eraseIdx]
    exact hent.erase q
  ·refine ⟨arr, ?_, ?_⟩
   ·simp [Builtin.delete_, run_underlying hu, hget, hcheck, run_findKey hku g7, hset]
   ·rw [g6]; exact hent
 obtain ⟨arr', h1, h2⟩ := hrun
 obtain ⟨h3, h4⟩ := hs.mapr (clk' := clk) hb harr h2
 refine yi (by rw [ho]; rfl) hw (fun _ => ?_) (fun hGf => by cases hGf)
 refine y9 (w' := setBlock w b (.map arr' clk)) (v := .tuple #[]) (by simp [execOp, ho, resolve, invoke, builtin, hmb, hkv, h1]) ⟨XW yZ β, uQ (d := d) h4 (by rw [Dr.dst, ho]; rfl), hr _ _ _ ?_ ?_ ?_⟩
 ·rw [hdst]; exact hn
 ·rw [hdst]; exact hd
 ·rw [hdst]; exact h3
theorem zbD (hT : TOK P T) {m : Operand} {t d kt vt clk : Nat} {es : List (Nat × AV × AV)} {dt : TyD} (hG : z6 ops s o.guard = some true) (ho : o.op = .call ⟨.builtin .len, #[m], #[t]⟩) (hdst : yQ n o.dst) (hgm : s.gd m = true)
  (hm : s.ev m = .map d) (hTt : T t = some dt) (hsh : dt.sh = .map kt vt) (hob : lk s.ob d = some (.mapr clk es)) (hr : zL P E n ops yZ rest Q (s.put o.dst true (vI es.length))) : yp P E n ops yZ (o :: rest) Q s := by
 intro a w β hn hd hs
 have hw := yn (ops := ops) hs hG
 have vm := hs.ev m hgm (a := a) rfl
 rw [hm] at vm
 obtain ⟨b, hmb, hb⟩ := wS vm
 obtain ⟨b', arr, hb', harr, hent⟩ := wr (hs.ob d _ hob)
 rw [hb] at hb'
 injection hb' with hb'
 subst hb'
 have hu := kl hT hTt hsh
 have hget : ∀ w', w'.heap[b]? = some (.map arr clk) → (getObj b).run P w' = .ok (.map arr clk) w' := fun w' h => yu (P := P) h (fun _ _ _ h => by cases h)
 obtain ⟨g1, g2, g3⟩ := yN hn hd hs hdst true (vI es.length) (v := .int .i64 es.length) (fun _ => .s (.v rfl)) (fun h => by cases h)
 refine vT (v := .int .i64 es.length) (by rw [ho]; rfl) hw (fun _ w' hw' => ?_) (fun h => by cases h) (hr _ _ _ g1 g2 g3)
 have hh : w'.heap[b]? = some (.map arr clk) := by
  have h1 : xz noX w w' := by simpa [yZ] using hw'
  exact (h1.2 b (hs.rng d b hb).2 (wK b)).trans harr
 have hsz : arr.size = es.length := by simpa using hent.1
 simp [execOp, ho, resolve, invoke, builtin, hmb, Builtin.len_, run_underlying hu, hget w' hh, hsz, goInt]
theorem QR {t k e d b : Nat} (h : P.underlying t = some (.map k e)) : (Op.equalIn (d + 1) t (.map (some b)) (.map none)).run P w = .ok false w := by
 simp [Op.equalIn, run_underlying h]
theorem zbE (hT : TOK P T) {x y : Operand} {t t2 d kt vt : Nat} {dt : TyD} (hG : z6 ops s o.guard = some true) (ho : o.op = .binOp .eql t x y t2) (hdst : yQ n o.dst) (hgx : s.gd x = true) (hgy : s.gd y = true)
  (hx : s.ev x = .map d) (hy : s.ev y = .v (.map none)) (hTt : T t = some dt) (hsh : dt.sh = .map kt vt) (hr : zL P E n ops yZ rest Q (s.put o.dst true (vB false))) : yp P E n ops yZ (o :: rest) Q s := by
 intro a w β hn hd hs
 have hw := yn (ops := ops) hs hG
 have vx := hs.ev x hgx (a := a) rfl
 have vy := hs.ev y hgy (a := a) rfl
 rw [hx] at vx
 rw [hy] at vy
 obtain ⟨b, hmb, hb⟩ := wS vx
 have hyv : a.eval y = .map none := by
  generalize a.eval y = u at vy
  cases vy with | s vy => cases vy; rfl
 have hu := kl hT hTt hsh
 obtain ⟨g1, g2, g3⟩ := yN hn hd hs hdst true (vB false) (v := .bool false) (fun _ => .s (.v rfl)) (fun h => by cases h)
 refine vT (v := .bool false) (by rw [ho]; rfl) hw (fun _ w' _ => ?_) (fun h => by cases h) (hr _ _ _ g1 g2 g3)
 have he : (binOp .eql t (.map (some b)) (.map none)).run P w' = .ok (.bool false) w' := by
  simp only [binOp]
  simp [show Op.equal t (.map (some b)) (.map none) = Op.equalIn (9999 + 1) t (.map (some b)) (.map none) from rfl, QR hu]
 simp [execOp, ho, hmb, hyv, eqGuard, he]
theorem vv (hT : TOK P T) {x : Operand} {t d u kt vt clk : Nat} {es : List (Nat × AV × AV)} {dt : TyD} (hG : z6 ops s o.guard = some true) (ho : o.op = .range t x) (hdst : o.dst = some u) (hdo : yQ n (some u)) (hgx : s.gd x = true)
  (hx : s.ev x = .map d) (hTt : T t = some dt) (hsh : dt.sh = .map kt vt) (hob : lk s.ob d = some (.mapr clk es)) (hdu : d ≠ u) (hr : zL P E n ops yZ rest Q ({ fr := (u, true, .ptr 1 u 0 0) :: (s.drop u).fr, ob := (u, .iter d true clk []) :: (s.drop u).ob })) : yp P E n ops yZ (o :: rest) Q s := by
 intro a w β hn hd hs
 have hw := yn (ops := ops) hs hG
 have vx := hs.ev x hgx (a := a) rfl
 rw [hx] at vx
 obtain ⟨b, hmb, hb⟩ := wS vx
 obtain ⟨b', arr, hb', harr, hent⟩ := wr (hs.ob d _ hob)
 rw [hb] at hb'
 injection hb' with hb'
 subst hb'
 have hu := kl hT hTt hsh
 have hget := yu (P := P) harr (fun _ _ _ h => by cases h)
 have hS := (hs.new u (vZ (dst := some u) hdo) (.mapIter (some b) clk #[] clk)).add u (.iter d true clk []) ⟨_, b, 0, ya _ _ _, heap_alloc_new w _, fun _ => by rw [zS β _ hdu]; exact hb⟩
 obtain ⟨g1, g2, g3⟩ := yN (dst := some u) hn hd hS hdo true (.ptr 1 u 0 0) (v := .pointer (some ⟨w.heap.size, 0, none⟩)) (fun _ => .ptr (k := 1) (i := 0) (j := 0) (ya _ _ _)) (fun h => by cases h)
 refine yi (by rw [ho]; rfl) hw (fun _ => ?_) (fun hGf => by cases hGf)
 refine y9 (w' := w.alloc (.mapIter (some b) clk #[] clk)) (v := .pointer (some ⟨w.heap.size, 0, none⟩)) (by simp [execOp, ho, hmb, Instr.range, run_underlying hu, hget]) ⟨XW yZ (upd β u (some w.heap.size)), yG.below ((Below.refl _ _).alloc (Nat.le_refl _) _) (fun e b hb he => v6 he hb), hr _ _ _ ?_ ?_ ?_⟩
 ·rw [hdst]; exact g1
 ·rw [hdst]; exact g2
 ·rw [hdst]; exact g3
theorem uR {x : Operand} {ty d u c : Nat} {seen : List Nat} {L : List (Nat × Int × α)} {f : α → AV} (hG : z6 ops s o.guard = some true) (ho : o.op = .next x false) (hdst : yQ n o.dst) (hgx : s.gd x = true) (hx : s.ev x = .ptr 1 u 0 0)
  (hit : lk s.ob u = some (.iter d true c seen)) (hob : lk s.ob d = some (.mapr c (mI f L))) (hall : ∀ e ∈ L, e.1 < c) (hty : o.type = ty)
  (h0 : (∀ e ∈ L, e.1 ∈ seen) → zL P E n ops yZ rest Q (s.put o.dst true (.tup [vB false])))
  (h1 : ∀ e ∈ L, e.1 ∉ seen → zL P E n ops yZ rest Q (({ fr := s.fr, ob := (u, .iter d true c (seen ++ [e.1])) :: rmo u s.ob } : AState).put o.dst true (.tup [vB true, .dead, .dead]))) : yp P E n ops yZ (o :: rest) Q s := by
 intro a w β hn hd hs
 have hw := yn (ops := ops) hs hG
 have vx := hs.ev x hgx (a := a) rfl
 rw [hx] at vx
 obtain ⟨r, hxr, hr⟩ : ∃ r, a.eval x = .pointer (some ⟨r, 0, none⟩) ∧ β u = some r := by
  generalize a.eval x = v at vx
  cases vx with
  | s h => cases h
  | ptr h => exact ⟨_, rfl, h⟩
 obtain ⟨r', b, _, hr', hit1, hit2⟩ := hs.ob u _ hit
 rw [hr] at hr'
 injection hr' with hr'
 subst hr'
 have hb := hit2 rfl
 obtain ⟨b', arr, hb', harr, hent⟩ := wr (hs.ob d _ hob)
 rw [hb] at hb'
 injection hb' with hb'
 subst hb'
 have hmem : ∀ m ∈ arr.toList, ∃ e ∈ L, m.born = e.1 := fun m hm => by
  obtain ⟨i, hi⟩ := List.mem_iff_getElem?.1 hm
  have hlt : i < (mI f L).length := by rw [← hent.1]; exact zE hi
  obtain ⟨e, he1, he2⟩ := QQ (List.getElem?_eq_getElem hlt)
  exact ⟨e, List.mem_of_getElem? he1, by have := (hent.2 i _ m (List.getElem?_eq_getElem hlt) hi).1; rw [he2] at this; exact this⟩
 have hmem2 : ∀ e ∈ L, ∃ m ∈ arr.toList, m.born = e.1 := fun e he => by
  obtain ⟨i, hi⟩ := List.mem_iff_getElem?.1 he
  have hlt : i < arr.toList.length := by rw [hent.1, YD]; exact zE hi
  exact ⟨arr.toList[i], List.getElem_mem hlt, (hent.2 i (e.1, vI e.2.1, f e.2.2) _ (by rw [mI, List.getElem?_map, hi]; rfl) (List.getElem?_eq_getElem hlt)).1⟩
 refine yi (by rw [ho]; rfl) hw (fun _ => ?_) (fun hGf => by cases hGf)
 rcases run_next_at (P := P) w ty r b c c seen.toArray arr c hit1 harr (fun m hm => by obtain ⟨e, he, h⟩ := hmem m hm; rw [h]; exact hall e he) (Nat.le_refl _) with ⟨hz, hrun⟩ | ⟨m, hm, w1, hw1, hrun⟩
 ·obtain ⟨g1, g2, g3⟩ := yN hn hd hs hdst true (.tup [vB false]) (v := .tuple #[.bool false]) (fun _ => .tup rfl fun i y u hy hu => by
   rcases i with _ | i
   ·simp only [List.getElem?_cons_zero, Option.some.injEq, List.getElem?_toArray] at hy hu; subst hy; subst hu; exact .s (.v rfl)
   ·simp at hy) (fun h => by cases h)
  refine y9 (w' := w) (v := .tuple #[.bool false]) (by simp [execOp, ho, hxr, hty, hrun]) ⟨XW yZ β, qZ, h0 (fun e he => ?_) _ _ _ g1 g2 g3⟩
  obtain ⟨m, hm, hme⟩ := hmem2 e he
  refine Classical.byContradiction fun hne => ?_
  have hin : m ∈ (leftOf arr seen.toArray).toList := by
   unfold leftOf
   simp only [Array.toList_filter, List.mem_filter]
   refine ⟨hm, ?_⟩
   simp only [Bool.not_eq_true', ← Bool.not_eq_true, Array.contains_iff, List.mem_toArray, hme]
   exact hne
  have : (leftOf arr seen.toArray).toList = [] := List.eq_nil_of_length_eq_zero (by simpa using hz)
  rw [this] at hin
  cases hin
 ·unfold leftOf at hm
  simp only [Array.toList_filter, List.mem_filter, Bool.not_eq_true', ← Bool.not_eq_true, Array.contains_iff, List.mem_toArray] at hm
  obtain ⟨e, he, hme⟩ := hmem m hm.1
  have hB : Below w.heap.size w w1 := by
   rcases hw1 with rfl | rfl
   ·exact Below.refl _ _
   ·exact VC w
  have hs1 := hs.ext hB
  have hh1 : w1.heap = w.heap := by rcases hw1 with rfl | rfl <;> rfl
  have hK : Keeps (fun q => β u = some q) w1 (setBlock w1 r (.mapIter (some b) c (seen.toArray.push m.born) c)) := wy hr
  have hS := hs1.content u hK (fun q t' n' hq ⟨arr', e1, _⟩ => by
   rw [hr] at hq
   injection hq with hq
   subst hq
   rw [hh1, hit1] at e1
   cases e1)
  have hlt : r < w1.heap.size := (hs1.rng u r hr).2
  have hS2 := hS.add u (.iter d true c (seen ++ [e.1])) ⟨r, b, 0, hr, by rw [← hme]; simp [setBlock, hlt], fun _ => hb⟩
  obtain ⟨g1, g2, g3⟩ := yN hn hd hS2 hdst true (.tup [vB true, .dead, .dead]) (v := .tuple #[.bool true, m.key, m.val]) (fun _ => .tup rfl fun i y u hy hu => by
   rcases i with _ | _ | _ | i
   ·simp only [List.getElem?_cons_zero, Option.some.injEq, List.getElem?_toArray] at hy hu; subst hy; subst hu; exact .s (.v rfl)
   ·simp only [List.getElem?_cons_zero, List.getElem?_cons_succ, Option.some.injEq] at hy; subst hy; exact .dead
   ·simp only [List.getElem?_cons_zero, List.getElem?_cons_succ, Option.some.injEq] at hy; subst hy; exact .dead
   ·simp at hy) (fun h => by cases h)
  have hX : xz (fun q => β u = some q) w (setBlock w1 r (.mapIter (some b) c (seen.toArray.push m.born) c)) := ⟨Nat.le_trans hB.size hK.size, fun q hq hne => (hK.block q (Nat.lt_of_lt_of_le hq hB.size) hne).trans (hB.block q hq)⟩
  exact y9 (w' := setBlock w1 r (.mapIter (some b) c (seen.toArray.push m.born) c)) (v := .tuple #[.bool true, m.key, m.val]) (by simp [execOp, ho, hxr, hty, hrun]) ⟨XW yZ β, uQ (d := u) hX (by rw [Dr.dst, ho]; rfl), h1 e he (by rw [← hme]; exact hm.2) _ _ _ g1 g2 g3⟩
theorem xn {x : Operand} {d u c : Nat} {seen : List Nat} {L : List (Nat × Int × α)} {f : α → AV} {e : Nat × Int × α} (hG : z6 ops s o.guard = some true) (ho : o.op = .entry x) (hdst : yQ n o.dst) (hgx : s.gd x = true) (hx : s.ev x = .ptr 1 u 0 0)
  (hit : lk s.ob u = some (.iter d true c (seen ++ [e.1]))) (hob : lk s.ob d = some (.mapr c (mI f L))) (he : e ∈ L) (hnd : (L.map (·.1)).Nodup)
  (hr : zL P E n ops yZ rest Q (s.put o.dst true (.tup [vI e.2.1, f e.2.2]))) : yp P E n ops yZ (o :: rest) Q s := by
 intro a w β hn hd hs
 have hw := yn (ops := ops) hs hG
 have vx := hs.ev x hgx (a := a) rfl
 rw [hx] at vx
 obtain ⟨r, hxr, hr0⟩ : ∃ r, a.eval x = .pointer (some ⟨r, 0, none⟩) ∧ β u = some r := by
  generalize a.eval x = v at vx
  cases vx with
  | s h => cases h
  | ptr h => exact ⟨_, rfl, h⟩
 obtain ⟨r', b, _, hr', hit1, hit2⟩ := hs.ob u _ hit
 rw [hr0] at hr'
 injection hr' with hr'
 subst hr'
 have hb := hit2 rfl
 obtain ⟨b', arr, hb', harr, hent⟩ := wr (hs.ob d _ hob)
 rw [hb] at hb'
 injection hb' with hb'
 subst hb'
 obtain ⟨i, hi⟩ := List.mem_iff_getElem?.1 he
 have hlt : i < arr.toList.length := by rw [hent.1, YD]; exact zE hi
 have hm := hent.2 i (e.1, vI e.2.1, f e.2.2) _ (by rw [mI, List.getElem?_map, hi]; rfl) (List.getElem?_eq_getElem hlt)
 generalize hmm : arr.toList[i] = m at hm
 have hmi : m ∈ arr.toList := by rw [← hmm]; exact List.getElem_mem hlt
 have hborn : arr.toList.map (·.born) = L.map (·.1) := by
  apply List.ext_getElem?
  intro j
  rw [List.getElem?_map, List.getElem?_map]
  rcases Nat.lt_or_ge j L.length with hj | hj
  ·have hj2 : j < arr.toList.length := by rw [hent.1, YD]; exact hj
   rw [List.getElem?_eq_getElem hj, List.getElem?_eq_getElem hj2]
   have := (hent.2 j (L[j].1, vI L[j].2.1, f L[j].2.2) _ (by rw [mI, List.getElem?_map, List.getElem?_eq_getElem hj]; rfl) (List.getElem?_eq_getElem hj2)).1
   simpa using this
  ·rw [List.getElem?_eq_none hj, List.getElem?_eq_none (by rw [hent.1, YD]; exact hj)]
   rfl
 have hrun := run_entry_at (P := P) w r b c seen.toArray arr c m (by rw [hm.1]; simpa using hit1) harr hmi (by rw [hborn]; exact hnd)
 obtain ⟨g1, g2, g3⟩ := yN hn hd hs hdst true (.tup [vI e.2.1, f e.2.2]) (v := .tuple #[m.key, m.val]) (fun _ => .tup rfl fun i y u hy hu => by
   rcases i with _ | _ | i
   ·simp only [List.getElem?_cons_zero, Option.some.injEq, List.getElem?_toArray] at hy hu; subst hy; subst hu; exact .s hm.2.1
   ·simp only [List.getElem?_cons_zero, List.getElem?_cons_succ, Option.some.injEq, List.getElem?_toArray] at hy hu; subst hy; subst hu; exact hm.2.2
   ·simp at hy) (fun h => by cases h)
 refine yi (by rw [ho]; rfl) hw (fun _ => ?_) (fun hGf => by cases hGf)
 exact y9 (w' := w) (v := .tuple #[m.key, m.val]) (by simp [execOp, ho, hxr, hrun]) ⟨XW yZ β, qZ, hr _ _ _ g1 g2 g3⟩
end
end
section
open Go.RowKit Go.MapKept
section
variable {P : Program} {T : Nat → Option TyD} {E : Env} {s : AState} {tm : Array Value} {w w' : World} {β : Nat → Option Nat} {n : Nat} {ops : Array Oper} {Q : Exit → AState → Prop} {rest : List Oper} {o : Oper} {α : Type} {F : Nat → Prop}
theorem QS {x : Operand} {ats : Array TypeId} {g t d u clk : Nat} {L : List (Nat × Int × α)} {f : α → AV} {fn : Func} (hG : z6 ops s o.guard = some true) (ho : o.op = .call ⟨.value (.func g), #[x], ats⟩) (hdst : o.dst = some u) (hdo : yQ n (some u)) (hgx : s.gd x = true) (hx : s.ev x = .ifc t (.map d))
  (hob : lk s.ob d = some (.mapr clk (mI f L))) (hfk : ∀ a, (f a).kill u = f a) (hf : P.funcs[g]? = some fn) (h1 : (fn.name == "runtime.NumGoroutine") = false) (h2 : fn.body.isNone = true) (h3 : Extern.findNext fn = none) (h4 : Extern.find fn = some Extern.MapsClone.clone)
  (hr : zL P E n ops yZ rest Q { fr := (u, true, .ifc t (.map u)) :: (s.drop u).fr, ob := (u, .mapr clk (mI f L)) :: (s.drop u).ob }) : yp P E n ops yZ (o :: rest) Q s := by
 intro a w β hn hd hs
 have hw := yn (ops := ops) hs hG
 obtain ⟨v, hxv, vx⟩ := XD (hs.ev x hgx (a := a) rfl) hx
 obtain ⟨b, rfl, hb⟩ := wS vx
 obtain ⟨b', arr, hb', harr, hent⟩ := wr (hs.ob d _ hob)
 rw [hb] at hb'
 injection hb' with hb'
 subst hb'
 have hget := yu (P := P) harr (fun _ _ _ h => by cases h)
 have hcl : (Extern.MapsClone.clone #[.iface t (.map (some b))]).run P w = .ok (.iface t (.map (some w.heap.size))) (w.alloc (.map arr clk)) := by
  have e : Extern.MapsClone.clone #[.iface t (.map (some b))] = (getObj b >>= fun o => match o with
    | .map entries clock => (newObj (.map entries clock) >>= fun n => pure (.iface t (.map (some n))))
    | _ => stuck "maps.clone: a map expected") := rfl
  rw [e]
  simp [hget]
 have hS := (hs.new u (vZ (dst := some u) hdo) (.map arr clk)).add u (.mapr clk (mI f L)) ⟨_, arr, ya _ _ _, heap_alloc_new w _, by simpa [mI] using hent.1, fun i e m he hm => by
  obtain ⟨g1, g2, g3⟩ := hent.2 i e m he (by simpa using hm)
  have hnb : ∀ c, c < w.heap.size → (w.alloc (.map arr clk)).heap[c]? = w.heap[c]? := fun c hc => Below.heap_alloc w _ c hc
  have hk := g3.kill (F' := FF E (upd β u (some w.heap.size)) (w.alloc (.map arr clk))) (β' := upd β u (some w.heap.size)) (w' := w.alloc (.map arr clk)) u (fun _ h => Z8 h) (fun c hc => hnb c hc.1) (fun e he => zS β _ he) (fun e c t n _ hc h => h.of_heap (hnb c (hs.rng e c hc).2))
  obtain ⟨y, _, rfl⟩ := QQ he
  refine ⟨g1, g2.mono (fun _ h => Z8 h) (fun c hc => hnb c hc.1), ?_⟩
  rw [hfk] at hk
  exact hk⟩
 obtain ⟨g1, g2, g3⟩ := yN (dst := some u) hn hd hS hdo true (.ifc t (.map u)) (v := .iface t (.map (some w.heap.size))) (fun _ => .ifc (.map (ya _ _ _))) (fun h => by cases h)
 refine yi (by rw [ho]; rfl) hw (fun _ => ?_) (fun hGf => by cases hGf)
 refine y9 (w' := w.alloc (.map arr clk)) (v := .iface t (.map (some w.heap.size))) ?_ ⟨XW yZ (upd β u (some w.heap.size)), yG.below ((Below.refl _ _).alloc (Nat.le_refl _) _) (fun e b hb he => v6 he hb), hr _ _ _ ?_ ?_ ?_⟩
 ·have hc := run_callFunc_extern hf h1 h2 h3 h4 #[.iface t (.map (some b))] w
  rw [hcl] at hc
  have hc2 : (callFunc g #[.iface t (.map (some b))]).run P w = .ok (.value (.iface t (.map (some w.heap.size)))) (w.alloc (.map arr clk)) := hc
  have he : a.eval (.func g) = .func (.func g) #[] #[] := rfl
  simp [execOp, ho, resolve, invoke, he, Deferred.ofValue, hxv, hc2]
 ·rw [hdst]; exact g1
 ·rw [hdst]; exact g2
 ·rw [hdst]; exact g3
theorem JH (hT : TOK P T) {x : Operand} {t e d off m : Nat} {xs : List (List AV)} {dt de : TyD} (hG : z6 ops s o.guard = some true) (ho : o.op = .call ⟨.builtin .clear, #[x], #[t]⟩) (hdst : o.dst = none) (hgx : s.gd x = true) (hx : s.ev x = .ref e 1 d off m)
  (hTt : T t = some dt) (hsh : dt.sh = .slice e) (hTe : T e = some de) (hk : de.size = 1) (hob : lk s.ob d = some (.row e 1 xs)) (hr : zL P E n ops yZ rest Q { fr := s.fr, ob := (d, .row e 1 (xs.take off)) :: rmo d s.ob }) : yp P E n ops yZ (o :: rest) Q s := by
 intro a w β hn hd hs
 have hw := yn (ops := ops) hs hG
 have vx := hs.ev x hgx (a := a) rfl
 rw [hx] at vx
 have hu := yR hT hTt hsh
 have hlt : ∀ {c : Nat} {y : List AV}, (xs.take off)[c]? = some y → c < off ∧ xs[c]? = some y := fun {c y} h => by
  have := zE h
  rw [List.length_take] at this
  exact ⟨by omega, by rwa [List.getElem?_take_of_lt (by omega)] at h⟩
 have same : SRel E { fr := s.fr, ob := (d, .row e 1 (xs.take off)) :: rmo d s.ob } a.tmps w β := by
  have h0 := (hs.content d (Keeps.refl _ w) (fun _ _ _ _ h => h)).add d (.row e 1 (xs.take off)) (by
   obtain ⟨hk1, h⟩ := hs.ob d _ hob
   refine ⟨fun cs hcs => hk1 cs (List.mem_of_mem_take hcs), ?_⟩
   rcases h with rfl | ⟨b, arr, h1, h2, h3, h4⟩
   ·exact .inl (by simp)
   ·refine .inr ⟨b, arr, h1, h2, ?_, fun i j cs u hc hu' => h4 i j cs u (hlt hc).2 hu'⟩
    rw [List.length_take]
    exact Nat.le_trans (Nat.mul_le_mul_right _ (Nat.min_le_right _ _)) h3)
  exact h0
 have none0 : ∀ (A : Option Addr) (c : Nat), a.eval x = .slice A 0 c → (o.wp P a w (fun a' w' => ∃ X', yG (yZ.dst o) (XW yZ β) w X' w' ∧ zU P ops yZ (jh E n Q) (nrm E n yZ (Q .normal)) rest X' a' w') (jh E n Q)) := fun A c hxv => by
  refine y9 (w' := w) (v := .tuple #[]) (by cases A <;> simp [execOp, ho, resolve, invoke, builtin, hxv, Builtin.clear_, run_underlying hu]) ⟨XW yZ β, qZ, hr _ _ _ ?_ ?_ ?_⟩
  ·rw [hdst]; exact hn
  ·rw [hdst]; exact hd
  ·rw [hdst]; exact same
 refine yi (by rw [ho]; rfl) hw (fun _ => ?_) (fun hGf => by cases hGf)
 generalize hxv : a.eval x = v at vx
 cases vx with
 | s h => cases h
 | nil => exact none0 _ _ hxv
 | empty h => exact none0 _ _ hxv
 | @ref _ _ _ _ _ c b A g1 g2 g3 g4 g5 =>
  subst g4
  rcases Nat.eq_zero_or_pos m with h0 | h0
  ·subst h0; exact none0 _ _ hxv
  obtain ⟨arr, harr, hasz⟩ := g5
  rw [Nat.mul_one] at hasz
  obtain ⟨⟨i, z, hi, hsz, hby, hz, hzc⟩, hzl, hzf, _⟩ := hT e de hTe
  have hz1 : z.cells.size = 1 := by rw [hzc]; simp [hzl, hk]
  have hlen : (Builtin.zeroCells z.cells m).toList.length = m := by rw [Array.length_toList, size_zeroCells, hz1, Nat.mul_one]
  have hone : ∀ v ∈ (Builtin.zeroCells z.cells m).toList, v.oneCell' = true := fun v hv => by
   simp only [Builtin.zeroCells, Array.toList_map, List.mem_map] at hv
   obtain ⟨q, _, rfl⟩ := hv
   have hq : q % z.cells.size < z.cells.size := Nat.mod_lt _ (by omega)
   rw [getElem!_pos z.cells _ hq]
   refine w9 (hzf _ ?_)
   have key : ∀ zc : Array Value, zc = de.zero.toArray → ∀ (i : Nat) (h : i < zc.size), zc[i] ∈ de.zero := fun zc e i h => by
    subst e
    have := Array.getElem_mem h
    simpa using this
   exact key _ hzc _ hq
  have hst := run_storeCells_at P b off e (Builtin.zeroCells z.cells m).toList 0 arr w harr (by rw [hlen]; omega) hone
  have hK : Keeps (fun c => β d = some c) w (w.setRow b (arr.toList.take (off + 0) ++ (Builtin.zeroCells z.cells m).toList ++ arr.toList.drop (off + 0 + (Builtin.zeroCells z.cells m).toList.length)).toArray) := ⟨rfl, rfl, rfl, by simp, fun q _ hq => setRow_other w b q _ fun h => hq (by rw [h]; exact g1)⟩
  have hnew := setRow_heap w b arr (arr.toList.take (off + 0) ++ (Builtin.zeroCells z.cells m).toList ++ arr.toList.drop (off + 0 + (Builtin.zeroCells z.cells m).toList.length)).toArray e (0, 0) harr
  have hsz2 : (arr.toList.take (off + 0) ++ (Builtin.zeroCells z.cells m).toList ++ arr.toList.drop (off + 0 + (Builtin.zeroCells z.cells m).toList.length)).toArray.size = arr.size := by
   simp only [List.size_toArray, List.length_append, List.length_take, List.length_drop, hlen, Array.length_toList]
   omega
  generalize hww : w.setRow b (arr.toList.take (off + 0) ++ (Builtin.zeroCells z.cells m).toList ++ arr.toList.drop (off + 0 + (Builtin.zeroCells z.cells m).toList.length)).toArray = w2 at hst hK hnew
  have hS := (hs.content d hK (fun q t' n' hq ⟨arr', e1, e2⟩ => by
   rw [g1] at hq
   injection hq with hq
   subst hq
   rw [harr] at e1
   injection e1 with e1
   injection e1 with e1 e3
   subst e1
   subst e3
   exact ⟨_, hnew, hsz2.trans e2⟩)).add d (.row e 1 (xs.take off)) (by
   obtain ⟨hk1, h⟩ := hs.ob d _ hob
   refine ⟨fun cs hcs => hk1 cs (List.mem_of_mem_take hcs), ?_⟩
   rcases h with rfl | ⟨b', arr', h1, h2, h3, h4⟩
   ·exact .inl (by simp)
   ·rw [g1] at h1
    injection h1 with h1
    subst h1
    rw [harr] at h2
    injection h2 with h2
    injection h2 with h2 _
    subst h2
    refine .inr ⟨b, _, g1, hnew, ?_, fun i j cs u hc hu' => ?_⟩
    ·rw [hsz2, List.length_take]
     exact Nat.le_trans (Nat.mul_le_mul_right _ (Nat.min_le_right _ _)) h3
    ·obtain ⟨hi, hc'⟩ := hlt hc
     obtain ⟨x0, q1, q2⟩ := h4 i j cs u hc' hu'
     have hj : j = 0 := by have h5 := zE hu'; rw [hk1 cs (List.mem_of_getElem? hc')] at h5; omega
     subst hj
     rw [Nat.mul_one, Nat.add_zero] at q1 ⊢
     refine ⟨x0, ?_, q2.mono (fun c ⟨h1, h2, h3⟩ => ⟨Nat.lt_of_lt_of_le h1 hK.size, h2, h3⟩) (fun c hc => hK.block c hc.1 (hc.2.2 d))⟩
     rw [List.getElem?_toArray, List.append_assoc, List.getElem?_append_left (by rw [List.length_take, Array.length_toList]; omega), List.getElem?_take_of_lt (by omega), Array.getElem?_toList]
     exact q1)
  have hz0 : (zeroValue e).run P w = .ok z w := by simp [zeroValue, typeInfo, hi, hz]
  obtain ⟨m', rfl⟩ : ∃ m', m = m' + 1 := ⟨m - 1, by omega⟩
  rw [Nat.mul_one] at hxv
  refine y9 (w' := w2) (v := .tuple #[]) (by simp [execOp, ho, resolve, invoke, builtin, hxv, Builtin.clear_, run_underlying hu, hz0, hst]) ⟨XW yZ β, uQ (d := d) ⟨hK.size, fun q hq hne => hK.block q hq hne⟩ (by rw [Dr.dst, ho]; rfl), hr _ _ _ ?_ ?_ ?_⟩
  ·rw [hdst]; exact hn
  ·rw [hdst]; exact hd
  ·rw [hdst]; exact hS
end
end
section
open Go.RowKit
def WR (x : InsM) (p : Bool) (w : Int) : Bool :=
 if x.op = 1 ∨ x.op = 2 ∨ x.op = 3 ∨ x.op = 4 ∨ x.op = 7 ∨ x.op = 8 ∨ x.op = 10 then true
 else if x.op = 33 ∨ x.op = 34 ∨ x.op = 35 ∨ x.op = 36 ∨ x.op = 37 ∨ x.op = 38 ∨ x.op = 39 ∨ x.op = 40 ∨ x.op = 41 ∨ x.op = 44 ∨ x.op = 45 ∨ x.op = 46 then true
 else if x.op = 11 then decide (w = 0) else if x.op = 16 then p else if x.op = 17 then decide (x.a = -1) else false
def wG (C : List InsM) (B : List Bool) (k : Nat) (w : Int) : Bool := WR (zb C k) (B.getD (zb C k).c.toNat false) w
def wJ (B : List Bool) : List (List AV) := B.map fun b => [vB b]
theorem xZ (B : List Bool) : (wJ B).length = B.length := by simp [wJ]
theorem vP {B : List Bool} {k : Nat} (h : k < B.length) : (wJ B)[k]? = some [vB (B.getD k false)] := by simp [wJ, List.getD, h]
theorem JT (B : List Bool) (b : Bool) : wJ B ++ [[vB b]] = wJ (B ++ [b]) := by simp [wJ]
abbrev mK (L : List (Nat × Int × Unit)) : List (Nat × AV × AV) := mI (fun _ => AV.dead) L
theorem yk (d : Nat) (L : List (Nat × Int × Unit)) : mapM (AV.kill d) (mK L) = mK L := wR (f := fun _ => AV.dead) (fun _ => rfl) L
theorem uX (K V : List Nat) (L : List (Nat × Int × Unit)) : mapM (AV.cut K V) (mK L) = mK L := wR (f := fun _ => AV.dead) (fun _ => rfl) L
theorem zT (r : List (Nat × Nat)) (L : List (Nat × Int × Unit)) : mapM (AV.ren r) (mK L) = mK L := wR (f := fun _ => AV.dead) (fun _ => rfl) L
def rtV (e : Bool) (C : List InsM) (N : List Int) (B : List Bool) (en : Int) (cm : AV) : AObj := .var [vB e, .lst 4 (zz C), .lst 1 (v8 N), .ref 4 1 10002 0 B.length, vI en, cm]
def rtO (e : Bool) (C : List InsM) (N : List Int) (B : List Bool) (en : Int) (c : Nat) (M : List (Nat × Int × Unit)) : List (Nat × AObj) :=
 [(10000, rtV e C N B en (.map 10003)), (10002, .row 4 1 (wJ B)), (10003, .mapr c (mK M))]
theorem Q7 (e : Bool) (C : List InsM) (N : List Int) (B : List Bool) (en : Int) (c : Nat) (M : List (Nat × Int × Unit)) (k : Nat) (hk : k < C.length) (w : Int) (hc : (zb C k).op = 16 → 0 ≤ (zb C k).c ∧ (zb C k).c < B.length) :
  yq Try.prog 66 [.ptr 1 10000 0 0, vI k, vI w] (rtO e C N B en c M) (vB (wG C B k w)) (rtO e C N B en c M) := by
 have zk : ((k : Int)).toNat = k := by omega
 have gk := yy hk
 unfold wG
 generalize zb C k = x at *
 obtain ⟨op, a, b, c'⟩ := x
 dsimp only at hc ⊢
 unfold rtO rtV
 have fin' : ∀ (u v : Bool), u = v → (xN [vB u]).up (vB v) := fun u v h => by subst h; exact AV.up_rfl _
 by_cases h16 : op = 16
 ·subst h16
  obtain ⟨h1, h2⟩ := hc rfl
  obtain ⟨m, rfl⟩ : ∃ m : Nat, c' = m := ⟨c'.toNat, by omega⟩
  have zm : ((m : Int)).toNat = m := by omega
  have gb := vP (B := B) (k := m) (by omega)
  rw [zm]
  generalize B.getD m false = p at gb
  refine zW (za _) Try.func66 rfl rfl (by rw [Try.results66]) Try.ntmps66 rfl fun E => ?_
  (repeat' (first | exact trivial | (with_reducible first | apply awA | apply awB | apply awD | apply awF | apply awG | apply awJ) | (refine zn (id := 27) (t := (.node [0, 1, 2, 3, 4, 5, 6, 7, 8] [])) (drR [10000, 7] [52] []) zD (by kernel_rfl) (by kernel_rfl) (fun _ _ h => h) ?_) | (refine zx (by simp only [go_sem]; exact rfl) ?_) | (refine zA (by simp only [go_sem]; exact rfl) ?_) | refine ze ?_ | refine zl ?_ ?_ | exact zy | ((with_reducible first | apply awn | apply awp | refine awQ ?_ | refine awT ?_); intro r hr; simp only [go_sem, Nat.reduceBEq, Nat.reduceLT, Nat.reduceLeDiff, Nat.reduceAdd, Nat.reduceMul, reduceCtorEq, zk, gk, zd, zm, gb, yk, Int.reduceEq] at hr; subst hr; (first | refine awV ?_ ?_ | refine yl ?_ ?_ ?_ | (refine zf (fun h => ?_) (fun h => ?_) <;> (try simp only [go_sem, reduceCtorEq] at h) <;> (try (exfalso; omega))))))) <;> (try omega)
  all_goals first | exact AV.up_rfl _ | (repeat first | exact zo | refine zh rfl ?_) | skip
 ·have e16 : (op = 16) = False := eq_false h16
  refine zW (za _) Try.func66 rfl rfl (by rw [Try.results66]) Try.ntmps66 rfl fun E => ?_
  (repeat' (first | exact trivial | (with_reducible first | apply awA | apply awB | apply awC | apply awD | apply awF | apply awG | apply awI | apply awJ) | ((with_reducible first | apply awn | refine awQ ?_ | refine awT ?_); intro r hr; simp only [go_sem, Nat.reduceBEq, Nat.reduceLT, Nat.reduceLeDiff, Nat.reduceAdd, Nat.reduceMul, zk, gk, zd, e16, yk] at hr; subst hr; (first | refine awV ?_ ?_ | refine yl ?_ ?_ ?_ | (refine zf (fun h => ?_) (fun h => ?_) <;> (try simp only [go_sem, reduceCtorEq] at h) <;> (try (exfalso; omega))))))) <;> (try omega)
  all_goals first | (refine fin' _ _ ?_; simp_all [WR]) | (repeat first | exact zo | refine zh rfl ?_) | skip
theorem zaz (e : Bool) (C : List InsM) (N : List Int) (B : List Bool) (en : Int) (c : Nat) (M : List (Nat × Int × Unit)) (k : Nat) (hk : k < C.length) (w : Int) (hc : (zb C k).op = 16 → 0 ≤ (zb C k).c ∧ (zb C k).c < B.length) :
  yq Try.prog 61 [.ptr 1 10000 0 0, vI k, vI w] (rtO e C N B en c M) (vB !(wG C B k w)) (rtO e C N B en c M) := by
 have ht := Q7 e C N B en c M k hk w hc
 generalize wG C B k w = p at ht ⊢
 unfold rtO rtV at *
 refine zW (za _) Try.func61 rfl rfl (by rw [Try.results61]) Try.ntmps61 rfl fun E => ?_
 (repeat' (first | exact trivial | (with_reducible first | apply awA | apply awD | apply awF) | ((with_reducible first | apply awn | apply awo | refine awT ?_); intro r hr; simp only [go_sem, Nat.reduceBEq, Nat.reduceLT, Nat.reduceAdd, zT] at hr; subst hr; (first | refine awV ?_ ?_ | refine awW ?_ ?_ | refine yl ?_ ?_ ?_)) | (refine zp [(10000, 10000), (10002, 10002), (10003, 10003)] [(10000, 10000), (10002, 10002), (10003, 10003)] [] [10000, 10002, 10003] ?_; intro r hr; simp only [go_sem, Nat.reduceBEq, Nat.reduceLT, zT] at hr; subst hr; refine yo (ht) rfl rfl (by first | exact .inl rfl | exact .inr rfl) ?_ (.inl rfl) ?_))) <;> (try omega)
 all_goals first | exact AV.up_rfl _ | (repeat first | exact zo | refine zh rfl ?_)
theorem JU (k w : Int) : yq Try.prog 45 [vI k, vI w] [] (vB true) [] := by
 refine zW (za _) Try.func45 rfl rfl (by rw [Try.results45]) Try.ntmps45 rfl fun E => ?_
 (repeat' (first | exact trivial | (with_reducible first | apply awA | apply awD | apply awF) | ((with_reducible first | apply awn | refine awT ?_); intro r hr; simp only [go_sem, Nat.reduceBEq, Nat.reduceLT] at hr; subst hr; (first | refine awV ?_ ?_ | refine yl ?_ ?_ ?_)))) <;> (try omega)
 all_goals first | exact AV.up_rfl _ | (repeat first | exact zo | refine zh rfl ?_)
def qP (C : List InsM) (B : List Bool) (k : Nat) (w : Int) : Bool := decide ((zb C k).op = 17) || !(wG C B k w)
theorem zcY (e : Bool) (C : List InsM) (N : List Int) (B : List Bool) (en : Int) (c : Nat) (M : List (Nat × Int × Unit)) (k : Nat) (hk : k < C.length) (w : Int) (hc : (zb C k).op = 16 → 0 ≤ (zb C k).c ∧ (zb C k).c < B.length) :
  yq Try.prog 65 [vI k, vI w, .ptr 1 10005 0 0] ((10005, .var [.ptr 1 10000 0 0]) :: rtO e C N B en c M) (vB (qP C B k w)) ((10005, .var [.ptr 1 10000 0 0]) :: rtO e C N B en c M) := by
 have ht := Q7 e C N B en c M k hk w hc
 have zk : ((k : Int)).toNat = k := by omega
 have gk := yy hk
 unfold qP
 generalize wG C B k w = p at ht ⊢
 generalize zb C k = x at *
 unfold rtO rtV at *
 by_cases h17 : x.op = 17
 ·have e17 : (x.op = 17) = True := eq_true h17
  simp only [e17, decide_true, Bool.true_or]
  refine zW (za _) Try.func65 rfl rfl (by rw [Try.results65]) Try.ntmps65 rfl fun E => ?_
  (repeat' (first | exact trivial | (with_reducible first | apply awA | apply awD | apply awF) | ((with_reducible first | apply awn | apply awo | refine awT ?_); intro r hr; simp only [go_sem, Nat.reduceBEq, Nat.reduceLT, Nat.reduceLeDiff, Nat.reduceAdd, Nat.reduceMul, reduceCtorEq, zk, gk, zd, e17] at hr; subst hr; (first | refine awV ?_ ?_ | refine awW ?_ ?_ | refine yl ?_ ?_ ?_)) | (refine yW (vB true) rfl rfl ⟨by decide, by decide⟩ ?_))) <;> (try omega)
  all_goals first | exact AV.up_rfl _ | (repeat first | exact zo | refine zh rfl ?_)
 ·have e17 : (x.op = 17) = False := eq_false h17
  simp only [e17, decide_false, Bool.false_or]
  refine zW (za _) Try.func65 rfl rfl (by rw [Try.results65]) Try.ntmps65 rfl fun E => ?_
  (repeat' (first | exact trivial | (with_reducible first | apply awA | apply awD | apply awF) | ((with_reducible first | apply awn | apply awo | refine awT ?_); intro r hr; simp only [go_sem, Nat.reduceBEq, Nat.reduceLT, Nat.reduceLeDiff, Nat.reduceAdd, Nat.reduceMul, reduceCtorEq, zk, gk, zd, e17, zT] at hr; subst hr; (first | refine awV ?_ ?_ | refine awW ?_ ?_ | refine yl ?_ ?_ ?_)) | (refine zp [(10000, 10000), (10002, 10002), (10003, 10003)] [(10000, 10000), (10002, 10002), (10003, 10003)] [] [10000, 10002, 10003] ?_; intro r hr; simp only [go_sem, Nat.reduceBEq, Nat.reduceLT, zT] at hr; subst hr; refine yo (ht) rfl rfl (by first | exact .inl rfl | exact .inr rfl) ?_ (.inl rfl) ?_))) <;> (try omega)
  all_goals first | exact AV.up_rfl _ | (repeat first | exact zo | refine zh rfl ?_)
end
end Go.Proofs.Ytfjajlcjifnceaa
