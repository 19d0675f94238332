import Derived.Test.YtjeplogcfedmeaaGreatRows
import Derived.ProofKit
import Derived.OpenShut
import Derived.ShutString
import Derived.ChangeOld
import Derived.Deep.Slices
import Derived.JoinedCond
import Derived.Test.YtjeplogcfedmeaaGreatP12
set_option linter.all false
set_option maxRecDepth 100000
set_option maxHeartbeats 8000000
namespace Go.Proofs.YtjeplogcfedmeaaGreat
section
open Go.RowKit
theorem jE (xs ys : List Int) (hx : xs.length ≤ 4611686018427387904) : zQ Tryz.prog 11 [.lst 1 (v8 xs), .lst 1 (v8 ys)] (fun r => r = vB (decide (xs = ys))) := by
 by_cases hl : xs.length = ys.length
 ·have e0 : ((xs.length : Int) = (ys.length : Int)) = True := eq_true (by omega)
  refine zE (zb _) Tryz.func11 rfl rfl (by rw [Tryz.results11]) Tryz.ntmps11 rfl fun E => ?_
  (repeat' (first | exact trivial | (with_reducible first | apply awA | apply awB | apply awC | apply awF) | ((with_reducible first | apply awn | refine awQ ?_); intro r hr; simp only [go_sem, Nat.reduceBEq, Nat.reduceLT, zp, e0] at hr; subst hr; (first | refine awV ?_ ?_ | (refine zh (fun h => ?_) (fun h => ?_) <;> (try simp only [go_sem, reduceCtorEq] at h) <;> (try (exfalso; omega))))))) <;> (try omega)
  refine zI [0, 1, 5] [] (fun i : Nat => ⟨[(0, true, .lst 1 (v8 xs)), (1, true, .lst 1 (v8 ys)), (5, true, vI i)], []⟩)
   (fun i => i ≤ xs.length ∧ xs.take i = ys.take i) (fun i => xs.length - i) 0 (by simp only [go_sem, Nat.reduceBEq] <;> exact rfl) ⟨Nat.zero_le _, rfl⟩ ?_
  intro i ⟨hi, hinv⟩
  have hwi := zy (n := (i : Int) + 1) (by omega)
  have zi : ((i : Int)).toNat = i := by omega
  by_cases hlt : i < xs.length
  ·have e1 : ((i : Int) < (xs.length : Int)) = True := eq_true (by omega)
   have g1 := xb hlt
   have g2 := xb (show i < ys.length by omega)
   by_cases hq : xs[i] = ys[i]
   ·have e2 : (xs[i] = ys[i]) = True := eq_true hq
    (repeat' (first | exact trivial | (with_reducible first | apply awA | apply awB | apply awC | apply awF | apply awI) | (refine zA (id := 6) (t := (.node [0, 1, 2, 3, 4, 5, 6, 7, 8] [])) (drR [] [20, 24] []) zH (by kernel_rfl) (by kernel_rfl) (fun _ _ h => h) ?_) | (refine zB (by simp only [go_sem]; exact rfl) ?_) | (refine zD (by simp only [go_sem]; exact rfl) ?_) | refine zl ?_ | refine zq ?_ ?_ | exact zC | ((with_reducible first | apply awn | apply awp | refine awQ ?_); intro r hr; simp only [go_sem, Nat.reduceBEq, Nat.reduceLT, Nat.reduceLeDiff, reduceCtorEq, e1, zi, hwi, g1, g2, zp, e2] at hr; subst hr; (first | refine awV ?_ ?_ | (refine zh (fun h => ?_) (fun h => ?_) <;> (try simp only [go_sem, reduceCtorEq] at h) <;> (try (exfalso; omega))))))) <;> (try omega)
    all_goals refine ⟨i + 1, ?_, ⟨hlt, by rw [List.take_succ_eq_append_getElem hlt, List.take_succ_eq_append_getElem (show i < ys.length by omega), hinv, hq]⟩, by omega⟩
    all_goals simp only [go_sem, Nat.reduceBEq]
    all_goals try exact rfl
   ·have e2 : (xs[i] = ys[i]) = False := eq_false hq
    have hne : xs ≠ ys := fun h => hq (by subst h; rfl)
    rw [decide_eq_false hne]
    (repeat' (first | exact trivial | (with_reducible first | apply awA | apply awB | apply awC | apply awD | apply awF | apply awG | apply awJ) | (refine zA (id := 6) (t := (.node [0, 1, 2, 3, 4, 5, 6, 7, 8] [])) (drR [] [20, 24] []) zH (by kernel_rfl) (by kernel_rfl) (fun _ _ h => h) ?_) | (refine zB (by simp only [go_sem]; exact rfl) ?_) | (refine zD (by simp only [go_sem]; exact rfl) ?_) | refine zl ?_ | refine zq ?_ ?_ | exact zC | ((with_reducible first | apply awn | apply awp | refine awQ ?_ | refine awR ?_); intro r hr; simp only [go_sem, Nat.reduceBEq, Nat.reduceLT, Nat.reduceLeDiff, reduceCtorEq, e1, zi, g1, g2, zp, e2] at hr; subst hr; (first | refine awV ?_ ?_ | refine zM ?_ ?_ | (refine zh (fun h => ?_) (fun h => ?_) <;> (try simp only [go_sem, reduceCtorEq] at h) <;> (try (exfalso; omega))))))) <;> (try omega)
    all_goals rfl
  ·have e1 : ((i : Int) < (xs.length : Int)) = False := eq_false (by omega)
   have heq : xs = ys := by
    rw [List.take_of_length_le (by omega), List.take_of_length_le (by omega)] at hinv
    exact hinv
   rw [decide_eq_true heq]
   (repeat' (first | exact trivial | (with_reducible first | apply awA | apply awD | apply awE | apply awF | apply awH | apply awK) | ((with_reducible first | apply awn | refine awQ ?_ | refine awR ?_); intro r hr; simp only [go_sem, Nat.reduceBEq, Nat.reduceLT, e1, zp] at hr; subst hr; (first | refine awV ?_ ?_ | refine zM ?_ ?_ | (refine zh (fun h => ?_) (fun h => ?_) <;> (try simp only [go_sem, reduceCtorEq] at h) <;> (try (exfalso; omega))))))) <;> (try omega)
   all_goals rfl
 ·have e0 : ((xs.length : Int) = (ys.length : Int)) = False := eq_false (by omega)
  have hne : xs ≠ ys := fun h => hl (by rw [h])
  rw [decide_eq_false hne]
  refine zE (zb _) Tryz.func11 rfl rfl (by rw [Tryz.results11]) Tryz.ntmps11 rfl fun E => ?_
  (repeat' (first | exact trivial | (with_reducible first | apply awA | apply awD | apply awF | apply awG) | ((with_reducible first | apply awn | refine awQ ?_ | refine awR ?_); intro r hr; simp only [go_sem, Nat.reduceBEq, Nat.reduceLT, zp, e0] at hr; subst hr; (first | refine awV ?_ ?_ | refine zM ?_ ?_ | (refine zh (fun h => ?_) (fun h => ?_) <;> (try simp only [go_sem, reduceCtorEq] at h) <;> (try (exfalso; omega))))))) <;> (try omega)
  all_goals rfl
def cP : List InsM := [⟨6, 0, 0, 0⟩, ⟨1, 1, 1, 0⟩, ⟨1, 0, 1, 0⟩, ⟨20, 0, 0, 0⟩]
def cQ : List InsM := [⟨1, -1, 2, 0⟩, ⟨1, -1, 2, 0⟩, ⟨20, 0, 0, 0⟩]
def cE : List InsM := [⟨38, 3, 0, 0⟩, ⟨33, -1, 1, 0⟩, ⟨47, 0, 1, 0⟩, ⟨20, 0, 0, 0⟩]
def JA (e : Bool) (C : List InsM) (N : List Int) : Option Int := match xc e C N with | .error j => some j | .ok _ => none
def okF (e : Bool) (C : List InsM) (N : List Int) : List Int := match xc e C N with | .error _ => [] | .ok r => vg r.1
theorem za8 : x8 false cP [0] = (0, 0) := by decide +kernel
theorem za9 : x8 false cQ [0] = (0, 0) := by decide +kernel
theorem zba : x8 true cE [0] = (0, 0) := by decide +kernel
theorem zbb : JA false cQ [0] = some 1 := by decide +kernel
theorem zbc : JA false cP [0] = none := by decide +kernel
theorem zbd : JA true cE [0] = some 1 := by decide +kernel
theorem zbr : okF false cP [0] = [0, 2, 3, 4] := by decide +kernel
theorem X7 {e : Bool} {C : List InsM} {N : List Int} {j : Int} (h : JA e C N = some j) : xc e C N = .error j := by
 unfold JA at h
 split at h
 ·injection h with h; rw [← h]; assumption
 ·cases h
theorem Xh {e : Bool} {C : List InsM} {N : List Int} {j : Int} (hc : x8 e C N = (0, 0)) (h : JA e C N = some j) : vZ e C N = (150, j) := by
 unfold vZ
 rw [hc, X7 h, if_neg (by decide)]
theorem QM {C : List InsM} (hw : ∀ a b g, yT C g a b → a < b) (hc : ∀ k, (zg C k).op ≠ 16) : YV false C [0] = -1 := by
 have hR : ∀ g a b, Rch (yT C g) a b → a < b := fun g a b h => by
  induction h with
  | one h => exact hw _ _ _ h
  | more _ h ih => exact Nat.lt_trans ih (hw _ _ _ h)
 have hno : ∀ B en, ¬ ∃ k, jV false C B en k := fun B en ⟨k, _, h⟩ => by
  rcases h with h | ⟨_, _, ⟨h, _⟩, _⟩
  ·have := hR _ _ _ h; omega
  ·exact hc _ h
 exact kB.uniq (uC false C [0]) (.inr ⟨hno _ _, rfl⟩)
theorem zbe (a b : Nat) (g : Nat → Int → Bool) (h : yT cP g a b) : a < b := by
 obtain ⟨w, h, _⟩ := h
 have h2 : (b : Int) ∈ zO cP a (zg cP a) := List.mem_of_getElem? h
 by_cases h4 : a < 4
 ·obtain rfl | rfl | rfl | rfl : a = 0 ∨ a = 1 ∨ a = 2 ∨ a = 3 := by omega
  ·have : (b : Int) ∈ [(1 : Int)] := h2
   simp at this; omega
  ·have : (b : Int) ∈ [(2 : Int)] := h2
   simp at this; omega
  ·have : (b : Int) ∈ [(3 : Int)] := h2
   simp at this; omega
  ·have : (b : Int) ∈ ([] : List Int) := h2
   simp at this
 ·have hz : zg cP a = ⟨0, 0, 0, 0⟩ := by
   unfold zg
   rw [List.getD_eq_getElem?_getD, List.getElem?_eq_none (by show 4 ≤ a; omega)]
   rfl
  rw [hz] at h2
  have : (b : Int) ∈ [(a : Int) + 1] := h2
  simp at this; omega
theorem zbs (k : Nat) : (zg cP k).op ≠ 16 := by
 by_cases h4 : k < 4
 ·obtain rfl | rfl | rfl | rfl : k = 0 ∨ k = 1 ∨ k = 2 ∨ k = 3 := by omega
  all_goals decide
 ·have hz : zg cP k = ⟨0, 0, 0, 0⟩ := by
   unfold zg
   rw [List.getD_eq_getElem?_getD, List.getElem?_eq_none (by show 4 ≤ k; omega)]
   rfl
  rw [hz]
  decide
theorem JB : vZ false cP [0] = (0, 0) := by
 have h := zbc
 obtain ⟨r, hr⟩ : ∃ r, xc false cP [0] = .ok r := by
  unfold JA at h
  cases hf : xc false cP [0] with
  | ok r => exact ⟨r, rfl⟩
  | error j => rw [hf] at h; cases h
 unfold vZ
 rw [za8, if_neg (by decide), hr, QM (fun a b g h => zbe a b g h) zbs, if_neg (by decide)]
theorem zbt : shF false cP [0] = [0, 2, 3, 4] := by
 have h := zbr
 unfold okF at h
 unfold shF
 rw [JB, if_neg (by decide)]
 exact h
theorem Zx : zQ Tryz.prog 5 [] (fun r => r = vB true) := by
 have h1 := jY false cP [0] (by decide) (by decide)
 rw [zbt, JB] at h1
 have h2 := xP false cP [0] (by decide) (by decide)
 rw [JB] at h2
 have h3 := xP false cQ [0] (by decide) (by decide)
 rw [Xh za9 zbb] at h3
 have h4 := xP true cE [0] (by decide) (by decide)
 rw [Xh zba zbd] at h4
 have hi := jE [0, 2, 3, 4] [0, 2, 3, 4] (by decide)
 rw [decide_eq_true rfl] at hi
 refine zE (zb _) Tryz.func5 rfl rfl (by rw [Tryz.results5]) Tryz.ntmps5 rfl fun E => ?_
 (repeat' (first | exact trivial | (with_reducible first | apply awA | apply awD | apply awF) | ((with_reducible first | apply awn | apply awo | refine awR ?_); intro r hr; simp only [go_sem, Nat.reduceBEq, Nat.reduceLT, Nat.reduceLeDiff, Nat.reduceAdd, Nat.reduceMul, reduceCtorEq] at hr; subst hr; (first | refine caA (fun _ => h2) rfl ?_ ?_ ?_ | refine caA (fun _ => h3) rfl ?_ ?_ ?_ | refine caA (fun _ => h4) rfl ?_ ?_ ?_ | refine caA (fun _ => hi) rfl ?_ ?_ ?_ | refine awV ?_ ?_ | refine awW ?_ ?_ | refine zM ?_ ?_)) | (refine zz [] [(21, 2)] [2] [] ?_; intro r hr; simp only [go_sem, Nat.reduceBEq, Nat.reduceLT] at hr; subst hr; refine zR (h1) rfl rfl (by first | exact .inl rfl | exact .inr rfl) ?_ (.inl rfl) ?_))) <;> (try omega)
 ·decide
 ·rfl
end
section
open Go.RowKit
theorem Wi (e : Bool) (C : List InsM) (N : List Int) (hC : C.length ≤ 1000000000) (hN : N.length ≤ 1000000000) : zQ Tryz.prog 21 [pG e C N, pG e C N] (fun r => r = vB true) := by
 unfold pG
 refine zE (zb _) Tryz.func21 rfl rfl (by rw [Tryz.results21]) Tryz.ntmps21 rfl fun E => ?_
 (repeat' (first | exact trivial | (with_reducible first | apply awA | apply awB | apply awC | apply awF) | ((with_reducible first | apply awn | refine awQ ?_); intro r hr; simp only [go_sem, Nat.reduceBEq, Nat.reduceLT, Nat.reduceLeDiff, Nat.reduceAdd, Nat.reduceMul, reduceCtorEq, zd, zp] at hr; subst hr; (first | refine awV ?_ ?_ | (refine zh (fun h => ?_) (fun h => ?_) <;> (try simp only [go_sem, reduceCtorEq] at h) <;> (try (exfalso; omega))))))) <;> (try omega)
 refine zI [2, 3, 5] [2, 3] (fun k : Nat => ⟨[(2, true, .ptr 1 2 0 0), (3, true, .ptr 1 3 0 0), (5, true, vI k)], [(2, .var [vB e, .lst 4 (zF C), .lst 1 (v8 N)]), (3, .var [vB e, .lst 4 (zF C), .lst 1 (v8 N)])]⟩) (fun k => k ≤ C.length) (fun k => C.length - k) 0 (by simp only [go_sem, Nat.reduceBEq] <;> exact rfl) (Nat.zero_le _) ?_
 intro k hk
 have hw := zy (n := (k : Int) + 1) (by omega)
 by_cases hlt : k < C.length
 ·have e1 : ((k : Int) < C.length) = True := eq_true (by omega)
  have g1 := qU hlt
  have zk : ((k : Int)).toNat = k := by omega
  (repeat' (first | exact trivial | (with_reducible first | apply awA | apply awB | apply awC | apply awF | apply awI) | (refine zA (id := 6) (t := (.node [0, 1, 2, 3, 4, 5, 6, 7, 8, 9, 10] [])) (drR [2, 3] [41, 46] []) zH (by kernel_rfl) (by kernel_rfl) (fun _ _ h => h) ?_) | (refine zB (by simp only [go_sem]; exact rfl) ?_) | (refine zD (by simp only [go_sem]; exact rfl) ?_) | refine zl ?_ | refine zq ?_ ?_ | exact zC | ((with_reducible first | apply awn | apply awp | refine awQ ?_); intro r hr; simp only [go_sem, Nat.reduceBEq, Nat.reduceLT, Nat.reduceLeDiff, Nat.reduceAdd, Nat.reduceMul, reduceCtorEq, zd, hw, e1, g1, zk] at hr; subst hr; (first | refine awV ?_ ?_ | (refine zh (fun h => ?_) (fun h => ?_) <;> (try simp only [go_sem, reduceCtorEq] at h) <;> (try (exfalso; omega))))))) <;> (try omega)
  all_goals exact ⟨k + 1, by simp only [go_sem, Nat.reduceBEq] <;> exact rfl, hlt, by omega⟩
 have e1 : ((k : Int) < C.length) = False := eq_false (by omega)
 (repeat' (first | exact trivial | (with_reducible first | apply awA | apply awB | apply awE | apply awF | apply awH | apply awK) | ((with_reducible first | apply awn | refine awQ ?_); intro r hr; simp only [go_sem, Nat.reduceBEq, Nat.reduceLT, Nat.reduceLeDiff, Nat.reduceAdd, Nat.reduceMul, zd, e1] at hr; subst hr; (first | refine awV ?_ ?_ | (refine zh (fun h => ?_) (fun h => ?_) <;> (try simp only [go_sem, reduceCtorEq] at h) <;> (try (exfalso; omega))))))) <;> (try omega)
 refine zI [2, 3, 6] [2, 3] (fun k : Nat => ⟨[(2, true, .ptr 1 2 0 0), (3, true, .ptr 1 3 0 0), (6, true, vI k)], [(2, .var [vB e, .lst 4 (zF C), .lst 1 (v8 N)]), (3, .var [vB e, .lst 4 (zF C), .lst 1 (v8 N)])]⟩) (fun k => k ≤ N.length) (fun k => N.length - k) 0 (by simp only [go_sem, Nat.reduceBEq] <;> exact rfl) (Nat.zero_le _) ?_
 clear hk hw hlt e1
 intro j hj
 have hw := zy (n := (j : Int) + 1) (by omega)
 by_cases hlt : j < N.length
 ·have e1 : ((j : Int) < N.length) = True := eq_true (by omega)
  have g1 := xb hlt
  have zk : ((j : Int)).toNat = j := by omega
  (repeat' (first | exact trivial | (with_reducible first | apply awA | apply awB | apply awC | apply awF | apply awI) | (refine zA (id := 11) (t := (.node [0, 1, 2, 3, 4, 5, 6, 7, 8, 9, 10] [])) (drR [2, 3] [59, 64] []) zH (by kernel_rfl) (by kernel_rfl) (fun _ _ h => h) ?_) | (refine zB (by simp only [go_sem]; exact rfl) ?_) | (refine zD (by simp only [go_sem]; exact rfl) ?_) | refine zl ?_ | refine zq ?_ ?_ | exact zC | ((with_reducible first | apply awn | apply awp | refine awQ ?_); intro r hr; simp only [go_sem, Nat.reduceBEq, Nat.reduceLT, Nat.reduceLeDiff, Nat.reduceAdd, Nat.reduceMul, reduceCtorEq, zp, hw, e1, g1, zk] at hr; subst hr; (first | refine awV ?_ ?_ | (refine zh (fun h => ?_) (fun h => ?_) <;> (try simp only [go_sem, reduceCtorEq] at h) <;> (try (exfalso; omega))))))) <;> (try omega)
  all_goals exact ⟨j + 1, by simp only [go_sem, Nat.reduceBEq] <;> exact rfl, hlt, by omega⟩
 ·have e1 : ((j : Int) < N.length) = False := eq_false (by omega)
  (repeat' (first | exact trivial | (with_reducible first | apply awA | apply awD | apply awE | apply awF | apply awH | apply awK) | ((with_reducible first | apply awn | refine awQ ?_ | refine awR ?_); intro r hr; simp only [go_sem, Nat.reduceBEq, Nat.reduceLT, Nat.reduceLeDiff, Nat.reduceAdd, Nat.reduceMul, zp, e1] at hr; subst hr; (first | refine awV ?_ ?_ | refine zM ?_ ?_ | (refine zh (fun h => ?_) (fun h => ?_) <;> (try simp only [go_sem, reduceCtorEq] at h) <;> (try (exfalso; omega))))))) <;> (try omega)
  all_goals exact rfl
def ZI (C : List InsM) : List (List AV) := zF C ++ [jQ ⟨-901, 0, 0, 0⟩]
def Ug (N : List Int) : List (List AV) := v8 N ++ [[vI (-902)]]
theorem xJ (C : List InsM) : (ZI C).length = C.length + 1 := by simp [ZI, zd]
theorem xK (N : List Int) : (Ug N).length = N.length + 1 := by simp [Ug, zp]
theorem uq (C : List InsM) : (ZI C).take C.length = zF C := by rw [ZI, List.take_append_of_le_length (by rw [zd]; omega), List.take_of_length_le (by rw [zd]; omega)]
theorem qX (N : List Int) : (Ug N).take N.length = v8 N := by rw [Ug, List.take_append_of_le_length (by rw [zp]; omega), List.take_of_length_le (by rw [zp]; omega)]
theorem Q3 (C : List InsM) : (ZI C)[C.length]? = some [vI (-901), vI 0, vI 0, vI 0] := by rw [ZI, List.getElem?_append_right (by rw [zd]; omega), zd]; simp [jQ]
theorem Q4 (N : List Int) : (Ug N)[N.length]? = some [vI (-902)] := by rw [Ug, List.getElem?_append_right (by rw [zp]; omega), zp]; simp
theorem YM (e : Bool) (C : List InsM) (N : List Int) (hC : C.length ≤ 100000000) (hN : N.length ≤ 100000000) :
  yb Tryz.prog 7 [pG e C N] [] (.agg [vB e, .rfx 27 4 7 0 C.length 1, .rfx 3 1 13 0 N.length 1]) [(7, .row 27 4 (ZI C)), (13, .row 3 1 (Ug N))] := by
 have tC : List.take C.length (zF C) = zF C := List.take_of_length_le (by rw [zd]; omega)
 have tN : List.take N.length (v8 N) = v8 N := List.take_of_length_le (by rw [zp]; omega)
 have rC : zF C ++ [[vI (-901), vI 0, vI 0, vI 0]] = ZI C := rfl
 have rN : v8 N ++ [[vI (-902)]] = Ug N := rfl
 have z1 : ((C.length : Int)).toNat = C.length := by omega
 have z2 : ((N.length : Int)).toNat = N.length := by omega
 have s1 : C.length + 1 - C.length = 1 := by omega
 have s2 : N.length + 1 - N.length = 1 := by omega
 unfold pG
 refine zJ (zb _) Tryz.func7 rfl rfl (by rw [Tryz.results7]) Tryz.ntmps7 rfl fun E => ?_
 (repeat' (first | exact trivial | (with_reducible first | apply awA | apply awD | apply awF) | (refine zA (id := 3) (t := (.node [0, 1, 2, 3, 4, 5, 6, 7, 8, 9, 10, 11, 12, 13] [])) (drR [1] [] []) zH (by kernel_rfl) (by kernel_rfl) (fun _ _ h => h) ?_) | (refine zB (by simp only [go_sem]; exact rfl) ?_) | (refine zD (by simp only [go_sem]; exact rfl) ?_) | refine zl ?_ | refine zq ?_ ?_ | exact zC | ((with_reducible first | refine awN (zb _) [1000010, 1000015] ?_ | refine awP (zb _) [1000010, 1000015] ?_ | refine awT ?_); intro r hr; simp only [go_sem, Nat.reduceBEq, Nat.reduceLT, Nat.reduceLeDiff, Nat.reduceAdd, Nat.reduceMul, Nat.reduceEqDiff, zd, zp, tC, tN, rC, rN, xJ, xK, z1, z2, s1, s2, Nat.sub_zero, Nat.zero_add, Nat.add_zero, Int.toNat_zero, List.drop_zero] at hr; subst hr; (first | refine awV ?_ ?_ | refine zP ?_ ?_ ?_)))) <;> (try omega)
 all_goals first | omega | skip
 all_goals first | exact AV.up_rfl _ | (repeat first | exact zo | refine zn rfl ?_) | trace_state
theorem zaH (e : Bool) (C : List InsM) (N : List Int) (hC : C.length ≤ 100000000) (hN : N.length ≤ 100000000) :
  yb Tryz.prog 13 [.agg [vB e, .rfx 27 4 10001 0 C.length 1, .rfx 3 1 10002 0 N.length 1], pG e C N] [(10001, .row 27 4 (ZI C)), (10002, .row 3 1 (Ug N))] (vB true) [(10001, .row 27 4 (ZI C)), (10002, .row 3 1 (Ug N))] := by
 have hE := Wi e C N (by omega) (by omega)
 have w1 := zy (n := (C.length : Int) + 1) (by omega)
 have w2 := zy (n := (N.length : Int) + 1) (by omega)
 have z1 : ((C.length : Int)).toNat = C.length := by omega
 have z2 : ((N.length : Int)).toNat = N.length := by omega
 have z3 : ((C.length : Int) + 1).toNat = C.length + 1 := by omega
 have z4 : ((N.length : Int) + 1).toNat = N.length + 1 := by omega
 have t1 := uq C
 have t2 := qX N
 have g1 := Q3 C
 have g2 := Q4 N
 unfold pG at *
 refine zJ (zb _) Tryz.func13 rfl rfl (by rw [Tryz.results13]) Tryz.ntmps13 rfl fun E => ?_
 (repeat' (first | exact trivial | (with_reducible first | apply awA | apply awD | apply awF) | (refine zA (id := 1) (t := (.node [0, 1, 2, 3, 4, 5, 6, 7, 8, 9, 10, 11, 12, 13, 14, 15, 16, 17, 18, 19, 20, 21, 22, 23, 24, 25, 26, 27, 28, 29, 30, 31, 32, 33, 34] [])) (drR [2, 3] [21, 36] []) zH (by kernel_rfl) (by kernel_rfl) (fun _ _ h => h) ?_) | (refine zB (by simp only [go_sem]; exact rfl) ?_) | (refine zD (by simp only [go_sem]; exact rfl) ?_) | refine zl ?_ | refine zq ?_ ?_ | exact zC | ((with_reducible first | apply awn | apply awp | refine awT ?_); intro r hr; simp only [go_sem, Nat.reduceBEq, Nat.reduceLT, Nat.reduceLeDiff, Nat.reduceAdd, Nat.reduceMul, reduceCtorEq, zd, zp, w1, w2, z1, z2, z3, z4, g1, g2, xJ, xK, List.drop_zero, Nat.zero_add, Nat.sub_zero, Int.toNat_zero, Int.reduceLE] at hr; subst hr; (first | refine awV ?_ ?_ | refine awW ?_ ?_ | refine zP ?_ ?_ ?_)) | (refine wO (by simp only [t1, t2, List.drop_zero, go_sem, Nat.reduceBEq, Nat.reduceLT]; exact rfl) ?_ (fun _ => hE) rfl ?_))) <;> (try omega)
 all_goals first | (rw [xJ, xK]; omega) | omega | skip
 all_goals first | exact AV.up_rfl _ | (repeat first | exact zo | refine zn rfl ?_) | trace_state
end
section
open Go.RowKit
theorem ZJ (e : Bool) (C : List InsM) (N : List Int) : (shF e C N).length ≤ C.length := by
 by_cases hv : (vZ e C N).1 = 0
 ·exact Nat.le_of_eq (Jj hv).len
 ·unfold shF
  rw [if_pos hv]
  exact Nat.zero_le _
theorem Uh (l : List Int) : ∀ cs ∈ v8 l, ∀ u ∈ cs, ∃ x, u = .v x := fun cs hcs u hu => by
 simp only [v8, List.mem_map] at hcs
 obtain ⟨z, _, rfl⟩ := hcs
 exact ⟨_, List.mem_singleton.1 hu⟩
theorem JM (l : List Int) : ∀ cs ∈ Ug l, ∀ u ∈ cs, ∃ x, u = .v x := fun cs hcs u hu => by
 rcases List.mem_append.1 hcs with h | h
 ·exact Uh l cs h u hu
 ·rw [List.mem_singleton] at h
  subst h
  exact ⟨_, List.mem_singleton.1 hu⟩
theorem JN (C : List InsM) : ∀ cs ∈ ZI C, ∀ u ∈ cs, ∃ x, u = .v x := fun cs hcs u hu => by
 have key : ∀ x : InsM, cs = jQ x → ∃ y, u = .v y := fun x hx => by
  subst hx
  simp only [jQ, List.mem_cons, List.not_mem_nil, or_false] at hu
  rcases hu with h | h | h | h <;> exact ⟨_, h⟩
 rcases List.mem_append.1 hcs with h | h
 ·obtain ⟨x, _, hx⟩ := List.mem_map.1 h
  exact key x hx.symm
 ·exact key _ (List.mem_singleton.1 h)
theorem ZK (e : Bool) (C : List InsM) (N : List Int) (hC : C.length ≤ 100000000) (hN : N.length ≤ 100000000) : zQ Tryz.prog 6 [pG e C N] (fun r => r = vB true) := by
 have key : yb Tryz.prog 6 [pG e C N] [] (vB true) [] := by
  have hL := YM e C N hC hN
  have hV := xP e C N (by omega) (by omega)
  have hS := jY e C N (by omega) (by omega)
  have hR := QZ e C N (by omega) (by omega)
  have hK := zaH e C N hC hN
  have hl := ZJ e C N
  generalize vZ e C N = f at hV hS hR
  generalize shF e C N = S at hS hR hl
  have hI := jE S S (by omega)
  rw [decide_eq_true rfl] at hI
  obtain ⟨f1, f2⟩ := f
  have t1 := uq C
  have t2 := qX N
  have t3 : (v8 S).take S.length = v8 S := List.take_of_length_le (by rw [zp]; exact Nat.le_refl _)
  unfold pG at *
  refine zJ (zb _) Tryz.func6 rfl rfl (by rw [Tryz.results6]) Tryz.ntmps6 rfl fun E => ?_
  (repeat' (first | exact trivial | (with_reducible first | apply awA | apply awD | apply awF) | ((with_reducible first | apply awn | apply awo | refine awT ?_); intro r hr; simp only [go_sem, Nat.reduceBEq, Nat.reduceLT, Nat.reduceLeDiff, Nat.reduceAdd, Nat.reduceMul, reduceCtorEq, zp, xJ, xK, List.drop_zero] at hr; subst hr; (first | refine caA (fun _ => hV) rfl ?_ ?_ ?_ | refine caC (hR) rfl ?_ ?_ ?_ | refine caA (fun _ => hI) rfl ?_ ?_ ?_ | refine awV ?_ ?_ | refine awW ?_ ?_ | refine zP ?_ ?_ ?_)) | (refine zz [] [(7, 8001), (13, 8002)] [8001, 8002] [] ?_; intro r hr; simp only [go_sem, Nat.reduceBEq, Nat.reduceLT, zp, xJ, xK, List.drop_zero] at hr; subst hr; refine zR (hL) rfl rfl (by first | exact .inl rfl | exact .inr rfl) ?_ (.inl rfl) ?_) | (refine wO (by simp only [t1, t2, t3, List.drop_zero, go_sem, Nat.reduceBEq, Nat.reduceLT]; exact rfl) ?_ (fun _ => hV) rfl ?_) | (refine wz [] [(21, 8003)] [8003] [] (by simp only [t1, t2, t3, List.drop_zero, go_sem, Nat.reduceBEq, Nat.reduceLT]; exact rfl) ?_ rfl rfl (.inr rfl) rfl hS (.inr ⟨rfl, ?_⟩) ?_) | (refine wO (by simp only [t1, t2, t3, List.drop_zero, go_sem, Nat.reduceBEq, Nat.reduceLT]; exact rfl) ?_ (fun _ => hI) rfl ?_) | (refine zz [(8001, 10001), (8002, 10002)] [(10001, 8001), (10002, 8002)] [] [8001, 8002] ?_; intro r hr; simp only [go_sem, Nat.reduceBEq, Nat.reduceLT] at hr; subst hr; refine zR (hK) rfl rfl (by first | exact .inl rfl | exact .inr rfl) ?_ (.inl rfl) ?_))) <;> (try omega)
  all_goals first | (rw [xJ, xK]; omega) | exact ⟨Uh _, trivial⟩ | exact Nat.le_of_eq (zp _).symm | exact AV.up_rfl _ | exact zo
 exact key.toP trivial
end
section
open Go.RowKit
theorem JO {C : List InsM} {k : Nat} (h : k < C.length) : (ZI C)[k]? = some [vI (zg C k).op, vI (zg C k).a, vI (zg C k).b, vI (zg C k).c] := by
 rw [ZI, List.getElem?_append_left (by rw [zd]; exact h)]
 exact wE h
theorem Q5 {C : List InsM} {k : Nat} (h : k < C.length) (x : InsM) : (ZI C).set k [vI x.op, vI x.a, vI x.b, vI x.c] = ZI (C.set k x) := by
 rw [ZI, List.set_append_left _ _ (by rw [zd]; exact h), ZI]
 congr 1
 simp only [zF, List.map_set]
 rfl
theorem ky (e : Bool) (C : List InsM) (N : List Int) (hC : C.length ≤ 100000000) (hN : N.length ≤ 100000000) (at_ : Int) (x : InsM) : zQ Tryz.prog 3 [pG e C N, vI at_, WC x] (fun r => r = vB true) := by
 have key : yb Tryz.prog 3 [pG e C N, vI at_, WC x] [] (vB true) [] := by
  have hF := Zx
  have hX := ZK e C N hC hN
  by_cases h1 : C.length > 400
  ·have e1 : ((C.length : Int) > 400) = True := eq_true (by omega)
   unfold pG at *
   refine zJ (zb _) Tryz.func3 rfl rfl (by rw [Tryz.results3]) Tryz.ntmps3 rfl fun E => ?_
   (repeat' (first | exact trivial | (with_reducible first | apply awA | apply awC | apply awD | apply awF | apply awG) | ((with_reducible first | apply awn | apply awo | refine awQ ?_ | refine awT ?_); intro r hr; simp only [go_sem, Nat.reduceBEq, Nat.reduceLT, Nat.reduceLeDiff, Nat.reduceAdd, Nat.reduceMul, reduceCtorEq, zd, zp, e1] at hr; subst hr; (first | refine caA (fun _ => hF) rfl ?_ ?_ ?_ | refine awV ?_ ?_ | refine zP ?_ ?_ ?_ | (refine zh (fun h => ?_) (fun h => ?_) <;> (try simp only [go_sem, reduceCtorEq] at h) <;> (try (exfalso; omega))))))) <;> (try omega)
   all_goals first | exact AV.up_rfl _ | exact zo
  have e1 : ((C.length : Int) > 400) = False := eq_false (by omega)
  by_cases h2 : N.length > 400
  ·have e2 : ((N.length : Int) > 400) = True := eq_true (by omega)
   unfold pG at *
   refine zJ (zb _) Tryz.func3 rfl rfl (by rw [Tryz.results3]) Tryz.ntmps3 rfl fun E => ?_
   (repeat' (first | exact trivial | (with_reducible first | apply awA | apply awC | apply awD | apply awF | apply awG) | ((with_reducible first | apply awn | apply awo | refine awQ ?_ | refine awT ?_); intro r hr; simp only [go_sem, Nat.reduceBEq, Nat.reduceLT, Nat.reduceLeDiff, Nat.reduceAdd, Nat.reduceMul, reduceCtorEq, zd, zp, e1, e2] at hr; subst hr; (first | refine caA (fun _ => hF) rfl ?_ ?_ ?_ | refine awV ?_ ?_ | refine zP ?_ ?_ ?_ | (refine zh (fun h => ?_) (fun h => ?_) <;> (try simp only [go_sem, reduceCtorEq] at h) <;> (try (exfalso; omega))))))) <;> (try omega)
   all_goals first | exact AV.up_rfl _ | exact zo
  have e2 : ((N.length : Int) > 400) = False := eq_false (by omega)
  by_cases h3 : at_ < 0
  ·have e3 : (at_ < 0) = True := eq_true h3
   unfold pG at *
   refine zJ (zb _) Tryz.func3 rfl rfl (by rw [Tryz.results3]) Tryz.ntmps3 rfl fun E => ?_
   (repeat' (first | exact trivial | (with_reducible first | apply awA | apply awC | apply awD | apply awF | apply awG) | ((with_reducible first | apply awn | apply awo | refine awQ ?_ | refine awT ?_); intro r hr; simp only [go_sem, Nat.reduceBEq, Nat.reduceLT, Nat.reduceLeDiff, Nat.reduceAdd, Nat.reduceMul, reduceCtorEq, zd, zp, e1, e2, e3] at hr; subst hr; (first | refine caA (fun _ => hF) rfl ?_ ?_ ?_ | refine caA (fun _ => hX) rfl ?_ ?_ ?_ | refine awV ?_ ?_ | refine zP ?_ ?_ ?_ | (refine zh (fun h => ?_) (fun h => ?_) <;> (try simp only [go_sem, reduceCtorEq] at h) <;> (try (exfalso; omega))))))) <;> (try omega)
   all_goals first | exact AV.up_rfl _ | exact zo
  have e3 : (at_ < 0) = False := eq_false h3
  by_cases h4 : at_ ≥ C.length
  ·have e4 : (at_ ≥ (C.length : Int)) = True := eq_true h4
   unfold pG at *
   refine zJ (zb _) Tryz.func3 rfl rfl (by rw [Tryz.results3]) Tryz.ntmps3 rfl fun E => ?_
   (repeat' (first | exact trivial | (with_reducible first | apply awA | apply awC | apply awD | apply awF | apply awG) | ((with_reducible first | apply awn | apply awo | refine awQ ?_ | refine awT ?_); intro r hr; simp only [go_sem, Nat.reduceBEq, Nat.reduceLT, Nat.reduceLeDiff, Nat.reduceAdd, Nat.reduceMul, reduceCtorEq, zd, zp, e1, e2, e3, e4] at hr; subst hr; (first | refine caA (fun _ => hF) rfl ?_ ?_ ?_ | refine caA (fun _ => hX) rfl ?_ ?_ ?_ | refine awV ?_ ?_ | refine zP ?_ ?_ ?_ | (refine zh (fun h => ?_) (fun h => ?_) <;> (try simp only [go_sem, reduceCtorEq] at h) <;> (try (exfalso; omega))))))) <;> (try omega)
   all_goals first | exact AV.up_rfl _ | exact zo
  have e4 : (at_ ≥ (C.length : Int)) = False := eq_false h4
  obtain ⟨k, rfl⟩ : ∃ k : Nat, at_ = k := ⟨at_.toNat, by omega⟩
  have hk : k < C.length := by omega
  have zk : ((k : Int)).toNat = k := by omega
  have gk := JO hk
  have sk := Q5 hk x
  have hlC : (C.set k x).length = C.length := by simp
  have hL := YM e C N hC hN
  have hV := xP e C N (by omega) (by omega)
  have hS := jY e C N (by omega) (by omega)
  have hl := ZJ e (C.set k x) N
  generalize C.set k x = D at sk hlC hl
  have hL2 := YM e D N (by omega) hN
  have hV2 := xP e D N (by omega) (by omega)
  have hS2 := jY e D N (by omega) (by omega)
  have hR2 := Xo e D N (by omega) (by omega)
  generalize vZ e C N = f at hV hS
  generalize shF e C N = S at hS
  generalize vZ e D N = g at hV2 hS2 hR2
  generalize shF e D N = Z at hS2 hR2 hl
  have hI := jE Z Z (by omega)
  rw [decide_eq_true rfl] at hI
  obtain ⟨f1, f2⟩ := f
  obtain ⟨g1, g2⟩ := g
  have t1 := uq C
  have t2 := qX N
  have t4 := uq D
  rw [hlC] at t4 hL2
  have t3 : (v8 Z).take Z.length = v8 Z := List.take_of_length_le (by rw [zp]; exact Nat.le_refl _)
  unfold pG at *
  refine zJ (zb _) Tryz.func3 rfl rfl (by rw [Tryz.results3]) Tryz.ntmps3 rfl fun E => ?_
  (repeat' (first | exact trivial | (with_reducible first | apply awA | apply awC | apply awD | apply awF) | (refine zA (id := 16) (t := (.node [0, 2, 1, 3, 4, 5, 6, 7, 8, 9, 10, 11, 12, 13, 14] [])) (drR [7, 12, 10] [] []) zH (by kernel_rfl) (by kernel_rfl) (fun _ _ h => h) ?_) | (refine zB (by simp only [go_sem]; exact rfl) ?_) | (refine zD (by simp only [go_sem]; exact rfl) ?_) | refine zl ?_ | refine zq ?_ ?_ | exact zC | ((with_reducible first | apply awn | apply awo | apply awp | refine awQ ?_ | refine awT ?_); intro r hr; simp only [go_sem, Nat.reduceBEq, Nat.reduceLT, Nat.reduceLeDiff, Nat.reduceAdd, Nat.reduceMul, reduceCtorEq, zd, zp, xJ, xK, e1, e2, e3, e4, zk, gk, sk, vw, hlC, List.drop_zero, Nat.zero_add] at hr; subst hr; (first | refine caA (fun _ => hF) rfl ?_ ?_ ?_ | refine caA (fun _ => hX) rfl ?_ ?_ ?_ | refine awV ?_ ?_ | refine awW ?_ ?_ | refine zP ?_ ?_ ?_ | (refine zh (fun h => ?_) (fun h => ?_) <;> (try simp only [go_sem, reduceCtorEq] at h) <;> (try (exfalso; omega))))) | (refine zz [] [(7, 8001), (13, 8002)] [8001, 8002] [] ?_; intro r hr; simp only [go_sem, Nat.reduceBEq, Nat.reduceLT, zp, xJ, xK, hlC, List.drop_zero, Nat.zero_add] at hr; subst hr; refine zR (hL) rfl rfl (by first | exact .inl rfl | exact .inr rfl) ?_ (.inl rfl) ?_) | (refine wO (by simp only [t1, t2, List.drop_zero, go_sem, Nat.reduceBEq, Nat.reduceLT]; exact rfl) ?_ (fun _ => hV) rfl ?_) | (refine wz [] [(21, 8003)] [8003] [] (by simp only [t1, t2, List.drop_zero, go_sem, Nat.reduceBEq, Nat.reduceLT]; exact rfl) ?_ rfl rfl (.inr rfl) rfl hS (.inr ⟨rfl, ?_⟩) ?_) | (refine wz [] [(7, 8004), (13, 8005)] [8004, 8005] [] (by simp only [t4, t2, List.drop_zero, go_sem, Nat.reduceBEq, Nat.reduceLT]; exact rfl) ?_ rfl rfl (.inr rfl) rfl hL2 (.inr ⟨rfl, ?_⟩) ?_) | (refine wO (by simp only [t4, t2, List.drop_zero, go_sem, Nat.reduceBEq, Nat.reduceLT]; exact rfl) ?_ (fun _ => hV2) rfl ?_) | (refine wz [] [(21, 8006)] [8006] [] (by simp only [t4, t2, List.drop_zero, go_sem, Nat.reduceBEq, Nat.reduceLT]; exact rfl) ?_ rfl rfl (.inr rfl) rfl hS2 (.inr ⟨rfl, ?_⟩) ?_) | (refine wz [] [(50, 8007)] [8007] [] (by simp only [t4, t2, List.drop_zero, go_sem, Nat.reduceBEq, Nat.reduceLT]; exact rfl) ?_ rfl rfl (.inr rfl) rfl hR2 (.inr ⟨rfl, ?_⟩) ?_) | (refine wO (by simp only [t3, List.drop_zero, go_sem, Nat.reduceBEq, Nat.reduceLT]; exact rfl) ?_ (fun _ => hI) rfl ?_))) <;> (try omega)
  all_goals first | (rw [xJ, xK]; omega) | exact ⟨Uh _, trivial⟩ | exact ⟨JN _, JM _, trivial⟩ | exact Nat.le_of_eq (zp _).symm | exact AV.up_rfl _ | exact zo | trace_state
 exact key.toP trivial
end
section
open Go.ChangeShapes Go.WideShapes Go.ChangeAt Go.RowKit
theorem own : ownKnob Tryz.prog.godebug = none := by kernel_rfl
theorem Vp : laidOutB Tryz.prog = true := by kernel_rfl
end
section
open Go.ChangeShapes Go.WideShapes Go.ChangeAt Go.RowKit Go.Deep
theorem WA (b off j : Nat) : (⟨b, off, none⟩ : Addr).add j = ⟨b, off + j, none⟩ := by
 unfold Addr.add; by_cases h : j = 0 <;> simp [h]
section
variable {H : Type} {enc : TypeId × Value → H} {P : Program} {w : World} {base : Nat} {spare : Nat → Bool} {held : Bool}
end
end
section
open Go.RowKit
section
variable {P : Program} {w : World}
theorem zQ.row {f : Nat} {args : List AV} (h : zQ P f args (fun r => r = .v (.bool true))) (vs : Array Value) (hl : vs.size = args.length)
  (ha : ∀ (i : Nat) (x : AV) (v : Value), args[i]? = some x → vs[i]? = some v → AVR (fun b => b < w.heap.size) (fun _ => none) w x v) (hg : FOK (fun b => b < w.heap.size) w) :
  Calls P f vs w fun e w' => e = .returned (.bool true) ∧ Below w.heap.size w w' :=
 (h.2 w _ vs hg hl ha).mono fun e w' ⟨v, r, h1, h2, h3, h4⟩ => by
  subst h2
  cases h4 with
  | s h4 =>
  cases h4 with
  | v _ => exact ⟨h1, h3⟩
end
end
end Go.Proofs.YtjeplogcfedmeaaGreat
section
namespace Go.Proofs.YtjeplogcfedmeaaGreat.bulks
open Go.ChangeShapes Go.WideShapes Go.ChangeAt Go.RowKit
theorem zaq {H : Type} (d : DataW H) : 1 ≤ Rows.uptoBulk d := by
 cases d with
 | lit l => cases l <;> simp [Rows.uptoBulk]
 | nil => simp [Rows.uptoBulk]
 | ptr d => simp [Rows.uptoBulk]
 | slice elems spare => simp [Rows.uptoBulk]
 | agg parts => simp [Rows.uptoBulk]
 | iface t d => simp [Rows.uptoBulk]
 | map entries => simp [Rows.uptoBulk]
 | held h => simp [Rows.uptoBulk]
theorem part_le {H : Type} {d : DataW H} {l : List (DataW H)} (h : d ∈ l) : Rows.uptoBulk d ≤ Rows.uptoBulkAll l := by
 induction l with
 | nil => cases h
 | cons x r ih =>
  simp only [Rows.uptoBulkAll]
  cases List.mem_cons.1 h with
  | inl e => subst e; omega
  | inr e => have := ih e; omega
theorem length_le {H : Type} (l : List (DataW H)) : l.length ≤ Rows.uptoBulkAll l := by
 induction l with
 | nil => simp [Rows.uptoBulkAll]
 | cons x r ih => have := zaq x; simp only [Rows.uptoBulkAll, List.length_cons]; omega
theorem bound {H : Type} {l : List (DataW H)} (hk : Rows.uptoSmall H l = true) : Rows.uptoBulkAll l ≤ 1048576 := of_decide_eq_true hk
end Go.Proofs.YtjeplogcfedmeaaGreat.bulks
end
namespace Go.Proofs.YtjeplogcfedmeaaGreat
section
open Go.ChangeShapes Go.WideShapes Go.ChangeAt Go.RowKit Go.Deep
def VS (P : Program) : List Field → Nat → Nat → Bool
 | [], o, n => o == n
 | f :: l, o, n => (f.offset == o) && VS P l (o + P.cellsOf f.type) n
def wW (P : Program) : Nat → TypeId → Bool
 | 0, _ => false
 | n + 1, t =>
  match P.underlying t with
  | some .bool | some .string => P.cellsOf t == 1
  | some (.int _) => P.cellsOf t == 1
  | some (.slice e) => P.cellsOf t == 1 && Nat.blt 0 (P.cellsOf e) && wW P n e
  | some (.struct fs) => VS P fs.toList 0 (P.cellsOf t) && fs.toList.all fun f => wW P n f.type
  | _ => false
def y9 (P : Program) (B : Nat) : Nat → TypeId → List AV → Prop
 | 0, _, _ => False
 | n + 1, t, us =>
  match P.underlying t with
  | some .bool => ∃ b, us = [.v (.bool b)]
  | some (.int k) => ∃ z, us = [.v (.int k z)] ∧ (Lit.int k z).wf = true
  | some .string => ∃ s : ByteArray, us = [.v (.string s)] ∧ s.size ≤ B
  | some (.slice e) => ∃ xs, us = [.lst (P.cellsOf e) xs] ∧ xs.length ≤ B ∧ ∀ cs ∈ xs, cs.length = P.cellsOf e ∧ y9 P B n e cs
  | some (.struct fs) => us.length = P.cellsOf t ∧ ∀ (i : Nat) (f : Field), fs[i]? = some f → y9 P B n f.type ((us.drop f.offset).take (P.cellsOf f.type))
  | _ => False
def wJ (P : Program) (B n : Nat) (t : TypeId) (x : AV) : Prop :=
 match P.underlying t with
 | some (.struct _) => ∃ us, x = .agg us ∧ y9 P B n t us
 | _ => y9 P B n t [x]
def qb (P : Program) (B n : Nat) : List TypeId → List AV → Prop
 | [], [] => True
 | t :: ts, x :: xs => wJ P B n t x ∧ qb P B n ts xs
 | _, _ => False
theorem kT {H : Type} {elems spare : List (DataW H)} {B : Nat} (h : Rows.uptoBulk (.slice elems spare) ≤ B) : elems.length ≤ B ∧ ∀ d ∈ elems, Rows.uptoBulk d ≤ B := by
 simp only [Rows.uptoBulk] at h
 have h1 := bulks.length_le elems
 exact ⟨by omega, fun d hd => by have := bulks.part_le hd; omega⟩
theorem QO {H : Type} {parts : List (DataW H)} {B : Nat} (h : Rows.uptoBulk (.agg parts) ≤ B) : ∀ d ∈ parts, Rows.uptoBulk d ≤ B := fun d hd => by
 simp only [Rows.uptoBulk] at h
 have := bulks.part_le hd; omega
section
variable {H : Type} {enc : TypeId × Value → H} {P : Program} {w : World} {base : Nat} {spare : Nat → Bool} {held : Bool}
theorem Wa : ∀ (l : List Field) (o n : Nat), VS P l o n = true → ∀ (us : Nat → List AV), (∀ (i : Nat) (f : Field), l[i]? = some f → (us i).length = P.cellsOf f.type) →
  ∃ r : List AV, r.length = n - o ∧ o ≤ n ∧ (∀ (i : Nat) (f : Field), l[i]? = some f → o ≤ f.offset ∧ (r.drop (f.offset - o)).take (P.cellsOf f.type) = us i) ∧
   ∀ j, j < n - o → ∃ i f q, l[i]? = some f ∧ q < P.cellsOf f.type ∧ o + j = f.offset + q ∧ r[j]? = (us i)[q]? := by
 intro l
 induction l with
 | nil =>
  intro o n h us _
  simp only [VS, beq_iff_eq] at h
  subst h
  exact ⟨[], by simp, Nat.le_refl _, fun i f h => by simp at h, fun j hj => by omega⟩
 | cons g l ih =>
  intro o n h us hus
  simp only [VS, Bool.and_eq_true, beq_iff_eq] at h
  obtain ⟨rfl, h⟩ := h
  obtain ⟨r, h1, h2, h3, h4⟩ := ih _ _ h (fun i => us (i + 1)) fun i f hf => hus (i + 1) f (by simpa using hf)
  have hl0 := hus 0 g rfl
  refine ⟨us 0 ++ r, by rw [List.length_append]; omega, by omega, fun i f hf => ?_, fun j hj => ?_⟩
  ·cases i with
   | zero =>
    simp only [List.getElem?_cons_zero, Option.some.injEq] at hf
    subst hf
    refine ⟨Nat.le_refl _, ?_⟩
    rw [Nat.sub_self, List.drop_zero, ← hl0, List.take_left]
   | succ i =>
    obtain ⟨g1, g2⟩ := h3 i f (by simpa using hf)
    refine ⟨by omega, ?_⟩
    rw [show f.offset - g.offset = (us 0).length + (f.offset - (g.offset + P.cellsOf g.type)) by omega, List.drop_append, List.drop_of_length_le (by omega), List.nil_append]
    rw [show (us 0).length + (f.offset - (g.offset + P.cellsOf g.type)) - (us 0).length = f.offset - (g.offset + P.cellsOf g.type) by omega]
    exact g2
  ·rcases Nat.lt_or_ge j (us 0).length with hlt | hge
   ·exact ⟨0, g, j, rfl, by omega, rfl, by rw [List.getElem?_append_left hlt]⟩
   ·obtain ⟨i, f, q, g1, g2, g3, g4⟩ := h4 (j - (us 0).length) (by omega)
    exact ⟨i + 1, f, q, by simpa using g1, g2, by omega, by rw [List.getElem?_append_right hge]; exact g4⟩
theorem QP (B : Nat) : ∀ (n : Nat) (t : TypeId), wW P n t = true → ∀ (fuel : Nat) (cs : List Value) (x : DataW H × List MemPlace), DataW.trod enc P w base spare held fuel t cs = some x → (Rows.uptoBulk x.1 ≤ B ∨ maxLen ≤ B) →
  ∃ us : List AV, us.length = cs.length ∧ cs.length = P.cellsOf t ∧ (∀ (j : Nat) (u : AV) (v : Value), us[j]? = some u → cs[j]? = some v → SVR (fun b => b < w.heap.size) w u v) ∧ y9 P B n t us := by
 intro n
 induction n with
 | zero => intro t h; cases h
 | succ n ih =>
  intro t hp fuel cs x h hB
  have one : ∀ (u : AV) (v : Value), SVR (fun b => b < w.heap.size) w u v → ∀ (j : Nat) (u' : AV) (v' : Value), [u][j]? = some u' → [v][j]? = some v' → SVR (fun b => b < w.heap.size) w u' v' := fun u v hs j u' v' h1 h2 => by
   cases j with
   | zero => simp only [List.getElem?_cons_zero, Option.some.injEq] at h1 h2; subst h1; subst h2; exact hs
   | succ j => simp at h1
  unfold wW at hp
  split at hp
  ·rename_i ht
   obtain ⟨b, rfl, rfl⟩ := DataW.trod_bool ht h
   simp only [beq_iff_eq] at hp
   exact ⟨[.v (.bool b)], rfl, hp.symm, one _ _ (.v rfl), by unfold y9; rw [ht]; exact ⟨b, rfl⟩⟩
  ·rename_i ht
   obtain ⟨s, rfl, rfl, hs⟩ := DataW.trod_string ht h
   simp only [beq_iff_eq] at hp
   have hsB : s.size ≤ B := by
    rcases hB with hB | hB
    ·simp only [Rows.uptoBulk] at hB
     have h1 : s.data.toList.length = s.size := by rw [Array.length_toList]; rfl
     omega
    ·exact Nat.le_trans hs hB
   refine ⟨[.v (.string s)], rfl, hp.symm, one _ _ (.v rfl), ?_⟩
   unfold y9
   rw [ht]
   exact ⟨s, rfl, hsB⟩
  ·rename_i k ht
   obtain ⟨z, rfl, rfl, hz⟩ := DataW.trod_int ht h
   simp only [beq_iff_eq] at hp
   exact ⟨[.v (.int k z)], rfl, hp.symm, one _ _ (.v rfl), by unfold y9; rw [ht]; exact ⟨z, rfl, hz⟩⟩
  ·rename_i e ht
   simp only [Bool.and_eq_true, beq_iff_eq] at hp
   obtain ⟨⟨hp1, hp2⟩, hp3⟩ := hp
   have hk0 : 0 < P.cellsOf e := Nat.le_of_ble_eq_true hp2
   rcases open_slice ht h with ⟨h0, _⟩ | ⟨a, len, cap, m, f', D, Pl, rfl, hb, hl, hm, hmm, hx0, hx⟩
   ·subst h0
    refine ⟨[.lst (P.cellsOf e) []], rfl, hp1.symm, one _ _ (.lst (fun _ _ => .nilFunc) rfl (Nat.le_refl _) (by decide) (fun cs h => by cases h) (fun h => absurd h (Nat.lt_irrefl _)) (fun i j hi => absurd hi (Nat.not_lt_zero _)) (fun i j cs u h => by simp at h)), ?_⟩
    unfold y9
    rw [ht]
    exact ⟨[], rfl, Nat.zero_le _, fun cs h => by cases h⟩
   ·have hlm : len ≤ m := by rw [hmm]; split <;> omega
    have hBe : ∀ i, i < len → Rows.uptoBulk (D i) ≤ B ∨ maxLen ≤ B := fun i hi => by
     rcases hB with hB | hB
     ·rw [hx0] at hB
      exact .inl ((kT hB).2 _ (List.mem_map.2 ⟨i, List.mem_range.2 hi, rfl⟩))
     ·exact .inr hB
    have hBl : len ≤ B := by
     rcases hB with hB | hB
     ·rw [hx0] at hB
      have := (kT hB).1
      simpa using this
     ·omega
    obtain ⟨f, hf⟩ := choose_lt (n := len) (p := fun i (y : List AV × List Value) => w.cells? base (a.add (i * P.cellsOf e)) (P.cellsOf e) = some y.2 ∧ y.1.length = y.2.length ∧ y.2.length = P.cellsOf e ∧
      (∀ (j : Nat) (u : AV) (v : Value), y.1[j]? = some u → y.2[j]? = some v → SVR (fun b => b < w.heap.size) w u v) ∧ y9 P B n e y.1) (fun i hi => by
     obtain ⟨cs', h1, h2⟩ := hx i (by omega)
     obtain ⟨us, g1, g2, g3, g4⟩ := ih e hp3 _ _ _ h2 (hBe i hi)
     exact ⟨(us, cs'), h1, g1, g2, g3, g4⟩)
    refine ⟨[.lst (P.cellsOf e) ((List.range len).map fun i => (f i).1)], rfl, hp1.symm, one _ _ ?_, ?_⟩
    ·refine .lst (fun i j => ((f i).2[j]?).getD undef) (by simp) hl hm (fun cs hcs => ?_) (fun hn => ?_) (fun i j hi hj => ?_) (fun i j cs u hc hu => ?_)
     ·obtain ⟨i, hi, rfl⟩ := List.mem_map.1 hcs
      have := hf i (List.mem_range.1 hi)
      omega
     ·have hcell : ∀ i j, i < len → j < P.cellsOf e → w.cell? ((a.add (i * P.cellsOf e)).add j) = (f i).2[j]? := fun i j hi hj => (World.cells?_some (hf i hi).1).2.2 j hj
      obtain ⟨b, off, spot⟩ := a
      have h00 := hcell 0 0 hn hk0
      rw [Nat.zero_mul] at h00
      have hz : ((⟨b, off, spot⟩ : Addr).add 0).add 0 = ⟨b, off, spot⟩ := by simp [Addr.add]
      rw [hz, List.getElem?_eq_getElem (by have := hf 0 hn; omega)] at h00
      have hspot : spot = none := World.cell?_spot h00
      subst hspot
      refine ⟨b, off, rfl, World.block_lt_of_cell? w _ h00, fun i j hi hj => ?_⟩
      have h5 := hcell i j hi hj
      rw [add_add, WA] at h5
      rw [h5, List.getElem?_eq_getElem (by have := hf i hi; omega)]
      rfl
     ·have h5 := hf i hi
      have hj1 : j < (f i).1.length := by omega
      have hj2 : j < (f i).2.length := by omega
      rw [List.getElem?_eq_getElem hj2, Option.getD_some]
      exact (h5.2.2.2.1 j _ _ (List.getElem?_eq_getElem hj1) (List.getElem?_eq_getElem hj2)).one
     ·rw [List.getElem?_map] at hc
      rcases Nat.lt_or_ge i len with hi | hi
      ·rw [List.getElem?_range hi] at hc
       simp only [Option.map_some, Option.some.injEq] at hc
       subst hc
       have h5 := hf i hi
       have hj1 : j < (f i).1.length := zG hu
       have hj2 : j < (f i).2.length := by omega
       rw [List.getElem?_eq_getElem hj2, Option.getD_some]
       exact h5.2.2.2.1 j _ _ hu (List.getElem?_eq_getElem hj2)
      ·rw [List.getElem?_eq_none (by simpa using hi)] at hc; cases hc
    ·unfold y9
     rw [ht]
     refine ⟨_, rfl, by simpa using hBl, fun cs hcs => ?_⟩
     obtain ⟨i, hi, rfl⟩ := List.mem_map.1 hcs
     have := hf i (List.mem_range.1 hi)
     exact ⟨by omega, this.2.2.2.2⟩
  ·rename_i fs ht
   simp only [Bool.and_eq_true, List.all_eq_true] at hp
   obtain ⟨hp1, hp2⟩ := hp
   obtain ⟨xs, n', rfl, hx0, hlen, hxl, hf⟩ := DataW.trod_struct ht h
   have hBe : ∀ (i : Nat) (y : DataW H × List MemPlace), xs[i]? = some y → Rows.uptoBulk y.1 ≤ B ∨ maxLen ≤ B := fun i y hy => by
    rcases hB with hB | hB
    ·rw [hx0] at hB
     exact .inl (QO hB _ (List.mem_map.2 ⟨y, List.mem_of_getElem? hy, rfl⟩))
    ·exact .inr hB
   obtain ⟨us, hus⟩ := choose_lt (n := fs.size) (p := fun i (u : List AV) => ∀ f, fs[i]? = some f → u.length = P.cellsOf f.type ∧ ((cs.drop f.offset).take (P.cellsOf f.type)).length = P.cellsOf f.type ∧
     (∀ (j : Nat) (a : AV) (v : Value), u[j]? = some a → ((cs.drop f.offset).take (P.cellsOf f.type))[j]? = some v → SVR (fun b => b < w.heap.size) w a v) ∧ y9 P B n f.type u) (fun i hi => by
    have hix : i < xs.length := by omega
    have hfi := hf i fs[i] (Array.getElem?_eq_getElem hi)
    rw [List.getElem?_eq_getElem hix] at hfi
    obtain ⟨u, g1, g2, g3, g4⟩ := ih (fs[i]).type (hp2 _ (by simp)) _ _ _ hfi (hBe i _ (List.getElem?_eq_getElem hix))
    refine ⟨u, fun f hf' => ?_⟩
    rw [Array.getElem?_eq_getElem hi] at hf'
    injection hf' with hf'
    subst hf'
    exact ⟨by omega, g2, g3, g4⟩)
   have lt_of : ∀ (i : Nat) (f : Field), fs[i]? = some f → i < fs.size := fun i f h => by
    rcases Nat.lt_or_ge i fs.size with h' | h'
    ·exact h'
    ·rw [Array.getElem?_eq_none h'] at h; cases h
   obtain ⟨r, r1, r2, r3, r4⟩ := Wa fs.toList 0 (P.cellsOf t) hp1 us fun i f hf' => by
    have hf'' : fs[i]? = some f := by simpa using hf'
    exact (hus i (lt_of i f hf'') f hf'').1
   refine ⟨r, by omega, hlen, fun j u v hu hv => ?_, ?_⟩
   ·obtain ⟨i, f, q, g1, g2, g3, g4⟩ := r4 j (by have := zG hu; omega)
    have g1' : fs[i]? = some f := by simpa using g1
    rw [hu] at g4
    refine (hus i (lt_of i f g1') f g1').2.2.1 q u v g4.symm ?_
    rw [List.getElem?_take_of_lt g2, List.getElem?_drop, ← g3, Nat.zero_add]
    exact hv
   ·unfold y9
    rw [ht]
    refine ⟨by omega, fun i f hf' => ?_⟩
    have := (r3 i f (by simpa using hf')).2
    rw [Nat.sub_zero] at this
    rw [this]
    exact (hus i (lt_of i f hf') f hf').2.2.2
  ·cases hp
theorem QQ {B n : Nat} {t : TypeId} (hp : wW P n t = true) {v : Value} {d : DataW H} {p : List MemPlace} (h : DataW.Trod enc P w base spare held t v d p) {r : Reach} {b0 : Nat} (ho : Value.okWide P w r b0 t v) (hB : Rows.uptoBulk d ≤ B ∨ maxLen ≤ B) :
  ∃ x, AVR (fun b => b < w.heap.size) (fun _ => none) w x v ∧ wJ P B n t x := by
 obtain ⟨fuel, hf⟩ := h
 obtain ⟨us, h1, h2, h3, h4⟩ := QP B n t hp fuel _ _ hf hB
 have leaf : v.cells = #[v] → (∀ fs, P.underlying t ≠ some (.struct fs)) → ∃ x, AVR (fun b => b < w.heap.size) (fun _ => none) w x v ∧ wJ P B n t x := fun hv hns => by
  rw [hv] at h1 h3
  obtain ⟨u, rfl⟩ := List.length_eq_one_iff.1 (show us.length = 1 by simpa using h1)
  refine ⟨u, .s (h3 0 u v rfl rfl), ?_⟩
  unfold wJ
  split
  ·rename_i fs ht; exact absurd ht (hns fs)
  ·exact h4
 have hp' := hp
 cases n with
 | zero => cases hp
 | succ n =>
 unfold wW at hp'
 split at hp'
 ·rename_i ht
  obtain ⟨b, rfl⟩ := okWide_bool ht ho
  exact leaf rfl fun fs h => by rw [ht] at h; cases h
 ·rename_i ht
  obtain ⟨b, rfl⟩ := okWide_string ht ho
  exact leaf rfl fun fs h => by rw [ht] at h; cases h
 ·rename_i k ht
  obtain ⟨b, rfl⟩ := okWide_int ht ho
  exact leaf rfl fun fs h => by rw [ht] at h; cases h
 ·rename_i e ht
  obtain ⟨a, l, c, rfl⟩ := okWide_slice ht ho
  exact leaf rfl fun fs h => by rw [ht] at h; cases h
 ·rename_i fs ht
  obtain ⟨cs, rfl, hcs⟩ := okWide_struct ht ho
  have hc : (Value.agg cs).cells = cs := rfl
  rw [hc] at h1 h3
  refine ⟨.agg us, .agg (by simpa using h1.symm) (fun i u hu => ?_) (fun i c u hc hu => .s (h3 i c u hc (by simpa using hu))), ?_⟩
  ·have hi : i < us.length := by
    rw [h1]
    have := zG (l := cs.toList) (i := i) (x := u) (by simpa using hu)
    exact this
   exact (h3 i _ u (List.getElem?_eq_getElem hi) (by simpa using hu)).one
  ·unfold wJ
   rw [ht]
   exact ⟨us, rfl, h4⟩
 ·cases hp'
theorem VT {B n : Nat} {r : Reach} {b0 : Nat} : ∀ (ts : List TypeId) (vs : List Value) (ds : List (DataW H)) (p : List MemPlace), DataW.TrodAll enc P w base spare held ts vs ds p → (∀ t ∈ ts, wW P n t = true) →
  (∀ (j : Nat) t v, ts[j]? = some t → vs[j]? = some v → Value.okWide P w r b0 t v) → (Rows.uptoBulkAll ds ≤ B ∨ maxLen ≤ B) →
  ds.length = ts.length ∧ vs.length = ts.length ∧ ∃ as' : List AV, as'.length = vs.length ∧ (∀ (i : Nat) (x : AV) (v : Value), as'[i]? = some x → vs[i]? = some v → AVR (fun b => b < w.heap.size) (fun _ => none) w x v) ∧ qb P B n ts as' := by
 intro ts
 induction ts with
 | nil =>
  intro vs ds p h _ _ _
  obtain ⟨rfl, rfl, rfl⟩ := trodAll_nil h
  exact ⟨rfl, rfl, [], rfl, fun i x v h => by simp at h, trivial⟩
 | cons t ts ih =>
  intro vs ds p h hp ho hB
  obtain ⟨v, vs', d, ds', p1, q, rfl, rfl, rfl, h1, h2⟩ := trodAll_cons h
  have hB1 : Rows.uptoBulk d ≤ B ∨ maxLen ≤ B := hB.imp (fun h => by simp only [Rows.uptoBulkAll] at h; omega) id
  have hB2 : Rows.uptoBulkAll ds' ≤ B ∨ maxLen ≤ B := hB.imp (fun h => by simp only [Rows.uptoBulkAll] at h; omega) id
  obtain ⟨x, g1, g2⟩ := QQ (hp t (.head _)) h1 (ho 0 t v rfl rfl) hB1
  obtain ⟨e1, e2, as', g3, g4, g5⟩ := ih vs' ds' q h2 (fun t ht => hp t (.tail _ ht)) (fun j t v h1 h2 => ho (j + 1) t v (by simpa using h1) (by simpa using h2)) hB2
  refine ⟨by simp [e1], by simp [e2], x :: as', by simp [g3], fun i y u hy hu => ?_, g2, g5⟩
  cases i with
  | zero => simp only [List.getElem?_cons_zero, Option.some.injEq] at hy hu; subst hy; subst hu; exact g1
  | succ i => exact g4 i y u (by simpa using hy) (by simpa using hu)
end
theorem jH {H : Type} {enc : TypeId × Value → H} {P : Program} (hl : laidOutB P = true) {W W' : World} (hb : Below W.heap.size W W') : ∀ (ts : List TypeId) (vs : List Value) (ds : List (DataW H)) (p : List MemPlace),
  (∀ t ∈ ts, P.readableRec t = true ∧ t < P.types.size) → DataW.TrodAll enc P W 0 (fun _ => true) true ts vs ds p → DataW.TrodAll enc P W' 0 (fun b => decide (b < W.heap.size)) true ts vs ds p := by
 intro ts
 induction ts with
 | nil =>
  intro vs ds p _ h
  obtain ⟨rfl, rfl, rfl⟩ := trodAll_nil h
  exact trodAll_mk0
 | cons t ts ih =>
  intro vs ds p hr h
  obtain ⟨v, vs', d, ds', p1, q, rfl, rfl, rfl, h1, h2⟩ := trodAll_cons h
  have hlt : ∀ x ∈ p1, x.block < W.heap.size := by obtain ⟨m, hm⟩ := h1; exact DataW.trod_lt m _ _ _ hm
  exact trodAll_cons_mk (Below.trod hl (hr t (.head _)).1 (hr t (.head _)).2 h1 hb hlt) (ih vs' ds' q (fun t ht => hr t (.tail _ ht)) h2)
theorem uk {P : Program} (hl : laidOutB P = true) {f : FuncId} {fn : Func} {spec : ChangeSpec} {tb B n : Nat} (hvars : spec.vars = []) (hres : fn.resultTypes = #[tb]) (htb : P.underlying tb = some .bool)
  (hfn : ∀ (H : Type) (ds : List (DataW H)), ds.length = fn.params.toList.length → spec.fn H ds = { results := [.lit (.bool true)], args := ds, vars := [] })
  (hplain : (fn.params.toList.all fun t => wW P n t && P.readableRec t && decide (t < P.types.size)) = true)
  (walk : ∀ as', qb P B n fn.params.toList as' → zQ P f as' (fun r => r = .v (.bool true)))
  (H : Type) (enc : TypeId × Value → H) (W : World) (base : Nat) (args : Array Value) (ds gs : List (DataW H)) (before : List MemPlace)
  (hval : ∀ (j : Nat) t v, fn.params[j]? = some t → args[j]? = some v → Value.okWide P W .any base t v)
  (hW : DataW.Whole enc P fn.params.toList spec.vars false W args.toList ds gs before) (hk : Rows.uptoBulkAll (ds ++ gs) ≤ B ∨ maxLen ≤ B) (hF : FOK (fun b => b < W.heap.size) W) :
  Calls P f args W fun e W' => ∃ v, e = .returned v ∧ spec.post enc P fn false true false false W args v W' := by
 have hW' := hW
 obtain ⟨p, q, hA, hV, rfl, hfz, hnd⟩ := hW
 rw [hvars] at hV
 obtain ⟨rfl, rfl⟩ := trodVars_none hV
 rw [List.append_nil] at hk
 simp only [List.all_eq_true, Bool.and_eq_true, decide_eq_true_eq] at hplain
 obtain ⟨e1, e2, as', g1, g2, g3⟩ := VT _ _ _ _ hA (fun t ht => (hplain t ht).1.1) (fun j t v h1 h2 => hval j t v (by simpa using h1) (by simpa using h2)) hk
 refine (zQ.row (walk as' g3) args (by simpa using g1.symm) (fun i x v hx hv => g2 i x v hx (by simpa using hv)) hF).mono fun e W' ⟨he, bel⟩ => ?_
 subst he
 have hs : spec.fn H (ds ++ []) = { results := [.lit (.bool true)], args := ds, vars := [] } := by rw [List.append_nil]; exact hfn H ds e1
 refine ⟨_, rfl, ds, [], _, [], p, [], hW', ?_, ?_, ?_, bel.frame _, fun h => by cases h⟩
 ·rw [hs, hres]
  exact trodAll_mk1 (shut_bool htb _)
 ·rw [hs]
  exact jH hl bel _ _ _ _ (fun t ht => ⟨(hplain t ht).1.2, (hplain t ht).2⟩) hA
 ·rw [hs, hvars]; rfl
end
section
open Go.ChangeShapes Go.WideShapes Go.ChangeAt Go.RowKit
section
variable {P : Program} {B n : Nat} {t e : TypeId} {us : List AV}
theorem jd {k : IntKind} (ht : P.underlying t = some (.int k)) (h : y9 P B (n + 1) t us) : ∃ z, us = [.v (.int k z)] ∧ (Lit.int k z).wf = true := by
 unfold y9 at h; rw [ht] at h; exact h
theorem JY (ht : P.underlying t = some .bool) (h : y9 P B (n + 1) t us) : ∃ b, us = [.v (.bool b)] := by
 unfold y9 at h; rw [ht] at h; exact h
theorem jZ {ts : List TypeId} {as' : List AV} (h : qb P B n (t :: ts) as') : ∃ x xs, as' = x :: xs ∧ wJ P B n t x ∧ qb P B n ts xs := by
 cases as' with
 | nil => exact h.elim
 | cons x xs => exact ⟨x, xs, rfl, h.1, h.2⟩
theorem KN {as' : List AV} (h : qb P B n [] as') : as' = [] := by
 cases as' with
 | nil => rfl
 | cons x xs => exact h.elim
theorem Ya {fs : Array Field} {k : Nat} (ht : P.underlying t = some (.struct fs)) (hk : P.cellsOf t = k) (h : y9 P B (n + 1) t us) : us.length = k ∧ ∀ (i : Nat) (f : Field), fs[i]? = some f → y9 P B n f.type ((us.drop f.offset).take (P.cellsOf f.type)) := by
 unfold y9 at h; rw [ht, hk] at h; exact h
theorem UP {fs : Array Field} {x : AV} (ht : P.underlying t = some (.struct fs)) (h : wJ P B n t x) : ∃ us, x = .agg us ∧ y9 P B n t us := by
 unfold wJ at h; rw [ht] at h; exact h
theorem JZ {α : Type} {xs : List (List AV)} {enc : α → List AV} {p : α → Prop} (h : ∀ cs ∈ xs, ∃ a, cs = enc a ∧ p a) : ∃ l : List α, xs = l.map enc ∧ ∀ a ∈ l, p a := by
 induction xs with
 | nil => exact ⟨[], rfl, fun a h => by cases h⟩
 | cons x xs ih =>
  obtain ⟨a, rfl, ha⟩ := h x (.head _)
  obtain ⟨l, rfl, hl⟩ := ih fun cs hcs => h cs (.tail _ hcs)
  exact ⟨a :: l, rfl, fun b hb => by rcases List.mem_cons.1 hb with rfl | hb; (· exact ha); exact hl b hb⟩
theorem XH {α : Type} {enc : α → List AV} {p : α → Prop} {k : Nat} (ht : P.underlying t = some (.slice e)) (hk : P.cellsOf e = k) (h : y9 P B (n + 1) t us) (he : ∀ cs, y9 P B n e cs → ∃ a, cs = enc a ∧ p a) :
  ∃ l : List α, us = [.lst k (l.map enc)] ∧ l.length ≤ B ∧ ∀ a ∈ l, p a := by
 unfold y9 at h
 rw [ht] at h
 obtain ⟨xs, rfl, h1, h2⟩ := h
 obtain ⟨l, rfl, h3⟩ := JZ (enc := enc) (p := p) fun cs hcs => he cs (h2 cs hcs).2
 exact ⟨l, by rw [hk], by simpa using h1, h3⟩
theorem J0 {k : IntKind} (ht : P.underlying t = some (.slice e)) (he : P.underlying e = some (.int k)) (hk : P.cellsOf e = 1) (h : y9 P B (n + 2) t us) :
  ∃ l : List Int, us = [.lst 1 (l.map fun z => [.v (.int k z)])] ∧ l.length ≤ B ∧ ∀ z ∈ l, (Lit.int k z).wf = true :=
 XH ht hk h fun cs hcs => by obtain ⟨z, h1, h2⟩ := jd he hcs; exact ⟨z, h1, h2⟩
end
theorem Wz {P : Program} {B n : Nat} {t : TypeId} {x : AV} {k : IntKind} (ht : P.underlying t = some (.int k)) (h : wJ P B (n + 1) t x) : ∃ z, x = .v (.int k z) ∧ (Lit.int k z).wf = true := by
 unfold wJ at h
 rw [ht] at h
 obtain ⟨z, h1, h2⟩ := jd ht h
 injection h1 with h1
 exact ⟨z, h1, h2⟩
end
section
open Go.ChangeShapes Go.WideShapes Go.ChangeAt Go.RowKit
theorem KO : (Tryz.prog).cellsOf 3 = 1 := by kernel_rfl
theorem J1 : (Tryz.prog).cellsOf 4 = 1 := by kernel_rfl
theorem KP : (Tryz.prog).cellsOf 27 = 4 := by kernel_rfl
theorem J2 : (Tryz.prog).cellsOf 22 = 1 := by kernel_rfl
theorem J3 : (Tryz.prog).cellsOf 23 = 1 := by kernel_rfl
theorem J4 : (Tryz.prog).cellsOf 25 = 3 := by kernel_rfl
theorem KQ {B n : Nat} {us : List AV} (h : y9 Tryz.prog B (n + 2) 27 us) : ∃ x : InsM, us = JG x ∧ True := by
 obtain ⟨hl, hf⟩ := Ya Tryz.underlying27 KP h
 have h0 : y9 Tryz.prog B _ 3 ((us.drop 0).take ((Tryz.prog).cellsOf 3)) := hf 0 _ rfl
 have h1 : y9 Tryz.prog B _ 3 ((us.drop 1).take ((Tryz.prog).cellsOf 3)) := hf 1 _ rfl
 have h2 : y9 Tryz.prog B _ 3 ((us.drop 2).take ((Tryz.prog).cellsOf 3)) := hf 2 _ rfl
 have h3 : y9 Tryz.prog B _ 3 ((us.drop 3).take ((Tryz.prog).cellsOf 3)) := hf 3 _ rfl
 match us, hl, h0, h1, h2, h3 with
 | [u0, u1, u2, u3], _, h0, h1, h2, h3 =>
 simp only [KO, List.drop_zero, List.drop_succ_cons, List.take_succ_cons, List.take_zero] at h0 h1 h2 h3
 obtain ⟨a, g1, _⟩ := jd Tryz.underlying3 h0
 obtain ⟨b, g3, _⟩ := jd Tryz.underlying3 h1
 obtain ⟨c, g5, _⟩ := jd Tryz.underlying3 h2
 obtain ⟨d, g7, _⟩ := jd Tryz.underlying3 h3
 injection g1 with g1; injection g3 with g3; injection g5 with g5; injection g7 with g7
 subst g1; subst g3; subst g5; subst g7
 exact ⟨⟨a, b, c, d⟩, rfl, trivial⟩
theorem UQ {B n : Nat} {x : AV} (h : wJ Tryz.prog B (n + 6) 25 x) : ∃ e C N, x = pG e C N ∧ C.length ≤ B ∧ N.length ≤ B := by
 obtain ⟨us, rfl, h'⟩ := UP Tryz.underlying25 h
 obtain ⟨hl, hf⟩ := Ya Tryz.underlying25 J4 h'
 have h0 : y9 Tryz.prog B _ 4 ((us.drop 0).take ((Tryz.prog).cellsOf 4)) := hf 0 _ rfl
 have h1 : y9 Tryz.prog B _ 22 ((us.drop 1).take ((Tryz.prog).cellsOf 22)) := hf 1 _ rfl
 have h2 : y9 Tryz.prog B _ 23 ((us.drop 2).take ((Tryz.prog).cellsOf 23)) := hf 2 _ rfl
 match us, hl, h0, h1, h2 with
 | [u0, u1, u2], _, h0, h1, h2 =>
 simp only [J1, J2, J3, List.drop_zero, List.drop_succ_cons, List.take_succ_cons, List.take_zero] at h0 h1 h2
 obtain ⟨e, g0⟩ := JY Tryz.underlying4 h0
 obtain ⟨C, g1, g2, _⟩ := XH (enc := JG) Tryz.underlying22 KP h1 (fun cs => KQ)
 obtain ⟨N, g4, g5, _⟩ := J0 Tryz.underlying23 Tryz.underlying3 KO h2
 injection g0 with g0; injection g1 with g1; injection g4 with g4
 subst g0; subst g1; subst g4
 exact ⟨e, C, N, rfl, g2, g5⟩
end
section
open Go.ChangeShapes Go.WideShapes Go.ChangeAt Go.RowKit
theorem Km {B n : Nat} {x : AV} (h : wJ Tryz.prog B (n + 2) 27 x) : ∃ i : InsM, x = WC i := by
 obtain ⟨us, rfl, h'⟩ := UP Tryz.underlying27 h
 obtain ⟨i, rfl, _⟩ := KQ h'
 exact ⟨i, rfl⟩
end
end Go.Proofs.YtjeplogcfedmeaaGreat
