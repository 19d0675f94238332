import Derived.Test.YtjeplogcfedmeaaGreatRows
import Derived.ProofKit
import Derived.OpenShut
import Derived.ShutString
import Derived.ChangeOld
import Derived.Deep.Slices
import Derived.JoinedCond
import Derived.Test.YtjeplogcfedmeaaGreatP12
set_option linter.all false
set_option maxRecDepth 100000
set_option maxHeartbeats 8000000
namespace Go.Proofs.YtjeplogcfedmeaaGreat
section
open Go.RowKit
theorem jE (xs ys : List Int) (hx : xs.length ≤ 4611686018427387904) : zQ Tryz.prog 11 [.lst 1 (v8 xs), .lst 1 (v8 ys)] (fun r => r = vB (decide (xs = ys))) := by
 by_cases hl : xs.length = ys.length
 ·have e0 : ((xs.length : Int) = (ys.length : Int)) = True := eq_true (by omega)
  refine zE (zb _) Tryz.func11 rfl rfl (by rw [Tryz.results11]) Tryz.ntmps11 rfl fun E => ?_
  (repeat' (first | exact trivial | (with_reducible first | apply awA | apply awB | apply awC | apply awF) | ((with_reducible first | apply awn | refine awQ ?_); intro r hr; simp only [go_sem, Nat.reduceBEq, Nat.reduceLT, zp, e0] at hr; subst hr; (first | refine awV ?_ ?_ | (refine zh (fun h => ?_) (fun h => ?_) <;> (try simp only [go_sem, reduceCtorEq] at h) <;> (try (exfalso; omega))))))) <;> (try omega)
  refine zI [0, 1, 5] [] (fun i : Nat => ⟨[(0, true, .lst 1 (v8 xs)), (1, true, .lst 1 (v8 ys)), (5, true, vI i)], []⟩)
   (fun i => i ≤ xs.length ∧ xs.take i = ys.take i) (fun i => xs.length - i) 0 (by simp only [go_sem, Nat.reduceBEq] <;> exact rfl) ⟨Nat.zero_le _, rfl⟩ ?_
  intro i ⟨hi, hinv⟩
  have hwi := zy (n := (i : Int) + 1) (by omega)
  have zi : ((i : Int)).toNat = i := by omega
  by_cases hlt : i < xs.length
  ·have e1 : ((i : Int) < (xs.length : Int)) = True := eq_true (by omega)
   have g1 := xb hlt
   have g2 := xb (show i < ys.length by omega)
   by_cases hq : xs[i] = ys[i]
   ·have e2 : (xs[i] = ys[i]) = True := eq_true hq
    (repeat' (first | exact trivial | (with_reducible first | apply awA | apply awB | apply awC | apply awF | apply awI) | (refine zA (id := 6) (t := (.node [0, 1, 2, 3, 4, 5, 6, 7, 8] [])) (drR [] [20, 24] []) zH (by kernel_rfl) (by kernel_rfl) (fun _ _ h => h) ?_) | (refine zB (by simp only [go_sem]; exact rfl) ?_) | (refine zD (by simp only [go_sem]; exact rfl) ?_) | refine zl ?_ | refine zq ?_ ?_ | exact zC | ((with_reducible first | apply awn | apply awp | refine awQ ?_); intro r hr; simp only [go_sem, Nat.reduceBEq, Nat.reduceLT, Nat.reduceLeDiff, reduceCtorEq, e1, zi, hwi, g1, g2, zp, e2] at hr; subst hr; (first | refine awV ?_ ?_ | (refine zh (fun h => ?_) (fun h => ?_) <;> (try simp only [go_sem, reduceCtorEq] at h) <;> (try (exfalso; omega))))))) <;> (try omega)
    all_goals refine ⟨i + 1, ?_, ⟨hlt, by rw [List.take_succ_eq_append_getElem hlt, List.take_succ_eq_append_getElem (show i < ys.length by omega), hinv, hq]⟩, by omega⟩
    all_goals simp only [go_sem, Nat.reduceBEq]
    all_goals try exact rfl
   ·have e2 : (xs[i] = ys[i]) = False := eq_false hq
    have hne : xs ≠ ys := fun h => hq (by subst h; rfl)
    rw [decide_eq_false hne]
    (repeat' (first | exact trivial | (with_reducible first | apply awA | apply awB | apply awC | apply awD | apply awF | apply awG | apply awJ) | (refine zA (id := 6) (t := (.node [0, 1, 2, 3, 4, 5, 6, 7, 8] [])) (drR [] [20, 24] []) zH (by kernel_rfl) (by kernel_rfl) (fun _ _ h => h) ?_) | (refine zB (by simp only [go_sem]; exact rfl) ?_) | (refine zD (by simp only [go_sem]; exact rfl) ?_) | refine zl ?_ | refine zq ?_ ?_ | exact zC | ((with_reducible first | apply awn | apply awp | refine awQ ?_ | refine awR ?_); intro r hr; simp only [go_sem, Nat.reduceBEq, Nat.reduceLT, Nat.reduceLeDiff, reduceCtorEq, e1, zi, g1, g2, zp, e2] at hr; subst hr; (first | refine awV ?_ ?_ | refine zM ?_ ?_ | (refine zh (fun h => ?_) (fun h => ?_) <;> (try simp only [go_sem, reduceCtorEq] at h) <;> (try (exfalso; omega))))))) <;> (try omega)
    all_goals rfl
  ·have e1 : ((i : Int) < (xs.length : Int)) = False := eq_false (by omega)
   have heq : xs = ys := by
    rw [List.take_of_length_le (by omega), List.take_of_length_le (by omega)] at hinv
    exact hinv
   rw [decide_eq_true heq]
   (repeat' (first | exact trivial | (with_reducible first | apply awA | apply awD | apply awE | apply awF | apply awH | apply awK) | ((with_reducible first | apply awn | refine awQ ?_ | refine awR ?_); intro r hr; simp only [go_sem, Nat.reduceBEq, Nat.reduceLT, e1, zp] at hr; subst hr; (first | refine awV ?_ ?_ | refine zM ?_ ?_ | (refine zh (fun h => ?_) (fun h => ?_) <;> (try simp only [go_sem, reduceCtorEq] at h) <;> (try (exfalso; omega))))))) <;> (try omega)
   all_goals rfl
 ·have e0 : ((xs.length : Int) = (ys.length : Int)) = False := eq_false (by omega)
  have hne : xs ≠ ys := fun h => hl (by rw [h])
  rw [decide_eq_false hne]
  refine zE (zb _) Tryz.func11 rfl rfl (by rw [Tryz.results11]) Tryz.ntmps11 rfl fun E => ?_
  (repeat' (first | exact trivial | (with_reducible first | apply awA | apply awD | apply awF | apply awG) | ((with_reducible first | apply awn | refine awQ ?_ | refine awR ?_); intro r hr; simp only [go_sem, Nat.reduceBEq, Nat.reduceLT, zp, e0] at hr; subst hr; (first | refine awV ?_ ?_ | refine zM ?_ ?_ | (refine zh (fun h => ?_) (fun h => ?_) <;> (try simp only [go_sem, reduceCtorEq] at h) <;> (try (exfalso; omega))))))) <;> (try omega)
  all_goals rfl
def cP : List InsM := [⟨6, 0, 0, 0⟩, ⟨1, 1, 1, 0⟩, ⟨1, 0, 1, 0⟩, ⟨20, 0, 0, 0⟩]
def cQ : List InsM := [⟨1, -1, 2, 0⟩, ⟨1, -1, 2, 0⟩, ⟨20, 0, 0, 0⟩]
def cE : List InsM := [⟨38, 3, 0, 0⟩, ⟨33, -1, 1, 0⟩, ⟨47, 0, 1, 0⟩, ⟨20, 0, 0, 0⟩]
def JA (e : Bool) (C : List InsM) (N : List Int) : Option Int := match xc e C N with | .error j => some j | .ok _ => none
def okF (e : Bool) (C : List InsM) (N : List Int) : List Int := match xc e C N with | .error _ => [] | .ok r => vg r.1
theorem za8 : x8 false cP [0] = (0, 0) := by decide +kernel
theorem za9 : x8 false cQ [0] = (0, 0) := by decide +kernel
theorem zba : x8 true cE [0] = (0, 0) := by decide +kernel
theorem zbb : JA false cQ [0] = some 1 := by decide +kernel
theorem zbc : JA false cP [0] = none := by decide +kernel
theorem zbd : JA true cE [0] = some 1 := by decide +kernel
theorem zbr : okF false cP [0] = [0, 2, 3, 4] := by decide +kernel
theorem X7 {e : Bool} {C : List InsM} {N : List Int} {j : Int} (h : JA e C N = some j) : xc e C N = .error j := by
 unfold JA at h
 split at h
 ·injection h with h; rw [← h]; assumption
 ·cases h
theorem Xh {e : Bool} {C : List InsM} {N : List Int} {j : Int} (hc : x8 e C N = (0, 0)) (h : JA e C N = some j) : vZ e C N = (150, j) := by
 unfold vZ
 rw [hc, X7 h, if_neg (by decide)]
theorem QM {C : List InsM} (hw : ∀ a b g, yT C g a b → a < b) (hc : ∀ k, (zg C k).op ≠ 16) : YV false C [0] = -1 := by
 have hR : ∀ g a b, Rch (yT C g) a b → a < b := fun g a b h => by
  induction h with
  | one h => exact hw _ _ _ h
  | more _ h ih => exact Nat.lt_trans ih (hw _ _ _ h)
 have hno : ∀ B en, ¬ ∃ k, jV false C B en k := fun B en ⟨k, _, h⟩ => by
  rcases h with h | ⟨_, _, ⟨h, _⟩, _⟩
  ·have := hR _ _ _ h; omega
  ·exact hc _ h
 exact kB.uniq (uC false C [0]) (.inr ⟨hno _ _, rfl⟩)
theorem zbe (a b : Nat) (g : Nat → Int → Bool) (h : yT cP g a b) : a < b := by
 obtain ⟨w, h, _⟩ := h
 have h2 : (b : Int) ∈ zO cP a (zg cP a) := List.mem_of_getElem? h
 by_cases h4 : a < 4
 ·obtain rfl | rfl | rfl | rfl : a = 0 ∨ a = 1 ∨ a = 2 ∨ a = 3 := by omega
  ·have : (b : Int) ∈ [(1 : Int)] := h2
   simp at this; omega
  ·have : (b : Int) ∈ [(2 : Int)] := h2
   simp at this; omega
  ·have : (b : Int) ∈ [(3 : Int)] := h2
   simp at this; omega
  ·have : (b : Int) ∈ ([] : List Int) := h2
   simp at this
 ·have hz : zg cP a = ⟨0, 0, 0, 0⟩ := by
   unfold zg
   rw [List.getD_eq_getElem?_getD, List.getElem?_eq_none (by show 4 ≤ a; omega)]
   rfl
  rw [hz] at h2
  have : (b : Int) ∈ [(a : Int) + 1] := h2
  simp at this; omega
theorem zbs (k : Nat) : (zg cP k).op ≠ 16 := by
 by_cases h4 : k < 4
 ·obtain rfl | rfl | rfl | rfl : k = 0 ∨ k = 1 ∨ k = 2 ∨ k = 3 := by omega
  all_goals decide
 ·have hz : zg cP k = ⟨0, 0, 0, 0⟩ := by
   unfold zg
   rw [List.getD_eq_getElem?_getD, List.getElem?_eq_none (by show 4 ≤ k; omega)]
   rfl
  rw [hz]
  decide
theorem JB : vZ false cP [0] = (0, 0) := by
 have h := zbc
 obtain ⟨r, hr⟩ : ∃ r, xc false cP [0] = .ok r := by
  unfold JA at h
  cases hf : xc false cP [0] with
  | ok r => exact ⟨r, rfl⟩
  | error j => rw [hf] at h; cases h
 unfold vZ
 rw [za8, if_neg (by decide), hr, QM (fun a b g h => zbe a b g h) zbs, if_neg (by decide)]
theorem zbt : shF false cP [0] = [0, 2, 3, 4] := by
 have h := zbr
 unfold okF at h
 unfold shF
 rw [JB, if_neg (by decide)]
 exact h
theorem Zx : zQ Tryz.prog 5 [] (fun r => r = vB true) := by
 have h1 := jY false cP [0] (by decide) (by decide)
 rw [zbt, JB] at h1
 have h2 := xP false cP [0] (by decide) (by decide)
 rw [JB] at h2
 have h3 := xP false cQ [0] (by decide) (by decide)
 rw [Xh za9 zbb] at h3
 have h4 := xP true cE [0] (by decide) (by decide)
 rw [Xh zba zbd] at h4
 have hi := jE [0, 2, 3, 4] [0, 2, 3, 4] (by decide)
 rw [decide_eq_true rfl] at hi
 refine zE (zb _) Tryz.func5 rfl rfl (by rw [Tryz.results5]) Tryz.ntmps5 rfl fun E => ?_
 (repeat' (first | exact trivial | (with_reducible first | apply awA | apply awD | apply awF) | ((with_reducible first | apply awn | apply awo | refine awR ?_); intro r hr; simp only [go_sem, Nat.reduceBEq, Nat.reduceLT, Nat.reduceLeDiff, Nat.reduceAdd, Nat.reduceMul, reduceCtorEq] at hr; subst hr; (first | refine caA (fun _ => h2) rfl ?_ ?_ ?_ | refine caA (fun _ => h3) rfl ?_ ?_ ?_ | refine caA (fun _ => h4) rfl ?_ ?_ ?_ | refine caA (fun _ => hi) rfl ?_ ?_ ?_ | refine awV ?_ ?_ | refine awW ?_ ?_ | refine zM ?_ ?_)) | (refine zz [] [(21, 2)] [2] [] ?_; intro r hr; simp only [go_sem, Nat.reduceBEq, Nat.reduceLT] at hr; subst hr; refine zR (h1) rfl rfl (by first | exact .inl rfl | exact .inr rfl) ?_ (.inl rfl) ?_))) <;> (try omega)
 ·decide
 ·rfl
end
section
open Go.RowKit
theorem Wi (e : Bool) (C : List InsM) (N : List Int) (hC : C.length ≤ 1000000000) (hN : N.length ≤ 1000000000) : zQ Tryz.prog 21 [pG e C N, pG e C N] (fun r => r = vB true) := by
 unfold pG
 refine zE (zb _) Tryz.func21 rfl rfl (by rw [Tryz.results21]) Tryz.ntmps21 rfl fun E => ?_
 (repeat' (first | exact trivial | (with_reducible first | apply awA | apply awB | apply awC | apply awF) | ((with_reducible first | apply awn | refine awQ ?_); intro r hr; simp only [go_sem, Nat.reduceBEq, Nat.reduceLT, Nat.reduceLeDiff, Nat.reduceAdd, Nat.reduceMul, reduceCtorEq, zd, zp] at hr; subst hr; (first | refine awV ?_ ?_ | (refine zh (fun h => ?_) (fun h => ?_) <;> (try simp only [go_sem, reduceCtorEq] at h) <;> (try (exfalso; omega))))))) <;> (try omega)
 refine zI [2, 3, 5] [2, 3] (fun k : Nat => ⟨[(2, true, .ptr 1 2 0 0), (3, true, .ptr 1 3 0 0), (5, true, vI k)], [(2, .var [vB e, .lst 4 (zF C), .lst 1 (v8 N)]), (3, .var [vB e, .lst 4 (zF C), .lst 1 (v8 N)])]⟩) (fun k => k ≤ C.length) (fun k => C.length - k) 0 (by simp only [go_sem, Nat.reduceBEq] <;> exact rfl) (Nat.zero_le _) ?_
 intro k hk
 have hw := zy (n := (k : Int) + 1) (by omega)
 by_cases hlt : k < C.length
 ·have e1 : ((k : Int) < C.length) = True := eq_true (by omega)
  have g1 := qU hlt
  have zk : ((k : Int)).toNat = k := by omega
  (repeat' (first | exact trivial | (with_reducible first | apply awA | apply awB | apply awC | apply awF | apply awI) | (refine zA (id := 6) (t := (.node [0, 1, 2, 3, 4, 5, 6, 7, 8, 9, 10] [])) (drR [2, 3] [41, 46] []) zH (by kernel_rfl) (by kernel_rfl) (fun _ _ h => h) ?_) | (refine zB (by simp only [go_sem]; exact rfl) ?_) | (refine zD (by simp only [go_sem]; exact rfl) ?_) | refine zl ?_ | refine zq ?_ ?_ | exact zC | ((with_reducible first | apply awn | apply awp | refine awQ ?_); intro r hr; simp only [go_sem, Nat.reduceBEq, Nat.reduceLT, Nat.reduceLeDiff, Nat.reduceAdd, Nat.reduceMul, reduceCtorEq, zd, hw, e1, g1, zk] at hr; subst hr; (first | refine awV ?_ ?_ | (refine zh (fun h => ?_) (fun h => ?_) <;> (try simp only [go_sem, reduceCtorEq] at h) <;> (try (exfalso; omega))))))) <;> (try omega)
  all_goals exact ⟨k + 1, by simp only [go_sem, Nat.reduceBEq] <;> exact rfl, hlt, by omega⟩
 have e1 : ((k : Int) < C.length) = False := eq_false (by omega)
 (repeat' (first | exact trivial | (with_reducible first | apply awA | apply awB | apply awE | apply awF | apply awH | apply awK) | ((with_reducible first | apply awn | refine awQ ?_); intro r hr; simp only [go_sem, Nat.reduceBEq, Nat.reduceLT, Nat.reduceLeDiff, Nat.reduceAdd, Nat.reduceMul, zd, e1] at hr; subst hr; (first | refine awV ?_ ?_ | (refine zh (fun h => ?_) (fun h => ?_) <;> (try simp only [go_sem, reduceCtorEq] at h) <;> (try (exfalso; omega))))))) <;> (try omega)
 refine zI [2, 3, 6] [2, 3] (fun k : Nat => ⟨[(2, true, .ptr 1 2 0 0), (3, true, .ptr 1 3 0 0), (6, true, vI k)], [(2, .var [vB e, .lst 4 (zF C), .lst 1 (v8 N)]), (3, .var [vB e, .lst 4 (zF C), .lst 1 (v8 N)])]⟩) (fun k => k ≤ N.length) (fun k => N.length - k) 0 (by simp only [go_sem, Nat.reduceBEq] <;> exact rfl) (Nat.zero_le _) ?_
 clear hk hw hlt e1
 intro j hj
 have hw := zy (n := (j : Int) + 1) (by omega)
 by_cases hlt : j < N.length
 ·have e1 : ((j : Int) < N.length) = True := eq_true (by omega)
  have g1 := xb hlt
  have zk : ((j : Int)).toNat = j := by omega
  (repeat' (first | exact trivial | (with_reducible first | apply awA | apply awB | apply awC | apply awF | apply awI) | (refine zA (id := 11) (t := (.node [0, 1, 2, 3, 4, 5, 6, 7, 8, 9, 10] [])) (drR [2, 3] [59, 64] []) zH (by kernel_rfl) (by kernel_rfl) (fun _ _ h => h) ?_) | (refine zB (by simp only [go_sem]; exact rfl) ?_) | (refine zD (by simp only [go_sem]; exact rfl) ?_) | refine zl ?_ | refine zq ?_ ?_ | exact zC | ((with_reducible first | apply awn | apply awp | refine awQ ?_); intro r hr; simp only [go_sem, Nat.reduceBEq, Nat.reduceLT, Nat.reduceLeDiff, Nat.reduceAdd, Nat.reduceMul, reduceCtorEq, zp, hw, e1, g1, zk] at hr; subst hr; (first | refine awV ?_ ?_ | (refine zh (fun h => ?_) (fun h => ?_) <;> (try simp only [go_sem, reduceCtorEq] at h) <;> (try (exfalso; omega))))))) <;> (try omega)
  all_goals exact ⟨j + 1, by simp only [go_sem, Nat.reduceBEq] <;> exact rfl, hlt, by omega⟩
 ·have e1 : ((j : Int) < N.length) = False := eq_false (by omega)
  (repeat' (first | exact trivial | (with_reducible first | apply awA | apply awD | apply awE | apply awF | apply awH | apply awK) | ((with_reducible first | apply awn | refine awQ ?_ | refine awR ?_); intro r hr; simp only [go_sem, Nat.reduceBEq, Nat.reduceLT, Nat.reduceLeDiff, Nat.reduceAdd, Nat.reduceMul, zp, e1] at hr; subst hr; (first | refine awV ?_ ?_ | refine zM ?_ ?_ | (refine zh (fun h => ?_) (fun h => ?_) <;> (try simp only [go_sem, reduceCtorEq] at h) <;> (try (exfalso; omega))))))) <;> (try omega)
  all_goals exact rfl
def ZI (C : List InsM) : List (List AV) := zF C ++ [jQ ⟨-901, 0, 0, 0⟩]
def Ug (N : List Int) : List (List AV) := v8 N ++ [[vI (-902)]]
theorem xJ (C : List InsM) : (ZI C).length = C.length + 1 := by simp [ZI, zd]
theorem xK (N : List Int) : (Ug N).length = N.length + 1 := by simp [Ug, zp]
theorem uq (C : List InsM) : (ZI C).take C.length = zF C := by rw [ZI, List.take_append_of_le_length (by rw [zd]; omega), List.take_of_length_le (by rw [zd]; omega)]
theorem qX (N : List Int) : (Ug N).take N.length = v8 N := by rw [Ug, List.take_append_of_le_length (by rw [zp]; omega), List.take_of_length_le (by rw [zp]; omega)]
theorem Q3 (C : List InsM) : (ZI C)[C.length]? = some [vI (-901), vI 0, vI 0, vI 0] := by rw [ZI, List.getElem?_append_right (by rw [zd]; omega), zd]; simp [jQ]
theorem Q4 (N : List Int) : (Ug N)[N.length]? = some [vI (-902)] := by rw [Ug, List.getElem?_append_right (by rw [zp]; omega), zp]; simp
theorem YM (e : Bool) (C : List InsM) (N : List Int) (hC : C.length ≤ 100000000) (hN : N.length ≤ 100000000) :
  yb Tryz.prog 7 [pG e C N] [] (.agg [vB e, .rfx 27 4 7 0 C.length 1, .rfx 3 1 13 0 N.length 1]) [(7, .row 27 4 (ZI C)), (13, .row 3 1 (Ug N))] := by
 have tC : List.take C.length (zF C) = zF C := List.take_of_length_le (by rw [zd]; omega)
 have tN : List.take N.length (v8 N) = v8 N := List.take_of_length_le (by rw [zp]; omega)
 have rC : zF C ++ [[vI (-901), vI 0, vI 0, vI 0]] = ZI C := rfl
 have rN : v8 N ++ [[vI (-902)]] = Ug N := rfl
 have z1 : ((C.length : Int)).toNat = C.length := by omega
 have z2 : ((N.length : Int)).toNat = N.length := by omega
 have s1 : C.length + 1 - C.length = 1 := by omega
 have s2 : N.length + 1 - N.length = 1 := by omega
 unfold pG
 refine zJ (zb _) Tryz.func7 rfl rfl (by rw [Tryz.results7]) Tryz.ntmps7 rfl fun E => ?_
 (repeat' (first | exact trivial | (with_reducible first | apply awA | apply awD | apply awF) | (refine zA (id := 3) (t := (.node [0, 1, 2, 3, 4, 5, 6, 7, 8, 9, 10, 11, 12, 13] [])) (drR [1] [] []) zH (by kernel_rfl) (by kernel_rfl) (fun _ _ h => h) ?_) | (refine zB (by simp only [go_sem]; exact rfl) ?_) | (refine zD (by simp only [go_sem]; exact rfl) ?_) | refine zl ?_ | refine zq ?_ ?_ | exact zC | ((with_reducible first | refine awN (zb _) [1000010, 1000015] ?_ | refine awP (zb _) [1000010, 1000015] ?_ | refine awT ?_); intro r hr; simp only [go_sem, Nat.reduceBEq, Nat.reduceLT, Nat.reduceLeDiff, Nat.reduceAdd, Nat.reduceMul, Nat.reduceEqDiff, zd, zp, tC, tN, rC, rN, xJ, xK, z1, z2, s1, s2, Nat.sub_zero, Nat.zero_add, Nat.add_zero, Int.toNat_zero, List.drop_zero] at hr; subst hr; (first | refine awV ?_ ?_ | refine zP ?_ ?_ ?_)))) <;> (try omega)
 all_goals first | omega | skip
 all_goals first | exact AV.up_rfl _ | (repeat first | exact zo | refine zn rfl ?_) | trace_state
theorem zaH (e : Bool) (C : List InsM) (N : List Int) (hC : C.length ≤ 100000000) (hN : N.length ≤ 100000000) :
  yb Tryz.prog 13 [.agg [vB e, .rfx 27 4 10001 0 C.length 1, .rfx 3 1 10002 0 N.length 1], pG e C N] [(10001, .row 27 4 (ZI C)), (10002, .row 3 1 (Ug N))] (vB true) [(10001, .row 27 4 (ZI C)), (10002, .row 3 1 (Ug N))] := by
 have hE := Wi e C N (by omega) (by omega)
 have w1 := zy (n := (C.length : Int) + 1) (by omega)
 have w2 := zy (n := (N.length : Int) + 1) (by omega)
 have z1 : ((C.length : Int)).toNat = C.length := by omega
 have z2 : ((N.length : Int)).toNat = N.length := by omega
 have z3 : ((C.length : Int) + 1).toNat = C.length + 1 := by omega
 have z4 : ((N.length : Int) + 1).toNat = N.length + 1 := by omega
 have t1 := uq C
 have t2 := qX N
 have g1 := Q3 C
 have g2 := Q4 N
 unfold pG at *
 refine zJ (zb _) Tryz.func13 rfl rfl (by rw [Tryz.results13]) Tryz.ntmps13 rfl fun E => ?_
 (repeat' (first | exact trivial | (with_reducible first | apply awA | apply awD | apply awF) | (refine zA (id := 1) (t := (.node [0, 1, 2, 3, 4, 5, 6, 7, 8, 9, 10, 11, 12, 13, 14, 15, 16, 17, 18, 19, 20, 21, 22, 23, 24, 25, 26, 27, 28, 29, 30, 31, 32, 33, 34] [])) (drR [2, 3] [21, 36] []) zH (by kernel_rfl) (by kernel_rfl) (fun _ _ h => h) ?_) | (refine zB (by simp only [go_sem]; exact rfl) ?_) | (refine zD (by simp only [go_sem]; exact rfl) ?_) | refine zl ?_ | refine zq ?_ ?_ | exact zC | ((with_reducible first | apply awn | apply awp | refine awT ?_); intro r hr; simp only [go_sem, Nat.reduceBEq, Nat.reduceLT, Nat.reduceLeDiff, Nat.reduceAdd, Nat.reduceMul, reduceCtorEq, zd, zp, w1, w2, z1, z2, z3, z4, g1, g2, xJ, xK, List.drop_zero, Nat.zero_add, Nat.sub_zero, Int.toNat_zero, Int.reduceLE] at hr; subst hr; (first | refine awV ?_ ?_ | refine awW ?_ ?_ | refine zP ?_ ?_ ?_)) | (refine wO (by simp only [t1, t2, List.drop_zero, go_sem, Nat.reduceBEq, Nat.reduceLT]; exact rfl) ?_ (fun _ => hE) rfl ?_))) <;> (try omega)
 all_goals first | (rw [xJ, xK]; omega) | omega | skip
 all_goals first | exact AV.up_rfl _ | (repeat first | exact zo | refine zn rfl ?_) | trace_state
end
section
open Go.RowKit
theorem ZJ (e : Bool) (C : List InsM) (N : List Int) : (shF e C N).length ≤ C.length := by
 by_cases hv : (vZ e C N).1 = 0
 ·exact Nat.le_of_eq (Jj hv).len
 ·unfold shF
  rw [if_pos hv]
  exact Nat.zero_le _
theorem Uh (l : List Int) : ∀ cs ∈ v8 l, ∀ u ∈ cs, ∃ x, u = .v x := fun cs hcs u hu => by
 simp only [v8, List.mem_map] at hcs
 obtain ⟨z, _, rfl⟩ := hcs
 exact ⟨_, List.mem_singleton.1 hu⟩
theorem JM (l : List Int) : ∀ cs ∈ Ug l, ∀ u ∈ cs, ∃ x, u = .v x := fun cs hcs u hu => by
 rcases List.mem_append.1 hcs with h | h
 ·exact Uh l cs h u hu
 ·rw [List.mem_singleton] at h
  subst h
  exact ⟨_, List.mem_singleton.1 hu⟩
theorem JN (C : List InsM) : ∀ cs ∈ ZI C, ∀ u ∈ cs, ∃ x, u = .v x := fun cs hcs u hu => by
 have key : ∀ x : InsM, cs = jQ x → ∃ y, u = .v y := fun x hx => by
  subst hx
  simp only [jQ, List.mem_cons, List.not_mem_nil, or_false] at hu
  rcases hu with h | h | h | h <;> exact ⟨_, h⟩
 rcases List.mem_append.1 hcs with h | h
 ·obtain ⟨x, _, hx⟩ := List.mem_map.1 h
  exact key x hx.symm
 ·exact key _ (List.mem_singleton.1 h)
theorem ZK (e : Bool) (C : List InsM) (N : List Int) (hC : C.length ≤ 100000000) (hN : N.length ≤ 100000000) : zQ Tryz.prog 6 [pG e C N] (fun r => r = vB true) := by
 have key : yb Tryz.prog 6 [pG e C N] [] (vB true) [] := by
  have hL := YM e C N hC hN
  have hV := xP e C N (by omega) (by omega)
  have hS := jY e C N (by omega) (by omega)
  have hR := QZ e C N (by omega) (by omega)
  have hK := zaH e C N hC hN
  have hl := ZJ e C N
  generalize vZ e C N = f at hV hS hR
  generalize shF e C N = S at hS hR hl
  have hI := jE S S (by omega)
  rw [decide_eq_true rfl] at hI
  obtain ⟨f1, f2⟩ := f
  have t1 := uq C
  have t2 := qX N
  have t3 : (v8 S).take S.length = v8 S := List.take_of_length_le (by rw [zp]; exact Nat.le_refl _)
  unfold pG at *
  refine zJ (zb _) Tryz.func6 rfl rfl (by rw [Tryz.results6]) Tryz.ntmps6 rfl fun E => ?_
  (repeat' (first | exact trivial | (with_reducible first | apply awA | apply awD | apply awF) | ((with_reducible first | apply awn | apply awo | refine awT ?_); intro r hr; simp only [go_sem, Nat.reduceBEq, Nat.reduceLT, Nat.reduceLeDiff, Nat.reduceAdd, Nat.reduceMul, reduceCtorEq, zp, xJ, xK, List.drop_zero] at hr; subst hr; (first | refine caA (fun _ => hV) rfl ?_ ?_ ?_ | refine caC (hR) rfl ?_ ?_ ?_ | refine caA (fun _ => hI) rfl ?_ ?_ ?_ | refine awV ?_ ?_ | refine awW ?_ ?_ | refine zP ?_ ?_ ?_)) | (refine zz [] [(7, 8001), (13, 8002)] [8001, 8002] [] ?_; intro r hr; simp only [go_sem, Nat.reduceBEq, Nat.reduceLT, zp, xJ, xK, List.drop_zero] at hr; subst hr; refine zR (hL) rfl rfl (by first | exact .inl rfl | exact .inr rfl) ?_ (.inl rfl) ?_) | (refine wO (by simp only [t1, t2, t3, List.drop_zero, go_sem, Nat.reduceBEq, Nat.reduceLT]; exact rfl) ?_ (fun _ => hV) rfl ?_) | (refine wz [] [(21, 8003)] [8003] [] (by simp only [t1, t2, t3, List.drop_zero, go_sem, Nat.reduceBEq, Nat.reduceLT]; exact rfl) ?_ rfl rfl (.inr rfl) rfl hS (.inr ⟨rfl, ?_⟩) ?_) | (refine wO (by simp only [t1, t2, t3, List.drop_zero, go_sem, Nat.reduceBEq, Nat.reduceLT]; exact rfl) ?_ (fun _ => hI) rfl ?_) | (refine zz [(8001, 10001), (8002, 10002)] [(10001, 8001), (10002, 8002)] [] [8001, 8002] ?_; intro r hr; simp only [go_sem, Nat.reduceBEq, Nat.reduceLT] at hr; subst hr; refine zR (hK) rfl rfl (by first | exact .inl rfl | exact .inr rfl) ?_ (.inl rfl) ?_))) <;> (try omega)
  all_goals first | (rw [xJ, xK]; omega) | exact ⟨Uh _, trivial⟩ | exact Nat.le_of_eq (zp _).symm | exact AV.up_rfl _ | exact zo
 exact key.toP trivial
end
section
open Go.ChangeShapes Go.WideShapes Go.ChangeAt Go.RowKit
theorem own : ownKnob Tryz.prog.godebug = none := by kernel_rfl
theorem Vp : laidOutB Tryz.prog = true := by kernel_rfl
end
section
open Go.ChangeShapes Go.WideShapes Go.ChangeAt Go.RowKit Go.Deep
theorem WA (b off j : Nat) : (⟨b, off, none⟩ : Addr).add j = ⟨b, off + j, none⟩ := by
 unfold Addr.add; by_cases h : j = 0 <;> simp [h]
section
variable {H : Type} {enc : TypeId × Value → H} {P : Program} {w : World} {base : Nat} {spare : Nat → Bool} {held : Bool}
end
end
section
open Go.RowKit
section
variable {P : Program} {w : World}
theorem zQ.row {f : Nat} {args : List AV} (h : zQ P f args (fun r => r = .v (.bool true))) (vs : Array Value) (hl : vs.size = args.length)
  (ha : ∀ (i : Nat) (x : AV) (v : Value), args[i]? = some x → vs[i]? = some v → AVR (fun b => b < w.heap.size) (fun _ => none) w x v) (hg : FOK (fun b => b < w.heap.size) w) :
  Calls P f vs w fun e w' => e = .returned (.bool true) ∧ Below w.heap.size w w' :=
 (h.2 w _ vs hg hl ha).mono fun e w' ⟨v, r, h1, h2, h3, h4⟩ => by
  subst h2
  cases h4 with
  | s h4 =>
  cases h4 with
  | v _ => exact ⟨h1, h3⟩
end
end
end Go.Proofs.YtjeplogcfedmeaaGreat
section
namespace Go.Proofs.YtjeplogcfedmeaaGreat.bulks
open Go.ChangeShapes Go.WideShapes Go.ChangeAt Go.RowKit
theorem zaq {H : Type} (d : DataW H) : 1 ≤ Rows.uptoBulk d := by
 cases d with
 | lit l => cases l <;> simp [Rows.uptoBulk]
 | nil => simp [Rows.uptoBulk]
 | ptr d => simp [Rows.uptoBulk]
 | slice elems spare => simp [Rows.uptoBulk]
 | agg parts => simp [Rows.uptoBulk]
 | iface t d => simp [Rows.uptoBulk]
 | map entries => simp [Rows.uptoBulk]
 | held h => simp [Rows.uptoBulk]
theorem part_le {H : Type} {d : DataW H} {l : List (DataW H)} (h : d ∈ l) : Rows.uptoBulk d ≤ Rows.uptoBulkAll l := by
 induction l with
 | nil => cases h
 | cons x r ih =>
  simp only [Rows.uptoBulkAll]
  cases List.mem_cons.1 h with
  | inl e => subst e; omega
  | inr e => have := ih e; omega
theorem length_le {H : Type} (l : List (DataW H)) : l.length ≤ Rows.uptoBulkAll l := by
 induction l with
 | nil => simp [Rows.uptoBulkAll]
 | cons x r ih => have := zaq x; simp only [Rows.uptoBulkAll, List.length_cons]; omega
theorem bound {H : Type} {l : List (DataW H)} (hk : Rows.uptoSmall H l = true) : Rows.uptoBulkAll l ≤ 1048576 := of_decide_eq_true hk
end Go.Proofs.YtjeplogcfedmeaaGreat.bulks
end
namespace Go.Proofs.YtjeplogcfedmeaaGreat
section
open Go.ChangeShapes Go.WideShapes Go.ChangeAt Go.RowKit Go.Deep
def VS (P : Program) : List Field → Nat → Nat → Bool
 | [], o, n => o == n
 | f :: l, o, n => (f.offset == o) && VS P l (o + P.cellsOf f.type) n
def wW (P : Program) : Nat → TypeId → Bool
 | 0, _ => false
 | n + 1, t =>
  match P.underlying t with
  | some .bool | some .string => P.cellsOf t == 1
  | some (.int _) => P.cellsOf t == 1
  | some (.slice e) => P.cellsOf t == 1 && Nat.blt 0 (P.cellsOf e) && wW P n e
  | some (.struct fs) => VS P fs.toList 0 (P.cellsOf t) && fs.toList.all fun f => wW P n f.type
  | _ => false
def y9 (P : Program) (B : Nat) : Nat → TypeId → List AV → Prop
 | 0, _, _ => False
 | n + 1, t, us =>
  match P.underlying t with
  | some .bool => ∃ b, us = [.v (.bool b)]
  | some (.int k) => ∃ z, us = [.v (.int k z)] ∧ (Lit.int k z).wf = true
  | some .string => ∃ s : ByteArray, us = [.v (.string s)] ∧ s.size ≤ B
  | some (.slice e) => ∃ xs, us = [.lst (P.cellsOf e) xs] ∧ xs.length ≤ B ∧ ∀ cs ∈ xs, cs.length = P.cellsOf e ∧ y9 P B n e cs
  | some (.struct fs) => us.length = P.cellsOf t ∧ ∀ (i : Nat) (f : Field), fs[i]? = some f → y9 P B n f.type ((us.drop f.offset).take (P.cellsOf f.type))
  | _ => False
def wJ (P : Program) (B n : Nat) (t : TypeId) (x : AV) : Prop :=
 match P.underlying t with
 | some (.struct _) => ∃ us, x = .agg us ∧ y9 P B n t us
 | _ => y9 P B n t [x]
def qb (P : Program) (B n : Nat) : List TypeId → List AV → Prop
 | [], [] => True
 | t :: ts, x :: xs => wJ P B n t x ∧ qb P B n ts xs
 | _, _ => False
theorem kT {H : Type} {elems spare : List (DataW H)} {B : Nat} (h : Rows.uptoBulk (.slice elems spare) ≤ B) : elems.length ≤ B ∧ ∀ d ∈ elems, Rows.uptoBulk d ≤ B := by
 simp only [Rows.uptoBulk] at h
 have h1 := bulks.length_le elems
 exact ⟨by omega, fun d hd => by have := bulks.part_le hd; omega⟩
theorem QO {H : Type} {parts : List (DataW H)} {B : Nat} (h : Rows.uptoBulk (.agg parts) ≤ B) : ∀ d ∈ parts, Rows.uptoBulk d ≤ B := fun d hd => by
 simp only [Rows.uptoBulk] at h
 have := bulks.part_le hd; omega
section
variable {H : Type} {enc : TypeId × Value → H} {P : Program} {w : World} {base : Nat} {spare : Nat → Bool} {held : Bool}
theorem Wa : ∀ (l : List Field) (o n : Nat), VS P l o n = true → ∀ (us : Nat → List AV), (∀ (i : Nat) (f : Field), l[i]? = some f → (us i).length = P.cellsOf f.type) →
  ∃ r : List AV, r.length = n - o ∧ o ≤ n ∧ (∀ (i : Nat) (f : Field), l[i]? = some f → o ≤ f.offset ∧ (r.drop (f.offset - o)).take (P.cellsOf f.type) = us i) ∧
   ∀ j, j < n - o → ∃ i f q, l[i]? = some f ∧ q < P.cellsOf f.type ∧ o + j = f.offset + q ∧ r[j]? = (us i)[q]? := by
 intro l
 induction l with
 | nil =>
  intro o n h us _
  simp only [VS, beq_iff_eq] at h
  subst h
  exact ⟨[], by simp, Nat.le_refl _, fun i f h => by simp at h, fun j hj => by omega⟩
 | cons g l ih =>
  intro o n h us hus
  simp only [VS, Bool.and_eq_true, beq_iff_eq] at h
  obtain ⟨rfl, h⟩ := h
  obtain ⟨r, h1, h2, h3, h4⟩ := ih _ _ h (fun i => us (i + 1)) fun i f hf => hus (i + 1) f (by simpa using hf)
  have hl0 := hus 0 g rfl
  refine ⟨us 0 ++ r, by rw [List.length_append]; omega, by omega, fun i f hf => ?_, fun j hj => ?_⟩
  ·cases i with
   | zero =>
    simp only [List.getElem?_cons_zero, Option.some.injEq] at hf
    subst hf
    refine ⟨Nat.le_refl _, ?_⟩
    rw [Nat.sub_self, List.drop_zero, ← hl0, List.take_left]
   | succ i =>
    obtain ⟨g1, g2⟩ := h3 i f (by simpa using hf)
    refine ⟨by omega, ?_⟩
    rw [show f.offset - g.offset = (us 0).length + (f.offset - (g.offset + P.cellsOf g.type)) by omega, List.drop_append, List.drop_of_length_le (by omega), List.nil_append]
    rw [show (us 0).length + (f.offset - (g.offset + P.cellsOf g.type)) - (us 0).length = f.offset - (g.offset + P.cellsOf g.type) by omega]
    exact g2
  ·rcases Nat.lt_or_ge j (us 0).length with hlt | hge
   ·exact ⟨0, g, j, rfl, by omega, rfl, by rw [List.getElem?_append_left hlt]⟩
   ·obtain ⟨i, f, q, g1, g2, g3, g4⟩ := h4 (j - (us 0).length) (by omega)
    exact ⟨i + 1, f, q, by simpa using g1, g2, by omega, by rw [List.getElem?_append_right hge]; exact g4⟩
theorem QP (B : Nat) : ∀ (n : Nat) (t : TypeId), wW P n t = true → ∀ (fuel : Nat) (cs : List Value) (x : DataW H × List MemPlace), DataW.trod enc P w base spare held fuel t cs = some x → (Rows.uptoBulk x.1 ≤ B ∨ maxLen ≤ B) →
  ∃ us : List AV, us.length = cs.length ∧ cs.length = P.cellsOf t ∧ (∀ (j : Nat) (u : AV) (v : Value), us[j]? = some u → cs[j]? = some v → SVR (fun b => b < w.heap.size) w u v) ∧ y9 P B n t us := by
 intro n
 induction n with
 | zero => intro t h; cases h
 | succ n ih =>
  intro t hp fuel cs x h hB
  have one : ∀ (u : AV) (v : Value), SVR (fun b => b < w.heap.size) w u v → ∀ (j : Nat) (u' : AV) (v' : Value), [u][j]? = some u' → [v][j]? = some v' → SVR (fun b => b < w.heap.size) w u' v' := fun u v hs j u' v' h1 h2 => by
   cases j with
   | zero => simp only [List.getElem?_cons_zero, Option.some.injEq] at h1 h2; subst h1; subst h2; exact hs
   | succ j => simp at h1
  unfold wW at hp
  split at hp
  ·rename_i ht
   obtain ⟨b, rfl, rfl⟩ := DataW.trod_bool ht h
   simp only [beq_iff_eq] at hp
   exact ⟨[.v (.bool b)], rfl, hp.symm, one _ _ (.v rfl), by unfold y9; rw [ht]; exact ⟨b, rfl⟩⟩
  ·rename_i ht
   obtain ⟨s, rfl, rfl, hs⟩ := DataW.trod_string ht h
   simp only [beq_iff_eq] at hp
   have hsB : s.size ≤ B := by
    rcases hB with hB | hB
    ·simp only [Rows.uptoBulk] at hB
     have h1 : s.data.toList.length = s.size := by rw [Array.length_toList]; rfl
     omega
    ·exact Nat.le_trans hs hB
   refine ⟨[.v (.string s)], rfl, hp.symm, one _ _ (.v rfl), ?_⟩
   unfold y9
   rw [ht]
   exact ⟨s, rfl, hsB⟩
  ·rename_i k ht
   obtain ⟨z, rfl, rfl, hz⟩ := DataW.trod_int ht h
   simp only [beq_iff_eq] at hp
   exact ⟨[.v (.int k z)], rfl, hp.symm, one _ _ (.v rfl), by unfold y9; rw [ht]; exact ⟨z, rfl, hz⟩⟩
  ·rename_i e ht
   simp only [Bool.and_eq_true, beq_iff_eq] at hp
   obtain ⟨⟨hp1, hp2⟩, hp3⟩ := hp
   have hk0 : 0 < P.cellsOf e := Nat.le_of_ble_eq_true hp2
   rcases open_slice ht h with ⟨h0, _⟩ | ⟨a, len, cap, m, f', D, Pl, rfl, hb, hl, hm, hmm, hx0, hx⟩
   ·subst h0
    refine ⟨[.lst (P.cellsOf e) []], rfl, hp1.symm, one _ _ (.lst (fun _ _ => .nilFunc) rfl (Nat.le_refl _) (by decide) (fun cs h => by cases h) (fun h => absurd h (Nat.lt_irrefl _)) (fun i j hi => absurd hi (Nat.not_lt_zero _)) (fun i j cs u h => by simp at h)), ?_⟩
    unfold y9
    rw [ht]
    exact ⟨[], rfl, Nat.zero_le _, fun cs h => by cases h⟩
   ·have hlm : len ≤ m := by rw [hmm]; split <;> omega
    have hBe : ∀ i, i < len → Rows.uptoBulk (D i) ≤ B ∨ maxLen ≤ B := fun i hi => by
     rcases hB with hB | hB
     ·rw [hx0] at hB
      exact .inl ((kT hB).2 _ (List.mem_map.2 ⟨i, List.mem_range.2 hi, rfl⟩))
     ·exact .inr hB
    have hBl : len ≤ B := by
     rcases hB with hB | hB
     ·rw [hx0] at hB
      have := (kT hB).1
      simpa using this
     ·omega
    obtain ⟨f, hf⟩ := choose_lt (n := len) (p := fun i (y : List AV × List Value) => w.cells? base (a.add (i * P.cellsOf e)) (P.cellsOf e) = some y.2 ∧ y.1.length = y.2.length ∧ y.2.length = P.cellsOf e ∧
      (∀ (j : Nat) (u : AV) (v : Value), y.1[j]? = some u → y.2[j]? = some v → SVR (fun b => b < w.heap.size) w u v) ∧ y9 P B n e y.1) (fun i hi => by
     obtain ⟨cs', h1, h2⟩ := hx i (by omega)
     obtain ⟨us, g1, g2, g3, g4⟩ := ih e hp3 _ _ _ h2 (hBe i hi)
     exact ⟨(us, cs'), h1, g1, g2, g3, g4⟩)
    refine ⟨[.lst (P.cellsOf e) ((List.range len).map fun i => (f i).1)], rfl, hp1.symm, one _ _ ?_, ?_⟩
    ·refine .lst (fun i j => ((f i).2[j]?).getD undef) (by simp) hl hm (fun cs hcs => ?_) (fun hn => ?_) (fun i j hi hj => ?_) (fun i j cs u hc hu => ?_)
     ·obtain ⟨i, hi, rfl⟩ := List.mem_map.1 hcs
      have := hf i (List.mem_range.1 hi)
      omega
     ·have hcell : ∀ i j, i < len → j < P.cellsOf e → w.cell? ((a.add (i * P.cellsOf e)).add j) = (f i).2[j]? := fun i j hi hj => (World.cells?_some (hf i hi).1).2.2 j hj
      obtain ⟨b, off, spot⟩ := a
      have h00 := hcell 0 0 hn hk0
      rw [Nat.zero_mul] at h00
      have hz : ((⟨b, off, spot⟩ : Addr).add 0).add 0 = ⟨b, off, spot⟩ := by simp [Addr.add]
      rw [hz, List.getElem?_eq_getElem (by have := hf 0 hn; omega)] at h00
      have hspot : spot = none := World.cell?_spot h00
      subst hspot
      refine ⟨b, off, rfl, World.block_lt_of_cell? w _ h00, fun i j hi hj => ?_⟩
      have h5 := hcell i j hi hj
      rw [add_add, WA] at h5
      rw [h5, List.getElem?_eq_getElem (by have := hf i hi; omega)]
      rfl
     ·have h5 := hf i hi
      have hj1 : j < (f i).1.length := by omega
      have hj2 : j < (f i).2.length := by omega
      rw [List.getElem?_eq_getElem hj2, Option.getD_some]
      exact (h5.2.2.2.1 j _ _ (List.getElem?_eq_getElem hj1) (List.getElem?_eq_getElem hj2)).one
     ·rw [List.getElem?_map] at hc
      rcases Nat.lt_or_ge i len with hi | hi
      ·rw [List.getElem?_range hi] at hc
       simp only [Option.map_some, Option.some.injEq] at hc
       subst hc
       have h5 := hf i hi
       have hj1 : j < (f i).1.length := zG hu
       have hj2 : j < (f i).2.length := by omega
       rw [List.getElem?_eq_getElem hj2, Option.getD_some]
       exact h5.2.2.2.1 j _ _ hu (List.getElem?_eq_getElem hj2)
      ·rw [List.getElem?_eq_none (by simpa using hi)] at hc; cases hc
    ·unfold y9
     rw [ht]
     refine ⟨_, rfl, by simpa using hBl, fun cs hcs => ?_⟩
     obtain ⟨i, hi, rfl⟩ := List.mem_map.1 hcs
     have := hf i (List.mem_range.1 hi)
     exact ⟨by omega, this.2.2.2.2⟩
  ·rename_i fs ht
   simp only [Bool.and_eq_true, List.all_eq_true] at hp
   obtain ⟨hp1, hp2⟩ := hp
   obtain ⟨xs, n', rfl, hx0, hlen, hxl, hf⟩ := DataW.trod_struct ht h
   have hBe : ∀ (i : Nat) (y : DataW H × List MemPlace), xs[i]? = some y → Rows.uptoBulk y.1 ≤ B ∨ maxLen ≤ B := fun i y hy => by
    rcases hB with hB | hB
    ·rw [hx0] at hB
     exact .inl (QO hB _ (List.mem_map.2 ⟨y, List.mem_of_getElem? hy, rfl⟩))
    ·exact .inr hB
   obtain ⟨us, hus⟩ := choose_lt (n := fs.size) (p := fun i (u : List AV) => ∀ f, fs[i]? = some f → u.length = P.cellsOf f.type ∧ ((cs.drop f.offset).take (P.cellsOf f.type)).length = P.cellsOf f.type ∧
     (∀ (j : Nat) (a : AV) (v : Value), u[j]? = some a → ((cs.drop f.offset).take (P.cellsOf f.type))[j]? = some v → SVR (fun b => b < w.heap.size) w a v) ∧ y9 P B n f.type u) (fun i hi => by
    have hix : i < xs.length := by omega
    have hfi := hf i fs[i] (Array.getElem?_eq_getElem hi)
    rw [List.getElem?_eq_getElem hix] at hfi
    obtain ⟨u, g1, g2, g3, g4⟩ := ih (fs[i]).type (hp2 _ (by simp)) _ _ _ hfi (hBe i _ (List.getElem?_eq_getElem hix))
    refine ⟨u, fun f hf' => ?_⟩
    rw [Array.getElem?_eq_getElem hi] at hf'
    injection hf' with hf'
    subst hf'
    exact ⟨by omega, g2, g3, g4⟩)
   have lt_of : ∀ (i : Nat) (f : Field), fs[i]? = some f → i < fs.size := fun i f h => by
    rcases Nat.lt_or_ge i fs.size with h' | h'
    ·exact h'
    ·rw [Array.getElem?_eq_none h'] at h; cases h
   obtain ⟨r, r1, r2, r3, r4⟩ := Wa fs.toList 0 (P.cellsOf t) hp1 us fun i f hf' => by
    have hf'' : fs[i]? = some f := by simpa using hf'
    exact (hus i (lt_of i f hf'') f hf'').1
   refine ⟨r, by omega, hlen, fun j u v hu hv => ?_, ?_⟩
   ·obtain ⟨i, f, q, g1, g2, g3, g4⟩ := r4 j (by have := zG hu; omega)
    have g1' : fs[i]? = some f := by simpa using g1
    rw [hu] at g4
    refine (hus i (lt_of i f g1') f g1').2.2.1 q u v g4.symm ?_
    rw [List.getElem?_take_of_lt g2, List.getElem?_drop, ← g3, Nat.zero_add]
    exact hv
   ·unfold y9
    rw [ht]
    refine ⟨by omega, fun i f hf' => ?_⟩
    have := (r3 i f (by simpa using hf')).2
    rw [Nat.sub_zero] at this
    rw [this]
    exact (hus i (lt_of i f hf') f hf').2.2.2
  ·cases hp
theorem QQ {B n : Nat} {t : TypeId} (hp : wW P n t = true) {v : Value} {d : DataW H} {p : List MemPlace} (h : DataW.Trod enc P w base spare held t v d p) {r : Reach} {b0 : Nat} (ho : Value.okWide P w r b0 t v) (hB : Rows.uptoBulk d ≤ B ∨ maxLen ≤ B) :
  ∃ x, AVR (fun b => b < w.heap.size) (fun _ => none) w x v ∧ wJ P B n t x := by
 obtain ⟨fuel, hf⟩ := h
 obtain ⟨us, h1, h2, h3, h4⟩ := QP B n t hp fuel _ _ hf hB
 have leaf : v.cells = #[v] → (∀ fs, P.underlying t ≠ some (.struct fs)) → ∃ x, AVR (fun b => b < w.heap.size) (fun _ => none) w x v ∧ wJ P B n t x := fun hv hns => by
  rw [hv] at h1 h3
  obtain ⟨u, rfl⟩ := List.length_eq_one_iff.1 (show us.length = 1 by simpa using h1)
  refine ⟨u, .s (h3 0 u v rfl rfl), ?_⟩
  unfold wJ
  split
  ·rename_i fs ht; exact absurd ht (hns fs)
  ·exact h4
 have hp' := hp
 cases n with
 | zero => cases hp
 | succ n =>
 unfold wW at hp'
 split at hp'
 ·rename_i ht
  obtain ⟨b, rfl⟩ := okWide_bool ht ho
  exact leaf rfl fun fs h => by rw [ht] at h; cases h
 ·rename_i ht
  obtain ⟨b, rfl⟩ := okWide_string ht ho
  exact leaf rfl fun fs h => by rw [ht] at h; cases h
 ·rename_i k ht
  obtain ⟨b, rfl⟩ := okWide_int ht ho
  exact leaf rfl fun fs h => by rw [ht] at h; cases h
 ·rename_i e ht
  obtain ⟨a, l, c, rfl⟩ := okWide_slice ht ho
  exact leaf rfl fun fs h => by rw [ht] at h; cases h
 ·rename_i fs ht
  obtain ⟨cs, rfl, hcs⟩ := okWide_struct ht ho
  have hc : (Value.agg cs).cells = cs := rfl
  rw [hc] at h1 h3
  refine ⟨.agg us, .agg (by simpa using h1.symm) (fun i u hu => ?_) (fun i c u hc hu => .s (h3 i c u hc (by simpa using hu))), ?_⟩
  ·have hi : i < us.length := by
    rw [h1]
    have := zG (l := cs.toList) (i := i) (x := u) (by simpa using hu)
    exact this
   exact (h3 i _ u (List.getElem?_eq_getElem hi) (by simpa using hu)).one
  ·unfold wJ
   rw [ht]
   exact ⟨us, rfl, h4⟩
 ·cases hp'
theorem VT {B n : Nat} {r : Reach} {b0 : Nat} : ∀ (ts : List TypeId) (vs : List Value) (ds : List (DataW H)) (p : List MemPlace), DataW.TrodAll enc P w base spare held ts vs ds p → (∀ t ∈ ts, wW P n t = true) →
  (∀ (j : Nat) t v, ts[j]? = some t → vs[j]? = some v → Value.okWide P w r b0 t v) → (Rows.uptoBulkAll ds ≤ B ∨ maxLen ≤ B) →
  ds.length = ts.length ∧ vs.length = ts.length ∧ ∃ as' : List AV, as'.length = vs.length ∧ (∀ (i : Nat) (x : AV) (v : Value), as'[i]? = some x → vs[i]? = some v → AVR (fun b => b < w.heap.size) (fun _ => none) w x v) ∧ qb P B n ts as' := by
 intro ts
 induction ts with
 | nil =>
  intro vs ds p h _ _ _
  obtain ⟨rfl, rfl, rfl⟩ := trodAll_nil h
  exact ⟨rfl, rfl, [], rfl, fun i x v h => by simp at h, trivial⟩
 | cons t ts ih =>
  intro vs ds p h hp ho hB
  obtain ⟨v, vs', d, ds', p1, q, rfl, rfl, rfl, h1, h2⟩ := trodAll_cons h
  have hB1 : Rows.uptoBulk d ≤ B ∨ maxLen ≤ B := hB.imp (fun h => by simp only [Rows.uptoBulkAll] at h; omega) id
  have hB2 : Rows.uptoBulkAll ds' ≤ B ∨ maxLen ≤ B := hB.imp (fun h => by simp only [Rows.uptoBulkAll] at h; omega) id
  obtain ⟨x, g1, g2⟩ := QQ (hp t (.head _)) h1 (ho 0 t v rfl rfl) hB1
  obtain ⟨e1, e2, as', g3, g4, g5⟩ := ih vs' ds' q h2 (fun t ht => hp t (.tail _ ht)) (fun j t v h1 h2 => ho (j + 1) t v (by simpa using h1) (by simpa using h2)) hB2
  refine ⟨by simp [e1], by simp [e2], x :: as', by simp [g3], fun i y u hy hu => ?_, g2, g5⟩
  cases i with
  | zero => simp only [List.getElem?_cons_zero, Option.some.injEq] at hy hu; subst hy; subst hu; exact g1
  | succ i => exact g4 i y u (by simpa using hy) (by simpa using hu)
end
theorem jH {H : Type} {enc : TypeId × Value → H} {P : Program} (hl : laidOutB P = true) {W W' : World} (hb : Below W.heap.size W W') : ∀ (ts : List TypeId) (vs : List Value) (ds : List (DataW H)) (p : List MemPlace),
  (∀ t ∈ ts, P.readableRec t = true ∧ t < P.types.size) → DataW.TrodAll enc P W 0 (fun _ => true) true ts vs ds p → DataW.TrodAll enc P W' 0 (fun b => decide (b < W.heap.size)) true ts vs ds p := by
 intro ts
 induction ts with
 | nil =>
  intro vs ds p _ h
  obtain ⟨rfl, rfl, rfl⟩ := trodAll_nil h
  exact trodAll_mk0
 | cons t ts ih =>
  intro vs ds p hr h
  obtain ⟨v, vs', d, ds', p1, q, rfl, rfl, rfl, h1, h2⟩ := trodAll_cons h
  have hlt : ∀ x ∈ p1, x.block < W.heap.size := by obtain ⟨m, hm⟩ := h1; exact DataW.trod_lt m _ _ _ hm
  exact trodAll_cons_mk (Below.trod hl (hr t (.head _)).1 (hr t (.head _)).2 h1 hb hlt) (ih vs' ds' q (fun t ht => hr t (.tail _ ht)) h2)
theorem uk {P : Program} (hl : laidOutB P = true) {f : FuncId} {fn : Func} {spec : ChangeSpec} {tb B n : Nat} (hvars : spec.vars = []) (hres : fn.resultTypes = #[tb]) (htb : P.underlying tb = some .bool)
  (hfn : ∀ (H : Type) (ds : List (DataW H)), ds.length = fn.params.toList.length → spec.fn H ds = { results := [.lit (.bool true)], args := ds, vars := [] })
  (hplain : (fn.params.toList.all fun t => wW P n t && P.readableRec t && decide (t < P.types.size)) = true)
  (walk : ∀ as', qb P B n fn.params.toList as' → zQ P f as' (fun r => r = .v (.bool true)))
  (H : Type) (enc : TypeId × Value → H) (W : World) (base : Nat) (args : Array Value) (ds gs : List (DataW H)) (before : List MemPlace)
  (hval : ∀ (j : Nat) t v, fn.params[j]? = some t → args[j]? = some v → Value.okWide P W .any base t v)
  (hW : DataW.Whole enc P fn.params.toList spec.vars false W args.toList ds gs before) (hk : Rows.uptoBulkAll (ds ++ gs) ≤ B ∨ maxLen ≤ B) (hF : FOK (fun b => b < W.heap.size) W) :
  Calls P f args W fun e W' => ∃ v, e = .returned v ∧ spec.post enc P fn false true false false W args v W' := by
 have hW' := hW
 obtain ⟨p, q, hA, hV, rfl, hfz, hnd⟩ := hW
 rw [hvars] at hV
 obtain ⟨rfl, rfl⟩ := trodVars_none hV
 rw [List.append_nil] at hk
 simp only [List.all_eq_true, Bool.and_eq_true, decide_eq_true_eq] at hplain
 obtain ⟨e1, e2, as', g1, g2, g3⟩ := VT _ _ _ _ hA (fun t ht => (hplain t ht).1.1) (fun j t v h1 h2 => hval j t v (by simpa using h1) (by simpa using h2)) hk
 refine (zQ.row (walk as' g3) args (by simpa using g1.symm) (fun i x v hx hv => g2 i x v hx (by simpa using hv)) hF).mono fun e W' ⟨he, bel⟩ => ?_
 subst he
 have hs : spec.fn H (ds ++ []) = { results := [.lit (.bool true)], args := ds, vars := [] } := by rw [List.append_nil]; exact hfn H ds e1
 refine ⟨_, rfl, ds, [], _, [], p, [], hW', ?_, ?_, ?_, bel.frame _, fun h => by cases h⟩
 ·rw [hs, hres]
  exact trodAll_mk1 (shut_bool htb _)
 ·rw [hs]
  exact jH hl bel _ _ _ _ (fun t ht => ⟨(hplain t ht).1.2, (hplain t ht).2⟩) hA
 ·rw [hs, hvars]; rfl
end
section
open Go.ChangeShapes Go.WideShapes Go.ChangeAt Go.RowKit
section
variable {P : Program} {B n : Nat} {t e : TypeId} {us : List AV}
theorem jd {k : IntKind} (ht : P.underlying t = some (.int k)) (h : y9 P B (n + 1) t us) : ∃ z, us = [.v (.int k z)] ∧ (Lit.int k z).wf = true := by
 unfold y9 at h; rw [ht] at h; exact h
theorem JY (ht : P.underlying t = some .bool) (h : y9 P B (n + 1) t us) : ∃ b, us = [.v (.bool b)] := by
 unfold y9 at h; rw [ht] at h; exact h
theorem jZ {ts : List TypeId} {as' : List AV} (h : qb P B n (t :: ts) as') : ∃ x xs, as' = x :: xs ∧ wJ P B n t x ∧ qb P B n ts xs := by
 cases as' with
 | nil => exact h.elim
 | cons x xs => exact ⟨x, xs, rfl, h.1, h.2⟩
theorem KN {as' : List AV} (h : qb P B n [] as') : as' = [] := by
 cases as' with
 | nil => rfl
 | cons x xs => exact h.elim
theorem Ya {fs : Array Field} {k : Nat} (ht : P.underlying t = some (.struct fs)) (hk : P.cellsOf t = k) (h : y9 P B (n + 1) t us) : us.length = k ∧ ∀ (i : Nat) (f : Field), fs[i]? = some f → y9 P B n f.type ((us.drop f.offset).take (P.cellsOf f.type)) := by
 unfold y9 at h; rw [ht, hk] at h; exact h
theorem UP {fs : Array Field} {x : AV} (ht : P.underlying t = some (.struct fs)) (h : wJ P B n t x) : ∃ us, x = .agg us ∧ y9 P B n t us := by
 unfold wJ at h; rw [ht] at h; exact h
theorem JZ {α : Type} {xs : List (List AV)} {enc : α → List AV} {p : α → Prop} (h : ∀ cs ∈ xs, ∃ a, cs = enc a ∧ p a) : ∃ l : List α, xs = l.map enc ∧ ∀ a ∈ l, p a := by
 induction xs with
 | nil => exact ⟨[], rfl, fun a h => by cases h⟩
 | cons x xs ih =>
  obtain ⟨a, rfl, ha⟩ := h x (.head _)
  obtain ⟨l, rfl, hl⟩ := ih fun cs hcs => h cs (.tail _ hcs)
  exact ⟨a :: l, rfl, fun b hb => by rcases List.mem_cons.1 hb with rfl | hb; (· exact ha); exact hl b hb⟩
theorem XH {α : Type} {enc : α → List AV} {p : α → Prop} {k : Nat} (ht : P.underlying t = some (.slice e)) (hk : P.cellsOf e = k) (h : y9 P B (n + 1) t us) (he : ∀ cs, y9 P B n e cs → ∃ a, cs = enc a ∧ p a) :
  ∃ l : List α, us = [.lst k (l.map enc)] ∧ l.length ≤ B ∧ ∀ a ∈ l, p a := by
 unfold y9 at h
 rw [ht] at h
 obtain ⟨xs, rfl, h1, h2⟩ := h
 obtain ⟨l, rfl, h3⟩ := JZ (enc := enc) (p := p) fun cs hcs => he cs (h2 cs hcs).2
 exact ⟨l, by rw [hk], by simpa using h1, h3⟩
theorem J0 {k : IntKind} (ht : P.underlying t = some (.slice e)) (he : P.underlying e = some (.int k)) (hk : P.cellsOf e = 1) (h : y9 P B (n + 2) t us) :
  ∃ l : List Int, us = [.lst 1 (l.map fun z => [.v (.int k z)])] ∧ l.length ≤ B ∧ ∀ z ∈ l, (Lit.int k z).wf = true :=
 XH ht hk h fun cs hcs => by obtain ⟨z, h1, h2⟩ := jd he hcs; exact ⟨z, h1, h2⟩
end
theorem Wz {P : Program} {B n : Nat} {t : TypeId} {x : AV} {k : IntKind} (ht : P.underlying t = some (.int k)) (h : wJ P B (n + 1) t x) : ∃ z, x = .v (.int k z) ∧ (Lit.int k z).wf = true := by
 unfold wJ at h
 rw [ht] at h
 obtain ⟨z, h1, h2⟩ := jd ht h
 injection h1 with h1
 exact ⟨z, h1, h2⟩
end
section
open Go.ChangeShapes Go.WideShapes Go.ChangeAt Go.RowKit
theorem KO : (Tryz.prog).cellsOf 3 = 1 := by kernel_rfl
theorem J1 : (Tryz.prog).cellsOf 4 = 1 := by kernel_rfl
theorem KP : (Tryz.prog).cellsOf 27 = 4 := by kernel_rfl
theorem J2 : (Tryz.prog).cellsOf 22 = 1 := by kernel_rfl
theorem J3 : (Tryz.prog).cellsOf 23 = 1 := by kernel_rfl
theorem J4 : (Tryz.prog).cellsOf 25 = 3 := by kernel_rfl
theorem KQ {B n : Nat} {us : List AV} (h : y9 Tryz.prog B (n + 2) 27 us) : ∃ x : InsM, us = JG x ∧ True := by
 obtain ⟨hl, hf⟩ := Ya Tryz.underlying27 KP h
 have h0 : y9 Tryz.prog B _ 3 ((us.drop 0).take ((Tryz.prog).cellsOf 3)) := hf 0 _ rfl
 have h1 : y9 Tryz.prog B _ 3 ((us.drop 1).take ((Tryz.prog).cellsOf 3)) := hf 1 _ rfl
 have h2 : y9 Tryz.prog B _ 3 ((us.drop 2).take ((Tryz.prog).cellsOf 3)) := hf 2 _ rfl
 have h3 : y9 Tryz.prog B _ 3 ((us.drop 3).take ((Tryz.prog).cellsOf 3)) := hf 3 _ rfl
 match us, hl, h0, h1, h2, h3 with
 | [u0, u1, u2, u3], _, h0, h1, h2, h3 =>
 simp only [KO, List.drop_zero, List.drop_succ_cons, List.take_succ_cons, List.take_zero] at h0 h1 h2 h3
 obtain ⟨a, g1, _⟩ := jd Tryz.underlying3 h0
 obtain ⟨b, g3, _⟩ := jd Tryz.underlying3 h1
 obtain ⟨c, g5, _⟩ := jd Tryz.underlying3 h2
 obtain ⟨d, g7, _⟩ := jd Tryz.underlying3 h3
 injection g1 with g1; injection g3 with g3; injection g5 with g5; injection g7 with g7
 subst g1; subst g3; subst g5; subst g7
 exact ⟨⟨a, b, c, d⟩, rfl, trivial⟩
theorem UQ {B n : Nat} {x : AV} (h : wJ Tryz.prog B (n + 6) 25 x) : ∃ e C N, x = pG e C N ∧ C.length ≤ B ∧ N.length ≤ B := by
 obtain ⟨us, rfl, h'⟩ := UP Tryz.underlying25 h
 obtain ⟨hl, hf⟩ := Ya Tryz.underlying25 J4 h'
 have h0 : y9 Tryz.prog B _ 4 ((us.drop 0).take ((Tryz.prog).cellsOf 4)) := hf 0 _ rfl
 have h1 : y9 Tryz.prog B _ 22 ((us.drop 1).take ((Tryz.prog).cellsOf 22)) := hf 1 _ rfl
 have h2 : y9 Tryz.prog B _ 23 ((us.drop 2).take ((Tryz.prog).cellsOf 23)) := hf 2 _ rfl
 match us, hl, h0, h1, h2 with
 | [u0, u1, u2], _, h0, h1, h2 =>
 simp only [J1, J2, J3, List.drop_zero, List.drop_succ_cons, List.take_succ_cons, List.take_zero] at h0 h1 h2
 obtain ⟨e, g0⟩ := JY Tryz.underlying4 h0
 obtain ⟨C, g1, g2, _⟩ := XH (enc := JG) Tryz.underlying22 KP h1 (fun cs => KQ)
 obtain ⟨N, g4, g5, _⟩ := J0 Tryz.underlying23 Tryz.underlying3 KO h2
 injection g0 with g0; injection g1 with g1; injection g4 with g4
 subst g0; subst g1; subst g4
 exact ⟨e, C, N, rfl, g2, g5⟩
end
section
open Go.RowKit
def zY (x lo hi : Int) : Int :=
 if hi < lo then max x lo else if inF x lo hi = true then max x lo
 else if x.tmod (hi - lo + 1) < 0 then lo + (x.tmod (hi - lo + 1) + (hi - lo + 1)) else lo + x.tmod (hi - lo + 1)
theorem zU (x : Int) {lo hi : Int} (h : lo ≤ hi) : lo ≤ zY x lo hi ∧ zY x lo hi ≤ hi := by
 unfold zY
 rw [if_neg (by omega)]
 have h1 := Int.tmod_lt_of_pos x (show 0 < hi - lo + 1 by omega)
 have h2 := Int.lt_tmod_of_pos x (show 0 < hi - lo + 1 by omega)
 generalize x.tmod (hi - lo + 1) = t at *
 by_cases hx : inF x lo hi = true
 ·rw [if_pos hx]
  simp only [inF, Bool.and_eq_true, decide_eq_true_eq] at hx
  rw [Int.max_def]
  split <;> omega
 ·rw [if_neg hx]
  split <;> omega
theorem wB (x lo hi : Int) (hl : -1000000000 ≤ lo ∧ lo ≤ 1000000000 ∧ -1000000000 ≤ hi ∧ hi ≤ 1000000000) : zQ Tryz.prog 29 [vI x, vI lo, vI hi] (fun r => r = vI (zY x lo hi)) := by
 unfold zY
 by_cases h1 : hi < lo
 ·have e1 : (hi < lo) = True := eq_true h1
  rw [if_pos h1]
  refine zE (zb _) Tryz.func29 rfl rfl (by rw [Tryz.results29]) Tryz.ntmps29 rfl fun E => ?_
  (repeat' (first | exact trivial | (with_reducible first | apply awA | apply awD | apply awF | apply awG) | ((with_reducible first | apply awn | apply awo | refine awQ ?_ | refine awR ?_); intro r hr; simp only [go_sem, Nat.reduceBEq, Nat.reduceLT, Nat.reduceAdd, reduceCtorEq, e1] at hr; subst hr; (first | refine caB 28 (vB true) ?_ ?_ ?_ | refine awV ?_ ?_ | refine zM ?_ ?_ | (refine zh (fun h => ?_) (fun h => ?_) <;> (try simp only [go_sem, reduceCtorEq] at h) <;> (try (exfalso; omega))))))) <;> (try omega)
  all_goals rfl
 ·have e1 : (hi < lo) = False := eq_false h1
  rw [if_neg h1]
  have hin := YQ x lo hi
  cases hb : inF x lo hi with
  | true =>
   rw [hb] at hin
   rw [if_pos rfl]
   refine zE (zb _) Tryz.func29 rfl rfl (by rw [Tryz.results29]) Tryz.ntmps29 rfl fun E => ?_
   (repeat' (first | exact trivial | (with_reducible first | apply awA | apply awD | apply awF | apply awG) | ((with_reducible first | apply awn | apply awo | refine awQ ?_ | refine awR ?_); intro r hr; simp only [go_sem, Nat.reduceBEq, Nat.reduceLT, Nat.reduceAdd, reduceCtorEq, e1] at hr; subst hr; (first | refine caA (fun _ => hin) rfl ?_ ?_ ?_ | refine awV ?_ ?_ | refine zM ?_ ?_ | (refine zh (fun h => ?_) (fun h => ?_) <;> (try simp only [go_sem, reduceCtorEq] at h) <;> (try (exfalso; omega))))))) <;> (try omega)
   all_goals rfl
  | false =>
   rw [hb] at hin
   rw [if_neg (by decide)]
   have w1 : IntKind.i64.wrap (hi - lo) = hi - lo := zy (by omega)
   have w2 := zy (n := hi - lo + 1) (by omega)
   have e2 : (hi - lo + 1 = 0) = False := eq_false (by omega)
   have t1 := Int.tmod_lt_of_pos x (show 0 < hi - lo + 1 by omega)
   have t2 := Int.lt_tmod_of_pos x (show 0 < hi - lo + 1 by omega)
   by_cases h3 : x.tmod (hi - lo + 1) < 0
   ·have e3 : (x.tmod (hi - lo + 1) < 0) = True := eq_true h3
    rw [if_pos h3]
    have w3 := zy (n := x.tmod (hi - lo + 1) + (hi - lo + 1)) (by omega)
    have w4 := zy (n := lo + (x.tmod (hi - lo + 1) + (hi - lo + 1))) (by omega)
    refine zE (zb _) Tryz.func29 rfl rfl (by rw [Tryz.results29]) Tryz.ntmps29 rfl fun E => ?_
    (repeat' (first | exact trivial | (with_reducible first | apply awA | apply awC | apply awD | apply awF) | ((with_reducible first | apply awn | apply awo | refine awQ ?_ | refine awR ?_); intro r hr; simp only [go_sem, Nat.reduceBEq, Nat.reduceLT, Nat.reduceAdd, reduceCtorEq, e1, w1, w2, w3, w4, e2, e3] at hr; subst hr; (first | refine caA (fun _ => hin) rfl ?_ ?_ ?_ | refine awV ?_ ?_ | refine zM ?_ ?_ | (refine zh (fun h => ?_) (fun h => ?_) <;> (try simp only [go_sem, reduceCtorEq] at h) <;> (try (exfalso; omega))))))) <;> (try omega)
    all_goals rfl
   ·have e3 : (x.tmod (hi - lo + 1) < 0) = False := eq_false h3
    rw [if_neg h3]
    have w4 := zy (n := lo + x.tmod (hi - lo + 1)) (by omega)
    refine zE (zb _) Tryz.func29 rfl rfl (by rw [Tryz.results29]) Tryz.ntmps29 rfl fun E => ?_
    (repeat' (first | exact trivial | (with_reducible first | apply awA | apply awC | apply awD | apply awF) | ((with_reducible first | apply awn | apply awo | refine awQ ?_ | refine awR ?_); intro r hr; simp only [go_sem, Nat.reduceBEq, Nat.reduceLT, Nat.reduceAdd, reduceCtorEq, e1, w1, w2, w4, e2, e3] at hr; subst hr; (first | refine caA (fun _ => hin) rfl ?_ ?_ ?_ | refine awV ?_ ?_ | refine zM ?_ ?_ | (refine zh (fun h => ?_) (fun h => ?_) <;> (try simp only [go_sem, reduceCtorEq] at h) <;> (try (exfalso; omega))))))) <;> (try omega)
    all_goals rfl
def J8 (i : Int) : Int := if i = 0 then 1 else if i = 1 then 2 else if i = 2 then 4 else 8
def y6 (nC nN : Nat) (w x : Int) : Int :=
 if w = 107 then zY x (-1) 63 else
 if w = 112 then zY x (-1) 63 else
 if w = 75 then zY x 0 61 else
 if w = 119 then J8 (zY x 0 3) else
 if w = 109 then 2 else
 if w = 102 then zY x 4 400 else
 if w = 110 then zY x 1 1048576 else
 if w = 115 then zY x 1 64 else
 if w = 103 then zY x 0 255 else
 if w = 108 then zY x 0 300 else
 if w = 76 then zY x (-1) 16777215 else
 if w = 114 then max (zY x 0 300) 1 else
 if w = 122 then zY x 1 16777216 else
 if w = 116 then zY x 0 ((nC : Int) - 1) else
 if w = 121 then zY x 0 ((nN : Int) - 1) else 0
theorem jC (e : Bool) (C : List InsM) (N : List Int) (hC : C.length ≤ 100000000) (hN : N.length ≤ 100000000) (w x : Int) : zQ Tryz.prog 31 [pG e C N, vU8 w, vI x] (fun r => r = vI (y6 C.length N.length w x)) := by
 have hw1 := zy (n := (C.length : Int) - 1) (by omega)
 have hw2 := zy (n := (N.length : Int) - 1) (by omega)
 unfold pG
 refine zE (zb _) Tryz.func31 rfl rfl (by rw [Tryz.results31]) Tryz.ntmps31 rfl fun E => ?_
 (repeat' (first | exact trivial | (with_reducible first | apply awA | apply awB | apply awC | apply awD | apply awF | apply awG | apply awI | apply awJ) | ((with_reducible first | apply awn | apply awo | refine awQ ?_ | refine awR ?_); intro r hr; simp only [go_sem, Nat.reduceBEq, Nat.reduceLT, Nat.reduceLeDiff, Nat.reduceAdd, Nat.reduceMul, hw1, hw2, zd, zp] at hr; subst hr; (first | refine caA (fun _ => wB _ _ _ (by omega)) rfl ?_ ?_ ?_ | refine awV ?_ ?_ | refine zM ?_ ?_ | (refine zh (fun h => ?_) (fun h => ?_) <;> (try simp only [go_sem] at h) <;> (try (exfalso; omega))))))) <;> (try omega)
 all_goals first | (subst_vars; rfl) | (unfold y6; simp only [*, if_false]; rfl) | skip
 have hw : w = 119 := by assumption
 subst hw
 have hb := zU x (show (0 : Int) ≤ 3 by omega)
 show _ = vI (J8 (zY x 0 3))
 generalize zY x 0 3 = b at *
 obtain rfl | rfl | rfl | rfl : b = 0 ∨ b = 1 ∨ b = 2 ∨ b = 3 := by omega
 all_goals rfl
theorem xe {n lo hi : Int} : inF n lo hi = true ↔ lo ≤ n ∧ n ≤ hi := by simp [inF]
theorem qn {nC nN : Nat} (h1 : 1 ≤ nC) (h2 : 1 ≤ nN) {w : Int} (hw : uU.contains w = true) (ha : w ≠ 97) (x : Int) : vY nC nN w (y6 nC nN w x) = true := by
 simp only [uU, List.contains_cons, List.contains_nil, Bool.or_false, Bool.or_eq_true, beq_iff_eq] at hw
 rcases hw with rfl | rfl | rfl | rfl | rfl | rfl | rfl | rfl | rfl | rfl | rfl | rfl | rfl | rfl | rfl | rfl | rfl
 ·simp [vY, y6]
 ·simp only [vY, y6, if_true]; exact xe.2 (zU x (by omega))
 ·simp only [vY, y6, if_true, Int.reduceEq, if_false]; exact xe.2 (zU x (by omega))
 ·simp only [vY, y6, if_true, Int.reduceEq, if_false]; have := zU x (show (0 : Int) ≤ 61 by omega); exact xe.2 (by omega)
 ·simp only [vY, y6, if_true, Int.reduceEq, if_false]
  have hb := zU x (show (0 : Int) ≤ 3 by omega)
  generalize zY x 0 3 = b at *
  obtain rfl | rfl | rfl | rfl : b = 0 ∨ b = 1 ∨ b = 2 ∨ b = 3 := by omega
  all_goals rfl
 ·simp only [vY, y6, if_true, Int.reduceEq, if_false]; exact xe.2 (by omega)
 ·simp only [vY, y6, if_true, Int.reduceEq, if_false]; have := zU x (show (4 : Int) ≤ 400 by omega); exact xe.2 (by omega)
 ·simp only [vY, y6, if_true, Int.reduceEq, if_false]; exact xe.2 (zU x (by omega))
 ·simp only [vY, y6, if_true, Int.reduceEq, if_false]; exact xe.2 (zU x (by omega))
 ·exact absurd rfl ha
 ·simp only [vY, y6, if_true, Int.reduceEq, if_false]; exact xe.2 (zU x (by omega))
 ·simp only [vY, y6, if_true, Int.reduceEq, if_false]; have := zU x (show (0 : Int) ≤ 300 by omega); exact xe.2 (by omega)
 ·simp only [vY, y6, if_true, Int.reduceEq, if_false]; exact xe.2 (zU x (by omega))
 ·simp only [vY, y6, if_true, Int.reduceEq, if_false]
  have := zU x (show (0 : Int) ≤ 300 by omega)
  rw [Bool.or_eq_true]
  exact .inr (xe.2 (by rw [Int.max_def]; split <;> omega))
 ·simp only [vY, y6, if_true, Int.reduceEq, if_false]; exact xe.2 (zU x (by omega))
 ·simp only [vY, y6, if_true, Int.reduceEq, if_false]; exact xe.2 (zU x (by omega))
 ·simp only [vY, y6, if_true, Int.reduceEq, if_false]; exact xe.2 (zU x (by omega))
end
section
open Go.RowKit
theorem zaB (e : Bool) (C : List InsM) (N : List Int) (hC : C.length ≤ 100000000) (hN : N.length ≤ 100000000) :
  yb Tryz.prog 7 [pG e C N] [] (.agg [vB e, .ref 27 4 7 0 C.length, .ref 3 1 13 0 N.length]) [(7, .row 27 4 (zF C ++ [jQ ⟨-901, 0, 0, 0⟩])), (13, .row 3 1 (v8 N ++ [[vI (-902)]]))] := by
 have tC : List.take C.length (zF C) = zF C := List.take_of_length_le (by rw [zd]; omega)
 have tN : List.take N.length (v8 N) = v8 N := List.take_of_length_le (by rw [zp]; omega)
 unfold pG
 refine zJ (zb _) Tryz.func7 rfl rfl (by rw [Tryz.results7]) Tryz.ntmps7 rfl fun E => ?_
 (repeat' (first | exact trivial | (with_reducible first | apply awA | apply awD | apply awF) | (refine zA (id := 3) (t := (.node [0, 1, 2, 3, 4, 5, 6, 7, 8, 9, 10, 11, 12, 13] [])) (drR [1] [] []) zH (by kernel_rfl) (by kernel_rfl) (fun _ _ h => h) ?_) | (refine zB (by simp only [go_sem]; exact rfl) ?_) | (refine zD (by simp only [go_sem]; exact rfl) ?_) | refine zl ?_ | refine zq ?_ ?_ | exact zC | ((with_reducible first | apply awn | apply awp | refine awT ?_); intro r hr; simp only [go_sem, Nat.reduceBEq, Nat.reduceLT, Nat.reduceLeDiff, Nat.reduceAdd, Nat.reduceMul, Nat.reduceEqDiff, zd, zp, tC, tN] at hr; subst hr; (first | refine awV ?_ ?_ | refine zP ?_ ?_ ?_)))) <;> (try omega)
 ·simp only [List.length_append, zd, List.length_cons, List.length_nil]; omega
 ·simp only [List.length_append, zp, List.length_cons, List.length_nil]; omega
 ·simp only [List.length_append, zd, zp, List.length_cons, List.length_nil]; omega
 all_goals first | exact AV.up_rfl _ | (repeat first | exact zo | refine zn rfl ?_)
end
section
open Go.RowKit
def QG (n : Nat) (f : FormM) : Bool :=
 !f.known ||
 ((if n = 8 ∨ n = 41 then decide (f.name = wn ∨ f.name = wo) && decide (bAt f.has 0 = 97) && decide (bAt f.has 1 = 32) && decide (bAt f.has 2 = 32)
  else !decide (f.name = wn ∨ f.name = wo) && (List.range 3).all fun i => !decide (bAt f.has i = 97))
 && (!decide (f.name = w8) || decide (bAt f.has 0 = 75) && decide (bAt f.has 1 = 109))
 && (!decide (f.name = xT) || decide (bAt f.has 0 = 108) && decide (bAt f.has 1 = 109) && decide (bAt f.has 2 = 119))
 && (!decide (f.name = vA) || decide (bAt f.has 0 = 107) && decide (bAt f.has 1 = 112)))
theorem QH : (List.range 48).all (fun n => QG n (yj true n) && QG n (yj false n)) = true := by decide +kernel
theorem VI {e : Bool} {op : Int} (h : (yj e op).known = true) : ∃ n : Nat, op = n ∧ n < 48 := by
 by_cases g : op < 0 ∨ 48 ≤ op
 ·rw [ZW e g] at h; cases h
 ·exact ⟨op.toNat, by omega, by omega⟩
structure Told (op : Int) (f : FormM) : Prop where
 arm : op = 8 ∨ op = 41 → (f.name = wn ∨ f.name = wo) ∧ bAt f.has 0 = 97 ∧ bAt f.has 1 = 32 ∧ bAt f.has 2 = 32
 no : ¬ (op = 8 ∨ op = 41) → ¬ (f.name = wn ∨ f.name = wo) ∧ ∀ i, i < 3 → bAt f.has i ≠ 97
 u : f.name = w8 → bAt f.has 0 = 75 ∧ bAt f.has 1 = 109
 n : f.name = xT → bAt f.has 0 = 108 ∧ bAt f.has 1 = 109 ∧ bAt f.has 2 = 119
 p : f.name = vA → bAt f.has 0 = 107 ∧ bAt f.has 1 = 112
theorem za7 {e : Bool} {op : Int} (h : (yj e op).known = true) : Told op (yj e op) := by
 obtain ⟨n, rfl, hn⟩ := VI h
 have ht : QG n (yj e n) = true := by
  have := List.all_eq_true.1 QH n (List.mem_range.2 hn)
  rw [Bool.and_eq_true] at this
  cases e
  ·exact this.2
  ·exact this.1
 unfold QG at ht
 rw [h] at ht
 simp only [Bool.not_true, Bool.false_or, Bool.and_eq_true] at ht
 obtain ⟨⟨⟨h1, h2⟩, h3⟩, h4⟩ := ht
 refine ⟨fun g => ?_, fun g => ?_, fun g => ?_, fun g => ?_, fun g => ?_⟩
 ·rw [if_pos (by omega)] at h1
  simpa only [Bool.and_eq_true, decide_eq_true_eq, and_assoc] using h1
 ·rw [if_neg (by omega)] at h1
  simp only [Bool.and_eq_true, Bool.not_eq_true', decide_eq_false_iff_not, List.all_eq_true, List.mem_range] at h1
  exact ⟨h1.1, fun i hi => h1.2 i hi⟩
 ·simpa [g] using h2
 ·simpa [g, and_assoc] using h3
 ·simpa [g] using h4
theorem Jw {op : Int} (h : 1 ≤ op ∧ op ≤ 20) : (yj false op).known = true := by
 unfold yj
 split
 ·rfl
 ·rw [if_neg (fun g => by cases g.1), if_pos ⟨rfl, h⟩]
theorem YD {op : Int} (h : op = 9 ∨ op = 19 ∨ op = 20 ∨ (33 ≤ op ∧ op ≤ 47)) : (yj true op).known = true := by
 unfold yj
 split
 ·rfl
 ·rw [if_pos ⟨rfl, by omega⟩]
structure Good (e : Bool) (nC nN : Nat) (x : InsM) : Prop where
 known : (yj e x.op).known = true
 arm : x.op = 8 ∨ x.op = 41 → x.b = 0 ∧ x.c = 0
 fit : ¬ (x.op = 8 ∨ x.op = 41) → KI nC nN (yj e x.op) x = true ∧ ∀ C k, va (yj e x.op).name C k x = true
theorem QI {nm : ByteArray} (h : ¬ (nm = wn ∨ nm = wo)) (hU : nm ≠ w8) (hN : nm ≠ xT) (hP : nm ≠ vA) (C : List InsM) (k : Nat) (x : InsM) : va nm C k x = true := by
 unfold va
 rw [if_neg hU, if_neg hN, if_neg hP, if_neg h]
theorem VJ {e : Bool} {op : Int} {nC nN : Nat} (h : (yj e op).known = true) (h1 : 1 ≤ nC) (h2 : 1 ≤ nN) (a b c : Int)
  (hp : ¬ ((yj e op).name = vA ∧ (y6 nC nN (bAt (yj e op).has 0) a = -1 ∨ y6 nC nN (bAt (yj e op).has 1) b = -1))) :
  Good e nC nN ⟨op, y6 nC nN (bAt (yj e op).has 0) a, y6 nC nN (bAt (yj e op).has 1) b, y6 nC nN (bAt (yj e op).has 2) c⟩ := by
 have T := za7 h
 obtain ⟨-, -, hL, -⟩ := vb h
 refine ⟨h, fun g => ?_, fun g => ?_⟩
 ·obtain ⟨-, -, g1, g2⟩ := T.arm g
  dsimp only
  rw [g1, g2]
  exact ⟨rfl, rfl⟩
 ·obtain ⟨g0, g1⟩ := T.no g
  refine ⟨?_, fun C k => ?_⟩
  ·unfold KI
   dsimp only
   rw [qn h1 h2 (hL 0 (by decide)).1 (g1 0 (by decide)), qn h1 h2 (hL 1 (by decide)).1 (g1 1 (by decide)), qn h1 h2 (hL 2 (by decide)).1 (g1 2 (by decide))]
   rfl
  ·dsimp only
   by_cases hU : (yj e op).name = w8
   ·obtain ⟨l0, l1⟩ := T.u hU
    rw [l0, l1, hU]
    have q0 : y6 nC nN 75 a = zY a 0 61 := rfl
    have q1 : y6 nC nN 109 b = 2 := rfl
    rw [q0, q1]
    have := zU a (show (0 : Int) ≤ 61 by omega)
    generalize zY a 0 61 = t at *
    unfold va
    rw [if_pos rfl]
    dsimp only
    rw [zy (by omega)]
    exact decide_eq_true (by omega)
   by_cases hN : (yj e op).name = xT
   ·obtain ⟨l0, l1, l2⟩ := T.n hN
    rw [l0, l1, l2, hN]
    have q0 : y6 nC nN 108 a = zY a 0 300 := rfl
    have q1 : y6 nC nN 109 b = 2 := rfl
    have q2 : y6 nC nN 119 c = J8 (zY c 0 3) := rfl
    rw [q0, q1, q2]
    have := zU a (show (0 : Int) ≤ 300 by omega)
    have hc := zU c (show (0 : Int) ≤ 3 by omega)
    generalize zY a 0 300 = t at *
    generalize zY c 0 3 = s at *
    have hs : 1 ≤ J8 s ∧ J8 s ≤ 8 := by
     obtain rfl | rfl | rfl | rfl : s = 0 ∨ s = 1 ∨ s = 2 ∨ s = 3 := by omega
     all_goals decide
    generalize J8 s = z at *
    unfold va
    rw [if_neg (by decide), if_pos rfl]
    dsimp only
    rw [zy (n := 2 * z) (by omega), zy (by omega)]
    exact decide_eq_true (by omega)
   by_cases hP : (yj e op).name = vA
   ·have hp1 : y6 nC nN (bAt (yj e op).has 0) a ≠ -1 := fun q => hp ⟨hP, .inl q⟩
    have hp2 : y6 nC nN (bAt (yj e op).has 1) b ≠ -1 := fun q => hp ⟨hP, .inr q⟩
    rw [hP]
    unfold va
    rw [if_neg (by decide), if_neg (by decide), if_pos rfl]
    dsimp only
    rw [decide_eq_false hp1, decide_eq_false hp2]
    rfl
   ·exact QI g0 hU hN hP C k _
theorem VK {e : Bool} {op : Int} {nC nN : Nat} (h : (yj e op).known = true) (h1 : 1 ≤ nC) (h2 : 1 ≤ nN) (c : Int) (hp : (yj e op).name = vA) :
  Good e nC nN ⟨op, -1, -1, y6 nC nN (bAt (yj e op).has 2) c⟩ := by
 have T := za7 h
 obtain ⟨-, -, hL, -⟩ := vb h
 have g : ¬ (op = 8 ∨ op = 41) := fun g => by
  have := (T.arm g).1
  rw [hp] at this
  revert this
  decide
 obtain ⟨g0, g1⟩ := T.no g
 refine ⟨h, fun q => absurd q g, fun _ => ⟨?_, fun C k => ?_⟩⟩
 ·obtain ⟨l0, l1⟩ := T.p hp
  unfold KI
  dsimp only
  rw [qn h1 h2 (hL 2 (by decide)).1 (g1 2 (by decide)), l0, l1]
  rfl
 ·dsimp only
  rw [hp]
  unfold va
  rw [if_neg (by decide), if_neg (by decide), if_pos rfl]
  rfl
theorem yg {X : List InsM} {i : Nat} {y : InsM} (h : i < X.length) (j : Nat) : zg (X.set i y) j = if j = i then y else zg X j := by
 unfold zg
 by_cases g : j = i
 ·subst g
  simp [List.getD, h]
 ·rw [if_neg g]
  simp [List.getD, Ne.symm g, show ¬ i = j from fun q => g q.symm]
theorem jD (C : List InsM) (k : Nat) (a : Int) (j : Nat) : (xE C k a)[j]? = if j < a.toNat then C[k + 1 + j]? else none := by
 unfold xE
 rw [List.getElem?_drop, List.getElem?_take]
 by_cases h : j < a.toNat
 ·rw [if_pos h, if_pos (by omega)]
 ·rw [if_neg h, if_neg (by omega)]
theorem qR {Y : List InsM} {t j : Nat} {y : InsM} {a : Int} (h : t ≤ j ∨ j + 1 + a.toNat ≤ t) : xE (Y.set t y) j a = xE Y j a := by
 refine List.ext_getElem? fun n => ?_
 rw [jD, jD]
 by_cases g : n < a.toNat
 ·rw [if_pos g, if_pos g, List.getElem?_set, if_neg (by omega)]
 ·rw [if_neg g, if_neg g]
theorem Zv : ∀ {R l : List InsM}, y4 l R = true → ∀ y ∈ R, y.op = 9
 | [], _, _, y, hy => by cases hy
 | z :: R, l, h, y, hy => by
  unfold y4 at h
  simp only [Bool.and_eq_true, decide_eq_true_eq] at h
  rcases List.mem_cons.1 hy with rfl | hy
  ·exact h.1.1
  ·exact Zv h.2 y hy
theorem X6 {Y : List InsM} {t j : Nat} {y : InsM} (ht : t < Y.length) (hj : j ≠ t) (h9 : (zg Y t).op ≠ 9) (h : x9 Y j = true) : x9 (Y.set t y) j = true := by
 unfold x9 at h ⊢
 rw [yg ht, if_neg hj, List.length_set]
 split at h
 ·cases h
 ·rename_i hl
  rw [if_neg hl]
  by_cases g : t ≤ j ∨ j + 1 + (zg Y j).a.toNat ≤ t
  ·rw [qR g]; exact h
  ·exfalso
   refine h9 (Zv h (zg Y t) (List.mem_of_getElem? (i := t - j - 1) ?_))
   rw [jD, if_pos (by omega), show j + 1 + (t - j - 1) = t by omega]
   simp [zg, List.getD, ht]
structure Done (e : Bool) (nC nN : Nat) (Y : List InsM) (j : Nat) : Prop where
 good : Good e nC nN (zg Y j)
 arms : (zg Y j).op = 8 ∨ (zg Y j).op = 41 → (1 ≤ (zg Y j).a ∧ (zg Y j).a ≤ 64) ∧ x9 Y j = true
theorem Done.set {e : Bool} {nC nN : Nat} {Y : List InsM} {t j : Nat} {y : InsM} (h : Done e nC nN Y j) (ht : t < Y.length) (hj : j ≠ t) (h9 : (zg Y t).op = 8 ∨ (zg Y t).op = 41) : Done e nC nN (Y.set t y) j := by
 refine ⟨?_, ?_⟩
 ·rw [yg ht, if_neg hj]; exact h.good
 ·rw [yg ht, if_neg hj]
  exact fun g => ⟨(h.arms g).1, X6 ht hj (by omega) (h.arms g).2⟩
theorem Xg (e : Bool) (nC nN : Nat) : Good e nC nN ⟨20, 0, 0, 0⟩ := by
 refine ⟨by cases e <;> rfl, fun h => ⟨rfl, rfl⟩, fun _ => ⟨by cases e <;> rfl, fun C k => by cases e <;> rfl⟩⟩
theorem Done.formed {e : Bool} {N : List Int} {Y : List InsM} {j : Nat} (h : Done e Y.length N.length Y j) : uT e Y N j = true := by
 unfold uT
 dsimp only
 have hk := h.good.known
 rw [hk]
 by_cases g : (zg Y j).op = 8 ∨ (zg Y j).op = 41
 ·obtain ⟨h1, h2⟩ := h.arms g
  obtain ⟨hb, hc⟩ := h.good.arm g
  obtain ⟨n0, l0, l1, l2⟩ := (za7 hk).arm g
  have hr : va (yj e (zg Y j).op).name Y j (zg Y j) = true := by
   unfold va
   have h1 : ¬ (yj e (zg Y j).op).name = w8 := by rcases n0 with q | q <;> rw [q] <;> decide
   have h3 : ¬ (yj e (zg Y j).op).name = xT := by rcases n0 with q | q <;> rw [q] <;> decide
   have h4 : ¬ (yj e (zg Y j).op).name = vA := by rcases n0 with q | q <;> rw [q] <;> decide
   rw [if_neg h1, if_neg h3, if_neg h4, if_pos n0]
   exact h2
  rw [hr]
  unfold KI
  rw [l0, l1, l2, hb, hc]
  have : vY Y.length N.length 97 (zg Y j).a = true := by
   show inF (zg Y j).a 1 64 = true
   exact xe.2 h1
  rw [this]
  rfl
 ·obtain ⟨h1, h2⟩ := h.good.fit g
  rw [h1, h2 Y j]
  rfl
theorem QJ {e : Bool} {N : List Int} {Y : List InsM} (hY : Y.length ≤ 1000) (hN : N.length ≤ 1000) (h1 : ∀ j, j < Y.length → Done e Y.length N.length Y j) (h2 : ∀ n ∈ N, 0 ≤ n ∧ n < Y.length) : x8 e Y N = (0, 0) :=
 Kb.2 ⟨⟨by omega, by omega⟩, fun k hk => by rw [← qd e Y N hk]; exact (h1 k hk).formed, h2⟩
end
section
open Go.RowKit
section
variable {P : Program} {E : Env} {s : AState} {n : Nat} {Q : Exit → AState → Prop}
theorem VL {α : Type} {a c e d : Code} (o : Operand) (ts os : List Nat) (sh : α → AState) (inv : α → Prop)
  (h1 : AWp P E n (.seq a (.cond o c e)) (Yj (fun s' => ∃ y, s'.keep ts os = sh y ∧ inv y) Q) s) (h2 : ∀ y, inv y → AWp P E n d Q (sh y)) : AWp P E n (.seq a (.cond o c e)) (Yj (AWp P E n d Q) Q) s := fun a w hw => wp_mono (h1 a w hw) fun e a' w' hl => by
 cases e with
 | normal =>
  obtain ⟨s', ⟨y, g1, g2⟩, g3⟩ := hl
  refine ⟨s'.keep ts os, ?_, g3.weaken (fun t p => xB s'.fr t p ts) (fun d o => xB s'.ob d o os)⟩
  rw [g1]
  exact h2 y g2
 | _ => exact hl
theorem VM {α : Type} {ops : Array Oper} {b : Bool} {d : Code} (id : Nat) (ts os : List Nat) (sh : α → AState) (inv : α → Prop)
  (h1 : AWp P E n (.region id ops b) (Yj (fun s' => ∃ y, s'.keep ts os = sh y ∧ inv y) Q) s) (h2 : ∀ y, inv y → AWp P E n d Q (sh y)) : AWp P E n (.region id ops b) (Yj (AWp P E n d Q) Q) s := fun a w hw => wp_mono (h1 a w hw) fun e a' w' hl => by
 cases e with
 | normal =>
  obtain ⟨s', ⟨y, g1, g2⟩, g3⟩ := hl
  refine ⟨s'.keep ts os, ?_, g3.weaken (fun t p => xB s'.fr t p ts) (fun d o => xB s'.ob d o os)⟩
  rw [g1]
  exact h2 y g2
 | _ => exact hl
end
theorem Jx (e : Bool) (C : List InsM) (N : List Int) (h1 : 0 < C.length) (h2 : C.length ≤ 60) (h3 : 0 < N.length) (h4 : N.length ≤ 100000000) (hok : x8 e C N = (0, 0)) :
  yb Tryz.prog 20 [pG e C N, vI 60] [] (.agg [vB e, .ref 27 4 45 0 C.length, .ref 3 1 51 0 N.length]) [(45, .row 27 4 (zF C)), (51, .row 3 1 (v8 N))] := by
 have tC : List.take C.length (zF C) = zF C := List.take_of_length_le (by rw [zd]; omega)
 have tN : List.take N.length (v8 N) = v8 N := List.take_of_length_le (by rw [zp]; omega)
 have hc := vu e C N (by omega) (by omega)
 rw [hok] at hc
 have e1 : ((C.length : Int) > 0) = True := eq_true (by omega)
 have e2 : ((C.length : Int) ≤ 60) = True := eq_true (by omega)
 have e3 : ((N.length : Int) > 0) = True := eq_true (by omega)
 unfold pG at *
 refine zJ (zb _) Tryz.func20 rfl rfl (by rw [Tryz.results20]) Tryz.ntmps20 rfl fun E => ?_
 (repeat' (first | exact trivial | (with_reducible first | apply awA | apply awD | apply awF | apply awG) | ((with_reducible first | apply awn | apply awo | refine awQ ?_ | refine awT ?_); intro r hr; simp only [go_sem, Nat.reduceBEq, Nat.reduceLT, Nat.reduceLeDiff, Nat.reduceAdd, Nat.reduceMul, Nat.reduceEqDiff, reduceCtorEq, zd, zp, tC, tN, e1, e2, e3] at hr; subst hr; (first | refine caA (fun _ => hc) rfl ?_ ?_ ?_ | refine awV ?_ ?_ | refine zP ?_ ?_ ?_ | (refine zh (fun h => ?_) (fun h => ?_) <;> (try simp only [go_sem, reduceCtorEq] at h) <;> (try (exfalso; omega))))))) <;> (try omega)
 all_goals first | exact AV.up_rfl _ | (repeat first | exact zo | refine zn rfl ?_)
theorem QK (n : Nat) : (List.replicate n [vI 0, vI 0, vI 0, vI 0] : List (List AV)) = zF (List.replicate n ⟨0, 0, 0, 0⟩) := by simp [zF, JG]
theorem Jy (n : Nat) : (List.replicate n [vI 0] : List (List AV)) = v8 (List.replicate n 0) := by simp [v8]
theorem wl (X : List InsM) (i : Nat) (o a b c : Int) : (zF X).set i [vI o, vI a, vI b, vI c] = zF (X.set i ⟨o, a, b, c⟩) := by simp [zF, JG, List.map_set]
theorem zaC (Z : List Int) (i : Nat) (x : Int) : (v8 Z).set i [vI x] = v8 (Z.set i x) := by simp [v8, List.map_set]
theorem xM {X : List InsM} {i : Nat} (h : i < X.length) : (zF X)[i]? = some [vI (zg X i).op, vI (zg X i).a, vI (zg X i).b, vI (zg X i).c] := yC h
theorem Jz (e : Bool) (C : List InsM) (N : List Int) (hC : C.length ≤ 100000000) (hN : N.length ≤ 100000000) (hno : ¬ (0 < C.length ∧ C.length ≤ 60 ∧ 0 < N.length ∧ x8 e C N = (0, 0))) :
  yx Tryz.prog 20 [pG e C N, vI 60] [] (fun q : List InsM × List Int => x8 e q.1 q.2 = (0, 0) ∧ (1 ≤ q.1.length ∧ q.1.length ≤ 61) ∧ 1 ≤ q.2.length ∧ q.2.length ≤ 21) (fun q => .agg [vB e, .ref 27 4 61 0 q.1.length, .ref 3 1 68 0 q.2.length]) (fun q => [(61, .row 27 4 (zF q.1)), (68, .row 3 1 (v8 q.2))]) := by
 have hc := vu e C N (by omega) (by omega)
 unfold pG at *
 refine xq (zb _) Tryz.func20 rfl rfl (by rw [Tryz.results20]) Tryz.ntmps20 rfl fun E => ?_
 (repeat' (first | exact trivial | (refine VL (.tmp 40) [1, 2, 4, 5] [2, 4, 5] (fun _ : Unit => ⟨[(1, true, vI 60), (2, true, .ptr 1 2 0 0), (4, true, .ptr 1 4 0 0), (5, true, .ptr 1 5 0 0)], [(2, .var [vB e, .lst 4 (zF C), .lst 1 (v8 N)]), (4, .var [vB false, .v (.slice none 0 0), .v (.slice none 0 0)]), (5, .var [vB e, .v (.slice none 0 0), .v (.slice none 0 0)])]⟩) (fun _ => True) (xI ?_) ?_) | (with_reducible first | apply awA | apply awF) | ((with_reducible apply awn); intro r hr; simp only [go_sem, Nat.reduceBEq, Nat.reduceLT, Nat.reduceLeDiff, Nat.reduceAdd, Nat.reduceMul] at hr; subst hr; (first | refine awV ?_ ?_)))) <;> (try omega)
 ·refine ⟨?_⟩
  rcases Classical.propComplete ((C.length : Int) > 0) with e1 | e1 <;> rcases Classical.propComplete ((C.length : Int) ≤ 60) with e2 | e2 <;> rcases Classical.propComplete ((N.length : Int) > 0) with e3 | e3 <;> rcases Classical.propComplete ((x8 e C N).1 = 0) with e4 | e4
  all_goals first
   | (have g1 := of_eq_true e1; have g2 := of_eq_true e2; have g3 := of_eq_true e3; have g4 := of_eq_true e4; exact (hno ⟨by omega, by omega, by omega, uu.1 g4⟩).elim)
   | skip
  all_goals (repeat' (first | exact trivial | (with_reducible first | apply awA | apply awC | apply awF) | ((with_reducible first | apply awn | apply awo | refine awQ ?_); intro r hr; simp only [go_sem, Nat.reduceBEq, Nat.reduceLT, Nat.reduceLeDiff, Nat.reduceAdd, Nat.reduceMul, reduceCtorEq, zd, zp, e1, e2, e3, e4] at hr; subst hr; (first | refine caB 19 (vFa (0, 0)) ?_ ?_ ?_ | refine caA (fun _ => hc) rfl ?_ ?_ ?_ | refine awV ?_ ?_ | (refine zh (fun h => ?_) (fun h => ?_) <;> (try simp only [go_sem, reduceCtorEq] at h) <;> (try (exfalso; omega))))))) <;> (try omega)
  all_goals exact ⟨(), rfl, trivial⟩
 intro _ _
 clear hc hno
 obtain ⟨m, hm⟩ : ∃ m : Nat, min (C.length : Int) 60 = m := ⟨min C.length 60, by omega⟩
 obtain ⟨k, hk⟩ : ∃ k : Nat, min (N.length : Int) 20 = k := ⟨min N.length 20, by omega⟩
 have hmC : m ≤ C.length ∧ m ≤ 60 := by omega
 have hkN : k ≤ N.length ∧ k ≤ 20 := by omega
 obtain ⟨M, hM⟩ : ∃ M, m + 1 = M := ⟨_, rfl⟩
 obtain ⟨K, hK⟩ : ∃ K, k + 1 = K := ⟨_, rfl⟩
 have w1 : IntKind.i64.wrap ((m : Int) + 1) = (M : Int) := by rw [zy (by omega)]; omega
 have w2 : IntKind.i64.wrap ((k : Int) + 1) = (K : Int) := by rw [zy (by omega)]; omega
 have r1 := QK M
 have r2 := Jy K
 obtain ⟨X0, hX0⟩ : ∃ X, List.replicate M (⟨0, 0, 0, 0⟩ : InsM) = X := ⟨_, rfl⟩
 obtain ⟨Z0, hZ0⟩ : ∃ X, List.replicate K (0 : Int) = X := ⟨_, rfl⟩
 have lX0 : X0.length = M := by rw [← hX0, List.length_replicate]
 have lZ0 : Z0.length = K := by rw [← hZ0, List.length_replicate]
 have aZ0 : ∀ z ∈ Z0, 0 ≤ z ∧ z ≤ (m : Int) := fun z hz => by
  rw [← hZ0] at hz
  rw [(List.mem_replicate.1 hz).2]
  omega
 rw [hX0] at r1
 rw [hZ0] at r2
 (repeat' (first | exact trivial | (with_reducible first | apply awA | apply awB | apply awF) | ((with_reducible apply awn); intro r hr; simp only [go_sem, Nat.reduceBEq, Nat.reduceLT, Nat.reduceLeDiff, Nat.reduceAdd, Nat.reduceMul, zd, zp, hm, hk, w1, w2, r1, r2, Int.cast_ofNat_Int] at hr; subst hr; (first | refine awV ?_ ?_)))) <;> (try omega)
 clear r1 r2 w1 w2 hm hk hX0 hZ0
 refine zI [2, 4, 5, 6, 7] [2, 4, 5, 61, 68] (fun q : Nat × List InsM => ⟨[(2, true, .ptr 1 2 0 0), (4, true, .ptr 1 4 0 0), (5, true, .ptr 1 5 0 0), (6, true, vI m), (7, true, vI q.1)], [(2, .var [vB e, .lst 4 (zF C), .lst 1 (v8 N)]), (4, .var [vB false, .v (.slice none 0 0), .v (.slice none 0 0)]), (5, .var [vB e, .ref 27 4 61 0 M, .ref 3 1 68 0 K]), (61, .row 27 4 (zF q.2)), (68, .row 3 1 (v8 Z0))]⟩)
  (fun q => q.1 ≤ m ∧ q.2.length = M ∧ ∀ j, j < q.1 → Good e M K (zg q.2 j)) (fun q => m - q.1) (0, X0) (by simp only [go_sem, Nat.reduceBEq] <;> exact rfl) ⟨Nat.zero_le _, lX0, fun j hj => by omega⟩ ?_
 intro ⟨i, X⟩ ⟨hi, lX, hG⟩
 dsimp only at hi lX hG ⊢
 have hwi := zy (n := (i : Int) + 1) (by omega)
 have zi : ((i : Int)).toNat = i := by omega
 have tX : List.take M (zF X) = zF X := List.take_of_length_le (by rw [zd]; omega)
 have tZ : List.take K (v8 Z0) = v8 Z0 := List.take_of_length_le (by rw [zp]; omega)
 have gX := xM (X := X) (i := i) (by omega)
 by_cases hlt : i < m
 ·have e1 : ((i : Int) < (m : Int)) = True := eq_true (by omega)
  have gx := yC (C := C) (k := i) (by omega)
  generalize zg C i = x at gx
  have hb1 := wB x.op 1 20 (by omega)
  have hb2 := wB x.op 33 47 (by omega)
  have hq1 := zU x.op (show (1 : Int) ≤ 20 by omega)
  have hq2 := zU x.op (show (33 : Int) ≤ 47 by omega)
  generalize zY x.op 1 20 = o1 at hb1 hq1
  generalize zY x.op 33 47 = o2 at hb2 hq2
  (repeat' (first | exact trivial | (refine VL (.tmp 91) [2, 4, 5, 6, 7, 8] [2, 4, 5, 61, 68] (fun o : Int => ⟨[(2, true, .ptr 1 2 0 0), (4, true, .ptr 1 4 0 0), (5, true, .ptr 1 5 0 0), (6, true, vI m), (7, true, vI i), (8, true, vI o)], [(2, .var [vB e, .lst 4 (zF C), .lst 1 (v8 N)]), (4, .var [vB false, .v (.slice none 0 0), .v (.slice none 0 0)]), (5, .var [vB e, .ref 27 4 61 0 M, .ref 3 1 68 0 K]), (61, .row 27 4 (zF X)), (68, .row 3 1 (v8 Z0))]⟩) (fun o => (yj e o).known = true) (xI ?_) ?_) | (with_reducible first | apply awA | apply awB | apply awC | apply awF) | ((with_reducible first | apply awn | apply awo | refine awQ ?_); intro r hr; simp only [go_sem, Nat.reduceBEq, Nat.reduceLT, Nat.reduceLeDiff, Nat.reduceAdd, Nat.reduceMul, e1, zi, gx, zd] at hr; subst hr; (first | refine caA (fun _ => hb1) rfl ?_ ?_ ?_ | refine awV ?_ ?_ | (refine zh (fun h => ?_) (fun h => ?_) <;> (try simp only [go_sem, reduceCtorEq] at h) <;> (try (exfalso; omega))))))) <;> (try omega)
  ·refine ⟨?_⟩
   cases e <;> rcases Classical.propComplete (o1 = 9) with e9 | e9 <;> rcases Classical.propComplete (o1 < 19) with e19 | e19
   all_goals (repeat' (first | exact trivial | (with_reducible first | apply awA | apply awC | apply awF) | ((with_reducible first | apply awn | apply awo | refine awQ ?_); intro r hr; simp only [go_sem, Nat.reduceBEq, Nat.reduceLT, Nat.reduceLeDiff, Nat.reduceAdd, Nat.reduceMul, reduceCtorEq, zi, gx, zd, e9, e19] at hr; subst hr; (first | refine caA (fun _ => hb1) rfl ?_ ?_ ?_ | refine caA (fun _ => hb2) rfl ?_ ?_ ?_ | refine awV ?_ ?_ | (refine zh (fun h => ?_) (fun h => ?_) <;> (try simp only [go_sem, reduceCtorEq] at h) <;> (try (exfalso; omega))))))) <;> (try omega)
   all_goals first
    | exact ⟨o1, rfl, Jw hq1⟩
    | exact ⟨o1, rfl, YD (.inl (of_eq_true e9))⟩
    | exact ⟨o2, rfl, YD (.inr (.inr (.inr hq2)))⟩
    | exact ⟨o1, rfl, YD (by have := of_eq_false e9; have := of_eq_false e19; omega)⟩
  ·intro o ho
   clear hb1 hb2 hq1 hq2
   have hf := KH e o
   have h3 := (vb ho).2.1
   have hgm := fun hp => VJ ho (nC := M) (nN := K) (by omega) (by omega) x.a x.b x.c hp
   have hgp := fun hp => VK ho (nC := M) (nN := K) (by omega) (by omega) x.c hp
   have ma0 := jC e X Z0 (by omega) (by omega) (bAt (yj e o).has 0) x.a
   have ma1 := jC e X Z0 (by omega) (by omega) (bAt (yj e o).has 1) x.b
   have ma2 := jC e X Z0 (by omega) (by omega) (bAt (yj e o).has 2) x.c
   rw [lX, lZ0] at ma0 ma1 ma2
   generalize yj e o = f at *
   obtain ⟨nm, hs, kn⟩ := f
   dsimp only at hf h3 hgm hgp ma0 ma1 ma2 ho
   subst ho
   generalize y6 M K (bAt hs 0) x.a = y0 at *
   generalize y6 M K (bAt hs 1) x.b = y1 at *
   generalize y6 M K (bAt hs 2) x.c = y2 at *
   have g0 : ((hs.size : Nat) : Int) = 3 := by omega
   unfold pG at *
   have s1 := wl X i o (-1) (-1) y2
   have s2 := wl X i o y0 y1 y2
   (repeat' (first | exact trivial | (refine VM 16 [2, 4, 5, 6, 7, 9, 11] [2, 4, 5, 9, 11, 61, 68] (fun _ : Unit => ⟨[(2, true, .ptr 1 2 0 0), (4, true, .ptr 1 4 0 0), (5, true, .ptr 1 5 0 0), (6, true, vI m), (7, true, vI i), (9, true, .ptr 1 9 0 0), (11, true, .ptr 1 11 0 0)], [(2, .var [vB e, .lst 4 (zF C), .lst 1 (v8 N)]), (4, .var [vB false, .v (.slice none 0 0), .v (.slice none 0 0)]), (5, .var [vB e, .ref 27 4 61 0 M, .ref 3 1 68 0 K]), (9, .var [.v (.string nm), .v (.string hs)]), (11, .var [vI o, vI y0, vI y1, vI y2]), (61, .row 27 4 (zF X)), (68, .row 3 1 (v8 Z0))]⟩) (fun _ => True) (xI ?_) ?_) | (with_reducible first | apply awA | apply awF) | ((with_reducible first | apply awn | apply awo); intro r hr; simp only [go_sem, Nat.reduceBEq, Nat.reduceLT, Nat.reduceLeDiff, Nat.reduceAdd, Nat.reduceMul] at hr; subst hr; (first | refine caA (fun _ => hf) rfl ?_ ?_ ?_ | refine caA (fun _ => ma0) rfl ?_ ?_ ?_ | refine caA (fun _ => ma1) rfl ?_ ?_ ?_ | refine caA (fun _ => ma2) rfl ?_ ?_ ?_ | refine awV ?_ ?_)))) <;> (try omega)
   ·refine ⟨?_⟩
    (repeat' (first | exact trivial | (with_reducible apply awF) | (refine zA (id := 16) (t := (.node [0, 1, 2, 3, 4, 5, 6, 7, 8, 9, 10, 12, 13, 14, 15, 16, 17, 18, 19, 20, 21, 23, 24, 25, 26, 27, 28, 29, 30, 31, 32] [(.node [11] [(.node [22] [(.node [33, 34, 35, 36] []), (.node [35, 33, 34, 36] [])]), (.node [35, 22, 33, 34, 36] [])]), (.node [35, 11, 22, 33, 34, 36] [])])) (drR [5, 9, 2] [116, 127, 138] []) zH (by kernel_rfl) (by kernel_rfl) (fun _ _ h => h) ?_) | (refine zB (by simp only [go_sem]; exact rfl) ?_) | (refine zD (by simp only [go_sem]; exact rfl) ?_) | refine zl ?_ | refine zq ?_ ?_ | exact zC | ((with_reducible apply awp); intro r hr; simp only [go_sem, Nat.reduceBEq, Nat.reduceLT, Nat.reduceLeDiff, Nat.reduceAdd, Nat.reduceMul, reduceCtorEq, zi, gx, zd, zp, lX, lZ0, tX, tZ, g0, Int.reduceToNat, Int.reduceLT, Int.reduceLE] at hr; subst hr; (first | refine caA (fun _ => ma0) rfl ?_ ?_ ?_ | refine caA (fun _ => ma1) rfl ?_ ?_ ?_ | refine caA (fun _ => ma2) rfl ?_ ?_ ?_ | refine awV ?_ ?_)))) <;> (try omega)
    all_goals exact ⟨(), rfl, trivial⟩
   ·intro _ _
    (repeat' (first | exact trivial | (with_reducible first | apply awA | apply awC | apply awF | apply awI) | ((with_reducible first | apply awn | refine awQ ?_); intro r hr; simp only [go_sem, Nat.reduceBEq, Nat.reduceLT, Nat.reduceLeDiff, Nat.reduceAdd, Nat.reduceMul, zi, zd, lX] at hr; subst hr; (first | refine awV ?_ ?_ | (refine zh (fun h => ?_) (fun h => ?_) <;> (try simp only [go_sem] at h) <;> (try (exfalso; omega))))))) <;> (try omega)
    ·exact fun h => ⟨h, fun g => ⟨h, g⟩⟩
    ·have hg := hgp (show nm = vA ∧ _ from h).1
     refine ⟨(i + 1, X.set i ⟨o, -1, -1, y2⟩), ?_, ⟨hlt, by rw [List.length_set, lX], fun j hj => ?_⟩, by dsimp only; omega⟩
     ·simp only [hwi, gX, s1, go_sem, Nat.reduceBEq]
      try exact rfl
     ·dsimp only
      rw [yg (by omega)]
      split
      ·exact hg
      ·exact hG j (by dsimp only at hj; omega)
    ·have hg := hgm (fun q => by rcases h with h | h; (· exact h q.1); (· exact q.2.elim h.1 h.2))
     refine ⟨(i + 1, X.set i ⟨o, y0, y1, y2⟩), ?_, ⟨hlt, by rw [List.length_set, lX], fun j hj => ?_⟩, by dsimp only; omega⟩
     ·simp only [hwi, gX, s2, go_sem, Nat.reduceBEq]
      try exact rfl
     ·dsimp only
      rw [yg (by omega)]
      split
      ·exact hg
      ·exact hG j (by dsimp only at hj; omega)
 ·have e1 : ((i : Int) < (m : Int)) = False := eq_false (by omega)
  obtain rfl : i = m := by omega
  have s1 := wl X i 20 0 0 0
  (repeat' (first | exact trivial | (with_reducible first | apply awA | apply awB | apply awE | apply awF | apply awH | apply awK) | ((with_reducible first | apply awn | refine awQ ?_); intro r hr; simp only [go_sem, Nat.reduceBEq, Nat.reduceLT, Nat.reduceLeDiff, Nat.reduceAdd, Nat.reduceMul, e1, zi, zd, lX, gX, s1] at hr; subst hr; (first | refine awV ?_ ?_ | (refine zh (fun h => ?_) (fun h => ?_) <;> (try simp only [go_sem, reduceCtorEq] at h) <;> (try (exfalso; omega))))))) <;> (try omega)
  have lX1 : (X.set i ⟨20, 0, 0, 0⟩).length = M := by rw [List.length_set, lX]
  have hr1 : zg (X.set i ⟨20, 0, 0, 0⟩) i = ⟨20, 0, 0, 0⟩ := by rw [yg (by omega), if_pos rfl]
  have hG1 : ∀ j, j < i → Good e M K (zg (X.set i ⟨20, 0, 0, 0⟩) j) := fun j hj => by rw [yg (by omega), if_neg (by omega)]; exact hG j hj
  clear s1 gX tX hG e1 hwi hlt
  generalize X.set i ⟨20, 0, 0, 0⟩ = X1 at *
  clear lX X
  refine zI [2, 4, 5, 6, 12] [2, 4, 5, 61, 68] (fun q : Nat × List InsM => ⟨[(2, true, .ptr 1 2 0 0), (4, true, .ptr 1 4 0 0), (5, true, .ptr 1 5 0 0), (6, true, vI i), (12, true, vI q.1)], [(2, .var [vB e, .lst 4 (zF C), .lst 1 (v8 N)]), (4, .var [vB false, .v (.slice none 0 0), .v (.slice none 0 0)]), (5, .var [vB e, .ref 27 4 61 0 M, .ref 3 1 68 0 K]), (61, .row 27 4 (zF q.2)), (68, .row 3 1 (v8 Z0))]⟩)
   (fun q => q.1 ≤ i ∧ q.2.length = M ∧ zg q.2 i = ⟨20, 0, 0, 0⟩ ∧ (∀ j, q.1 ≤ j → j < i → Good e M K (zg q.2 j)) ∧ ∀ j, j < q.1 → Done e M K q.2 j) (fun q => i - q.1) (0, X1) (by simp only [go_sem, Nat.reduceBEq] <;> exact rfl) ⟨Nat.zero_le _, lX1, hr1, fun j _ hj => hG1 j hj, fun j hj => by omega⟩ ?_
  intro ⟨t, Y⟩ ⟨ht, lY, hret, hgo, hdo⟩
  dsimp only at ht lY hret hgo hdo ⊢
  clear hG1 hr1 lX1
  have hwt := zy (n := (t : Int) + 1) (by omega)
  have zt : ((t : Int)).toNat = t := by omega
  by_cases hlt : t < i
  ·have e2 : ((t : Int) < (i : Int)) = True := eq_true (by omega)
   have gY := xM (X := Y) (i := t) (by omega)
   have hg := hgo t (Nat.le_refl _) hlt
   have hYY : Y.set t (zg Y t) = Y := by simp [zg, List.getD, show t < Y.length by omega]
   obtain ⟨y, hy⟩ : ∃ y, zg Y t = y := ⟨_, rfl⟩
   rw [hy] at gY hg hYY
   obtain ⟨op, a, b, c⟩ := y
   dsimp only at gY
   by_cases hu : op = 8 ∨ op = 41
   ·(repeat' (first | exact trivial | (refine Jo 4 [2, 4, 5, 6, 12, 13] [2, 4, 5, 61, 68] (fun q : Nat × Int => ⟨[(2, true, .ptr 1 2 0 0), (4, true, .ptr 1 4 0 0), (5, true, .ptr 1 5 0 0), (6, true, vI i), (12, true, vI t), (13, true, vI q.1)], [(2, .var [vB e, .lst 4 (zF C), .lst 1 (v8 N)]), (4, .var [vB false, .v (.slice none 0 0), .v (.slice none 0 0)]), (5, .var [vB e, .ref 27 4 61 0 M, .ref 3 1 68 0 K]), (61, .row 27 4 (zF (Y.set t ⟨op, q.2, b, c⟩))), (68, .row 3 1 (v8 Z0))]⟩) (fun q => q.1 ≤ 64 ∧ t + 1 + q.1 ≤ i ∧ y4 [] (xE Y t q.1) = true) (xI ?_) ?_) | (with_reducible first | apply awA | apply awB | apply awC | apply awF) | ((with_reducible first | apply awn | refine awQ ?_); intro r hr; simp only [go_sem, Nat.reduceBEq, Nat.reduceLT, Nat.reduceLeDiff, Nat.reduceAdd, Nat.reduceMul, e2, zt, gY] at hr; subst hr; (first | refine awV ?_ ?_ | (refine zh (fun h => ?_) (fun h => ?_) <;> (try simp only [go_sem, reduceCtorEq] at h) <;> (try (exfalso; omega))))))) <;> (try omega)
    ·refine ⟨?_⟩
     (repeat' (first | exact trivial | (with_reducible apply awB) | ((with_reducible first | apply awn | apply awo | apply awp | refine awQ ?_ | refine awR ?_ | refine awS ?_ | refine wM ?_ | refine zbn ?_); intro r hr; simp only [go_sem, Nat.reduceBEq, Nat.reduceBneDiff, Nat.reduceLT, Nat.reduceLeDiff, Nat.reduceAdd, Nat.reduceMul, Nat.reduceSub, Nat.reduceEqDiff, reduceCtorEq] at hr; subst hr))) <;> (try omega)
     refine zI [2, 4, 5, 6, 12, 13] [2, 4, 5, 61, 68] (fun q : Nat × Int => ⟨[(2, true, .ptr 1 2 0 0), (4, true, .ptr 1 4 0 0), (5, true, .ptr 1 5 0 0), (6, true, vI i), (12, true, vI t), (13, true, vI q.1)], [(2, .var [vB e, .lst 4 (zF C), .lst 1 (v8 N)]), (4, .var [vB false, .v (.slice none 0 0), .v (.slice none 0 0)]), (5, .var [vB e, .ref 27 4 61 0 M, .ref 3 1 68 0 K]), (61, .row 27 4 (zF (Y.set t ⟨op, q.2, b, c⟩))), (68, .row 3 1 (v8 Z0))]⟩) (fun q => q.1 ≤ 64 ∧ t + 1 + q.1 ≤ i ∧ y4 [] (xE Y t q.1) = true) (fun q => 64 - q.1) (0, a) (by simp only [hYY, go_sem, Nat.reduceBEq] <;> exact rfl) ⟨by omega, by omega, by simp [xE, y4]⟩ ?_
     intro ⟨n, a'⟩ ⟨hn, hni, har⟩
     dsimp only at hn hni har ⊢
     have lY' : (Y.set t ⟨op, a', b, c⟩).length = M := by rw [List.length_set, lY]
     have gY' := xM (X := Y.set t ⟨op, a', b, c⟩) (i := t) (by omega)
     rw [yg (by omega), if_pos rfl] at gY'
     have gZ := xM (X := Y.set t ⟨op, a', b, c⟩) (i := t + 1 + n) (by omega)
     rw [yg (by omega), if_neg (by omega)] at gZ
     have w3 := zy (n := (t : Int) + 1 + n) (by omega)
     have z3 : ((t : Int) + 1 + n).toNat = t + 1 + n := by omega
     have w4 := zy (n := (n : Int) + 1) (by omega)
     have s3 := wl (Y.set t ⟨op, a', b, c⟩) t op ((n : Int) + 1) b c
     rw [List.set_set] at s3
     have lY2 : (Y.set t ⟨op, (n : Int) + 1, b, c⟩).length = M := by rw [List.length_set, lY]
     have tY : List.take M (zF (Y.set t ⟨op, (n : Int) + 1, b, c⟩)) = zF (Y.set t ⟨op, (n : Int) + 1, b, c⟩) := List.take_of_length_le (by rw [zd]; omega)
     have hai : zg (Y.set t ⟨op, (n : Int) + 1, b, c⟩) t = ⟨op, (n : Int) + 1, b, c⟩ := by rw [yg (by omega), if_pos rfl]
     have haL : x9 (Y.set t ⟨op, (n : Int) + 1, b, c⟩) t = true → y4 [] (xE Y t ((n : Int) + 1)) = true := fun h => by
      unfold x9 at h
      rw [hai] at h
      split at h
      ·cases h
      ·rwa [qR (.inl (Nat.le_refl _))] at h
     have ha : n < 64 → zQ Tryz.prog 32 [pG e (Y.set t ⟨op, (n : Int) + 1, b, c⟩) Z0, vI t] (fun r => r = vB (x9 (Y.set t ⟨op, (n : Int) + 1, b, c⟩) t)) := fun hn => Xs e _ Z0 (by omega) t (by omega) (by rw [hai]; dsimp only; omega)
     generalize x9 (Y.set t ⟨op, (n : Int) + 1, b, c⟩) t = B at *
     obtain ⟨Y1, hY1⟩ : ∃ Z, Y.set t ⟨op, a', b, c⟩ = Z := ⟨_, rfl⟩
     obtain ⟨Y2, hY2⟩ : ∃ Z, Y.set t ⟨op, (n : Int) + 1, b, c⟩ = Z := ⟨_, rfl⟩
     rw [hY1] at gY' gZ s3 lY' ⊢
     rw [hY2] at s3 lY2 tY ha
     dsimp only at gY'
     by_cases c1 : t + 1 + n < i ∧ n < 64 ∧ (zg Y (t + 1 + n)).op = 9
     ·have f1 : ((t : Int) + 1 + n < (i : Int)) = True := eq_true (by omega)
      have f2 : ((n : Int) < 64) = True := eq_true (by omega)
      have f3 : ((zg Y (t + 1 + n)).op = 9) = True := eq_true c1.2.2
      have ha' := ha c1.2.1
      unfold pG at ha'
      cases B with
      | true =>
       (repeat' (first | exact trivial | (with_reducible first | apply awA | apply awB | apply awC | apply awF | apply awI) | ((with_reducible first | apply awn | apply awo | refine awQ ?_); intro r hr; simp only [go_sem, Nat.reduceBEq, Nat.reduceLT, Nat.reduceLeDiff, Nat.reduceAdd, Nat.reduceMul, reduceCtorEq, zt, hwt, w3, z3, w4, gY', gZ, s3, zd, zp, lY', lY2, lZ0, tY, tZ, f1, f2, f3] at hr; subst hr; (first | refine caA (fun _ => ha') rfl ?_ ?_ ?_ | refine awV ?_ ?_ | (refine zh (fun h => ?_) (fun h => ?_) <;> (try simp only [go_sem, reduceCtorEq] at h) <;> (try (exfalso; omega))))))) <;> (try omega)
       refine ⟨(n + 1, (n : Int) + 1), ?_, ⟨by dsimp only; omega, by dsimp only; omega, by simpa using haL rfl⟩, by dsimp only; omega⟩
       ·simp only [hY2, Int.natCast_add, Int.cast_ofNat_Int, go_sem, Nat.reduceBEq]
        try exact rfl
      | false =>
       (repeat' (first | exact trivial | (with_reducible first | apply awA | apply awB | apply awC | apply awE | apply awF | apply awH | apply awK | refine awM (by decide) ?_) | ((with_reducible first | apply awn | apply awo | refine awQ ?_); intro r hr; simp only [go_sem, Nat.reduceBEq, Nat.reduceLT, Nat.reduceLeDiff, Nat.reduceAdd, Nat.reduceMul, reduceCtorEq, zt, hwt, w3, z3, w4, gY', gZ, s3, zd, zp, lY', lY2, lZ0, tY, tZ, f1, f2, f3] at hr; subst hr; (first | refine caA (fun _ => ha') rfl ?_ ?_ ?_ | refine awV ?_ ?_ | (refine zh (fun h => ?_) (fun h => ?_) <;> (try simp only [go_sem, reduceCtorEq] at h) <;> (try (exfalso; omega))))))) <;> (try omega)
       refine ⟨(n, (n : Int) + 1), ?_, hn, hni, har⟩
       ·simp only [hY2, go_sem, Nat.reduceBEq]
        try exact rfl
     ·by_cases d1 : t + 1 + n < i
      ·have f1 : ((t : Int) + 1 + n < (i : Int)) = True := eq_true (by omega)
       by_cases d2 : n < 64
       ·have f2 : ((n : Int) < 64) = True := eq_true (by omega)
        have f3 : ((zg Y (t + 1 + n)).op = 9) = False := eq_false (fun q => c1 ⟨d1, d2, q⟩)
        (repeat' (first | exact trivial | (with_reducible first | apply awA | apply awE | apply awF | apply awH | apply awK) | ((with_reducible first | apply awn | refine awQ ?_); intro r hr; simp only [go_sem, Nat.reduceBEq, Nat.reduceLT, Nat.reduceLeDiff, Nat.reduceAdd, Nat.reduceMul, reduceCtorEq, hwt, w3, z3, gZ, f1, f2, f3] at hr; subst hr; (first | refine awV ?_ ?_ | (refine zh (fun h => ?_) (fun h => ?_) <;> (try simp only [go_sem, reduceCtorEq] at h) <;> (try (exfalso; omega))))))) <;> (try omega)
        refine ⟨(n, a'), ?_, hn, hni, har⟩
        ·simp only [hY1, go_sem, Nat.reduceBEq]
         try exact rfl
       ·exfalso; omega
      ·have f1 : ((t : Int) + 1 + n < (i : Int)) = False := eq_false (by omega)
       (repeat' (first | exact trivial | (with_reducible first | apply awA | apply awE | apply awF | apply awH | apply awK) | ((with_reducible first | apply awn | refine awQ ?_); intro r hr; simp only [go_sem, Nat.reduceBEq, Nat.reduceLT, Nat.reduceLeDiff, Nat.reduceAdd, Nat.reduceMul, reduceCtorEq, hwt, w3, z3, gZ, f1] at hr; subst hr; (first | refine awV ?_ ?_ | (refine zh (fun h => ?_) (fun h => ?_) <;> (try simp only [go_sem, reduceCtorEq] at h) <;> (try (exfalso; omega))))))) <;> (try omega)
       refine ⟨(n, a'), ?_, hn, hni, har⟩
       ·simp only [hY1, go_sem, Nat.reduceBEq]
        try exact rfl
    ·intro ⟨n, a'⟩ ⟨hn, hni, har⟩
     dsimp only at hn hni har ⊢
     have lY' : (Y.set t ⟨op, a', b, c⟩).length = M := by rw [List.length_set, lY]
     have gY' := xM (X := Y.set t ⟨op, a', b, c⟩) (i := t) (by omega)
     rw [yg (by omega), if_pos rfl] at gY'
     have s3 := wl (Y.set t ⟨op, a', b, c⟩) t op n b c
     rw [List.set_set] at s3
     have gY2 := xM (X := Y.set t ⟨op, n, b, c⟩) (i := t) (by rw [List.length_set]; omega)
     rw [yg (by omega), if_pos rfl] at gY2
     have lY2 : (Y.set t ⟨op, n, b, c⟩).length = M := by rw [List.length_set, lY]
     have s4 := wl (Y.set t ⟨op, n, b, c⟩) t 20 0 0 0
     rw [List.set_set] at s4
     dsimp only at gY' gY2
     by_cases hn0 : n = 0
     ·have e0 : ((n : Int) = 0) = True := eq_true (by omega)
      (repeat' (first | exact trivial | (with_reducible first | apply awA | apply awF | apply awI) | ((with_reducible first | apply awn | refine awQ ?_); intro r hr; simp only [go_sem, Nat.reduceBEq, Nat.reduceLT, Nat.reduceLeDiff, Nat.reduceAdd, Nat.reduceMul, zt, hwt, gY', gY2, s3, s4, zd, lY', lY2, e0] at hr; subst hr; (first | refine awV ?_ ?_ | (refine zh (fun h => ?_) (fun h => ?_) <;> (try simp only [go_sem, reduceCtorEq] at h) <;> (try (exfalso; omega))))))) <;> (try omega)
      refine ⟨(t + 1, Y.set t ⟨20, 0, 0, 0⟩), ?_, ⟨hlt, by rw [List.length_set, lY], by dsimp only; rw [yg (by omega), if_neg (by omega)]; exact hret, fun j h1 h2 => ?_, fun j hj => ?_⟩, by dsimp only; omega⟩
      ·simp only [go_sem, Nat.reduceBEq]
       try exact rfl
      ·dsimp only
       rw [yg (by omega), if_neg (by dsimp only at h1; omega)]
       exact hgo j (by dsimp only at h1; omega) h2
      ·dsimp only at hj ⊢
       by_cases hjt : j = t
       ·subst hjt
        refine ⟨?_, ?_⟩
        ·rw [yg (by omega), if_pos rfl]; exact Xg e M K
        ·rw [yg (by omega), if_pos rfl]; exact fun q => by dsimp only at q; omega
       ·exact (hdo j (by omega)).set (by omega) hjt (by rw [hy]; exact hu)
     ·have e0 : ((n : Int) = 0) = False := eq_false (by omega)
      (repeat' (first | exact trivial | (with_reducible first | apply awA | apply awC | apply awF | apply awI) | ((with_reducible first | apply awn | refine awQ ?_); intro r hr; simp only [go_sem, Nat.reduceBEq, Nat.reduceLT, Nat.reduceLeDiff, Nat.reduceAdd, Nat.reduceMul, zt, hwt, gY', s3, zd, lY', e0] at hr; subst hr; (first | refine awV ?_ ?_ | (refine zh (fun h => ?_) (fun h => ?_) <;> (try simp only [go_sem, reduceCtorEq] at h) <;> (try (exfalso; omega))))))) <;> (try omega)
      refine ⟨(t + 1, Y.set t ⟨op, n, b, c⟩), ?_, ⟨hlt, lY2, by dsimp only; rw [yg (by omega), if_neg (by omega)]; exact hret, fun j h1 h2 => ?_, fun j hj => ?_⟩, by dsimp only; omega⟩
      ·simp only [go_sem, Nat.reduceBEq]
       try exact rfl
      ·dsimp only
       rw [yg (by omega), if_neg (by dsimp only at h1; omega)]
       exact hgo j (by dsimp only at h1; omega) h2
      ·dsimp only at hj ⊢
       by_cases hjt : j = t
       ·subst hjt
        refine ⟨?_, fun _ => ?_⟩
        ·rw [yg (by omega), if_pos rfl]
         exact ⟨hg.known, hg.arm, fun q => absurd hu q⟩
        ·refine ⟨by rw [yg (by omega), if_pos rfl]; dsimp only; omega, ?_⟩
         unfold x9
         rw [yg (by omega), if_pos rfl, List.length_set, qR (.inl (Nat.le_refl _))]
         dsimp only
         rw [if_neg (by omega)]
         exact har
       ·exact (hdo j (by omega)).set (by omega) hjt (by rw [hy]; exact hu)
   ·have u1 : (op = 8) = False := eq_false (fun q => hu (.inl q))
    have u2 : (op = 41) = False := eq_false (fun q => hu (.inr q))
    (repeat' (first | exact trivial | (with_reducible first | apply awA | apply awB | apply awC | apply awE | apply awF | apply awH | apply awK) | ((with_reducible first | apply awn | refine awQ ?_); intro r hr; simp only [go_sem, Nat.reduceBEq, Nat.reduceLT, Nat.reduceLeDiff, Nat.reduceAdd, Nat.reduceMul, reduceCtorEq, e2, zt, gY, u1, u2] at hr; subst hr; (first | refine awV ?_ ?_ | (refine zh (fun h => ?_) (fun h => ?_) <;> (try simp only [go_sem, reduceCtorEq] at h) <;> (try (exfalso; omega))))))) <;> (try omega)
    refine ⟨(t + 1, Y), ?_, ⟨hlt, lY, hret, fun j h1 h2 => hgo j (by dsimp only at h1; omega) h2, fun j hj => ?_⟩, by dsimp only; omega⟩
    ·simp only [hwt, go_sem, Nat.reduceBEq]
     try exact rfl
    ·dsimp only at hj ⊢
     by_cases hjt : j = t
     ·subst hjt
      exact ⟨by rw [hy]; exact hg, fun q => absurd (by rw [hy] at q; exact q) hu⟩
     ·exact hdo j (by omega)
  ·have e2 : ((t : Int) < (i : Int)) = False := eq_false (by omega)
   obtain rfl : t = i := by omega
   have hall : ∀ j, j < M → Done e M K Y j := fun j hj => by
    by_cases hjt : j = t
    ·subst hjt
     refine ⟨by rw [hret]; exact Xg e M K, fun q => by rw [hret] at q; dsimp only at q; omega⟩
    ·exact hdo j (by omega)
   clear hdo hgo hret hwt
   (repeat' (first | exact trivial | (with_reducible first | apply awA | apply awB | apply awE | apply awF | apply awH | apply awK) | ((with_reducible first | apply awn | refine awQ ?_); intro r hr; simp only [go_sem, Nat.reduceBEq, Nat.reduceLT, e2] at hr; subst hr; (first | refine awV ?_ ?_ | (refine zh (fun h => ?_) (fun h => ?_) <;> (try simp only [go_sem, reduceCtorEq] at h) <;> (try (exfalso; omega))))))) <;> (try omega)
   refine zI [2, 4, 5, 6, 14] [2, 4, 5, 61, 68] (fun q : Nat × List Int => ⟨[(2, true, .ptr 1 2 0 0), (4, true, .ptr 1 4 0 0), (5, true, .ptr 1 5 0 0), (6, true, vI t), (14, true, vI q.1)], [(2, .var [vB e, .lst 4 (zF C), .lst 1 (v8 N)]), (4, .var [vB false, .v (.slice none 0 0), .v (.slice none 0 0)]), (5, .var [vB e, .ref 27 4 61 0 M, .ref 3 1 68 0 K]), (61, .row 27 4 (zF Y)), (68, .row 3 1 (v8 q.2))]⟩)
    (fun q => q.1 ≤ K ∧ q.2.length = K ∧ ∀ z ∈ q.2, 0 ≤ z ∧ z ≤ (t : Int)) (fun q => K - q.1) (0, Z0) (by simp only [go_sem, Nat.reduceBEq] <;> exact rfl) ⟨Nat.zero_le _, lZ0, aZ0⟩ ?_
   clear tZ aZ0 lZ0
   intro ⟨u, Z⟩ ⟨hu, lZ, hZ⟩
   dsimp only at hu lZ hZ ⊢
   have hwu := zy (n := (u : Int) + 1) (by omega)
   have zu : ((u : Int)).toNat = u := by omega
   by_cases hlu : u < K
   ·have e3 : ((u : Int) < (K : Int)) = True := eq_true (by omega)
    by_cases hun : u < N.length
    ·have e4 : ((u : Int) < (N.length : Int)) = True := eq_true (by omega)
     have gN := xb hun
     have gZ := xb (show u < Z.length by omega)
     have hb := wB N[u] 0 t (by omega)
     have hq := zU N[u] (show (0 : Int) ≤ t by omega)
     generalize zY N[u] 0 t = x at hb hq
     have s5 := zaC Z u x
     (repeat' (first | exact trivial | (with_reducible first | apply awA | apply awB | apply awC | apply awF | apply awI) | (refine zA (id := 38) (t := (.node [0, 1, 2, 3, 4, 5, 6, 7, 8, 9, 10, 11] [])) (drR [5, 2] [254] []) zH (by kernel_rfl) (by kernel_rfl) (fun _ _ h => h) ?_) | (refine zB (by simp only [go_sem]; exact rfl) ?_) | (refine zD (by simp only [go_sem]; exact rfl) ?_) | refine zl ?_ | refine zq ?_ ?_ | exact zC | ((with_reducible first | apply awn | apply awp | refine awQ ?_); intro r hr; simp only [go_sem, Nat.reduceBEq, Nat.reduceLT, Nat.reduceLeDiff, Nat.reduceAdd, Nat.reduceMul, reduceCtorEq, e3, e4, zu, gN, gZ, s5, zp, lZ] at hr; subst hr; (first | refine caA (fun _ => hb) rfl ?_ ?_ ?_ | refine awV ?_ ?_ | (refine zh (fun h => ?_) (fun h => ?_) <;> (try simp only [go_sem, reduceCtorEq] at h) <;> (try (exfalso; omega))))))) <;> (try omega)
     all_goals refine ⟨(u + 1, Z.set u x), ?_, ⟨hlu, by rw [List.length_set, lZ], fun z hz => ?_⟩, by dsimp only; omega⟩
     ·simp only [hwu, go_sem, Nat.reduceBEq]
      try exact rfl
     ·dsimp only at hz
      rcases List.mem_or_eq_of_mem_set hz with h | h
      ·exact hZ z h
      ·rw [h]; omega
    ·have e4 : ((u : Int) < (N.length : Int)) = False := eq_false (by omega)
     (repeat' (first | exact trivial | (with_reducible first | apply awA | apply awB | apply awC | apply awF | apply awI) | ((with_reducible first | apply awn | refine awQ ?_); intro r hr; simp only [go_sem, Nat.reduceBEq, Nat.reduceLT, Nat.reduceLeDiff, Nat.reduceAdd, Nat.reduceMul, e3, e4, zp] at hr; subst hr; (first | refine awV ?_ ?_ | (refine zh (fun h => ?_) (fun h => ?_) <;> (try simp only [go_sem, reduceCtorEq] at h) <;> (try (exfalso; omega))))))) <;> (try omega)
     refine ⟨(u + 1, Z), ?_, ⟨hlu, lZ, hZ⟩, by dsimp only; omega⟩
     ·simp only [hwu, go_sem, Nat.reduceBEq]
      try exact rfl
   ·have e3 : ((u : Int) < (K : Int)) = False := eq_false (by omega)
    have hc := QJ (e := e) (Y := Y) (N := Z) (by omega) (by omega) (by rw [lY, lZ]; exact hall) (fun z hz => by have := hZ z hz; omega)
    (repeat' (first | exact trivial | (with_reducible first | apply awA | apply awD | apply awE | apply awF | apply awH | apply awK) | ((with_reducible first | apply awn | refine awQ ?_ | refine wM ?_); intro r hr; simp only [go_sem, Nat.reduceBEq, Nat.reduceLT, Nat.reduceLeDiff, Nat.reduceAdd, Nat.reduceMul, e3] at hr; subst hr; (first | refine awV ?_ ?_ | refine y5 ?_ ?_ | (refine zh (fun h => ?_) (fun h => ?_) <;> (try simp only [go_sem, reduceCtorEq] at h) <;> (try (exfalso; omega))))))) <;> (try omega)
    all_goals refine ⟨(Y, Z), ⟨hc, by dsimp only; omega, by dsimp only; omega⟩, ?_, ?_⟩
    ·dsimp only; rw [lY, lZ]; exact AV.up_rfl _
    ·repeat first | exact zo | refine zn rfl ?_
end
section
open Go.RowKit
section
variable {P : Program}
theorem yx.toP {f : Nat} {args : List AV} {A : Type} {I : A → Prop} {r : A → AV} {ob1 : A → List (Nat × AObj)} (h : yx P f args [] I r ob1) (hok : ∀ q, I q → (r q).snapOK { fr := [], ob := ob1 q }) : zQ P f args (fun x => ∃ q, I q ∧ x = (r q).snap { fr := [], ob := ob1 q }) := by
 refine ⟨h.1, fun w F vs hF hl ha => ?_⟩
 refine (h.2 w F (fun _ => none) vs ⟨hF, fun _ _ _ h => (by cases h), fun _ _ h => (by cases h), fun _ _ h => (by cases h)⟩ hl ha).mono fun e w' ⟨q, v, β', hI, he, hout, hr⟩ => ?_
 let E : Env := ⟨w, F, fun _ => none, fun _ _ h => (by cases h), hF, fun _ _ h => (by cases h)⟩
 have hs : SRel E { fr := [], ob := ob1 q } #[] w' β' := ⟨hout.inj, fun d b hb => ⟨(hout.rng d b hb).1, (hout.rng d b hb).2⟩, hout.keeps.trans (Keeps.refl _ _) (fun _ _ h => h), hout.ob, fun _ _ _ h => (by cases h), fun _ _ h => (by cases h), fun _ _ _ h => (by cases h), fun _ _ _ _ _ h => (by cases h)⟩
 refine ⟨v, _, he, ⟨q, hI, rfl⟩, hout.keeps.below (fun b ⟨_, h⟩ => by cases h), ?_⟩
 exact jh hs (fun b hb => by
  rcases hb.2.1 with h | h | ⟨_, h⟩
  ·exact .inl h
  ·exact .inr ⟨h, hb.1⟩
  ·cases h) (fun d b hb => by
  rcases (hout.rng d b hb).1 with h | h
  ·exact .inr ⟨h, (hout.rng d b hb).2⟩
  ·cases h) hr (hok q hI)
end
theorem Zw (a b : List InsM) : zF (a ++ b) = zF a ++ zF b := by simp [zF]
theorem KC (a b : List Int) : v8 (a ++ b) = v8 a ++ v8 b := by simp [v8]
theorem QL (e : Bool) (C : List InsM) (N : List Int) (hC : C.length ≤ 100000000) (hN : N.length ≤ 100000000) :
  yx Tryz.prog 12 [pG e C N] [] (fun q : List InsM × List Int × List InsM × List Int => x8 e q.1 q.2.1 = (0, 0) ∧ 1 ≤ q.1.length ∧ q.1.length ≤ 100) (fun q => .agg [vB e, .ref 27 4 8001 0 q.1.length, .ref 3 1 8002 0 q.2.1.length]) (fun q => [(8001, .row 27 4 (zF (q.1 ++ q.2.2.1))), (8002, .row 3 1 (v8 (q.2.1 ++ q.2.2.2)))]) := by
 have hc := vu e C N (by omega) (by omega)
 have hL := zaB e C N hC hN
 unfold pG at *
 refine xq (zb _) Tryz.func12 rfl rfl (by rw [Tryz.results12]) Tryz.ntmps12 rfl fun E => ?_
 (repeat' (first | exact trivial | (refine VM 1 [1, 2, 24] [1, 2] (fun b : Bool => ⟨[(1, true, .ptr 1 1 0 0), (2, true, .ptr 1 2 0 0), (24, true, vB b)], [(1, .var [vB e, .lst 4 (zF C), .lst 1 (v8 N)]), (2, .var [vB false, .v (.slice none 0 0), .v (.slice none 0 0)])]⟩) (fun b => b = false → (1 ≤ C.length ∧ C.length ≤ 100) ∧ x8 e C N = (0, 0)) (xI ?_) ?_) | (with_reducible first | apply awA | apply awF) | ((with_reducible apply awn); intro r hr; simp only [go_sem, Nat.reduceBEq, Nat.reduceLT] at hr; subst hr; (first | refine awV ?_ ?_)))) <;> (try omega)
 ·refine ⟨?_⟩
  clear hL
  rcases Classical.propComplete ((C.length : Int) < 1) with e1 | e1 <;> rcases Classical.propComplete ((C.length : Int) > 100) with e2 | e2 <;> rcases Classical.propComplete ((N.length : Int) > 20) with e3 | e3 <;> rcases Classical.propComplete ((x8 e C N).1 = 0) with e4 | e4
  all_goals (repeat' (first | exact trivial | (with_reducible apply awF) | ((with_reducible first | apply awn | apply awo); intro r hr; simp only [go_sem, Nat.reduceBEq, Nat.reduceLT, Nat.reduceLeDiff, Nat.reduceAdd, Nat.reduceMul, reduceCtorEq, zd, zp, e1, e2, e3, e4] at hr; subst hr; (first | refine caB 19 (vFa (0, 0)) ?_ ?_ ?_ | refine caA (fun _ => hc) rfl ?_ ?_ ?_ | refine awV ?_ ?_)))) <;> (try omega)
  all_goals first
   | exact ⟨true, rfl, fun h => by cases h⟩
   | exact ⟨false, rfl, fun _ => ⟨by have := of_eq_false e1; have := of_eq_false e2; omega, uu.1 (of_eq_true e4)⟩⟩
 intro b hb
 cases b with
 | true =>
  clear hL hc
  by_cases hA : 0 < C.length ∧ C.length ≤ 60 ∧ 0 < N.length ∧ x8 e C N = (0, 0)
  ·have hM := Jx e C N hA.1 hA.2.1 hA.2.2.1 hN hA.2.2.2
   unfold pG at hM
   (repeat' (first | exact trivial | (with_reducible first | apply awA | apply awD | apply awF | apply awG) | ((with_reducible first | apply awn | apply awo | refine awQ ?_ | refine wM ?_); intro r hr; simp only [go_sem, Nat.reduceBEq, Nat.reduceLT, Nat.reduceLeDiff, Nat.reduceAdd, Nat.reduceMul] at hr; subst hr; (first | refine awV ?_ ?_ | refine awW ?_ ?_ | refine y5 ?_ ?_ | (refine zh (fun h => ?_) (fun h => ?_) <;> (try simp only [go_sem, reduceCtorEq] at h) <;> (try (exfalso; omega))))) | (refine zz [] [(45, 8001), (51, 8002)] [8001, 8002] [] ?_; intro r hr; simp only [go_sem, Nat.reduceBEq, Nat.reduceLT] at hr; subst hr; refine zR (hM) rfl rfl (by first | exact .inl rfl | exact .inr rfl) ?_ (.inl rfl) ?_))) <;> (try omega)
   refine ⟨(C, N, [], []), ⟨hA.2.2.2, hA.1, by have := hA.2.1; dsimp only; omega⟩, AV.up_rfl _, ?_⟩
   simp only [List.append_nil]
   repeat first | exact zo | refine zn rfl ?_
  have hM := Jz e C N hC hN hA
  unfold pG at hM
  (repeat' (first | exact trivial | (with_reducible apply awA) | ((with_reducible first | apply awn | refine awQ ?_); intro r hr; simp only [go_sem, Nat.reduceBEq, Nat.reduceLT, Nat.reduceLeDiff, Nat.reduceAdd, Nat.reduceMul] at hr; subst hr; (first | refine awW ?_ ?_ | (refine zh (fun h => ?_) (fun h => ?_) <;> (try simp only [go_sem, reduceCtorEq] at h) <;> (try (exfalso; omega))))) | (refine zz [] [(61, 8001), (68, 8002)] [8001, 8002] [] ?_; intro r hr; simp only [go_sem, Nat.reduceBEq, Nat.reduceLT] at hr; subst hr; refine yQ (hM) rfl rfl (by first | exact .inl rfl | exact .inr rfl) ?_ (.inl rfl) (fun q hq => xI ?_)))) <;> (try omega)
  refine ⟨?_⟩
  obtain ⟨⟨X, Z⟩, hX⟩ : ∃ z, z = q := ⟨_, rfl⟩
  subst hX
  obtain ⟨g1, g2, _⟩ := hq
  (repeat' (first | exact trivial | (with_reducible first | apply awD | apply awF | apply awG) | ((with_reducible first | apply awo | refine wM ?_); intro r hr; simp only [go_sem, Nat.reduceBEq, Nat.reduceLT, Nat.reduceLeDiff, Nat.reduceAdd, Nat.reduceMul] at hr; subst hr; (first | refine awV ?_ ?_ | refine y5 ?_ ?_)))) <;> (try omega)
  refine ⟨(X, Z, [], []), ⟨g1, g2.1, by have := g2.2; dsimp only at this ⊢; omega⟩, AV.up_rfl _, ?_⟩
  simp only [List.append_nil]
  repeat first | exact zo | refine zn rfl ?_
 | false =>
  (repeat' (first | exact trivial | (with_reducible first | apply awA | apply awC | apply awD | apply awF) | ((with_reducible first | apply awn | apply awo | refine awQ ?_ | refine wM ?_); intro r hr; simp only [go_sem, Nat.reduceBEq, Nat.reduceLT, Nat.reduceLeDiff, Nat.reduceAdd, Nat.reduceMul] at hr; subst hr; (first | refine awV ?_ ?_ | refine awW ?_ ?_ | refine y5 ?_ ?_ | (refine zh (fun h => ?_) (fun h => ?_) <;> (try simp only [go_sem, reduceCtorEq] at h) <;> (try (exfalso; omega))))) | (refine zz [] [(7, 8001), (13, 8002)] [8001, 8002] [] ?_; intro r hr; simp only [go_sem, Nat.reduceBEq, Nat.reduceLT] at hr; subst hr; refine zR (hL) rfl rfl (by first | exact .inl rfl | exact .inr rfl) ?_ (.inl rfl) ?_))) <;> (try omega)
  refine ⟨(C, N, [⟨-901, 0, 0, 0⟩], [-902]), ⟨(hb rfl).2, (hb rfl).1⟩, AV.up_rfl _, ?_⟩
  simp only [Zw, KC]
  repeat first | exact zo | refine zn rfl ?_
theorem made15_P (e : Bool) (C : List InsM) (N : List Int) (hC : C.length ≤ 100000000) (hN : N.length ≤ 100000000) :
  zQ Tryz.prog 12 [pG e C N] (fun r => ∃ X Z, r = pG e X Z ∧ x8 e X Z = (0, 0) ∧ 1 ≤ X.length ∧ X.length ≤ 100) := by
 refine ((QL e C N hC hN).toP fun q hq => ?_).mono fun r ⟨⟨X, Z, RX, RZ⟩, hI, hr⟩ => ⟨X, Z, hr.trans ?_, hI⟩
 ·simp [AV.snapOK, AV.snapOK.snapOKL, lk, zd, zp]
 ·have e1 : (zF (X ++ RX)).take X.length = zF X := by rw [Zw, List.take_append_of_le_length (by rw [zd]; omega), List.take_of_length_le (by rw [zd]; omega)]
  have e2 : (v8 (Z ++ RZ)).take Z.length = v8 Z := by rw [KC, List.take_append_of_le_length (by rw [zp]; omega), List.take_of_length_le (by rw [zp]; omega)]
  simp only [AV.snap, AV.snap.snapL, lk, Nat.zero_add, List.drop_zero, Nat.reduceBEq, cond_true, cond_false, e1, e2]
  rfl
end
section
open Go.RowKit
theorem jO (e : Bool) (C : List InsM) (N : List Int) (hC : C.length ≤ 100000000) (hN : N.length ≤ 100000000) : zQ Tryz.prog 4 [pG e C N] (fun r => r = vB true) := by
 have key : yb Tryz.prog 4 [pG e C N] [] (vB true) [] := by
  have hF := Zx
  have hM := QL e C N hC hN
  unfold pG at *
  refine zJ (zb _) Tryz.func4 rfl rfl (by rw [Tryz.results4]) Tryz.ntmps4 rfl fun E => ?_
  (repeat' (first | exact trivial | (with_reducible first | apply awA | apply awF) | ((with_reducible first | apply awn | apply awo); intro r hr; simp only [go_sem, Nat.reduceBEq, Nat.reduceLT, Nat.reduceLeDiff, Nat.reduceAdd, Nat.reduceMul] at hr; subst hr; (first | refine caA (fun _ => hF) rfl ?_ ?_ ?_ | refine awV ?_ ?_ | refine awW ?_ ?_)) | (refine zz [] [(8001, 8001), (8002, 8002)] [8001, 8002] [] ?_; intro r hr; simp only [go_sem, Nat.reduceBEq, Nat.reduceLT] at hr; subst hr; refine yQ (hM) rfl rfl (by first | exact .inl rfl | exact .inr rfl) ?_ (.inl rfl) (fun q hq => xI ?_)))) <;> (try omega)
  refine ⟨?_⟩
  obtain ⟨⟨X, Z, RX, RZ⟩, hq0⟩ : ∃ z, z = q := ⟨_, rfl⟩
  subst hq0
  obtain ⟨hX, h1, h2⟩ := hq
  dsimp only at hX h1 h2 ⊢
  have hl := (wg hX).1
  have hE := ZK e X Z (by omega) (by omega)
  have t1 : (zF (X ++ RX)).take X.length = zF X := by rw [Zw, List.take_append_of_le_length (by rw [zd]; omega), List.take_of_length_le (by rw [zd]; omega)]
  have t2 : (v8 (Z ++ RZ)).take Z.length = v8 Z := by rw [KC, List.take_append_of_le_length (by rw [zp]; omega), List.take_of_length_le (by rw [zp]; omega)]
  unfold pG at *
  (repeat' (first | exact trivial | (with_reducible first | apply awD | apply awF) | ((with_reducible first | apply awo | refine awT ?_); intro r hr; simp only [go_sem, Nat.reduceBEq, Nat.reduceLT, reduceCtorEq, zd, zp, List.drop_zero] at hr; subst hr; (first | refine caA (fun _ => hE) rfl ?_ ?_ ?_ | refine awV ?_ ?_ | refine awW ?_ ?_ | refine zP ?_ ?_ ?_)) | (refine wO (by simp only [t1, t2, List.drop_zero, go_sem, Nat.reduceBEq, Nat.reduceLT]; exact rfl) ?_ (fun _ => hE) rfl ?_))) <;> (try omega)
  all_goals first | exact AV.up_rfl _ | exact zo | (rw [zd, zp, List.length_append, List.length_append]; omega) | trace_state
 exact key.toP trivial
end
end Go.Proofs.YtjeplogcfedmeaaGreat
