import Derived.Laws.Bits64b
import Derived.Test.YtjeplogcfedmeaaRows
import Derived.ProofKit
import Derived.OpenShut
import Derived.ShutString
import Derived.ChangeOld
import Derived.Deep.Slices
import Derived.Test.YtjeplogcfedmeaaP12
set_option linter.all false
section
namespace Go.Proofs.Ytjeplogcfedmeaa
open Go.RowKit
set_option maxRecDepth 100000
def Ext (L L' : LkM) : Prop := L'.length = L.length ∧ ∀ k s, L.getD k none = some s → L'.getD k none = some s
theorem Ext.refl (L : LkM) : Ext L L := ⟨rfl, fun _ _ h => h⟩
theorem Ext.trans {a b c : LkM} (h : Ext a b) (g : Ext b c) : Ext a c := ⟨g.1.trans h.1, fun k s hk => g.2 k s (h.2 k s hk)⟩
theorem Ext.some {L L' : LkM} (h : Ext L L') {k : Nat} (hk : (L.getD k none).isSome = true) : (L'.getD k none).isSome = true := by
 cases hs : L.getD k none with
 | none => rw [hs] at hk; cases hk
 | some s => rw [h.2 k s hs]; rfl
theorem Ext.st {L L' : LkM} (h : Ext L L') {k : Nat} (hk : (L.getD k none).isSome = true) : stAt L' k = stAt L k := by
 unfold stAt
 cases hs : L.getD k none with
 | none => rw [hs] at hk; cases hk
 | some s => rw [h.2 k s hs]
theorem handF_ext {e : Bool} {C : List InsM} {L L' : LkM} {k : Nat} {s : StM} {t : Int} (hk : k < L.length) (h : handF e C L k s t = .some L') : Ext L L' ∧ (L'.getD k none).isSome = true := by
 unfold handF at h
 split at h
 ·rename_i hn
  injection h with h
  subst h
  refine ⟨⟨by simp, fun j s' hj => ?_⟩, by simp [List.getD, hk]⟩
  by_cases hjk : k = j
  ·subst hjk; rw [hn] at hj; cases hj
  ·simp only [List.getD, List.getElem?_set_ne hjk] at hj ⊢; exact hj
 ·rename_i s0 hs
  split at h
  ·injection h with h; subst h; exact ⟨Ext.refl _, by rw [hs]; rfl⟩
  ·split at h
   ·injection h with h; subst h; exact ⟨Ext.refl _, by rw [hs]; rfl⟩
   ·cases h
theorem handS_ext {e : Bool} {C : List InsM} {t : Int} {E : EfM} {arms : Bool} : ∀ {ks : List Int} {w : Nat} {L L' : LkM}, (∀ j ∈ ks, j.toNat < L.length) → handS e C t E arms ks w L = .ok L' → Ext L L' ∧ ∀ j ∈ ks, (L'.getD j.toNat none).isSome = true
 | [], w, L, L', _, h => by
  unfold handS at h
  injection h with h
  subst h
  exact ⟨Ext.refl _, fun j hj => by cases hj⟩
 | k :: ks, w, L, L', hlt, h => by
  unfold handS at h
  split at h
  ·cases h
  ·rename_i L1 h1
   obtain ⟨g1, g2⟩ := handF_ext (hlt k (.head _)) h1
   obtain ⟨g3, g4⟩ := handS_ext (fun j hj => by rw [g1.1]; exact hlt j (.tail _ hj)) h
   refine ⟨g1.trans g3, fun j hj => ?_⟩
   rcases List.mem_cons.1 hj with rfl | hj
   ·exact g3.some g2
   ·exact g4 j hj
theorem handS_err {e : Bool} {C : List InsM} {t : Int} {E : EfM} {arms : Bool} : ∀ {ks : List Int} {w : Nat} {L : LkM} {j : Int}, handS e C t E arms ks w L = .error j → j ∈ ks
 | [], w, L, j, h => by unfold handS at h; cases h
 | k :: ks, w, L, j, h => by
  unfold handS at h
  split at h
  ·injection h with h; rw [h]; exact .head _
  ·exact .tail _ (handS_err h)
structure FirstI (e : Bool) (C : List InsM) (t : Int) (L : LkM) (D : List Nat) : Prop where
 len : L.length = C.length
 nd : D.Nodup
 dok : ∀ k ∈ D, k < C.length ∧ (L.getD k none).isSome = true
 cl : ∀ k ∈ D, ∀ j ∈ waysF C k (insAt C k), j < C.length ∧ (L.getD j.toNat none).isSome = true
 st : ∀ k ∈ D, ∃ t' ≤ t, (standF e (insAt C k) (stAt L k) t').2 = true
theorem FirstI.hand {e : Bool} {C : List InsM} {t : Int} {L L' : LkM} {D : List Nat} (h : FirstI e C t L D) (hx : Ext L L') : FirstI e C t L' D :=
 ⟨hx.1.trans h.len, h.nd, fun k hk => ⟨(h.dok k hk).1, hx.some (h.dok k hk).2⟩, fun k hk j hj => ⟨(h.cl k hk j hj).1, hx.some (h.cl k hk j hj).2⟩, fun k hk => by
  obtain ⟨t', h1, h2⟩ := h.st k hk
  exact ⟨t', h1, by rw [hx.st (h.dok k hk).2]; exact h2⟩⟩
theorem FirstI.up {e : Bool} {C : List InsM} {t t' : Int} {L : LkM} {D : List Nat} (h : FirstI e C t L D) (ht : t ≤ t') : FirstI e C t' L D := ⟨h.len, h.nd, h.dok, h.cl, fun k hk => by
 obtain ⟨t0, h1, h2⟩ := h.st k hk
 exact ⟨t0, Int.le_trans h1 ht, h2⟩⟩
theorem FirstI.dlen {e : Bool} {C : List InsM} {t : Int} {L : LkM} {D : List Nat} (h : FirstI e C t L D) : D.length ≤ C.length := nodup_le h.nd fun k hk => (h.dok k hk).1
def PosW (C : List InsM) : Prop := ∀ k, k < C.length → ∀ j ∈ waysF C k (insAt C k), 0 ≤ j
theorem goesF_ok {e : Bool} {C : List InsM} (hp : PosW C) {t : Int} {L L' : LkM} {D : List Nat} {k : Nat} (h : FirstI e C t L D) (hk : k < C.length) (hs : (L.getD k none).isSome = true) (hD : k ∉ D) (hg : goesF e C k L t = .ok L') : FirstI e C t L' (k :: D) ∧ Ext L L' := by
 unfold goesF at hg
 dsimp only at hg
 split at hg
 ·cases hg
 ·rename_i hn
  simp only [not_or, Bool.not_eq_false, Bool.not_eq_true] at hn
  obtain ⟨h1, h2⟩ := hn
  have hlt : ∀ j ∈ waysF C k (insAt C k), j < C.length := fun j hj => by
   have := List.any_eq_false.1 h2 j hj
   simpa using this
  obtain ⟨g1, g2⟩ := handS_ext (fun j hj => by have := hlt j hj; have := hp k hk j hj; rw [h.len]; omega) hg
  have hh := h.hand g1
  refine ⟨⟨hh.len, List.nodup_cons.2 ⟨hD, h.nd⟩, fun j hj => ?_, fun j hj i hi => ?_, fun j hj => ?_⟩, g1⟩
  ·rcases List.mem_cons.1 hj with rfl | hj
   ·exact ⟨hk, g1.some hs⟩
   ·exact hh.dok j hj
  ·rcases List.mem_cons.1 hj with rfl | hj
   ·exact ⟨hlt i hi, g2 i hi⟩
   ·exact hh.cl j hj i hi
  ·rcases List.mem_cons.1 hj with rfl | hj
   ·exact ⟨t, Int.le_refl _, by rw [g1.st hs]; exact h1⟩
   ·exact hh.st j hj
theorem goesF_err {e : Bool} {C : List InsM} (hp : PosW C) {t : Int} {L : LkM} {k : Nat} {j : Int} (hk : k < C.length) (hg : goesF e C k L t = .error j) : 0 ≤ j ∧ j < C.length := by
 unfold goesF at hg
 dsimp only at hg
 split at hg
 ·injection hg with hg; omega
 ·rename_i hn
  simp only [not_or, Bool.not_eq_true] at hn
  have hj := handS_err hg
  have h1 := List.any_eq_false.1 hn.2 j hj
  have := hp k hk j hj
  simp at h1
  omega
theorem nextF_some {L : LkM} {D : List Nat} {k : Nat} (h : nextF L D = some k) : k < L.length ∧ (L.getD k none).isSome = true ∧ k ∉ D := by
 unfold nextF at h
 have h1 := List.find?_some h
 have h2 := List.mem_of_find?_eq_some h
 rw [List.mem_range] at h2
 unfold waitsB at h1
 simp only [Bool.and_eq_true, Bool.not_eq_true', decide_eq_false_iff_not] at h1
 exact ⟨h2, h1.1, h1.2⟩
theorem nextF_none {L : LkM} {D : List Nat} (h : nextF L D = none) {k : Nat} (hk : (L.getD k none).isSome = true) : k ∈ D := by
 unfold nextF at h
 rw [List.find?_eq_none] at h
 have hlt : k < L.length := by
  rcases Nat.lt_or_ge k L.length with h' | h'
  ·exact h'
  ·simp [List.getD, List.getElem?_eq_none h'] at hk
 have := h k (List.mem_range.2 hlt)
 unfold waitsB at this
 rw [hk] at this
 simpa using this
theorem loopF_ok {e : Bool} {C : List InsM} (hp : PosW C) {t : Int} : ∀ {f : Nat} {L L' : LkM} {D D' : List Nat}, FirstI e C t L D → C.length + 1 ≤ f + D.length → loopF e C t f L D = .ok (L', D') → FirstI e C t L' D' ∧ Ext L L' ∧ ∀ k, (L'.getD k none).isSome = true → k ∈ D'
 | 0, L, L', D, D', h, hf, _ => by have := h.dlen; omega
 | f + 1, L, L', D, D', h, hf, hl => by
  unfold loopF at hl
  split at hl
  ·rename_i hn
   injection hl with hl
   injection hl with h1 h2
   subst h1
   subst h2
   exact ⟨h, Ext.refl _, fun k hk => nextF_none hn hk⟩
  ·rename_i k hn
   obtain ⟨h1, h2, h3⟩ := nextF_some hn
   rw [h.len] at h1
   split at hl
   ·cases hl
   ·rename_i L1 hg
    obtain ⟨g1, g2⟩ := goesF_ok hp h h1 h2 h3 hg
    obtain ⟨g3, g4, g5⟩ := loopF_ok hp g1 (by rw [List.length_cons]; omega) hl
    exact ⟨g3, g2.trans g4, g5⟩
theorem loopF_err {e : Bool} {C : List InsM} (hp : PosW C) {t : Int} {j : Int} : ∀ {f : Nat} {L : LkM} {D : List Nat}, FirstI e C t L D → loopF e C t f L D = .error j → 0 ≤ j ∧ j < C.length
 | 0, L, D, _, h => by unfold loopF at h; cases h
 | f + 1, L, D, h, hl => by
  unfold loopF at hl
  split at hl
  ·cases hl
  ·rename_i k hn
   obtain ⟨h1, h2, h3⟩ := nextF_some hn
   rw [h.len] at h1
   split at hl
   ·rename_i j' hg
    injection hl with hl
    rw [← hl]
    exact goesF_err hp h1 hg
   ·rename_i L1 hg
    exact loopF_err hp (goesF_ok hp h h1 h2 h3 hg).1 hl
theorem firstL_ok {e : Bool} {C : List InsM} (hp : PosW C) : ∀ {N : List Int} {t : Int} {L L' : LkM} {D D' : List Nat}, (∀ n ∈ N, 0 ≤ n ∧ n < C.length) → FirstI e C t L D → (∀ k, (L.getD k none).isSome = true → k ∈ D) → firstL e C N t L D = .ok (L', D') →
  (∃ t', FirstI e C t' L' D' ∧ t' ≤ t + N.length) ∧ Ext L L' ∧ (∀ k, (L'.getD k none).isSome = true → k ∈ D') ∧ ∀ (i : Nat) (n : Int), N[i]? = some n → (L'.getD n.toNat none).isSome = true ∧ ∃ L1 D1, FirstI e C (t + i) L1 D1 ∧ (∀ k, (L1.getD k none).isSome = true → k ∈ D1) ∧ (L1.getD n.toNat none).isSome = true
 | [], t, L, L', D, D', _, h, ha, hf => by
  unfold firstL at hf
  injection hf with hf
  injection hf with h1 h2
  subst h1
  subst h2
  exact ⟨⟨t, h, by simp⟩, Ext.refl _, ha, fun i n hi => by simp at hi⟩
 | n :: ns, t, L, L', D, D', hN, h, ha, hf => by
  unfold firstL at hf
  split at hf
  ·cases hf
  ·rename_i L1 h1
   have hn := hN n (.head _)
   obtain ⟨g1, g2⟩ := handF_ext (by rw [h.len]; omega) h1
   split at hf
   ·cases hf
   ·rename_i L2 D2 h2
    obtain ⟨g3, g4, g5⟩ := loopF_ok hp (h.hand g1) (by have := h.dlen; omega) h2
    obtain ⟨⟨t', q1, q2⟩, q3, q4, q5⟩ := firstL_ok hp (fun m hm => hN m (.tail _ hm)) (g3.up (by omega : t ≤ t + 1)) g5 hf
    refine ⟨⟨t', q1, by rw [List.length_cons]; omega⟩, (g1.trans g4).trans q3, q4, fun i m hi => ?_⟩
    cases i with
    | zero =>
     simp only [List.getElem?_cons_zero, Option.some.injEq] at hi
     subst hi
     exact ⟨(g4.trans q3).some g2, L2, D2, by simpa using g3, g5, g4.some g2⟩
    | succ i =>
     obtain ⟨r1, L3, D3, r2, r3⟩ := q5 i m (by simpa using hi)
     exact ⟨r1, L3, D3, by rw [show t + ((i + 1 : Nat) : Int) = t + 1 + i by omega]; exact r2, r3⟩
theorem firstL_err {e : Bool} {C : List InsM} (hp : PosW C) {j : Int} : ∀ {N : List Int} {t : Int} {L : LkM} {D : List Nat}, (∀ n ∈ N, 0 ≤ n ∧ n < C.length) → FirstI e C t L D → firstL e C N t L D = .error j → 0 ≤ j ∧ j < C.length
 | [], t, L, D, _, _, hf => by unfold firstL at hf; cases hf
 | n :: ns, t, L, D, hN, h, hf => by
  unfold firstL at hf
  have hn := hN n (.head _)
  split at hf
  ·injection hf with hf; rw [← hf]; exact hn
  ·rename_i L1 h1
   obtain ⟨g1, g2⟩ := handF_ext (by rw [h.len]; omega) h1
   split at hf
   ·rename_i j' h2
    injection hf with hf
    rw [← hf]
    exact loopF_err hp (h.hand g1) h2
   ·rename_i L2 D2 h2
    obtain ⟨g3, _, _⟩ := loopF_ok hp (h.hand g1) (by have := h.dlen; omega) h2
    exact firstL_err hp (fun m hm => hN m (.tail _ hm)) (g3.up (by omega : t ≤ t + 1)) hf
theorem FirstI.init (e : Bool) (C : List InsM) : FirstI e C 0 (List.replicate C.length none) [] := ⟨by simp, List.nodup_nil, fun _ h => (by cases h), fun _ h => (by cases h), fun _ h => (by cases h)⟩
theorem init_none (C : List InsM) (k : Nat) : ((List.replicate C.length (none : Option StM)).getD k none).isSome = false := by
 simp only [List.getD, List.getElem?_replicate]
 split <;> rfl
theorem stand_call {x : InsM} {s : StM} {t : Int} (h : (standF false x s t).2 = true) (ho : x.op = 16) : x.c < t := by
 unfold standF decS at h
 simp only [reduceCtorEq, if_false] at h
 rw [if_pos ho] at h
 split at h
 ·cases h
 ·omega
theorem looked_of {e : Bool} {C : List InsM} {N : List Int} (hc : chkF e C N = (0, 0)) {L : LkM} {D : List Nat} (h : firstF e C N = .ok (L, D)) : LookedOK C N := by
 obtain ⟨_, hr, hN⟩ := chkF_ok hc
 have hp : PosW C := fun k hk j hj => (ways_in hr hk j hj).1
 intro t n hn
 obtain ⟨_, _, _, h4⟩ := firstL_ok hp hN (FirstI.init e C) (fun k hk => by rw [init_none] at hk; cases hk) h
 obtain ⟨_, L1, D1, g1, g2, g3⟩ := h4 t n hn
 refine ⟨fun k => k ∈ D1, g2 _ g3, fun B hB => ⟨fun k hk => (g1.dok k hk).1, fun k hk j hj => ?_, fun k hk ho => ?_⟩⟩
 ·exact ⟨hp k (g1.dok k hk).1 j hj, g2 _ (g1.cl k hk j hj).2⟩
 ·obtain ⟨he, h0, _⟩ := right_call (hr k (g1.dok k hk).1) ho
  subst he
  obtain ⟨t', h1, h2⟩ := g1.st k hk
  have := stand_call h2 ho
  omega
end Go.Proofs.Ytjeplogcfedmeaa
end
section
namespace Go.Proofs.Ytjeplogcfedmeaa
open Go.RowKit
set_option maxRecDepth 100000
set_option maxHeartbeats 8000000
theorem and_pred_lt {n : Nat} (h : n ≠ 0) : n &&& (n - 1) < n := by
 have := Nat.and_le_right (n := n) (m := n - 1)
 omega
def popc (n : Nat) : Nat := if h : n = 0 then 0 else popc (n &&& (n - 1)) + 1
termination_by n
decreasing_by exact and_pred_lt h
theorem popc_0 : popc 0 = 0 := by rw [popc]; simp
theorem popc_s {n : Nat} (h : n ≠ 0) : popc n = popc (n &&& (n - 1)) + 1 := by rw [popc]; simp [h]
theorem and_even (m : Nat) : (2 * m) &&& (2 * m - 1) = 2 * (m &&& (m - 1)) := by
 apply Nat.eq_of_testBit_eq
 intro i
 rcases Nat.eq_zero_or_pos m with h0 | h0
 ·subst h0; simp
 ·have h1 : 2 * m - 1 = 2 * (m - 1) + 1 := by omega
  rw [h1]
  cases i with
  | zero => simp [Nat.testBit_zero, Nat.mul_mod_right]
  | succ i =>
   rw [Nat.testBit_and, Nat.testBit_succ, Nat.testBit_succ, Nat.testBit_succ, show 2 * m / 2 = m by omega, show (2 * (m - 1) + 1) / 2 = m - 1 by omega, show 2 * (m &&& (m - 1)) / 2 = m &&& (m - 1) by omega, Nat.testBit_and]
theorem and_odd (m : Nat) : (2 * m + 1) &&& (2 * m + 1 - 1) = 2 * m := by
 rw [Nat.add_sub_cancel]
 apply Nat.eq_of_testBit_eq
 intro i
 cases i with
 | zero => simp [Nat.testBit_zero]
 | succ i => rw [Nat.testBit_and, Nat.testBit_succ, Nat.testBit_succ, show (2 * m + 1) / 2 = m by omega, show 2 * m / 2 = m by omega, Bool.and_self]
theorem popc_even (m : Nat) : popc (2 * m) = popc m := by
 induction m using Nat.strongRecOn with
 | ind m ih =>
  by_cases h0 : m = 0
  ·subst h0; rfl
  ·rw [popc_s (by omega), popc_s h0, and_even, ih _ (and_pred_lt h0)]
theorem popc_le : ∀ (k n : Nat), n < 2 ^ k → popc n ≤ k
 | 0, n, h => by
  have : n = 0 := by simpa using h
  subst this
  rw [popc_0]
  exact Nat.le_refl _
 | k + 1, n, h => by
  have h2 : n / 2 < 2 ^ k := by rw [Nat.pow_succ] at h; omega
  have ih := popc_le k (n / 2) h2
  rcases Nat.mod_two_eq_zero_or_one n with h0 | h0
  ·rw [show n = 2 * (n / 2) by omega, popc_even]; omega
  ·rw [show n = 2 * (n / 2) + 1 by omega, popc_s (by omega), and_odd, popc_even]; omega
def modU (x : Int) : Nat := (x % 18446744073709551616).toNat
theorem modU_lt (x : Int) : modU x < 18446744073709551616 := by unfold modU; omega
theorem ofInt_modU (x : Int) : (BitVec.ofInt 64 x).toNat = modU x := by
 rw [BitVec.toNat_ofInt]; rfl
theorem bits_step (k : Int) : bits .and .u64 k (IntKind.u64.wrap (k - 1)) = ((modU k &&& modU (k - 1) : Nat) : Int) := by
 have h1 : modU (IntKind.u64.wrap (k - 1)) = modU (k - 1) := by rw [IntKind.wrap_u64]; unfold modU; omega
 have hx : modU k &&& modU (k - 1) < 2 ^ 64 := Nat.and_lt_two_pow _ (modU_lt _)
 show IntKind.u64.wrap ((BitVec.ofInt 64 k &&& BitVec.ofInt 64 (IntKind.u64.wrap (k - 1))).toNat : Int) = _
 rw [BitVec.toNat_and, ofInt_modU, ofInt_modU, h1, IntKind.wrap_u64]
 omega
theorem step_nat {n : Nat} (h0 : n ≠ 0) (h : n < 18446744073709551616) : modU n &&& modU ((n : Int) - 1) = n &&& (n - 1) := by
 have h1 : modU n = n := by unfold modU; omega
 have h2 : modU ((n : Int) - 1) = n - 1 := by unfold modU; omega
 rw [h1, h2]
def cntK (k : Int) : Nat := if k = 0 then 0 else popc (modU k &&& modU (k - 1)) + 1
theorem cntK_nat {n : Nat} (h : n < 18446744073709551616) : cntK n = popc n := by
 unfold cntK
 by_cases h0 : n = 0
 ·subst h0; rw [popc_0]; rfl
 ·rw [if_neg (by omega), step_nat h0 h, ← popc_s h0]
theorem cntK_le (k : Int) : cntK k ≤ 65 := by
 unfold cntK
 split
 ·omega
 ·have := popc_le 64 (modU k &&& modU (k - 1)) (Nat.and_lt_two_pow _ (modU_lt _))
  omega
def shapeF (s : StM) : Int :=
 if s.place = 4 then 1 else if s.place = 1 ∨ s.place = 3 then 2 else if s.place = 2 then 2 + cntK s.kids
 else if s.place = 6 then IntKind.i64.wrap (1 + s.left) else if s.place = 7 then 66 else 0
theorem shape_any (s : StM) : PCall Try.prog 25 [vSt s] (fun r => r = vI (shapeF s)) := by
 obtain ⟨p, k, t, q, f, l⟩ := s
 unfold shapeF
 dsimp only
 by_cases h2 : p = 2
 ·subst h2
  simp only [Int.reduceEq, if_false, or_self, if_true]
  have hb := cntK_le k
  refine go_fn (tyOf_ok _) Try.func25 rfl rfl (by rw [Try.results25]) Try.ntmps25 rfl fun E => ?_
  (repeat' (first | exact trivial | (with_reducible first | apply awA | apply awB | apply awF) | ((with_reducible first | apply awn | refine awQ ?_); intro r hr; simp only [go_sem, Nat.reduceBEq, Nat.reduceBneDiff, Nat.reduceLT, Nat.reduceLeDiff, Nat.reduceAdd, Nat.reduceMul, Nat.reduceSub, Nat.reduceEqDiff, reduceCtorEq, Int.cast_ofNat_Int, Int.reduceToNat, Int.reduceEq, Int.reduceLT, Int.reduceLE, Int.reduceNe] at hr; subst hr; (first | refine awV ?_ ?_ | (refine condK (fun h => ?_) (fun h => ?_) <;> (try simp only [go_sem, reduceCtorEq] at h) <;> (try (exfalso; omega))))))) <;> (try omega)
  refine go_loop [3, 4] [] (fun x : Nat × Int => ⟨[(3, true, vI x.1), (4, true, .v (.int .u64 x.2))], []⟩) (fun x => (x.1 : Int) + cntK x.2 = 2 + cntK k ∧ x.1 ≤ 67) (fun x => cntK x.2) (2, k) (by simp only [go_sem, Nat.reduceBEq, Nat.reduceBneDiff, Nat.reduceLT, Nat.reduceLeDiff, Nat.reduceAdd, Nat.reduceMul, Nat.reduceSub, Nat.reduceEqDiff, reduceCtorEq] <;> exact rfl) ⟨rfl, by omega⟩ ?_
  intro ⟨n, z⟩ ⟨h1, h2⟩
  simp only at h1 h2 ⊢
  have hw := wrap_i64 (n := (n : Int) + 1) (by omega)
  by_cases hz : z = 0
  ·have ez : (z = 0) = True := eq_true hz
   subst hz
   have : cntK 0 = 0 := rfl
   rw [this] at h1
   rw [← h1]
   (repeat' (first | exact trivial | (with_reducible first | apply awA | apply awD | apply awE | apply awF | apply awG | apply awH | apply awJ | apply awK) | ((with_reducible first | apply awn | refine awQ ?_ | refine awR ?_); intro r hr; simp only [go_sem, Nat.reduceBEq, Nat.reduceBneDiff, Nat.reduceLT, Nat.reduceLeDiff, Nat.reduceAdd, Nat.reduceMul, Nat.reduceSub, Nat.reduceEqDiff, reduceCtorEq] at hr; subst hr; (first | refine awV ?_ ?_ | refine endK ?_ ?_ | (refine condK (fun h => ?_) (fun h => ?_) <;> (try simp only [go_sem, reduceCtorEq] at h) <;> (try (exfalso; omega))))))) <;> (try omega)
   all_goals first | (show AV.v _ = AV.v _; simp) | skip
  ·have ez : (z = 0) = False := eq_false hz
   have hc : cntK z = popc (modU z &&& modU (z - 1)) + 1 := by unfold cntK; rw [if_neg hz]
   have hlt : modU z &&& modU (z - 1) < 18446744073709551616 := Nat.lt_of_le_of_lt Nat.and_le_left (modU_lt z)
   have hn := cntK_nat hlt
   have hbs := bits_step z
   generalize modU z &&& modU (z - 1) = z' at hc hlt hn hbs
   (repeat' (first | exact trivial | (with_reducible first | apply awA | apply awB | apply awC | apply awF | apply awI) | ((with_reducible first | apply awn | refine awQ ?_); intro r hr; simp only [go_sem, Nat.reduceBEq, Nat.reduceBneDiff, Nat.reduceLT, Nat.reduceLeDiff, Nat.reduceAdd, Nat.reduceMul, Nat.reduceSub, Nat.reduceEqDiff, reduceCtorEq, ez, hw, hbs] at hr; subst hr; (first | refine awV ?_ ?_ | (refine condK (fun h => ?_) (fun h => ?_) <;> (try simp only [go_sem, reduceCtorEq] at h) <;> (try (exfalso; omega))))))) <;> (try omega)
   refine ⟨(n + 1, (z' : Int)), ?_, ⟨by show ((n + 1 : Nat) : Int) + cntK z' = _; omega, by show n + 1 ≤ 67; omega⟩, by show cntK z' < cntK z; omega⟩
   simp only [hw, hbs, Int.natCast_add, Int.cast_ofNat_Int, go_sem, Nat.reduceBEq, Nat.reduceBneDiff, Nat.reduceLT, Nat.reduceLeDiff, Nat.reduceAdd, Nat.reduceMul, Nat.reduceSub, Nat.reduceEqDiff, reduceCtorEq]
   try exact rfl
 ·have e2 : (p = 2) = False := eq_false h2
  simp only [e2, if_false]
  refine go_fn (tyOf_ok _) Try.func25 rfl rfl (by rw [Try.results25]) Try.ntmps25 rfl fun E => ?_
  (repeat' (first | exact trivial | (with_reducible first | apply awA | apply awB | apply awC | apply awD | apply awF | apply awG | apply awI | apply awJ) | ((with_reducible first | apply awn | refine awQ ?_ | refine awR ?_); intro r hr; simp only [go_sem, Nat.reduceBEq, Nat.reduceBneDiff, Nat.reduceLT, Nat.reduceLeDiff, Nat.reduceAdd, Nat.reduceMul, Nat.reduceSub, Nat.reduceEqDiff, reduceCtorEq, e2, Int.cast_ofNat_Int, Int.reduceToNat, Int.reduceEq, Int.reduceLT, Int.reduceLE, Int.reduceNe] at hr; subst hr; (first | refine awV ?_ ?_ | refine endK ?_ ?_ | (refine condK (fun h => ?_) (fun h => ?_) <;> (try simp only [go_sem, reduceCtorEq] at h) <;> (try (exfalso; omega))))))) <;> (try omega)
  all_goals first | (simp_all; done) | (simp_all; rfl) | skip
end Go.Proofs.Ytjeplogcfedmeaa
end
section
namespace Go.Proofs.Ytjeplogcfedmeaa
open Go.RowKit
set_option maxRecDepth 100000
set_option maxHeartbeats 8000000
noncomputable def verF (e : Bool) (C : List InsM) (N : List Int) : Int × Int :=
 if (chkF e C N).1 ≠ 0 then chkF e C N
 else match firstF e C N with
  | .error j => (150, j)
  | .ok _ => if 0 ≤ secF e C N then (150, secF e C N) else (0, 0)
def outF (L : LkM) : List Int := L.map fun s => match s with | some s => shapeF s | none => -1
noncomputable def shF (e : Bool) (C : List InsM) (N : List Int) : List Int :=
 if (verF e C N).1 ≠ 0 then []
 else match firstF e C N with
  | .error _ => []
  | .ok r => outF r.1
theorem repl_sts (n : Nat) : (List.replicate n [vI 0, .v (.int .u64 0), vI 0, vI 0, vI 0, vI 0] : List (List AV)) = encSts (List.replicate n none) := by simp [encSts, encSt, StM.zero]
theorem repl_has (n : Nat) : (List.replicate n [vB false] : List (List AV)) = encHas (List.replicate n none) := by simp [encHas]
theorem looked_bad (e : Bool) (C : List InsM) (N : List Int) (hC : C.length ≤ 140737488355328) (hN : N.length ≤ 140737488355328) (hv : (verF e C N).1 ≠ 0) :
  GCall Try.prog 19 [pG e C N] [] (.tup [.v (.pointer none), vFa (verF e C N)]) [] := by
 have hck := check_any e C N hC hN
 unfold verF at hv ⊢
 by_cases hc : (chkF e C N).1 = 0
 ·have hc0 := chkF_err.1 hc
  have hok := codeOK_of hc0
  have hl := hok.len
  rw [if_neg (by simpa using hc)] at hv ⊢
  rw [hc0] at hck
  have fe := first_E e C N hok
  unfold lkO lkV at fe
  simp only [List.length_replicate, List.length_nil] at fe
  have hr1 := repl_sts C.length
  have hr2 := repl_has C.length
  have sec := fun hlk => second_E e C N hok hlk
  have hlk : ∀ r, firstF e C N = .ok r → LookedOK C N := fun r h => looked_of hc0 h
  generalize firstF e C N = R at fe hv hlk ⊢
  generalize encSts (List.replicate C.length none) = rows1 at fe hr1
  generalize encHas (List.replicate C.length none) = rows2 at fe hr2
  unfold pG at *
  cases R with
  | error j =>
   dsimp only
   refine go_fnG (tyOf_ok _) Try.func19 rfl rfl (by rw [Try.results19]) Try.ntmps19 rfl fun E => ?_
   (repeat' (first | exact trivial | (refine aw_nilvar 23 5 3 1 15002 (.inr (by decide)) (by decide) rfl rfl ?_) | (with_reducible first | apply awA | apply awC | apply awF) | (refine aw_draw (id := 4) (t := (.node [0, 1, 2, 3, 5, 6, 7] [(.node [4, 8, 9, 10, 11] []), (.node [8, 4, 9, 10, 11] [])])) (drR [1] [] []) mixed (by kernel_rfl) (by kernel_rfl) (fun _ _ h => h) ?_) | (refine at_done (by simp only [go_sem]; exact rfl) ?_) | (refine at_alt (by simp only [go_sem]; exact rfl) ?_) | refine qalt_normal ?_ | refine ats_cons ?_ ?_ | exact ats_nil | ((with_reducible first | apply awn | apply awo | apply awp | refine awQ ?_); intro r hr; simp only [go_sem, Nat.reduceBEq, Nat.reduceBneDiff, Nat.reduceLT, Nat.reduceLeDiff, Nat.reduceAdd, Nat.reduceMul, Nat.reduceSub, Nat.reduceEqDiff, reduceCtorEq, encIs_len, encSts_len, encHas_len, AState.nilvar, hr1, hr2, Int.cast_ofNat_Int, Int.reduceToNat, Int.reduceEq, Int.reduceLT, Int.reduceLE, Int.reduceNe] at hr; subst hr; (first | refine caA (fun _ => hck) rfl ?_ ?_ ?_ | refine awV ?_ ?_ | refine awW ?_ ?_ | (refine condK (fun h => ?_) (fun h => ?_) <;> (try simp only [go_sem, reduceCtorEq] at h) <;> (try (exfalso; omega))))) | (refine go_callGE [(23, 10000), (17, 15000), (21, 15001), (15002, 15002)] [(10000, 23), (15000, 17), (15001, 21), (15002, 15002)] [17, 21, 15002] [23] ?_; intro r hr; simp only [go_sem, Nat.reduceBEq, Nat.reduceBneDiff, Nat.reduceLT, Nat.reduceLeDiff, Nat.reduceAdd, Nat.reduceMul, Nat.reduceSub, Nat.reduceEqDiff, reduceCtorEq, encIs_len, encSts_len, encHas_len, AState.nilvar, hr1, hr2, Int.cast_ofNat_Int, Int.reduceToNat, Int.reduceEq, Int.reduceLT, Int.reduceLE, Int.reduceNe] at hr; subst hr; refine callGV (fe) rfl rfl (by first | exact .inl rfl | exact .inr rfl) ?_ (.inl rfl) (fun q hq => hold ?_)))) <;> (try omega)
   all_goals
    refine ⟨?_⟩
    obtain ⟨r, L, W⟩ := q
    obtain ⟨_, rfl, h0⟩ := hq
    have e1 : (r < 0) = False := eq_false (by omega)
    have e2 : (r ≥ 0) = True := eq_true h0
    (repeat' (first | exact trivial | (with_reducible first | apply awA | apply awC | apply awD | apply awF | apply awG) | ((with_reducible first | apply awn | apply awo | refine awQ ?_ | refine awT ?_); intro r hr; simp only [go_sem, Nat.reduceBEq, Nat.reduceBneDiff, Nat.reduceLT, Nat.reduceLeDiff, Nat.reduceAdd, Nat.reduceMul, Nat.reduceSub, Nat.reduceEqDiff, reduceCtorEq, e1, e2, Int.cast_ofNat_Int, Int.reduceToNat, Int.reduceEq, Int.reduceLT, Int.reduceLE, Int.reduceNe] at hr; subst hr; (first | refine awV ?_ ?_ | refine endGK ?_ ?_ ?_ | (refine condK (fun h => ?_) (fun h => ?_) <;> (try simp only [go_sem, reduceCtorEq] at h) <;> (try (exfalso; omega))))))) <;> (try omega)
    all_goals first | exact AV.up_rfl _ | exact obUp_nil
  | ok r0 =>
   dsimp only at hv ⊢
   have hs0 : 0 ≤ secF e C N := by
    by_cases h : 0 ≤ secF e C N
    ·exact h
    ·rw [if_neg h] at hv; exact absurd rfl hv
   rw [if_pos hs0]
   have sec' := sec (hlk _ rfl)
   have hsp := secF_spec e C N
   generalize secF e C N = sr at hs0 hsp ⊢
   have e1 : ((-1 : Int) < 0) = True := eq_true (by decide)
   have e2 : (sr ≥ 0) = True := eq_true hs0
   clear hlk sec hv
   refine go_fnG (tyOf_ok _) Try.func19 rfl rfl (by rw [Try.results19]) Try.ntmps19 rfl fun E => ?_
   (repeat' (first | exact trivial | (refine aw_nilvar 23 5 3 1 15002 (.inr (by decide)) (by decide) rfl rfl ?_) | (with_reducible first | apply awA | apply awC | apply awF) | (refine aw_draw (id := 4) (t := (.node [0, 1, 2, 3, 5, 6, 7] [(.node [4, 8, 9, 10, 11] []), (.node [8, 4, 9, 10, 11] [])])) (drR [1] [] []) mixed (by kernel_rfl) (by kernel_rfl) (fun _ _ h => h) ?_) | (refine at_done (by simp only [go_sem]; exact rfl) ?_) | (refine at_alt (by simp only [go_sem]; exact rfl) ?_) | refine qalt_normal ?_ | refine ats_cons ?_ ?_ | exact ats_nil | ((with_reducible first | apply awn | apply awo | apply awp | refine awQ ?_); intro r hr; simp only [go_sem, Nat.reduceBEq, Nat.reduceBneDiff, Nat.reduceLT, Nat.reduceLeDiff, Nat.reduceAdd, Nat.reduceMul, Nat.reduceSub, Nat.reduceEqDiff, reduceCtorEq, encIs_len, encSts_len, encHas_len, AState.nilvar, hr1, hr2, Int.cast_ofNat_Int, Int.reduceToNat, Int.reduceEq, Int.reduceLT, Int.reduceLE, Int.reduceNe] at hr; subst hr; (first | refine caA (fun _ => hck) rfl ?_ ?_ ?_ | refine awV ?_ ?_ | refine awW ?_ ?_ | (refine condK (fun h => ?_) (fun h => ?_) <;> (try simp only [go_sem, reduceCtorEq] at h) <;> (try (exfalso; omega))))) | (refine go_callGE [(23, 10000), (17, 15000), (21, 15001), (15002, 15002)] [(10000, 23), (15000, 17), (15001, 21), (15002, 15002)] [17, 21, 15002] [23] ?_; intro r hr; simp only [go_sem, Nat.reduceBEq, Nat.reduceBneDiff, Nat.reduceLT, Nat.reduceLeDiff, Nat.reduceAdd, Nat.reduceMul, Nat.reduceSub, Nat.reduceEqDiff, reduceCtorEq, encIs_len, encSts_len, encHas_len, AState.nilvar, hr1, hr2, Int.cast_ofNat_Int, Int.reduceToNat, Int.reduceEq, Int.reduceLT, Int.reduceLE, Int.reduceNe] at hr; subst hr; refine callGV (fe) rfl rfl (by first | exact .inl rfl | exact .inr rfl) ?_ (.inl rfl) (fun q hq => hold ?_)))) <;> (try omega)
   all_goals
    refine ⟨?_⟩
    obtain ⟨r, L, W⟩ := q
    obtain ⟨_, rfl, rfl⟩ := hq
    (repeat' (first | exact trivial | (with_reducible first | apply awA | apply awF) | ((with_reducible first | apply awn | apply awo | refine awQ ?_); intro r hr; simp only [go_sem, Nat.reduceBEq, Nat.reduceBneDiff, Nat.reduceLT, Nat.reduceLeDiff, Nat.reduceAdd, Nat.reduceMul, Nat.reduceSub, Nat.reduceEqDiff, reduceCtorEq, e1, e2, Int.cast_ofNat_Int, Int.reduceToNat, Int.reduceEq, Int.reduceLT, Int.reduceLE, Int.reduceNe] at hr; subst hr; (first | refine awV ?_ ?_ | refine awW ?_ ?_ | (refine condK (fun h => ?_) (fun h => ?_) <;> (try simp only [go_sem, reduceCtorEq] at h) <;> (try (exfalso; omega))))) | (refine go_callGE [] [] [] [] ?_; intro r hr; simp only [go_sem, Nat.reduceBEq, Nat.reduceBneDiff, Nat.reduceLT, Nat.reduceLeDiff, Nat.reduceAdd, Nat.reduceMul, Nat.reduceSub, Nat.reduceEqDiff, reduceCtorEq, e1, e2, Int.cast_ofNat_Int, Int.reduceToNat, Int.reduceEq, Int.reduceLT, Int.reduceLE, Int.reduceNe] at hr; subst hr; refine callGV (sec') rfl rfl (by first | exact .inl rfl | exact .inr rfl) ?_ (.inl rfl) (fun q hq => hold ?_)))) <;> (try omega)
    refine ⟨?_⟩
    have hqq := hq.uniq hsp
    subst hqq
    (repeat' (first | exact trivial | (with_reducible first | apply awA | apply awD | apply awF | apply awG) | ((with_reducible first | apply awn | apply awo | refine awQ ?_ | refine awT ?_); intro r hr; simp only [go_sem, Nat.reduceBEq, Nat.reduceBneDiff, Nat.reduceLT, Nat.reduceLeDiff, Nat.reduceAdd, Nat.reduceMul, Nat.reduceSub, Nat.reduceEqDiff, reduceCtorEq, e1, e2, Int.cast_ofNat_Int, Int.reduceToNat, Int.reduceEq, Int.reduceLT, Int.reduceLE, Int.reduceNe] at hr; subst hr; (first | refine awV ?_ ?_ | refine endGK ?_ ?_ ?_ | (refine condK (fun h => ?_) (fun h => ?_) <;> (try simp only [go_sem, reduceCtorEq] at h) <;> (try (exfalso; omega))))))) <;> (try omega)
    all_goals first | exact AV.up_rfl _ | exact obUp_nil
 ·rw [if_pos (by simpa using hc)] at hv ⊢
  generalize chkF e C N = ch at hck hc ⊢
  obtain ⟨c1, c2⟩ := ch
  have e1 : (c1 = 0) = False := eq_false hc
  unfold pG at *
  refine go_fnG (tyOf_ok _) Try.func19 rfl rfl (by rw [Try.results19]) Try.ntmps19 rfl fun E => ?_
  (repeat' (first | exact trivial | (with_reducible first | apply awA | apply awD | apply awF | apply awG) | (refine aw_draw (id := 3) (t := (.node [0, 1, 2] [])) (drR [4] [] []) mixed (by kernel_rfl) (by kernel_rfl) (fun _ _ h => h) ?_) | (refine at_done (by simp only [go_sem]; exact rfl) ?_) | (refine at_alt (by simp only [go_sem]; exact rfl) ?_) | refine qalt_normal ?_ | refine ats_cons ?_ ?_ | exact ats_nil | ((with_reducible first | apply awn | apply awo | apply awp | refine awQ ?_ | refine awT ?_); intro r hr; simp only [go_sem, Nat.reduceBEq, Nat.reduceBneDiff, Nat.reduceLT, Nat.reduceLeDiff, Nat.reduceAdd, Nat.reduceMul, Nat.reduceSub, Nat.reduceEqDiff, reduceCtorEq, e1, Int.cast_ofNat_Int, Int.reduceToNat, Int.reduceEq, Int.reduceLT, Int.reduceLE, Int.reduceNe] at hr; subst hr; (first | refine caA (fun _ => hck) rfl ?_ ?_ ?_ | refine awV ?_ ?_ | refine endGK ?_ ?_ ?_ | (refine condK (fun h => ?_) (fun h => ?_) <;> (try simp only [go_sem, reduceCtorEq] at h) <;> (try (exfalso; omega))))))) <;> (try omega)
  all_goals first | exact AV.up_rfl _ | exact obUp_nil
def lkR (e : Bool) (C : List InsM) (N : List Int) (L : LkM) (W : List Int) : List (Nat × AObj) :=
 [(23, .var [vB e, .lst 4 (encIs C), .lst 1 (v8 N), .ref 62 6 17 0 C.length, .ref 4 1 21 0 C.length, .ref 3 1 15002 0 W.length]), (17, .row 62 6 (encSts L)), (21, .row 4 1 (encHas L)), (15002, .row 3 1 (v8 W))]
theorem ver_ok {e : Bool} {C : List InsM} {N : List Int} (hv : (verF e C N).1 = 0) : chkF e C N = (0, 0) ∧ (∃ r, firstF e C N = .ok r) ∧ secF e C N < 0 ∧ verF e C N = (0, 0) := by
 unfold verF at hv ⊢
 by_cases hc : (chkF e C N).1 = 0
 ·rw [if_neg (by simpa using hc)] at hv ⊢
  refine ⟨chkF_err.1 hc, ?_⟩
  cases hf : firstF e C N with
  | error j => rw [hf] at hv; cases hv
  | ok r =>
   rw [hf] at hv
   dsimp only at hv ⊢
   by_cases h : 0 ≤ secF e C N
   ·rw [if_pos h] at hv; cases hv
   ·rw [if_neg h]; exact ⟨⟨r, rfl⟩, by omega, rfl⟩
 ·rw [if_pos (by simpa using hc)] at hv; exact absurd hv hc
theorem looked_ok (e : Bool) (C : List InsM) (N : List Int) (hv : (verF e C N).1 = 0) {r : LkM × List Nat} (hf : firstF e C N = .ok r) :
  GCallE Try.prog 19 [pG e C N] [] (fun _ : List Int => True) (fun _ => .tup [.ptr 1 23 0 0, vFa (0, 0)]) (fun W => lkR e C N r.1 W) := by
 obtain ⟨hc0, _, hs, _⟩ := ver_ok hv
 have hok := codeOK_of hc0
 have hl := hok.len
 have hck := check_any e C N (by omega) (by have := hok.lenN; omega)
 rw [hc0] at hck
 have fe := first_E e C N hok
 unfold lkO lkV at fe
 simp only [List.length_replicate, List.length_nil] at fe
 have hr1 := repl_sts C.length
 have hr2 := repl_has C.length
 have sec := second_E e C N hok (looked_of hc0 hf)
 rw [hf] at fe
 have hsp := secF_spec e C N
 generalize secF e C N = sr at hs hsp
 generalize encSts (List.replicate C.length none) = rows1 at fe hr1
 generalize encHas (List.replicate C.length none) = rows2 at fe hr2
 have e1 : ((-1 : Int) < 0) = True := eq_true (by decide)
 have e2 : (sr ≥ 0) = False := eq_false (by omega)
 unfold pG at *
 unfold lkR
 refine go_fnE (tyOf_ok _) Try.func19 rfl rfl (by rw [Try.results19]) Try.ntmps19 rfl fun E => ?_
 (repeat' (first | exact trivial | (refine aw_nilvar 23 5 3 1 15002 (.inr (by decide)) (by decide) rfl rfl ?_) | (with_reducible first | apply awA | apply awC | apply awF) | (refine aw_draw (id := 4) (t := (.node [0, 1, 2, 3, 5, 6, 7] [(.node [4, 8, 9, 10, 11] []), (.node [8, 4, 9, 10, 11] [])])) (drR [1] [] []) mixed (by kernel_rfl) (by kernel_rfl) (fun _ _ h => h) ?_) | (refine at_done (by simp only [go_sem]; exact rfl) ?_) | (refine at_alt (by simp only [go_sem]; exact rfl) ?_) | refine qalt_normal ?_ | refine ats_cons ?_ ?_ | exact ats_nil | ((with_reducible first | apply awn | apply awo | apply awp | refine awQ ?_); intro r hr; simp only [go_sem, Nat.reduceBEq, Nat.reduceBneDiff, Nat.reduceLT, Nat.reduceLeDiff, Nat.reduceAdd, Nat.reduceMul, Nat.reduceSub, Nat.reduceEqDiff, reduceCtorEq, encIs_len, encSts_len, encHas_len, AState.nilvar, hr1, hr2, Int.cast_ofNat_Int, Int.reduceToNat, Int.reduceEq, Int.reduceLT, Int.reduceLE, Int.reduceNe] at hr; subst hr; (first | refine caA (fun _ => hck) rfl ?_ ?_ ?_ | refine awV ?_ ?_ | refine awW ?_ ?_ | (refine condK (fun h => ?_) (fun h => ?_) <;> (try simp only [go_sem, reduceCtorEq] at h) <;> (try (exfalso; omega))))) | (refine go_callGE [(23, 10000), (17, 15000), (21, 15001), (15002, 15002)] [(10000, 23), (15000, 17), (15001, 21), (15002, 15002)] [17, 21, 15002] [23] ?_; intro r hr; simp only [go_sem, Nat.reduceBEq, Nat.reduceBneDiff, Nat.reduceLT, Nat.reduceLeDiff, Nat.reduceAdd, Nat.reduceMul, Nat.reduceSub, Nat.reduceEqDiff, reduceCtorEq, encIs_len, encSts_len, encHas_len, AState.nilvar, hr1, hr2, Int.cast_ofNat_Int, Int.reduceToNat, Int.reduceEq, Int.reduceLT, Int.reduceLE, Int.reduceNe] at hr; subst hr; refine callGV (fe) rfl rfl (by first | exact .inl rfl | exact .inr rfl) ?_ (.inl rfl) (fun q hq => hold ?_)))) <;> (try omega)
 all_goals
  refine ⟨?_⟩
  obtain ⟨r1, L, W⟩ := q
  obtain ⟨hL, rfl, rfl⟩ := hq
  simp only at hL
  (repeat' (first | exact trivial | (with_reducible first | apply awA | apply awF) | ((with_reducible first | apply awn | apply awo | refine awQ ?_); intro r hr; simp only [go_sem, Nat.reduceBEq, Nat.reduceBneDiff, Nat.reduceLT, Nat.reduceLeDiff, Nat.reduceAdd, Nat.reduceMul, Nat.reduceSub, Nat.reduceEqDiff, reduceCtorEq, e1, e2, Int.cast_ofNat_Int, Int.reduceToNat, Int.reduceEq, Int.reduceLT, Int.reduceLE, Int.reduceNe] at hr; subst hr; (first | refine awV ?_ ?_ | refine awW ?_ ?_ | (refine condK (fun h => ?_) (fun h => ?_) <;> (try simp only [go_sem, reduceCtorEq] at h) <;> (try (exfalso; omega))))) | (refine go_callGE [] [] [] [] ?_; intro r hr; simp only [go_sem, Nat.reduceBEq, Nat.reduceBneDiff, Nat.reduceLT, Nat.reduceLeDiff, Nat.reduceAdd, Nat.reduceMul, Nat.reduceSub, Nat.reduceEqDiff, reduceCtorEq, e1, e2, Int.cast_ofNat_Int, Int.reduceToNat, Int.reduceEq, Int.reduceLT, Int.reduceLE, Int.reduceNe] at hr; subst hr; refine callGV (sec) rfl rfl (by first | exact .inl rfl | exact .inr rfl) ?_ (.inl rfl) (fun q hq => hold ?_)))) <;> (try omega)
  refine ⟨?_⟩
  have hqq := hq.uniq hsp
  subst hqq
  (repeat' (first | exact trivial | (with_reducible first | apply awA | apply awC | apply awD | apply awF) | ((with_reducible first | apply awn | apply awo | refine awQ ?_ | refine aweR ?_); intro r hr; simp only [go_sem, Nat.reduceBEq, Nat.reduceBneDiff, Nat.reduceLT, Nat.reduceLeDiff, Nat.reduceAdd, Nat.reduceMul, Nat.reduceSub, Nat.reduceEqDiff, reduceCtorEq, e1, e2, hL, Int.cast_ofNat_Int, Int.reduceToNat, Int.reduceEq, Int.reduceLT, Int.reduceLE, Int.reduceNe] at hr; subst hr; (first | refine awV ?_ ?_ | refine endEK ?_ ?_ | (refine condK (fun h => ?_) (fun h => ?_) <;> (try simp only [go_sem, reduceCtorEq] at h) <;> (try (exfalso; omega))))))) <;> (try omega)
  all_goals refine ⟨W, trivial, AV.up_rfl _, ?_⟩
  all_goals repeat first | exact obUp_nil | refine obUp_cons rfl ?_
theorem verify_any (e : Bool) (C : List InsM) (N : List Int) (hC : C.length ≤ 140737488355328) (hN : N.length ≤ 140737488355328) : PCall Try.prog 10 [pG e C N] (fun r => r = vFa (verF e C N)) := by
 have key : GCall Try.prog 10 [pG e C N] [] (vFa (verF e C N)) [] := by
  by_cases hv : (verF e C N).1 = 0
  ·obtain ⟨_, ⟨r, hf⟩, _, h4⟩ := ver_ok hv
   have hlk := looked_ok e C N hv hf
   rw [h4]
   unfold pG lkR at *
   refine go_fnG (tyOf_ok _) Try.func10 rfl rfl (by rw [Try.results10]) Try.ntmps10 rfl fun E => ?_
   (repeat' (first | exact trivial | (with_reducible first | apply awA | apply awD | apply awF) | ((with_reducible first | apply awn | apply awo | refine awT ?_); intro r hr; simp only [go_sem, Nat.reduceBEq, Nat.reduceBneDiff, Nat.reduceLT, Nat.reduceLeDiff, Nat.reduceAdd, Nat.reduceMul, Nat.reduceSub, Nat.reduceEqDiff, reduceCtorEq] at hr; subst hr; (first | refine awV ?_ ?_ | refine awW ?_ ?_ | refine endGK ?_ ?_ ?_)) | (refine go_callGE [] [] [] [] ?_; intro r hr; simp only [go_sem, Nat.reduceBEq, Nat.reduceBneDiff, Nat.reduceLT, Nat.reduceLeDiff, Nat.reduceAdd, Nat.reduceMul, Nat.reduceSub, Nat.reduceEqDiff, reduceCtorEq] at hr; subst hr; refine callGV (hlk) rfl rfl (by first | exact .inl rfl | exact .inr rfl) ?_ (.inl rfl) (fun q hq => ?_)))) <;> (try omega)
   all_goals first | exact AV.up_rfl _ | exact obUp_nil
  ·have hlk := looked_bad e C N hC hN hv
   generalize verF e C N = f at hlk ⊢
   unfold pG at *
   refine go_fnG (tyOf_ok _) Try.func10 rfl rfl (by rw [Try.results10]) Try.ntmps10 rfl fun E => ?_
   (repeat' (first | exact trivial | (with_reducible first | apply awA | apply awD | apply awF) | ((with_reducible first | apply awn | apply awo | refine awT ?_); intro r hr; simp only [go_sem, Nat.reduceBEq, Nat.reduceBneDiff, Nat.reduceLT, Nat.reduceLeDiff, Nat.reduceAdd, Nat.reduceMul, Nat.reduceSub, Nat.reduceEqDiff, reduceCtorEq] at hr; subst hr; (first | refine awV ?_ ?_ | refine awW ?_ ?_ | refine endGK ?_ ?_ ?_)) | (refine go_callGE [] [] [] [] ?_; intro r hr; simp only [go_sem, Nat.reduceBEq, Nat.reduceBneDiff, Nat.reduceLT, Nat.reduceLeDiff, Nat.reduceAdd, Nat.reduceMul, Nat.reduceSub, Nat.reduceEqDiff, reduceCtorEq] at hr; subst hr; refine callGK (hlk) rfl rfl (by first | exact .inl rfl | exact .inr rfl) ?_ (.inl rfl) ?_))) <;> (try omega)
   all_goals first | exact AV.up_rfl _ | exact obUp_nil
 exact key.toP ⟨trivial, trivial, trivial⟩
end Go.Proofs.Ytjeplogcfedmeaa
end
section
namespace Go.Proofs.Ytjeplogcfedmeaa
open Go.RowKit
set_option maxRecDepth 100000
set_option maxHeartbeats 8000000
def outV : Option StM → Int
 | some s => shapeF s
 | none => -1
theorem outF_eq (L : LkM) : outF L = L.map outV := by
 unfold outF
 exact List.map_congr_left fun s _ => by cases s <;> rfl
theorem outF_len (L : LkM) : (outF L).length = L.length := by simp [outF]
theorem outF_take {L : LkM} {i : Nat} (h : i < L.length) : (outF L).take (i + 1) = (outF L).take i ++ [outV (L.getD i none)] := by
 rw [List.take_succ_eq_append_getElem (by rw [outF_len]; exact h)]
 simp [outF_eq, List.getD, h]
theorem shape_G (e : Bool) (C : List InsM) (N : List Int) (hC : C.length ≤ 140737488355328) (hN : N.length ≤ 140737488355328) :
  GCall Try.prog 14 [pG e C N] [] (.tup [.ref 3 1 21 0 (shF e C N).length, vFa (verF e C N)]) [(21, .row 3 1 (v8 (shF e C N)))] := by
 unfold shF
 by_cases hv : (verF e C N).1 = 0
 ·obtain ⟨hc0, ⟨r, hf⟩, _, h4⟩ := ver_ok hv
  have hlk := looked_ok e C N hv hf
  have hok := codeOK_of hc0
  have hl := hok.len
  rw [if_neg (by simpa using hv), h4, hf]
  dsimp only
  have hL : r.1.length = C.length := by
   obtain ⟨_, hr, hN'⟩ := chkF_ok hc0
   obtain ⟨⟨_, g, _⟩, _⟩ := firstL_ok (fun k hk j hj => (ways_in hr hk j hj).1) hN' (FirstI.init e C) (fun k hk => by rw [init_none] at hk; cases hk) hf
   exact g.len
  generalize r.1 = L at hlk hL ⊢
  have hn0 : (0 : Int) ≤ C.length := by omega
  have zc : ((C.length : Int)).toNat = C.length := by omega
  unfold pG lkR at *
  refine go_fnG (tyOf_ok _) Try.func14 rfl rfl (by rw [Try.results14]) Try.ntmps14 rfl fun E => ?_
  (repeat' (first | exact trivial | (with_reducible first | apply awA | apply awF) | ((with_reducible apply awn); intro r hr; simp only [go_sem, Nat.reduceBEq, Nat.reduceBneDiff, Nat.reduceLT, Nat.reduceLeDiff, Nat.reduceAdd, Nat.reduceMul, Nat.reduceSub, Nat.reduceEqDiff, reduceCtorEq, encIs_len, encSts_len, encHas_len, zc, Int.cast_ofNat_Int, Int.reduceToNat, Int.reduceEq, Int.reduceLT, Int.reduceLE, Int.reduceNe] at hr; subst hr; (first | refine awV ?_ ?_ | refine awW ?_ ?_)) | (refine go_callGE [] [(23, 15010), (17, 15011), (21, 15012), (15002, 15013)] [15010, 15011, 15012, 15013] [] ?_; intro r hr; simp only [go_sem, Nat.reduceBEq, Nat.reduceBneDiff, Nat.reduceLT, Nat.reduceLeDiff, Nat.reduceAdd, Nat.reduceMul, Nat.reduceSub, Nat.reduceEqDiff, reduceCtorEq, encIs_len, encSts_len, encHas_len, zc, Int.cast_ofNat_Int, Int.reduceToNat, Int.reduceEq, Int.reduceLT, Int.reduceLE, Int.reduceNe] at hr; subst hr; refine callGV (hlk) rfl rfl (by first | exact .inl rfl | exact .inr rfl) ?_ (.inl rfl) (fun q hq => hold ?_)))) <;> (try omega)
  refine ⟨?_⟩
  have hr0 : (outF L).length = C.length := by rw [outF_len]; exact hL
  rw [hr0]
  (repeat' (first | exact trivial | (with_reducible first | apply awA | apply awB | apply awC | apply awF) | ((with_reducible first | apply awn | apply awo | refine awQ ?_); intro r hr; simp only [go_sem, Nat.reduceBEq, Nat.reduceBneDiff, Nat.reduceLT, Nat.reduceLeDiff, Nat.reduceAdd, Nat.reduceMul, Nat.reduceSub, Nat.reduceEqDiff, reduceCtorEq, encIs_len, encSts_len, encHas_len, zc, Int.toNat_zero, Int.cast_ofNat_Int, Int.reduceToNat, Int.reduceEq, Int.reduceLT, Int.reduceLE, Int.reduceNe] at hr; subst hr; (first | refine awV ?_ ?_ | (refine condK (fun h => ?_) (fun h => ?_) <;> (try simp only [go_sem, reduceCtorEq] at h) <;> (try (exfalso; omega))))))) <;> (try omega)
  refine go_loop [1, 3, 4, 5, 6, 25, 26, 27] [1, 3, 5, 15010, 15011, 15012, 21] (fun i : Nat => ⟨[(1, true, .ptr 1 1 0 0), (3, true, .ptr 1 3 0 0), (4, true, .ptr 1 15010 0 0), (5, true, .ptr 1 5 0 0), (6, true, .ref 3 1 21 0 i), (25, true, .ref 62 6 15011 0 C.length), (26, true, vI C.length), (27, true, vI i)],
   [(1, .var [vB e, .lst 4 (encIs C), .lst 1 (v8 N)]), (3, .var [vI 0, vI 0]), (5, .var [vI 0, vI 0]), (15010, .var [vB e, .lst 4 (encIs C), .lst 1 (v8 N), .ref 62 6 15011 0 C.length, .ref 4 1 15012 0 C.length, .ref 3 1 15013 0 q.length]), (15011, .row 62 6 (encSts L)), (15012, .row 4 1 (encHas L)), (21, .row 3 1 (v8 ((outF L).take i)))]⟩)
   (fun i => i ≤ C.length) (fun i => C.length - i) 0 (by simp only [encSts_len, hL, List.take_zero, go_sem, Nat.reduceBEq, Nat.reduceBneDiff, Nat.reduceLT, Nat.reduceLeDiff, Nat.reduceAdd, Nat.reduceMul, Nat.reduceSub, Nat.reduceEqDiff, reduceCtorEq] <;> exact rfl) (Nat.zero_le _) ?_
  intro i hi
  have hwi := wrap_i64 (n := (i : Int) + 1) (by omega)
  have zi : ((i : Int)).toNat = i := by omega
  by_cases hlt : i < C.length
  ·have e1 : ((i : Int) < (C.length : Int)) = True := eq_true (by omega)
   have gs := encSts_get (L := L) (k := i) (by omega)
   have gh := encHas_get (L := L) (k := i) (by omega)
   have htl : ((outF L).take i).length = i := by rw [List.length_take, hr0]; omega
   have ht : (v8 ((outF L).take i)).take i = v8 ((outF L).take i) := by rw [v8_take, List.take_of_length_le (by omega)]
   have hov := outF_take (L := L) (i := i) (by omega)
   have ha := fun z => v8_app ((outF L).take i) z
   cases hs : L.getD i none with
   | some s =>
    rw [hs] at gh hov
    have hst : stAt L i = s := by unfold stAt; rw [hs]; rfl
    rw [hst] at gs
    have sh := shape_any s
    simp only [Option.isSome_some] at gh
    have hov' : v8 ((outF L).take (i + 1)) = v8 ((outF L).take i) ++ [[vI (shapeF s)]] := by rw [hov]; exact (ha _).symm
    (repeat' (first | exact trivial | (with_reducible first | apply awA | apply awB | apply awC | apply awF | apply awI) | ((with_reducible first | apply awn | apply awo | refine awQ ?_); intro r hr; simp only [go_sem, Nat.reduceBEq, Nat.reduceBneDiff, Nat.reduceLT, Nat.reduceLeDiff, Nat.reduceAdd, Nat.reduceMul, Nat.reduceSub, Nat.reduceEqDiff, reduceCtorEq, e1, zi, hwi, gs, gh, encSts_len, encHas_len, hL, v8_len, htl, ht, List.length_append, Nat.zero_add] at hr; subst hr; (first | refine caA (fun _ => sh) rfl ?_ ?_ ?_ | refine awV ?_ ?_ | (refine condK (fun h => ?_) (fun h => ?_) <;> (try simp only [go_sem, reduceCtorEq] at h) <;> (try (exfalso; omega))))))) <;> (try omega)
    refine ⟨i + 1, ?_, hlt, by omega⟩
    simp only [hwi, hov', v8_len, htl, ht, List.length_append, go_sem, Nat.reduceBEq, Nat.reduceBneDiff, Nat.reduceLT, Nat.reduceLeDiff, Nat.reduceAdd, Nat.reduceMul, Nat.reduceSub, Nat.reduceEqDiff, reduceCtorEq]
    try exact rfl
   | none =>
    rw [hs] at gh hov
    simp only [Option.isSome_none] at gh
    have hov' : v8 ((outF L).take (i + 1)) = v8 ((outF L).take i) ++ [[vI (-1)]] := by rw [hov]; exact (ha _).symm
    (repeat' (first | exact trivial | (with_reducible first | apply awA | apply awB | apply awC | apply awF | apply awI) | ((with_reducible first | apply awn | refine awQ ?_); intro r hr; simp only [go_sem, Nat.reduceBEq, Nat.reduceBneDiff, Nat.reduceLT, Nat.reduceLeDiff, Nat.reduceAdd, Nat.reduceMul, Nat.reduceSub, Nat.reduceEqDiff, reduceCtorEq, e1, zi, hwi, gs, gh, encSts_len, encHas_len, hL, v8_len, htl, ht, List.length_append, Nat.zero_add] at hr; subst hr; (first | refine awV ?_ ?_ | (refine condK (fun h => ?_) (fun h => ?_) <;> (try simp only [go_sem, reduceCtorEq] at h) <;> (try (exfalso; omega))))))) <;> (try omega)
    refine ⟨i + 1, ?_, hlt, by omega⟩
    simp only [hwi, hov', v8_len, htl, ht, List.length_append, go_sem, Nat.reduceBEq, Nat.reduceBneDiff, Nat.reduceLT, Nat.reduceLeDiff, Nat.reduceAdd, Nat.reduceMul, Nat.reduceSub, Nat.reduceEqDiff, reduceCtorEq]
    try exact rfl
  ·have e1 : ((i : Int) < (C.length : Int)) = False := eq_false (by omega)
   have hie : i = C.length := by omega
   subst hie
   have ht : (outF L).take C.length = outF L := List.take_of_length_le (by omega)
   rw [ht]
   (repeat' (first | exact trivial | (with_reducible first | apply awA | apply awD | apply awE | apply awF | apply awH | apply awK) | (refine aw_draw (id := 12) (t := (.node [0, 1, 2, 3] [])) (drR [5] [] []) mixed (by kernel_rfl) (by kernel_rfl) (fun _ _ h => h) ?_) | (refine at_done (by simp only [go_sem]; exact rfl) ?_) | (refine at_alt (by simp only [go_sem]; exact rfl) ?_) | refine qalt_normal ?_ | refine ats_cons ?_ ?_ | exact ats_nil | ((with_reducible first | apply awn | apply awp | refine awQ ?_ | refine awT ?_); intro r hr; simp only [go_sem, Nat.reduceBEq, Nat.reduceBneDiff, Nat.reduceLT, Nat.reduceLeDiff, Nat.reduceAdd, Nat.reduceMul, Nat.reduceSub, Nat.reduceEqDiff, reduceCtorEq, e1] at hr; subst hr; (first | refine awV ?_ ?_ | refine endGK ?_ ?_ ?_ | (refine condK (fun h => ?_) (fun h => ?_) <;> (try simp only [go_sem, reduceCtorEq] at h) <;> (try (exfalso; omega))))))) <;> (try omega)
   all_goals first | exact AV.up_rfl _ | exact AV.up_dead _ | (repeat first | exact obUp_nil | refine obUp_cons rfl ?_)
 ·have hlk := looked_bad e C N hC hN hv
  rw [if_pos (by simpa using hv)]
  generalize verF e C N = f at hlk hv ⊢
  obtain ⟨f1, f2⟩ := f
  have e1 : (f1 = 0) = False := eq_false hv
  unfold pG at *
  refine go_fnG (tyOf_ok _) Try.func14 rfl rfl (by rw [Try.results14]) Try.ntmps14 rfl fun E => ?_
  (repeat' (first | exact trivial | (with_reducible first | apply awA | apply awD | apply awF | apply awG) | (refine aw_draw (id := 3) (t := (.node [0, 1, 2] [])) (drR [5] [] []) mixed (by kernel_rfl) (by kernel_rfl) (fun _ _ h => h) ?_) | (refine at_done (by simp only [go_sem]; exact rfl) ?_) | (refine at_alt (by simp only [go_sem]; exact rfl) ?_) | refine qalt_normal ?_ | refine ats_cons ?_ ?_ | exact ats_nil | ((with_reducible first | apply awn | apply awo | apply awp | refine awQ ?_ | refine awT ?_); intro r hr; simp only [go_sem, Nat.reduceBEq, Nat.reduceBneDiff, Nat.reduceLT, Nat.reduceLeDiff, Nat.reduceAdd, Nat.reduceMul, Nat.reduceSub, Nat.reduceEqDiff, reduceCtorEq, e1, Int.cast_ofNat_Int, Int.reduceToNat, Int.reduceEq, Int.reduceLT, Int.reduceLE, Int.reduceNe] at hr; subst hr; (first | refine awV ?_ ?_ | refine awW ?_ ?_ | refine endGK ?_ ?_ ?_ | (refine condK (fun h => ?_) (fun h => ?_) <;> (try simp only [go_sem, reduceCtorEq] at h) <;> (try (exfalso; omega))))) | (refine go_callGE [] [] [] [] ?_; intro r hr; simp only [go_sem, Nat.reduceBEq, Nat.reduceBneDiff, Nat.reduceLT, Nat.reduceLeDiff, Nat.reduceAdd, Nat.reduceMul, Nat.reduceSub, Nat.reduceEqDiff, reduceCtorEq, e1, Int.cast_ofNat_Int, Int.reduceToNat, Int.reduceEq, Int.reduceLT, Int.reduceLE, Int.reduceNe] at hr; subst hr; refine callGK (hlk) rfl rfl (by first | exact .inl rfl | exact .inr rfl) ?_ (.inl rfl) ?_))) <;> (try omega)
  all_goals first | exact AV.up_tup ⟨AV.up_nilref _ _ _ _, AV.up_rfl _, trivial⟩ | exact obUp_row0 obUp_nil | skip
end Go.Proofs.Ytjeplogcfedmeaa
end
section
namespace Go.Proofs.Ytjeplogcfedmeaa
open Go.RowKit
set_option maxRecDepth 100000
set_option maxHeartbeats 8000000
theorem ints_any (xs ys : List Int) (hx : xs.length ≤ 4611686018427387904) : PCall Try.prog 16 [.lst 1 (v8 xs), .lst 1 (v8 ys)] (fun r => r = vB (decide (xs = ys))) := by
 by_cases hl : xs.length = ys.length
 ·have e0 : ((xs.length : Int) = (ys.length : Int)) = True := eq_true (by omega)
  refine go_fn (tyOf_ok _) Try.func16 rfl rfl (by rw [Try.results16]) Try.ntmps16 rfl fun E => ?_
  (repeat' (first | exact trivial | (with_reducible first | apply awA | apply awB | apply awC | apply awF) | ((with_reducible first | apply awn | refine awQ ?_); intro r hr; simp only [go_sem, Nat.reduceBEq, Nat.reduceBneDiff, Nat.reduceLT, Nat.reduceLeDiff, Nat.reduceAdd, Nat.reduceMul, Nat.reduceSub, Nat.reduceEqDiff, reduceCtorEq, v8_len, e0, Int.cast_ofNat_Int, Int.reduceToNat, Int.reduceEq, Int.reduceLT, Int.reduceLE, Int.reduceNe] at hr; subst hr; (first | refine awV ?_ ?_ | (refine condK (fun h => ?_) (fun h => ?_) <;> (try simp only [go_sem, reduceCtorEq] at h) <;> (try (exfalso; omega))))))) <;> (try omega)
  refine go_loop [0, 1, 5] [] (fun i : Nat => ⟨[(0, true, .lst 1 (v8 xs)), (1, true, .lst 1 (v8 ys)), (5, true, vI i)], []⟩)
   (fun i => i ≤ xs.length ∧ xs.take i = ys.take i) (fun i => xs.length - i) 0 (by simp only [go_sem, Nat.reduceBEq, Nat.reduceBneDiff, Nat.reduceLT, Nat.reduceLeDiff, Nat.reduceAdd, Nat.reduceMul, Nat.reduceSub, Nat.reduceEqDiff, reduceCtorEq] <;> exact rfl) ⟨Nat.zero_le _, rfl⟩ ?_
  intro i ⟨hi, hinv⟩
  have hwi := wrap_i64 (n := (i : Int) + 1) (by omega)
  have zi : ((i : Int)).toNat = i := by omega
  by_cases hlt : i < xs.length
  ·have e1 : ((i : Int) < (xs.length : Int)) = True := eq_true (by omega)
   have g1 := v8_get hlt
   have g2 := v8_get (show i < ys.length by omega)
   by_cases hq : xs[i] = ys[i]
   ·have e2 : (xs[i] = ys[i]) = True := eq_true hq
    (repeat' (first | exact trivial | (with_reducible first | apply awA | apply awB | apply awC | apply awF | apply awI) | (refine aw_draw (id := 6) (t := (.node [0, 1, 2, 3, 4, 5, 6, 7, 8] [])) (drR [] [20, 24] []) mixed (by kernel_rfl) (by kernel_rfl) (fun _ _ h => h) ?_) | (refine at_done (by simp only [go_sem]; exact rfl) ?_) | (refine at_alt (by simp only [go_sem]; exact rfl) ?_) | refine qalt_normal ?_ | refine ats_cons ?_ ?_ | exact ats_nil | ((with_reducible first | apply awn | apply awp | refine awQ ?_); intro r hr; simp only [go_sem, Nat.reduceBEq, Nat.reduceBneDiff, Nat.reduceLT, Nat.reduceLeDiff, Nat.reduceAdd, Nat.reduceMul, Nat.reduceSub, Nat.reduceEqDiff, reduceCtorEq, e1, zi, hwi, g1, g2, v8_len, e2, Int.cast_ofNat_Int, Int.reduceToNat, Int.reduceEq, Int.reduceLT, Int.reduceLE, Int.reduceNe] at hr; subst hr; (first | refine awV ?_ ?_ | (refine condK (fun h => ?_) (fun h => ?_) <;> (try simp only [go_sem, reduceCtorEq] at h) <;> (try (exfalso; omega))))))) <;> (try omega)
    all_goals refine ⟨i + 1, ?_, ⟨hlt, by rw [List.take_succ_eq_append_getElem hlt, List.take_succ_eq_append_getElem (show i < ys.length by omega), hinv, hq]⟩, by omega⟩
    all_goals simp only [hwi, go_sem, Nat.reduceBEq, Nat.reduceBneDiff, Nat.reduceLT, Nat.reduceLeDiff, Nat.reduceAdd, Nat.reduceMul, Nat.reduceSub, Nat.reduceEqDiff, reduceCtorEq]
    all_goals try exact rfl
   ·have e2 : (xs[i] = ys[i]) = False := eq_false hq
    have hne : xs ≠ ys := fun h => hq (by subst h; rfl)
    rw [decide_eq_false hne]
    (repeat' (first | exact trivial | (with_reducible first | apply awA | apply awB | apply awC | apply awD | apply awF | apply awG | apply awJ) | (refine aw_draw (id := 6) (t := (.node [0, 1, 2, 3, 4, 5, 6, 7, 8] [])) (drR [] [20, 24] []) mixed (by kernel_rfl) (by kernel_rfl) (fun _ _ h => h) ?_) | (refine at_done (by simp only [go_sem]; exact rfl) ?_) | (refine at_alt (by simp only [go_sem]; exact rfl) ?_) | refine qalt_normal ?_ | refine ats_cons ?_ ?_ | exact ats_nil | ((with_reducible first | apply awn | apply awp | refine awQ ?_ | refine awR ?_); intro r hr; simp only [go_sem, Nat.reduceBEq, Nat.reduceBneDiff, Nat.reduceLT, Nat.reduceLeDiff, Nat.reduceAdd, Nat.reduceMul, Nat.reduceSub, Nat.reduceEqDiff, reduceCtorEq, e1, zi, hwi, g1, g2, v8_len, e2, Int.cast_ofNat_Int, Int.reduceToNat, Int.reduceEq, Int.reduceLT, Int.reduceLE, Int.reduceNe] at hr; subst hr; (first | refine awV ?_ ?_ | refine endK ?_ ?_ | (refine condK (fun h => ?_) (fun h => ?_) <;> (try simp only [go_sem, reduceCtorEq] at h) <;> (try (exfalso; omega))))))) <;> (try omega)
    all_goals rfl
  ·have e1 : ((i : Int) < (xs.length : Int)) = False := eq_false (by omega)
   have heq : xs = ys := by
    rw [List.take_of_length_le (by omega), List.take_of_length_le (by omega)] at hinv
    exact hinv
   rw [decide_eq_true heq]
   (repeat' (first | exact trivial | (with_reducible first | apply awA | apply awD | apply awE | apply awF | apply awH | apply awK) | ((with_reducible first | apply awn | refine awQ ?_ | refine awR ?_); intro r hr; simp only [go_sem, Nat.reduceBEq, Nat.reduceBneDiff, Nat.reduceLT, Nat.reduceLeDiff, Nat.reduceAdd, Nat.reduceMul, Nat.reduceSub, Nat.reduceEqDiff, reduceCtorEq, e1, v8_len] at hr; subst hr; (first | refine awV ?_ ?_ | refine endK ?_ ?_ | (refine condK (fun h => ?_) (fun h => ?_) <;> (try simp only [go_sem, reduceCtorEq] at h) <;> (try (exfalso; omega))))))) <;> (try omega)
   all_goals rfl
 ·have e0 : ((xs.length : Int) = (ys.length : Int)) = False := eq_false (by omega)
  have hne : xs ≠ ys := fun h => hl (by rw [h])
  rw [decide_eq_false hne]
  refine go_fn (tyOf_ok _) Try.func16 rfl rfl (by rw [Try.results16]) Try.ntmps16 rfl fun E => ?_
  (repeat' (first | exact trivial | (with_reducible first | apply awA | apply awD | apply awF | apply awG) | ((with_reducible first | apply awn | refine awQ ?_ | refine awR ?_); intro r hr; simp only [go_sem, Nat.reduceBEq, Nat.reduceBneDiff, Nat.reduceLT, Nat.reduceLeDiff, Nat.reduceAdd, Nat.reduceMul, Nat.reduceSub, Nat.reduceEqDiff, reduceCtorEq, v8_len, e0, Int.cast_ofNat_Int, Int.reduceToNat, Int.reduceEq, Int.reduceLT, Int.reduceLE, Int.reduceNe] at hr; subst hr; (first | refine awV ?_ ?_ | refine endK ?_ ?_ | (refine condK (fun h => ?_) (fun h => ?_) <;> (try simp only [go_sem, reduceCtorEq] at h) <;> (try (exfalso; omega))))))) <;> (try omega)
  all_goals rfl
def cP : List InsM := [⟨6, 0, 0, 0⟩, ⟨1, 1, 1, 0⟩, ⟨1, 0, 1, 0⟩, ⟨20, 0, 0, 0⟩]
def cQ : List InsM := [⟨1, -1, 2, 0⟩, ⟨1, -1, 2, 0⟩, ⟨20, 0, 0, 0⟩]
def cE : List InsM := [⟨38, 3, 0, 0⟩, ⟨33, -1, 1, 0⟩, ⟨47, 0, 1, 0⟩, ⟨20, 0, 0, 0⟩]
def errF (e : Bool) (C : List InsM) (N : List Int) : Option Int := match firstF e C N with | .error j => some j | .ok _ => none
def okF (e : Bool) (C : List InsM) (N : List Int) : List Int := match firstF e C N with | .error _ => [] | .ok r => outF r.1
theorem chk_P : chkF false cP [0] = (0, 0) := by decide +kernel
theorem chk_Q : chkF false cQ [0] = (0, 0) := by decide +kernel
theorem chk_E : chkF true cE [0] = (0, 0) := by decide +kernel
theorem err_Q : errF false cQ [0] = some 1 := by decide +kernel
theorem err_P : errF false cP [0] = none := by decide +kernel
theorem err_E : errF true cE [0] = some 1 := by decide +kernel
theorem ok_P : okF false cP [0] = [0, 2, 3, 4] := by decide +kernel
theorem firstF_err {e : Bool} {C : List InsM} {N : List Int} {j : Int} (h : errF e C N = some j) : firstF e C N = .error j := by
 unfold errF at h
 split at h
 ·injection h with h; rw [← h]; assumption
 ·cases h
theorem verF_err {e : Bool} {C : List InsM} {N : List Int} {j : Int} (hc : chkF e C N = (0, 0)) (h : errF e C N = some j) : verF e C N = (150, j) := by
 unfold verF
 rw [hc, firstF_err h, if_neg (by decide)]
theorem sec_none {C : List InsM} (hw : ∀ a b g, wayR C g a b → a < b) (hc : ∀ k, (insAt C k).op ≠ 16) : secF false C [0] = -1 := by
 have hR : ∀ g a b, Rch (wayR C g) a b → a < b := fun g a b h => by
  induction h with
  | one h => exact hw _ _ _ h
  | more _ h ih => exact Nat.lt_trans ih (hw _ _ _ h)
 have hno : ∀ B en, ¬ ∃ k, BadP false C B en k := fun B en ⟨k, _, h⟩ => by
  rcases h with h | ⟨_, _, ⟨h, _⟩, _⟩
  ·have := hR _ _ _ h; omega
  ·exact hc _ h
 exact SecI.uniq (secF_spec false C [0]) (.inr ⟨hno _ _, rfl⟩)
theorem way_P (a b : Nat) (g : Nat → Int → Bool) (h : wayR cP g a b) : a < b := by
 obtain ⟨w, h, _⟩ := h
 have h2 : (b : Int) ∈ waysF cP a (insAt cP a) := List.mem_of_getElem? h
 by_cases h4 : a < 4
 ·obtain rfl | rfl | rfl | rfl : a = 0 ∨ a = 1 ∨ a = 2 ∨ a = 3 := by omega
  ·have : (b : Int) ∈ [(1 : Int)] := h2
   simp at this; omega
  ·have : (b : Int) ∈ [(2 : Int)] := h2
   simp at this; omega
  ·have : (b : Int) ∈ [(3 : Int)] := h2
   simp at this; omega
  ·have : (b : Int) ∈ ([] : List Int) := h2
   simp at this
 ·have hz : insAt cP a = ⟨0, 0, 0, 0⟩ := by
   unfold insAt
   rw [List.getD_eq_getElem?_getD, List.getElem?_eq_none (by show 4 ≤ a; omega)]
   rfl
  rw [hz] at h2
  have : (b : Int) ∈ [(a : Int) + 1] := h2
  simp at this; omega
theorem op_P (k : Nat) : (insAt cP k).op ≠ 16 := by
 by_cases h4 : k < 4
 ·obtain rfl | rfl | rfl | rfl : k = 0 ∨ k = 1 ∨ k = 2 ∨ k = 3 := by omega
  all_goals decide
 ·have hz : insAt cP k = ⟨0, 0, 0, 0⟩ := by
   unfold insAt
   rw [List.getD_eq_getElem?_getD, List.getElem?_eq_none (by show 4 ≤ k; omega)]
   rfl
  rw [hz]
  decide
theorem ver_P : verF false cP [0] = (0, 0) := by
 have h := err_P
 obtain ⟨r, hr⟩ : ∃ r, firstF false cP [0] = .ok r := by
  unfold errF at h
  cases hf : firstF false cP [0] with
  | ok r => exact ⟨r, rfl⟩
  | error j => rw [hf] at h; cases h
 unfold verF
 rw [chk_P, if_neg (by decide), hr, sec_none (fun a b g h => way_P a b g h) op_P, if_neg (by decide)]
theorem sh_P : shF false cP [0] = [0, 2, 3, 4] := by
 have h := ok_P
 unfold okF at h
 unfold shF
 rw [ver_P, if_neg (by decide)]
 exact h
theorem first_any : PCall Try.prog 8 [] (fun r => r = vB true) := by
 have h1 := shape_G false cP [0] (by decide) (by decide)
 rw [sh_P, ver_P] at h1
 have h2 := verify_any false cP [0] (by decide) (by decide)
 rw [ver_P] at h2
 have h3 := verify_any false cQ [0] (by decide) (by decide)
 rw [verF_err chk_Q err_Q] at h3
 have h4 := verify_any true cE [0] (by decide) (by decide)
 rw [verF_err chk_E err_E] at h4
 have hi := ints_any [0, 2, 3, 4] [0, 2, 3, 4] (by decide)
 rw [decide_eq_true rfl] at hi
 refine go_fn (tyOf_ok _) Try.func8 rfl rfl (by rw [Try.results8]) Try.ntmps8 rfl fun E => ?_
 (repeat' (first | exact trivial | (with_reducible first | apply awA | apply awD | apply awF) | ((with_reducible first | apply awn | apply awo | refine awR ?_); intro r hr; simp only [go_sem, Nat.reduceBEq, Nat.reduceBneDiff, Nat.reduceLT, Nat.reduceLeDiff, Nat.reduceAdd, Nat.reduceMul, Nat.reduceSub, Nat.reduceEqDiff, reduceCtorEq, Int.cast_ofNat_Int, Int.reduceToNat, Int.reduceEq, Int.reduceLT, Int.reduceLE, Int.reduceNe] at hr; subst hr; (first | refine caA (fun _ => h2) rfl ?_ ?_ ?_ | refine caA (fun _ => h3) rfl ?_ ?_ ?_ | refine caA (fun _ => h4) rfl ?_ ?_ ?_ | refine caA (fun _ => hi) rfl ?_ ?_ ?_ | refine awV ?_ ?_ | refine awW ?_ ?_ | refine endK ?_ ?_)) | (refine go_callGE [] [(21, 2)] [2] [] ?_; intro r hr; simp only [go_sem, Nat.reduceBEq, Nat.reduceBneDiff, Nat.reduceLT, Nat.reduceLeDiff, Nat.reduceAdd, Nat.reduceMul, Nat.reduceSub, Nat.reduceEqDiff, reduceCtorEq, Int.cast_ofNat_Int, Int.reduceToNat, Int.reduceEq, Int.reduceLT, Int.reduceLE, Int.reduceNe] at hr; subst hr; refine callGK (h1) rfl rfl (by first | exact .inl rfl | exact .inr rfl) ?_ (.inl rfl) ?_))) <;> (try omega)
 ·decide
 ·rfl
end Go.Proofs.Ytjeplogcfedmeaa
end
section
namespace Go.Proofs.Ytjeplogcfedmeaa
open Go.RowKit
set_option maxRecDepth 100000
set_option maxHeartbeats 8000000
def StOK (s : StM) : Prop := s.place = 6 → 0 ≤ s.left ∧ s.left ≤ 64
theorem StOK.same {s r : StM} (h : StOK s) (h1 : r.place = s.place) (h2 : r.left = s.left) : StOK r := fun g => by rw [h2]; exact h (by rw [← h1]; exact g)
theorem StOK.far {r : StM} (h : r.place ≠ 6) : StOK r := fun g => absurd g h
theorem StOK.zero : StOK .zero := .far (by decide)
theorem StOK.still {s : StM} (h : StOK s) : StOK s.still := h.same rfl rfl
theorem StOK.fill {s : StM} (h : StOK s) (k : Int) : StOK (s.fill k).1 := by
 unfold StM.fill
 split
 ·exact .far (by show (4 : Int) ≠ 6; decide)
 ·split
  ·exact .far (by show (4 : Int) ≠ 6; decide)
  ·split
   ·exact h.still
   ·split
    ·split
     ·exact h
     ·exact h.same rfl rfl
    ·exact h
theorem StOK.take {s : StM} (h : StOK s) {n : Int} (hn : 0 ≤ n ∧ n ≤ 64) (hok : (s.take n).2 = true) : StOK (s.take n).1 := by
 unfold StM.take at hok ⊢
 split
 ·exact fun _ => ⟨Int.le_refl _, by show (0 : Int) ≤ 64; decide⟩
 ·rename_i h1
  rw [if_neg h1] at hok
  split
  ·rename_i h2
   rw [if_pos h2] at hok
   obtain ⟨h3, h4⟩ := h h2
   have hw : IntKind.i64.wrap (s.left - n) = s.left - n := wrap_i64 (by omega)
   rw [hw] at hok ⊢
   have := of_decide_eq_true hok
   exact fun _ => ⟨this, by show s.left - n ≤ 64; omega⟩
  ·exact h
theorem StOK.turn {s : StM} (h : StOK s) : StOK s.turn.1 := h.still
theorem StOK.runN : ∀ (n : Nat) (k : Int) {s : StM} (ok : Bool), StOK s → StOK (Go.Proofs.Ytjeplogcfedmeaa.runN n k s ok).1
 | 0, _, _, _, h => h
 | n + 1, k, s, ok, h => by
  unfold Go.Proofs.Ytjeplogcfedmeaa.runN
  split
  ·exact StOK.runN n (k + 1) _ (h.fill k)
  ·exact h
def EfOK (E : EfM) : Prop := StOK E.next ∧ StOK E.target
theorem EfOK.both {s : StM} (h : StOK s) : EfOK (both s) := ⟨h, h⟩
def InsOK (e : Bool) (x : InsM) : Prop := e = true → (x.op = 39 → 0 ≤ x.a ∧ x.a ≤ 64) ∧ (x.op = 34 → 0 ≤ x.b ∧ x.b ≤ 64)
theorem ef_ite {p : Prop} [Decidable p] {a b : EfM × Bool} (ha : p → EfOK a.1) (hb : ¬ p → EfOK b.1) : EfOK (if p then a else b).1 := by
 by_cases h : p
 ·rw [if_pos h]; exact ha h
 ·rw [if_neg h]; exact hb h
theorem ef_ite2 {p : Prop} [Decidable p] {a b : EfM × Bool} (ha : p → a.2 = true → EfOK a.1) (hb : ¬ p → b.2 = true → EfOK b.1) : (if p then a else b).2 = true → EfOK (if p then a else b).1 := by
 by_cases h : p
 ·rw [if_pos h]; exact ha h
 ·rw [if_neg h]; exact hb h
theorem offset_ok {s : StM} (h : StOK s) (f : Int) : EfOK (s.offset f).1 := by
 unfold StM.offset
 refine ef_ite (fun _ => .both (h.same rfl rfl)) (fun _ => .both (h.same rfl rfl))
theorem part_ok {s : StM} (h : StOK s) (x : InsM) : EfOK (s.part x).1 := by
 unfold StM.part
 refine ef_ite (fun _ => .both h.still) (fun _ => .both ((h.fill x.a).same rfl rfl))
theorem rounds_ok {s : StM} (h : StOK s) (x : InsM) : EfOK (s.rounds x).1 := by
 unfold StM.rounds
 dsimp only
 refine ef_ite (fun _ => ⟨h.same rfl rfl, h.still⟩) fun _ => ?_
 refine ef_ite (fun _ => ⟨h.still, h.same rfl rfl⟩) fun _ => ?_
 refine ef_ite (fun _ => ⟨h.same rfl rfl, h.still⟩) fun _ => ?_
 refine ef_ite (fun _ => ⟨h.still, h.same rfl rfl⟩) fun _ => ?_
 exact ef_ite (fun _ => ⟨h.still, h.same rfl rfl⟩) fun _ => .both h.still
theorem decS_ok {s : StM} {x : InsM} {t : Int} (h : StOK s) : EfOK (decS s x t).1 := by
 unfold decS
 dsimp only
 refine ef_ite (fun _ => ef_ite (fun _ => .both .zero) fun _ => .both (h.fill _)) fun _ => ?_
 refine ef_ite (fun _ => .both (h.fill _)) fun _ => ?_
 refine ef_ite (fun _ => .both (StOK.runN _ _ _ h)) fun _ => ?_
 refine ef_ite (fun _ => .both (.far (by show (1 : Int) ≠ 6; decide))) fun _ => ?_
 refine ef_ite (fun _ => .both (.far (by show (2 : Int) ≠ 6; decide))) fun _ => ?_
 refine ef_ite (fun _ => ⟨.far (by show (3 : Int) ≠ 6; decide), .far (by show (4 : Int) ≠ 6; decide)⟩) fun _ => ?_
 refine ef_ite (fun _ => .both (.far (by show (3 : Int) ≠ 6; decide))) fun _ => ?_
 refine ef_ite (fun _ => offset_ok h _) fun _ => ?_
 refine ef_ite (fun _ => ef_ite (fun _ => .both .zero) fun _ => part_ok h x) fun _ => ?_
 refine ef_ite (fun _ => rounds_ok h x) fun _ => ?_
 refine ef_ite (fun _ => .both h) fun _ => ?_
 exact ef_ite (fun _ => .both .zero) fun _ => .both .zero
theorem encS_ok {s : StM} {x : InsM} {t : Int} (h : StOK s) (hx : (x.op = 39 → 0 ≤ x.a ∧ x.a ≤ 64) ∧ (x.op = 34 → 0 ≤ x.b ∧ x.b ≤ 64)) : (encS s x t).2 = true → EfOK (encS s x t).1 := by
 have f1 : ∀ l, 0 ≤ l ∧ l ≤ 64 → StOK ⟨6, 0, 0, 0, 0, l⟩ := fun l hl _ => hl
 have f2 : ∀ f, StOK ⟨7, 0, 0, 0, f, 0⟩ := fun f => .far (by show (7 : Int) ≠ 6; decide)
 have ft : (s.take 1).2 = true → StOK (s.take 1).1 := fun g => h.take ⟨by decide, by decide⟩ g
 unfold encS
 dsimp only
 refine ef_ite2 (fun _ => ef_ite2 (fun _ _ => .both .zero) fun _ => ef_ite2 (fun _ _ => .both h.turn) fun _ g => .both (ft g)) fun _ => ?_
 refine ef_ite2 (fun _ => ef_ite2 (fun _ _ => .both h.turn) fun _ g => .both (ft g)) fun _ => ?_
 refine ef_ite2 (fun ho g => .both (h.take (hx.2 ho) (by rw [Bool.and_eq_true] at g; exact g.1))) fun _ => ?_
 refine ef_ite2 (fun _ _ => .both (f2 2)) fun _ => ?_
 refine ef_ite2 (fun _ _ => .both (f2 0)) fun _ => ?_
 refine ef_ite2 (fun ho _ => .both (f1 _ (hx.1 ho))) fun _ => ?_
 refine ef_ite2 (fun _ _ => ⟨f1 1 (by decide), f1 0 (by decide)⟩) fun _ => ?_
 refine ef_ite2 (fun _ _ => .both (f1 1 (by decide))) fun _ => ?_
 refine ef_ite2 (fun _ _ => .both h) fun _ => ?_
 refine ef_ite2 (fun _ _ => .both h) fun _ => ?_
 refine ef_ite2 (fun _ _ => ⟨f1 0 (by decide), f2 2⟩) fun _ => ?_
 refine ef_ite2 (fun _ _ => .both h) fun _ => ?_
 exact ef_ite2 (fun _ _ => .both .zero) fun _ _ => .both .zero
theorem standF_ok {e : Bool} {s : StM} {x : InsM} {t : Int} (h : StOK s) (hx : InsOK e x) (hok : (standF e x s t).2 = true) : EfOK (standF e x s t).1 := by
 unfold standF at hok ⊢
 cases e with
 | true => rw [if_pos rfl] at hok ⊢; exact encS_ok h (hx rfl) hok
 | false => rw [if_neg (by decide)]; exact decS_ok h
def LkOK (L : LkM) : Prop := ∀ k s, L.getD k none = some s → StOK s
theorem LkOK.set {L : LkM} (h : LkOK L) {s : StM} (hs : StOK s) (k : Nat) : LkOK (L.set k (some s)) := fun j r hj => by
 by_cases hjk : k = j
 ·subst hjk
  by_cases hl : k < L.length
  ·simp [List.getD, hl] at hj
   rw [← hj]; exact hs
  ·rw [List.set_eq_of_length_le (by omega)] at hj
   exact h k r hj
 ·refine h j r ?_
  simp only [List.getD, List.getElem?_set_ne hjk] at hj ⊢; exact hj
theorem LkOK.st {L : LkM} (h : LkOK L) (k : Nat) : StOK (stAt L k) := by
 unfold stAt
 cases hs : L.getD k none with
 | none => exact .zero
 | some s => exact h k s hs
theorem LkOK.hand {e : Bool} {C : List InsM} {L L' : LkM} {k : Nat} {s : StM} {t : Int} (h : LkOK L) (hs : StOK s) (hh : handF e C L k s t = .some L') : LkOK L' := by
 unfold handF at hh
 split at hh
 ·injection hh with hh; subst hh; exact h.set hs k
 ·split at hh
  ·injection hh with hh; subst hh; exact h
  ·split at hh
   ·injection hh with hh; subst hh; exact h
   ·cases hh
theorem LkOK.handS {e : Bool} {C : List InsM} {t : Int} {E : EfM} (hE : EfOK E) {arms : Bool} : ∀ {ks : List Int} {w : Nat} {L L' : LkM}, LkOK L → Go.Proofs.Ytjeplogcfedmeaa.handS e C t E arms ks w L = .ok L' → LkOK L'
 | [], _, L, L', h, hh => by
  unfold Go.Proofs.Ytjeplogcfedmeaa.handS at hh
  injection hh with hh; subst hh; exact h
 | k :: ks, w, L, L', h, hh => by
  unfold Go.Proofs.Ytjeplogcfedmeaa.handS at hh
  split at hh
  ·cases hh
  ·rename_i L1 h1
   refine LkOK.handS hE (h.hand ?_ h1) hh
   split
   ·exact hE.2
   ·exact hE.1
theorem LkOK.goes {e : Bool} {C : List InsM} (hI : ∀ k, InsOK e (insAt C k)) {t : Int} {L L' : LkM} {k : Nat} (h : LkOK L) (hg : goesF e C k L t = .ok L') : LkOK L' := by
 unfold goesF at hg
 dsimp only at hg
 split at hg
 ·cases hg
 ·rename_i hn
  simp only [not_or, Bool.not_eq_false, Bool.not_eq_true] at hn
  exact LkOK.handS (standF_ok (h.st k) (hI k) hn.1) h hg
theorem LkOK.loop {e : Bool} {C : List InsM} (hI : ∀ k, InsOK e (insAt C k)) {t : Int} : ∀ {f : Nat} {L L' : LkM} {D D' : List Nat}, LkOK L → loopF e C t f L D = .ok (L', D') → LkOK L'
 | 0, L, L', D, D', h, hl => by
  unfold loopF at hl
  injection hl with hl
  injection hl with h1 h2
  subst h1; exact h
 | f + 1, L, L', D, D', h, hl => by
  unfold loopF at hl
  split at hl
  ·injection hl with hl
   injection hl with h1 h2
   subst h1; exact h
  ·split at hl
   ·cases hl
   ·rename_i L1 hg
    exact LkOK.loop hI (h.goes hI hg) hl
theorem LkOK.first {e : Bool} {C : List InsM} (hI : ∀ k, InsOK e (insAt C k)) : ∀ {N : List Int} {t : Int} {L L' : LkM} {D D' : List Nat}, LkOK L → firstL e C N t L D = .ok (L', D') → LkOK L'
 | [], _, L, L', D, D', h, hf => by
  unfold firstL at hf
  injection hf with hf
  injection hf with h1 h2
  subst h1; exact h
 | n :: ns, t, L, L', D, D', h, hf => by
  unfold firstL at hf
  split at hf
  ·cases hf
  ·rename_i L1 h1
   split at hf
   ·cases hf
   ·rename_i L2 D2 h2
    refine LkOK.first hI (LkOK.loop hI (h.hand ?_ h1) h2) hf
    unfold beginS
    split
    ·exact .far (by show (5 : Int) ≠ 6; decide)
    ·exact .zero
theorem insOK_of {e : Bool} {C : List InsM} {N : List Int} (hr : ∀ k, k < C.length → rightF e C N k = true) (k : Nat) : InsOK e (insAt C k) := by
 intro he
 subst he
 by_cases hk : k < C.length
 ·obtain ⟨_, h1, h2, _⟩ := right_parts (hr k hk)
  refine ⟨fun ho => ?_, fun ho => ?_⟩
  ·rw [ho] at h1
   have : inF (insAt C k).a 1 64 = true := h1
   simp only [inF, Bool.and_eq_true, decide_eq_true_eq] at this
   omega
  ·rw [ho] at h2
   have : inF (insAt C k).b 2 64 = true := h2
   simp only [inF, Bool.and_eq_true, decide_eq_true_eq] at this
   omega
 ·have hz : insAt C k = ⟨0, 0, 0, 0⟩ := by
   unfold insAt
   rw [List.getD_eq_getElem?_getD, List.getElem?_eq_none (by omega)]
   rfl
  rw [hz]
  exact ⟨fun h => absurd h (by decide), fun h => absurd h (by decide)⟩
theorem shape_ne {s : StM} (h : StOK s) : shapeF s ≠ -1 := by
 unfold shapeF
 split
 ·decide
 split
 ·decide
 split
 ·omega
 split
 ·rename_i h6
  have := h h6
  rw [wrap_i64 (by omega)]
  omega
 split
 ·decide
 ·decide
theorem over_shape {s : StM} (ho : s.over = true) : shapeF s ≠ 0 := by
 unfold StM.over at ho
 unfold shapeF
 split
 ·decide
 split
 ·decide
 split
 ·omega
 rename_i h4 h1 h2
 by_cases h6 : s.place = 6
 ·rw [if_pos h6]
  rw [if_neg (by omega), if_neg h2, if_pos h6] at ho
  rw [of_decide_eq_true ho]
  decide
 ·rw [if_neg (by omega), if_neg h2, if_neg h6] at ho
  cases ho
theorem stand_ret {e : Bool} {x : InsM} {s : StM} {t : Int} (h : (standF e x s t).2 = true) (ho : x.op = 20) : shapeF s ≠ 0 := by
 unfold standF at h
 cases e with
 | true =>
  rw [if_pos rfl] at h
  unfold encS at h
  simp only [ho, Int.reduceEq, or_self, if_false, false_and, if_true, Bool.and_eq_true] at h
  exact over_shape h.2
 | false =>
  rw [if_neg (by decide)] at h
  unfold decS at h
  simp only [ho, Int.reduceEq, or_self, if_false, if_true] at h
  exact over_shape h
theorem stand_arm {e : Bool} {x : InsM} {s : StM} {t : Int} (h : (standF e x s t).2 = true) : x.op ≠ 9 := fun ho => by
 unfold standF at h
 cases e with
 | true =>
  rw [if_pos rfl] at h
  unfold encS at h
  simp only [ho, Int.reduceEq, or_self, if_false, false_and] at h
  cases h
 | false =>
  rw [if_neg (by decide)] at h
  unfold decS at h
  simp only [ho, Int.reduceEq, or_self, if_false] at h
  cases h
structure EndsP (C : List InsM) (N : List Int) (l : List Int) : Prop where
 len : l.length = C.length
 ent : ∀ n ∈ N, (0 ≤ n ∧ n < C.length) ∧ l.getD n.toNat 0 ≠ -1
 st : ∀ k, k < C.length → l.getD k 0 ≠ -1 → ((insAt C k).op = 20 → l.getD k 0 ≠ 0) ∧ (insAt C k).op ≠ 9 ∧ ∀ j ∈ waysF C k (insAt C k), 0 ≤ j ∧ j < C.length ∧ l.getD j.toNat 0 ≠ -1
theorem ends_of {e : Bool} {C : List InsM} {N : List Int} (hv : (verF e C N).1 = 0) : EndsP C N (shF e C N) := by
 obtain ⟨hc, ⟨⟨L, D⟩, hf⟩, _, h0⟩ := ver_ok hv
 have hsh : shF e C N = outF L := by
  unfold shF
  rw [h0, if_neg (by decide), hf]
 obtain ⟨_, hr, hN⟩ := chkF_ok hc
 have hp : PosW C := fun k hk j hj => (ways_in hr hk j hj).1
 obtain ⟨⟨t', hI, _⟩, _, hD, hE⟩ := firstL_ok hp hN (FirstI.init e C) (fun k hk => by rw [init_none] at hk; cases hk) hf
 have hL : LkOK L := LkOK.first (insOK_of hr) (L := List.replicate C.length none) (fun k s hk => by
  have := init_none C k
  rw [hk] at this; cases this) hf
 have hout : ∀ k, k < C.length → (outF L).getD k 0 = outV (L.getD k none) := fun k hk => by
  rw [outF_eq]
  have : k < L.length := by rw [hI.len]; exact hk
  simp [List.getD, this]
 have hsome : ∀ k, k < C.length → (L.getD k none).isSome = true → (outF L).getD k 0 ≠ -1 := fun k hk hs => by
  rw [hout k hk]
  cases h : L.getD k none with
  | none => rw [h] at hs; cases hs
  | some s => exact shape_ne (hL k s h)
 rw [hsh]
 refine ⟨by rw [outF_len, hI.len], fun n hn => ⟨hN n hn, ?_⟩, fun k hk hne => ?_⟩
 ·obtain ⟨i, hi⟩ := List.mem_iff_getElem?.1 hn
  have := hN n hn
  exact hsome _ (by omega) (hE i n hi).1
 ·rw [hout k hk] at hne
  cases h : L.getD k none with
  | none => rw [h] at hne; exact absurd rfl hne
  | some s =>
   have hkD := hD k (by rw [h]; rfl)
   obtain ⟨t1, _, hst⟩ := hI.st k hkD
   have hs : stAt L k = s := by unfold stAt; rw [h]; rfl
   rw [hs] at hst
   refine ⟨fun ho => ?_, stand_arm hst, fun j hj => ?_⟩
   ·rw [hout k hk, h]
    exact stand_ret hst ho
   ·have h1 := hp k hk j hj
    obtain ⟨h2, h3⟩ := hI.cl k hkD j hj
    exact ⟨h1, h2, hsome _ (by omega) h3⟩
end Go.Proofs.Ytjeplogcfedmeaa
end
section
namespace Go.Proofs.Ytjeplogcfedmeaa
open Go.RowKit
set_option maxRecDepth 100000
set_option maxHeartbeats 8000000
theorem shape_P (e : Bool) (C : List InsM) (N : List Int) (hC : C.length ≤ 140737488355328) (hN : N.length ≤ 140737488355328) : PCall Try.prog 14 [pG e C N] (fun r => r = .tup [.lst 1 (v8 (shF e C N)), vFa (verF e C N)]) := by
 refine ((shape_G e C N hC hN).toP (by simp [AV.snapOK, AV.snapOK.snapOKL, lk, v8_len])).mono fun r hr => hr.trans ?_
 have e1 : (v8 (shF e C N)).take (shF e C N).length = v8 (shF e C N) := List.take_of_length_le (by rw [v8_len]; omega)
 simp only [AV.snap, AV.snap.snapL, lk, Nat.zero_add, List.drop_zero, Nat.reduceBEq, cond_true, cond_false, e1]
def tgF (op : Int) : Bool :=
 if op = 7 then true else if op = 9 then true else if op = 11 then true else if op = 12 then true else if op = 13 then true else if op = 14 then true
 else if op = 15 then true else if op = 19 then true else if op = 40 then true else if op = 47 then true else false
theorem targets_any (op : Int) : PCall Try.prog 15 [vI op] (fun r => r = vB (tgF op)) := by
 refine go_fn (tyOf_ok _) Try.func15 rfl rfl (by rw [Try.results15]) Try.ntmps15 rfl fun E => ?_
 (repeat' (first | exact trivial | (with_reducible first | apply awA | apply awB | apply awC | apply awD | apply awF | apply awG | apply awI | apply awJ) | ((with_reducible first | apply awn | refine awQ ?_ | refine awR ?_); intro r hr; simp only [go_sem, Nat.reduceBEq, Nat.reduceBneDiff, Nat.reduceLT, Nat.reduceLeDiff, Nat.reduceAdd, Nat.reduceMul, Nat.reduceSub, Nat.reduceEqDiff, reduceCtorEq] at hr; subst hr; (first | refine awV ?_ ?_ | refine endK ?_ ?_ | (refine condK (fun h => ?_) (fun h => ?_) <;> (try simp only [go_sem, reduceCtorEq] at h) <;> (try (exfalso; omega))))))) <;> (try omega)
 all_goals first | (subst_vars; rfl) | (unfold tgF; simp only [*, if_false]; rfl) | skip
theorem ways_else {C : List InsM} {k : Nat} {x : InsM} (h20 : x.op ≠ 20) (h9 : x.op ≠ 9) (hu : ¬ (x.op = 8 ∨ x.op = 41)) : (tgF x.op = true → x.b ∈ waysF C k x) ∧ (x.op ≠ 19 → (k : Int) + 1 ∈ waysF C k x) := by
 unfold waysF
 by_cases h19 : x.op = 19
 ·rw [if_pos h19]
  exact ⟨fun _ => .head _, fun h => absurd h19 h⟩
 ·rw [if_neg h19, if_neg (by omega), if_neg hu]
  by_cases ht : x.op = 7 ∨ x.op = 11 ∨ x.op = 12 ∨ x.op = 13 ∨ x.op = 14 ∨ x.op = 15 ∨ x.op = 40 ∨ x.op = 47
  ·rw [if_pos ht]
   exact ⟨fun _ => .tail _ (.head _), fun _ => .head _⟩
  ·rw [if_neg ht]
   refine ⟨fun h => ?_, fun _ => .head _⟩
   exfalso
   unfold tgF at h
   simp only [not_or] at ht
   obtain ⟨a, b, c, d, f, g, i, j⟩ := ht
   simp only [a, b, c, d, f, g, i, j, h9, h19, if_false] at h
   cases h
theorem ways_arm {C : List InsM} {k : Nat} {x : InsM} (hu : x.op = 8 ∨ x.op = 41) {n : Nat} (hn : (n : Int) < x.a) (hk : k + 1 + n < C.length) : (insAt C (k + 1 + n)).b ∈ waysF C k x := by
 unfold waysF
 rw [if_neg (by omega), if_neg (by omega), if_pos hu, List.mem_map]
 exact ⟨n, List.mem_range.2 (by omega), wayArm_eq hk⟩
theorem sec_lt {e : Bool} {C : List InsM} : ∀ {ns : List Int} {B : List Bool} {r : Int}, SecI e C ns B r → (∀ n ∈ ns, ∃ S : Nat → Prop, S n.toNat ∧ ∀ k, S k → k < C.length ∧ ∀ j ∈ waysF C k (insAt C k), 0 ≤ j ∧ S j.toNat) → 0 ≤ r → r < C.length
 | [], _, r, h, _, h0 => by have : r = -1 := h; omega
 | n :: ns, B, r, h, hS, h0 => by
  rcases h with ⟨k, hk, hb, _⟩ | ⟨_, h⟩
  ·obtain ⟨S, h1, h2⟩ := hS n (.head _)
   have hstep : ∀ a b, S a → wayR C alwaysF a b → S b := fun a b ha ⟨w, hw, _⟩ => by
    have := ((h2 a ha).2 _ (List.mem_of_getElem? hw)).2
    simpa using this
   have hR : ∀ a b, Rch (wayR C alwaysF) a b → S a → S b := fun a b hab ha => by
    induction hab with
    | one g => exact hstep _ _ ha g
    | more _ g ih => exact hstep _ _ ih g
   have : S k := by
    rcases hb.1 with g | g
    ·rw [g]; exact h1
    ·exact hR _ _ g h1
   have := (h2 k this).1
   omega
  ·exact sec_lt h (fun n hn => hS n (.tail _ hn)) h0
theorem ver_err {e : Bool} {C : List InsM} {N : List Int} (hc : chkF e C N = (0, 0)) (hv : (verF e C N).1 ≠ 0) : ∃ j : Int, verF e C N = (150, j) ∧ 0 ≤ j ∧ j < C.length := by
 obtain ⟨_, hr, hN⟩ := chkF_ok hc
 have hp : PosW C := fun k hk j hj => (ways_in hr hk j hj).1
 unfold verF at hv ⊢
 rw [hc, if_neg (by decide)] at hv ⊢
 cases hf : firstF e C N with
 | error j => exact ⟨j, rfl, firstL_err hp hN (FirstI.init e C) hf⟩
 | ok r =>
  rw [hf] at hv
  dsimp only at hv ⊢
  by_cases h0 : 0 ≤ secF e C N
  ·rw [if_pos h0]
   refine ⟨_, rfl, h0, ?_⟩
   obtain ⟨L, D⟩ := r
   have hlk := looked_of hc hf
   refine sec_lt (secF_spec e C N) (fun n hn => ?_) h0
   obtain ⟨t, ht⟩ := List.mem_iff_getElem?.1 hn
   obtain ⟨S, g1, g2⟩ := hlk t n ht
   have hcl := g2 (List.replicate t false) (by simp)
   exact ⟨S, g1, fun k hk => ⟨hcl.1 k hk, hcl.ways k hk⟩⟩
  ·rw [if_neg h0] at hv
   exact absurd rfl hv
end Go.Proofs.Ytjeplogcfedmeaa
end
section
namespace Go.Proofs.Ytjeplogcfedmeaa
open Go.RowKit
set_option maxRecDepth 100000
set_option maxHeartbeats 8000000
theorem soundEnds_any (e : Bool) (C : List InsM) (N : List Int) (hC : C.length ≤ 100000000) (hN : N.length ≤ 100000000) : PCall Try.prog 6 [pG e C N] (fun r => r = vB true) := by
 have hm := made15_P e C N hC hN
 have hfi := first_any
 unfold pG at hm
 unfold pG
 refine go_fn (tyOf_ok _) Try.func6 rfl rfl (by rw [Try.results6]) Try.ntmps6 rfl fun E => ?_
 (repeat' (first | exact trivial | (with_reducible first | apply awA | apply awC | apply awF) | ((with_reducible first | apply awn | apply awo | refine awQ ?_); intro r hr; simp only [go_sem, Nat.reduceBEq, Nat.reduceBneDiff, Nat.reduceLT, Nat.reduceLeDiff, Nat.reduceAdd, Nat.reduceMul, Nat.reduceSub, Nat.reduceEqDiff, reduceCtorEq, Int.cast_ofNat_Int, Int.reduceToNat, Int.reduceEq, Int.reduceLT, Int.reduceLE, Int.reduceNe] at hr; subst hr; (first | refine caA (fun _ => hfi) rfl ?_ ?_ ?_ | refine caD (hm) rfl ?_ ?_ (fun r hr => hold ?_) | refine awV ?_ ?_ | (refine condK (fun h => ?_) (fun h => ?_) <;> (try simp only [go_sem, reduceCtorEq] at h) <;> (try (exfalso; omega))))))) <;> (try omega)
 refine ⟨?_⟩
 obtain ⟨X, Z, rfl, hc, hx1, hx2⟩ := hr
 clear hm hfi
 obtain ⟨⟨hX, hZ⟩, hright, hent⟩ := chkF_ok hc
 have hS := shape_P e X Z (by omega) (by omega)
 have hV := verify_any e X Z (by omega) (by omega)
 by_cases hv : (verF e X Z).1 = 0
 ·obtain ⟨_, _, _, hv0⟩ := ver_ok hv
  have hE := ends_of hv
  rw [hv0] at hS
  generalize shF e X Z = l at hS hE
  have hlen := hE.len
  have e0 : ((l.length : Int) = (X.length : Int)) = True := eq_true (by omega)
  clear hV hv hv0
  unfold pG at *
  (repeat' (first | exact trivial | (with_reducible first | apply awA | apply awB | apply awC | apply awF) | ((with_reducible first | apply awn | apply awo | refine awQ ?_); intro r hr; simp only [go_sem, Nat.reduceBEq, Nat.reduceBneDiff, Nat.reduceLT, Nat.reduceLeDiff, Nat.reduceAdd, Nat.reduceMul, Nat.reduceSub, Nat.reduceEqDiff, reduceCtorEq, encIs_len, v8_len, e0, Int.cast_ofNat_Int, Int.reduceToNat, Int.reduceEq, Int.reduceLT, Int.reduceLE, Int.reduceNe] at hr; subst hr; (first | refine caC (hS) rfl ?_ ?_ ?_ | refine awV ?_ ?_ | (refine condK (fun h => ?_) (fun h => ?_) <;> (try simp only [go_sem, reduceCtorEq] at h) <;> (try (exfalso; omega))))))) <;> (try omega)
  refine go_loop [3, 4, 6] [3] (fun i : Nat => ⟨[(3, true, .ptr 1 3 0 0), (4, true, .lst 1 (v8 l)), (6, true, vI i)], [(3, .var [vB e, .lst 4 (encIs X), .lst 1 (v8 Z)])]⟩)
   (fun i => i ≤ Z.length) (fun i => Z.length - i) 0 (by simp only [go_sem, Nat.reduceBEq, Nat.reduceBneDiff, Nat.reduceLT, Nat.reduceLeDiff, Nat.reduceAdd, Nat.reduceMul, Nat.reduceSub, Nat.reduceEqDiff, reduceCtorEq] <;> exact rfl) (Nat.zero_le _) ?_
  intro i hi
  have hwi := wrap_i64 (n := (i : Int) + 1) (by omega)
  have zi : ((i : Int)).toNat = i := by omega
  by_cases hlt : i < Z.length
  ·have e1 : ((i : Int) < (Z.length : Int)) = True := eq_true (by omega)
   have gZ := v8_get hlt
   obtain ⟨hz, hne⟩ := hE.ent Z[i] (List.getElem_mem hlt)
   generalize Z[i] = z at gZ hz hne
   have gl := v8_getD (W := l) (i := z.toNat) (by omega)
   have e2 : (l.getD z.toNat 0 = -1) = False := eq_false hne
   (repeat' (first | exact trivial | (with_reducible first | apply awA | apply awB | apply awC | apply awF | apply awI) | ((with_reducible first | apply awn | refine awQ ?_); intro r hr; simp only [go_sem, Nat.reduceBEq, Nat.reduceBneDiff, Nat.reduceLT, Nat.reduceLeDiff, Nat.reduceAdd, Nat.reduceMul, Nat.reduceSub, Nat.reduceEqDiff, reduceCtorEq, e1, zi, hwi, gZ, gl, v8_len, e2, Int.cast_ofNat_Int, Int.reduceToNat, Int.reduceEq, Int.reduceLT, Int.reduceLE, Int.reduceNe] at hr; subst hr; (first | refine awV ?_ ?_ | (refine condK (fun h => ?_) (fun h => ?_) <;> (try simp only [go_sem, reduceCtorEq] at h) <;> (try (exfalso; omega))))))) <;> (try omega)
   refine ⟨i + 1, ?_, hlt, by omega⟩
   simp only [hwi, go_sem, Nat.reduceBEq, Nat.reduceBneDiff, Nat.reduceLT, Nat.reduceLeDiff, Nat.reduceAdd, Nat.reduceMul, Nat.reduceSub, Nat.reduceEqDiff, reduceCtorEq]
   try exact rfl
  ·have e1 : ((i : Int) < (Z.length : Int)) = False := eq_false (by omega)
   (repeat' (first | exact trivial | (with_reducible first | apply awA | apply awB | apply awE | apply awF | apply awH | apply awK) | ((with_reducible first | apply awn | refine awQ ?_); intro r hr; simp only [go_sem, Nat.reduceBEq, Nat.reduceBneDiff, Nat.reduceLT, Nat.reduceLeDiff, Nat.reduceAdd, Nat.reduceMul, Nat.reduceSub, Nat.reduceEqDiff, reduceCtorEq, e1, v8_len] at hr; subst hr; (first | refine awV ?_ ?_ | (refine condK (fun h => ?_) (fun h => ?_) <;> (try simp only [go_sem, reduceCtorEq] at h) <;> (try (exfalso; omega))))))) <;> (try omega)
   clear e1 hwi
   refine go_loop [3, 4, 7] [3] (fun i : Nat => ⟨[(3, true, .ptr 1 3 0 0), (4, true, .lst 1 (v8 l)), (7, true, vI i)], [(3, .var [vB e, .lst 4 (encIs X), .lst 1 (v8 Z)])]⟩)
    (fun i => i ≤ X.length) (fun i => X.length - i) 0 (by simp only [go_sem, Nat.reduceBEq, Nat.reduceBneDiff, Nat.reduceLT, Nat.reduceLeDiff, Nat.reduceAdd, Nat.reduceMul, Nat.reduceSub, Nat.reduceEqDiff, reduceCtorEq] <;> exact rfl) (Nat.zero_le _) ?_
   intro i hi
   have hwi := wrap_i64 (n := (i : Int) + 1) (by omega)
   have zi : ((i : Int)).toNat = i := by omega
   by_cases hlt : i < X.length
   ·have e1 : ((i : Int) < (l.length : Int)) = True := eq_true (by omega)
    have gX := insAt_get4 hlt
    have gl := v8_getD (W := l) (i := i) (by omega)
    have hst := hE.st i hlt
    have hri := hright i hlt
    have harms := fun h => right_arms hri h
    by_cases hl : l.getD i 0 = -1
    ·have e2 : (l.getD i 0 = -1) = True := eq_true hl
     (repeat' (first | exact trivial | (with_reducible first | apply awA | apply awB | apply awC | apply awE | apply awF | apply awH | apply awK) | ((with_reducible first | apply awn | refine awQ ?_); intro r hr; simp only [go_sem, Nat.reduceBEq, Nat.reduceBneDiff, Nat.reduceLT, Nat.reduceLeDiff, Nat.reduceAdd, Nat.reduceMul, Nat.reduceSub, Nat.reduceEqDiff, reduceCtorEq, e1, zi, hwi, gX, gl, encIs_len, v8_len, e2, Int.cast_ofNat_Int, Int.reduceToNat, Int.reduceEq, Int.reduceLT, Int.reduceLE, Int.reduceNe] at hr; subst hr; (first | refine awV ?_ ?_ | (refine condK (fun h => ?_) (fun h => ?_) <;> (try simp only [go_sem, reduceCtorEq] at h) <;> (try (exfalso; omega))))))) <;> (try omega)
     refine ⟨i + 1, ?_, hlt, by omega⟩
     simp only [hwi, go_sem, Nat.reduceBEq, Nat.reduceBneDiff, Nat.reduceLT, Nat.reduceLeDiff, Nat.reduceAdd, Nat.reduceMul, Nat.reduceSub, Nat.reduceEqDiff, reduceCtorEq]
     try exact rfl
    ·have e2 : (l.getD i 0 = -1) = False := eq_false hl
     obtain ⟨h20, h9, hw⟩ := hst hl
     obtain ⟨x, hx⟩ : ∃ x, insAt X i = x := ⟨_, rfl⟩
     rw [hx] at gX h20 h9 hw harms
     by_cases c20 : x.op = 20
     ·have e3 : (x.op = 20) = True := eq_true c20
      have e4 : (l.getD i 0 = 0) = False := eq_false (h20 c20)
      (repeat' (first | exact trivial | (with_reducible first | apply awA | apply awB | apply awC | apply awF | apply awI) | ((with_reducible first | apply awn | refine awQ ?_); intro r hr; simp only [go_sem, Nat.reduceBEq, Nat.reduceBneDiff, Nat.reduceLT, Nat.reduceLeDiff, Nat.reduceAdd, Nat.reduceMul, Nat.reduceSub, Nat.reduceEqDiff, reduceCtorEq, e1, zi, hwi, gX, gl, encIs_len, v8_len, e2, e3, e4, Int.cast_ofNat_Int, Int.reduceToNat, Int.reduceEq, Int.reduceLT, Int.reduceLE, Int.reduceNe] at hr; subst hr; (first | refine awV ?_ ?_ | (refine condK (fun h => ?_) (fun h => ?_) <;> (try simp only [go_sem, reduceCtorEq] at h) <;> (try (exfalso; omega))))))) <;> (try omega)
      refine ⟨i + 1, ?_, hlt, by omega⟩
      simp only [hwi, go_sem, Nat.reduceBEq, Nat.reduceBneDiff, Nat.reduceLT, Nat.reduceLeDiff, Nat.reduceAdd, Nat.reduceMul, Nat.reduceSub, Nat.reduceEqDiff, reduceCtorEq]
      try exact rfl
     have e3 : (x.op = 20) = False := eq_false c20
     have e4 : (x.op = 9) = False := eq_false h9
     by_cases hu : x.op = 8 ∨ x.op = 41
     ·obtain ⟨ha1, ha2, ha3, _⟩ := harms hu
      (repeat' (first | exact trivial | (with_reducible first | apply awA | apply awB | apply awC | apply awF) | ((with_reducible first | apply awn | refine awQ ?_); intro r hr; simp only [go_sem, Nat.reduceBEq, Nat.reduceBneDiff, Nat.reduceLT, Nat.reduceLeDiff, Nat.reduceAdd, Nat.reduceMul, Nat.reduceSub, Nat.reduceEqDiff, reduceCtorEq, e1, zi, hwi, gX, gl, encIs_len, v8_len, e2, e3, e4, Int.cast_ofNat_Int, Int.reduceToNat, Int.reduceEq, Int.reduceLT, Int.reduceLE, Int.reduceNe] at hr; subst hr; (first | refine awV ?_ ?_ | (refine condK (fun h => ?_) (fun h => ?_) <;> (try simp only [go_sem, reduceCtorEq] at h) <;> (try (exfalso; omega))))))) <;> (try omega)
      all_goals
       refine go_loop [3, 4, 7, 8, 9] [3, 8] (fun n : Nat => ⟨[(3, true, .ptr 1 3 0 0), (4, true, .lst 1 (v8 l)), (7, true, vI i), (8, true, .ptr 1 8 0 0), (9, true, vI (n + 1 : Nat))], [(3, .var [vB e, .lst 4 (encIs X), .lst 1 (v8 Z)]), (8, .var [vI x.op, vI x.a, vI x.b, vI x.c])]⟩)
        (fun n => (n : Int) ≤ x.a) (fun n => x.a.toNat - n) 0 (by simp only [go_sem, Nat.reduceBEq, Nat.reduceBneDiff, Nat.reduceLT, Nat.reduceLeDiff, Nat.reduceAdd, Nat.reduceMul, Nat.reduceSub, Nat.reduceEqDiff, reduceCtorEq] <;> exact rfl) (by omega) ?_
       intro n hn
       have hwn := wrap_i64 (n := (n : Int) + 1 + 1) (by omega)
       by_cases hnl : (n : Int) < x.a
       ·have f1 : ((n : Int) + 1 ≤ x.a) = True := eq_true (by omega)
        have gY := insAt_get4 (X := X) (i := i + 1 + n) (by omega)
        have w5 := wrap_i64 (n := (i : Int) + ((n : Int) + 1)) (by omega)
        have z5 : ((i : Int) + ((n : Int) + 1)).toNat = i + 1 + n := by omega
        have f2 : ((i : Int) + ((n : Int) + 1) ≥ (l.length : Int)) = False := eq_false (by omega)
        obtain ⟨hb0, hb1, hb2⟩ := hw _ (ways_arm hu hnl (by omega))
        generalize insAt X (i + 1 + n) = y at gY hb0 hb1 hb2
        have gL := v8_getD (W := l) (i := y.b.toNat) (by omega)
        have f3 : (l.getD y.b.toNat 0 = -1) = False := eq_false hb2
        (repeat' (first | exact trivial | (with_reducible first | apply awA | apply awB | apply awC | apply awF | apply awI) | ((with_reducible first | apply awn | refine awQ ?_); intro r hr; simp only [go_sem, Nat.reduceBEq, Nat.reduceBneDiff, Nat.reduceLT, Nat.reduceLeDiff, Nat.reduceAdd, Nat.reduceMul, Nat.reduceSub, Nat.reduceEqDiff, reduceCtorEq, f1, gY, w5, z5, f2, gL, f3, hwn, encIs_len, v8_len, Int.natCast_add, Int.cast_ofNat_Int, Int.cast_ofNat_Int, Int.reduceToNat, Int.reduceEq, Int.reduceLT, Int.reduceLE, Int.reduceNe] at hr; subst hr; (first | refine awV ?_ ?_ | (refine condK (fun h => ?_) (fun h => ?_) <;> (try simp only [go_sem, reduceCtorEq] at h) <;> (try (exfalso; omega))))))) <;> (try omega)
        refine ⟨n + 1, ?_, by omega, by omega⟩
        simp only [hwn, Int.natCast_add, Int.cast_ofNat_Int, go_sem, Nat.reduceBEq, Nat.reduceBneDiff, Nat.reduceLT, Nat.reduceLeDiff, Nat.reduceAdd, Nat.reduceMul, Nat.reduceSub, Nat.reduceEqDiff, reduceCtorEq]
        try exact rfl
       ·have f1 : ((n : Int) + 1 ≤ x.a) = False := eq_false (by omega)
        (repeat' (first | exact trivial | (with_reducible first | apply awA | apply awE | apply awF | apply awH | apply awI | apply awK) | ((with_reducible first | apply awn | refine awQ ?_); intro r hr; simp only [go_sem, Nat.reduceBEq, Nat.reduceBneDiff, Nat.reduceLT, Nat.reduceLeDiff, Nat.reduceAdd, Nat.reduceMul, Nat.reduceSub, Nat.reduceEqDiff, reduceCtorEq, f1, hwi, Int.natCast_add, Int.cast_ofNat_Int, Int.cast_ofNat_Int, Int.reduceToNat, Int.reduceEq, Int.reduceLT, Int.reduceLE, Int.reduceNe] at hr; subst hr; (first | refine awV ?_ ?_ | (refine condK (fun h => ?_) (fun h => ?_) <;> (try simp only [go_sem, reduceCtorEq] at h) <;> (try (exfalso; omega))))))) <;> (try omega)
        refine ⟨i + 1, ?_, hlt, by omega⟩
        simp only [hwi, go_sem, Nat.reduceBEq, Nat.reduceBneDiff, Nat.reduceLT, Nat.reduceLeDiff, Nat.reduceAdd, Nat.reduceMul, Nat.reduceSub, Nat.reduceEqDiff, reduceCtorEq]
        try exact rfl
     ·have u1 : (x.op = 8) = False := eq_false (fun q => hu (.inl q))
      have u2 : (x.op = 41) = False := eq_false (fun q => hu (.inr q))
      obtain ⟨wt, wn⟩ := ways_else (C := X) (k := i) (x := x) c20 h9 hu
      have ht := targets_any x.op
      by_cases h19 : x.op = 19
      ·have e19 : (x.op = 19) = True := eq_true h19
       have htt : tgF x.op = true := by rw [h19]; rfl
       obtain ⟨hb0, hb1, hb2⟩ := hw _ (wt htt)
       rw [htt] at ht
       have gL := v8_getD (W := l) (i := x.b.toNat) (by omega)
       have f3 : (l.getD x.b.toNat 0 = -1) = False := eq_false hb2
       have z6 : ((i : Int) + 1).toNat = i + 1 := by omega
       by_cases hin : i + 1 < l.length
       ·have gN := v8_getD (W := l) (i := i + 1) hin
        (repeat' (first | exact trivial | (with_reducible first | apply awA | apply awB | apply awC | apply awF | apply awI) | ((with_reducible first | apply awn | apply awo | refine awQ ?_); intro r hr; simp only [go_sem, Nat.reduceBEq, Nat.reduceBneDiff, Nat.reduceLT, Nat.reduceLeDiff, Nat.reduceAdd, Nat.reduceMul, Nat.reduceSub, Nat.reduceEqDiff, reduceCtorEq, e1, zi, hwi, gX, gl, gL, gN, f3, z6, encIs_len, v8_len, e2, e3, e4, u1, u2, e19, Int.cast_ofNat_Int, Int.reduceToNat, Int.reduceEq, Int.reduceLT, Int.reduceLE, Int.reduceNe] at hr; subst hr; (first | refine caA (fun _ => ht) rfl ?_ ?_ ?_ | refine awV ?_ ?_ | (refine condK (fun h => ?_) (fun h => ?_) <;> (try simp only [go_sem, reduceCtorEq] at h) <;> (try (exfalso; omega))))))) <;> (try omega)
        refine ⟨i + 1, ?_, hlt, by omega⟩
        simp only [hwi, go_sem, Nat.reduceBEq, Nat.reduceBneDiff, Nat.reduceLT, Nat.reduceLeDiff, Nat.reduceAdd, Nat.reduceMul, Nat.reduceSub, Nat.reduceEqDiff, reduceCtorEq]
        try exact rfl
       ·have gN : (v8 l)[i + 1]? = none := List.getElem?_eq_none (by rw [v8_len]; omega)
        (repeat' (first | exact trivial | (with_reducible first | apply awA | apply awB | apply awC | apply awF | apply awI) | ((with_reducible first | apply awn | apply awo | refine awQ ?_); intro r hr; simp only [go_sem, Nat.reduceBEq, Nat.reduceBneDiff, Nat.reduceLT, Nat.reduceLeDiff, Nat.reduceAdd, Nat.reduceMul, Nat.reduceSub, Nat.reduceEqDiff, reduceCtorEq, e1, zi, hwi, gX, gl, gL, gN, f3, z6, encIs_len, v8_len, e2, e3, e4, u1, u2, e19, Int.cast_ofNat_Int, Int.reduceToNat, Int.reduceEq, Int.reduceLT, Int.reduceLE, Int.reduceNe] at hr; subst hr; (first | refine caA (fun _ => ht) rfl ?_ ?_ ?_ | refine awV ?_ ?_ | refine awW ?_ ?_ | (refine condK (fun h => ?_) (fun h => ?_) <;> (try simp only [go_sem, reduceCtorEq] at h) <;> (try (exfalso; omega))))) | (refine al_skipN (vI 0) rfl rfl ⟨by decide, by decide⟩ ?_))) <;> (try omega)
        refine ⟨i + 1, ?_, hlt, by omega⟩
        simp only [hwi, go_sem, Nat.reduceBEq, Nat.reduceBneDiff, Nat.reduceLT, Nat.reduceLeDiff, Nat.reduceAdd, Nat.reduceMul, Nat.reduceSub, Nat.reduceEqDiff, reduceCtorEq]
        try exact rfl
      ·have e19 : (x.op = 19) = False := eq_false h19
       obtain ⟨hn0, hn1, hn2⟩ := hw _ (wn h19)
       have z6 : ((i : Int) + 1).toNat = i + 1 := by omega
       rw [z6] at hn2
       have gN := v8_getD (W := l) (i := i + 1) (by omega)
       have f4 : (l.getD (i + 1) 0 = -1) = False := eq_false hn2
       have f5 : ((i : Int) + 1 ≥ (l.length : Int)) = False := eq_false (by omega)
       cases htt : tgF x.op with
       | true =>
        obtain ⟨hb0, hb1, hb2⟩ := hw _ (wt htt)
        rw [htt] at ht
        have gL := v8_getD (W := l) (i := x.b.toNat) (by omega)
        have f3 : (l.getD x.b.toNat 0 = -1) = False := eq_false hb2
        (repeat' (first | exact trivial | (with_reducible first | apply awA | apply awB | apply awC | apply awF | apply awI) | ((with_reducible first | apply awn | apply awo | refine awQ ?_); intro r hr; simp only [go_sem, Nat.reduceBEq, Nat.reduceBneDiff, Nat.reduceLT, Nat.reduceLeDiff, Nat.reduceAdd, Nat.reduceMul, Nat.reduceSub, Nat.reduceEqDiff, reduceCtorEq, e1, zi, hwi, gX, gl, gL, gN, f3, f4, f5, z6, encIs_len, v8_len, e2, e3, e4, u1, u2, e19, Int.cast_ofNat_Int, Int.reduceToNat, Int.reduceEq, Int.reduceLT, Int.reduceLE, Int.reduceNe] at hr; subst hr; (first | refine caA (fun _ => ht) rfl ?_ ?_ ?_ | refine awV ?_ ?_ | (refine condK (fun h => ?_) (fun h => ?_) <;> (try simp only [go_sem, reduceCtorEq] at h) <;> (try (exfalso; omega))))))) <;> (try omega)
        refine ⟨i + 1, ?_, hlt, by omega⟩
        simp only [hwi, go_sem, Nat.reduceBEq, Nat.reduceBneDiff, Nat.reduceLT, Nat.reduceLeDiff, Nat.reduceAdd, Nat.reduceMul, Nat.reduceSub, Nat.reduceEqDiff, reduceCtorEq]
        try exact rfl
       | false =>
        rw [htt] at ht
        by_cases hin : x.b.toNat < l.length
        ·have gL := v8_getD (W := l) (i := x.b.toNat) hin
         (repeat' (first | exact trivial | (with_reducible first | apply awA | apply awB | apply awC | apply awF | apply awI) | ((with_reducible first | apply awn | apply awo | refine awQ ?_); intro r hr; simp only [go_sem, Nat.reduceBEq, Nat.reduceBneDiff, Nat.reduceLT, Nat.reduceLeDiff, Nat.reduceAdd, Nat.reduceMul, Nat.reduceSub, Nat.reduceEqDiff, reduceCtorEq, e1, zi, hwi, gX, gl, gL, gN, f4, f5, z6, encIs_len, v8_len, e2, e3, e4, u1, u2, e19, Int.cast_ofNat_Int, Int.reduceToNat, Int.reduceEq, Int.reduceLT, Int.reduceLE, Int.reduceNe] at hr; subst hr; (first | refine caA (fun _ => ht) rfl ?_ ?_ ?_ | refine awV ?_ ?_ | (refine condK (fun h => ?_) (fun h => ?_) <;> (try simp only [go_sem, reduceCtorEq] at h) <;> (try (exfalso; omega))))))) <;> (try omega)
         refine ⟨i + 1, ?_, hlt, by omega⟩
         simp only [hwi, go_sem, Nat.reduceBEq, Nat.reduceBneDiff, Nat.reduceLT, Nat.reduceLeDiff, Nat.reduceAdd, Nat.reduceMul, Nat.reduceSub, Nat.reduceEqDiff, reduceCtorEq]
         try exact rfl
        ·have gL : (v8 l)[x.b.toNat]? = none := List.getElem?_eq_none (by rw [v8_len]; omega)
         (repeat' (first | exact trivial | (with_reducible first | apply awA | apply awB | apply awC | apply awF | apply awI) | ((with_reducible first | apply awn | apply awo | refine awQ ?_); intro r hr; simp only [go_sem, Nat.reduceBEq, Nat.reduceBneDiff, Nat.reduceLT, Nat.reduceLeDiff, Nat.reduceAdd, Nat.reduceMul, Nat.reduceSub, Nat.reduceEqDiff, reduceCtorEq, e1, zi, hwi, gX, gl, gL, gN, f4, f5, z6, encIs_len, v8_len, e2, e3, e4, u1, u2, e19, Int.cast_ofNat_Int, Int.reduceToNat, Int.reduceEq, Int.reduceLT, Int.reduceLE, Int.reduceNe] at hr; subst hr; (first | refine caA (fun _ => ht) rfl ?_ ?_ ?_ | refine awV ?_ ?_ | refine awW ?_ ?_ | (refine condK (fun h => ?_) (fun h => ?_) <;> (try simp only [go_sem, reduceCtorEq] at h) <;> (try (exfalso; omega))))) | (refine al_skipN (vI 0) rfl rfl ⟨by decide, by decide⟩ ?_))) <;> (try omega)
         refine ⟨i + 1, ?_, hlt, by omega⟩
         simp only [hwi, go_sem, Nat.reduceBEq, Nat.reduceBneDiff, Nat.reduceLT, Nat.reduceLeDiff, Nat.reduceAdd, Nat.reduceMul, Nat.reduceSub, Nat.reduceEqDiff, reduceCtorEq]
         try exact rfl
   ·have e1 : ((i : Int) < (l.length : Int)) = False := eq_false (by omega)
    (repeat' (first | exact trivial | (with_reducible first | apply awA | apply awD | apply awE | apply awF | apply awH | apply awK) | ((with_reducible first | apply awn | refine awQ ?_ | refine awR ?_); intro r hr; simp only [go_sem, Nat.reduceBEq, Nat.reduceBneDiff, Nat.reduceLT, Nat.reduceLeDiff, Nat.reduceAdd, Nat.reduceMul, Nat.reduceSub, Nat.reduceEqDiff, reduceCtorEq, e1, v8_len] at hr; subst hr; (first | refine awV ?_ ?_ | refine endK ?_ ?_ | (refine condK (fun h => ?_) (fun h => ?_) <;> (try simp only [go_sem, reduceCtorEq] at h) <;> (try (exfalso; omega))))))) <;> (try omega)
    all_goals rfl
 ·obtain ⟨j, hj, hj0, hj1⟩ := ver_err hc hv
  rw [hj] at hS hV
  generalize shF e X Z = l at hS
  have f1 : (j ≥ 0) = True := eq_true hj0
  have f2 : (j < (X.length : Int)) = True := eq_true hj1
  unfold pG at *
  (repeat' (first | exact trivial | (with_reducible first | apply awA | apply awD | apply awF | apply awG) | (refine aw_draw (id := 6) (t := (.node [0, 1, 2, 3, 4, 5, 6, 7, 8, 9, 10, 11, 12, 13, 14, 15, 16, 17, 19, 18, 20, 21, 22] [])) (drR [5, 3] [] []) mixed (by kernel_rfl) (by kernel_rfl) (fun _ _ h => h) ?_) | (refine at_done (by simp only [go_sem]; exact rfl) ?_) | (refine at_alt (by simp only [go_sem]; exact rfl) ?_) | refine qalt_normal ?_ | refine ats_cons ?_ ?_ | exact ats_nil | ((with_reducible first | apply awn | apply awo | apply awp | refine awQ ?_ | refine awR ?_); intro r hr; simp only [go_sem, Nat.reduceBEq, Nat.reduceBneDiff, Nat.reduceLT, Nat.reduceLeDiff, Nat.reduceAdd, Nat.reduceMul, Nat.reduceSub, Nat.reduceEqDiff, reduceCtorEq, encIs_len, v8_len, f1, f2, Int.cast_ofNat_Int, Int.reduceToNat, Int.reduceEq, Int.reduceLT, Int.reduceLE, Int.reduceNe] at hr; subst hr; (first | refine caC (hS) rfl ?_ ?_ ?_ | refine caA (fun _ => hV) rfl ?_ ?_ ?_ | refine awV ?_ ?_ | refine endK ?_ ?_ | (refine condK (fun h => ?_) (fun h => ?_) <;> (try simp only [go_sem, reduceCtorEq] at h) <;> (try (exfalso; omega))))))) <;> (try omega)
  all_goals rfl
end Go.Proofs.Ytjeplogcfedmeaa
end
section
namespace Go.Proofs.Ytjeplogcfedmeaa
open Go.ChangeShapes Go.WideShapes Go.ChangeAt Go.RowKit
theorem own : ownKnob Try.prog.godebug = none := by kernel_rfl
theorem laidOut : laidOutB Try.prog = true := by kernel_rfl
end Go.Proofs.Ytjeplogcfedmeaa
end
section
namespace Go.Proofs.Ytjeplogcfedmeaa
open Go.ChangeShapes Go.WideShapes Go.ChangeAt Go.RowKit Go.Deep
theorem addr_plain (b off j : Nat) : (⟨b, off, none⟩ : Addr).add j = ⟨b, off + j, none⟩ := by
 unfold Addr.add; by_cases h : j = 0 <;> simp [h]
section
variable {H : Type} {enc : TypeId × Value → H} {P : Program} {w : World} {base : Nat} {spare : Nat → Bool} {held : Bool}
end
end Go.Proofs.Ytjeplogcfedmeaa
end
section
namespace Go.Proofs.Ytjeplogcfedmeaa
open Go.RowKit
section
variable {P : Program} {w : World}
theorem PCall.row {f : Nat} {args : List AV} (h : PCall P f args (fun r => r = .v (.bool true))) (vs : Array Value) (hl : vs.size = args.length)
  (ha : ∀ (i : Nat) (x : AV) (v : Value), args[i]? = some x → vs[i]? = some v → AVR (fun b => b < w.heap.size) (fun _ => none) w x v) (hg : FOK (fun b => b < w.heap.size) w) :
  Calls P f vs w fun e w' => e = .returned (.bool true) ∧ Below w.heap.size w w' :=
 (h.2 w _ vs hg hl ha).mono fun e w' ⟨v, r, h1, h2, h3, h4⟩ => by
  subst h2
  cases h4 with
  | s h4 =>
  cases h4 with
  | v _ => exact ⟨h1, h3⟩
end
end Go.Proofs.Ytjeplogcfedmeaa
end
section
namespace Go.Proofs.Ytjeplogcfedmeaa.bulks
open Go.ChangeShapes Go.WideShapes Go.ChangeAt Go.RowKit
theorem one_le {H : Type} (d : DataW H) : 1 ≤ Rows.uptoBulk d := by
 cases d with
 | lit l => cases l <;> simp [Rows.uptoBulk]
 | nil => simp [Rows.uptoBulk]
 | ptr d => simp [Rows.uptoBulk]
 | slice elems spare => simp [Rows.uptoBulk]
 | agg parts => simp [Rows.uptoBulk]
 | iface t d => simp [Rows.uptoBulk]
 | map entries => simp [Rows.uptoBulk]
 | held h => simp [Rows.uptoBulk]
theorem part_le {H : Type} {d : DataW H} {l : List (DataW H)} (h : d ∈ l) : Rows.uptoBulk d ≤ Rows.uptoBulkAll l := by
 induction l with
 | nil => cases h
 | cons x r ih =>
  simp only [Rows.uptoBulkAll]
  cases List.mem_cons.1 h with
  | inl e => subst e; omega
  | inr e => have := ih e; omega
theorem length_le {H : Type} (l : List (DataW H)) : l.length ≤ Rows.uptoBulkAll l := by
 induction l with
 | nil => simp [Rows.uptoBulkAll]
 | cons x r ih => have := one_le x; simp only [Rows.uptoBulkAll, List.length_cons]; omega
theorem bound {H : Type} {l : List (DataW H)} (hk : Rows.uptoSmall H l = true) : Rows.uptoBulkAll l ≤ 1048576 := of_decide_eq_true hk
end Go.Proofs.Ytjeplogcfedmeaa.bulks
end
