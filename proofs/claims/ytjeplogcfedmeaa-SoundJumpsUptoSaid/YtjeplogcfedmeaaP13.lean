import Derived.Test.YtjeplogcfedmeaaP12
set_option linter.all false
section
namespace Go.Proofs.Ytjeplogcfedmeaa
open Go.RowKit
set_option maxRecDepth 100000
set_option maxHeartbeats 8000000
theorem stand_mono {e : Bool} {x : InsM} {s : StM} {t t' : Int} (h : (standF e x s t).2 = true) (ht : t ≤ t') : standF e x s t' = standF e x s t := by
 unfold standF at h ⊢
 cases e with
 | true =>
  rw [if_pos rfl] at h
  rw [if_pos rfl, if_pos rfl]
  unfold encS at h ⊢
  dsimp only at h ⊢
  by_cases ho : x.op = 44 ∨ x.op = 45 ∨ x.op = 46
  ·rw [if_pos ho] at h
   rw [if_pos ho, if_pos ho]
   by_cases hc : t ≤ x.c
   ·rw [if_pos hc] at h; cases h
   ·rw [if_neg hc, if_neg (by omega)]
  ·rw [if_neg ho, if_neg ho]
 | false =>
  rw [if_neg (by decide)] at h
  rw [if_neg (by decide), if_neg (by decide)]
  unfold decS at h ⊢
  dsimp only at h ⊢
  by_cases h16 : x.op = 16
  ·rw [if_pos h16] at h
   rw [if_pos h16, if_pos h16]
   by_cases hc : t ≤ x.c
   ·rw [if_pos hc] at h; cases h
   ·rw [if_neg hc, if_neg (by omega)]
  ·rw [if_neg h16, if_neg h16]
   by_cases h17 : x.op = 17
   ·simp only [h17, Int.reduceEq, or_self, if_false, if_true] at h ⊢
    by_cases hc : t ≤ x.c
    ·rw [if_pos hc] at h; cases h
    ·rw [if_neg hc, if_neg (by omega)]
   ·simp only [h17, if_false]
def handT (x : InsM) (E : EfM) (w : Nat) : StM := if w = 1 ∧ armsB x = false then E.target else E.next
inductive Hd (e : Bool) (C : List InsM) (N : List Int) : Nat → Nat → StM → Prop
 | entry {i : Nat} {n : Int} : N[i]? = some n → Hd e C N i n.toNat (beginS e)
 | way {t k : Nat} {s : StM} {w : Nat} {j : Int} : Hd e C N t k s → (waysF C k (insAt C k))[w]? = some j → Hd e C N t j.toNat (handT (insAt C k) (standF e (insAt C k) s t).1 w)
def GoodF (e : Bool) (C : List InsM) (N : List Int) : Prop :=
 ∀ t k s, Hd e C N t k s → (standF e (insAt C k) s t).2 = true ∧ (∀ j ∈ waysF C k (insAt C k), j < C.length) ∧ ∀ t' s', Hd e C N t' k s' → (standF e (insAt C k) s t).1 = (standF e (insAt C k) s' t').1
structure WsI (e : Bool) (C : List InsM) (N : List Int) (t : Nat) (L : LkM) (D : List Nat) : Prop where
 hd : ∀ k s, L.getD k none = some s → ∃ t', t' ≤ t ∧ Hd e C N t' k s ∧ (k ∉ D → t' = t)
theorem hand_good {e : Bool} {C : List InsM} {N : List Int} (hG : GoodF e C N) {t : Nat} {L : LkM} {D : List Nat} {k : Nat} {s : StM} (hW : WsI e C N t L D) (hk : k < L.length) (hs : Hd e C N t k s) : ∃ L', handF e C L k s t = some L' ∧ WsI e C N t L' D := by
 unfold handF
 cases hL : L.getD k none with
 | none =>
  refine ⟨_, rfl, ⟨fun j r hj => ?_⟩⟩
  by_cases hjk : k = j
  ·subst hjk
   simp [List.getD, hk] at hj
   subst hj
   exact ⟨t, Nat.le_refl _, hs, fun _ => rfl⟩
  ·refine hW.hd j r ?_
   simp only [List.getD, List.getElem?_set_ne hjk] at hj ⊢; exact hj
 | some s0 =>
  dsimp only
  by_cases h0 : s0 = s
  ·rw [if_pos h0]; exact ⟨L, rfl, hW⟩
  ·rw [if_neg h0]
   obtain ⟨t', ht, h1, _⟩ := hW.hd k s0 hL
   obtain ⟨g1, _, g2⟩ := hG t k s hs
   obtain ⟨g3, _, _⟩ := hG t' k s0 h1
   have := g2 t' s0 h1
   rw [if_pos ⟨g1, by rw [stand_mono g3 (by omega : (t' : Int) ≤ t), this]⟩]
   exact ⟨L, rfl, hW⟩
theorem handS_good {e : Bool} {C : List InsM} {N : List Int} (hG : GoodF e C N) {t : Nat} {D : List Nat} {E : EfM} {x : InsM} : ∀ {ks : List Int} {w : Nat} {L : LkM}, WsI e C N t L D → (∀ j ∈ ks, j.toNat < L.length) → (∀ i j, ks[i]? = some j → Hd e C N t j.toNat (handT x E (w + i))) →
  ∃ L', handS e C t E (armsB x) ks w L = .ok L' ∧ WsI e C N t L' D
 | [], w, L, hW, _, _ => ⟨L, rfl, hW⟩
 | k :: ks, w, L, hW, hlt, hh => by
  unfold handS
  obtain ⟨L1, h1, hW1⟩ := hand_good hG hW (hlt k (.head _)) (hh 0 k rfl)
  have h1' : handF e C L k.toNat (if w = 1 ∧ armsB x = false then E.target else E.next) t = some L1 := h1
  rw [h1']
  dsimp only
  obtain ⟨g1, _⟩ := handF_ext (hlt k (.head _)) h1
  exact handS_good hG hW1 (fun j hj => by rw [g1.1]; exact hlt j (.tail _ hj)) fun i j hi => by
   rw [show w + 1 + i = w + (i + 1) by omega]
   exact hh (i + 1) j (by simpa using hi)
theorem goes_good {e : Bool} {C : List InsM} {N : List Int} (hp : PosW C) (hG : GoodF e C N) {t : Nat} {L : LkM} {D : List Nat} {k : Nat} (hW : WsI e C N t L D) (hl : L.length = C.length) (hk : k < C.length) (hs : (L.getD k none).isSome = true) (hD : k ∉ D) : ∃ L', goesF e C k L t = .ok L' ∧ WsI e C N t L' (k :: D) := by
 obtain ⟨s, hs⟩ := Option.isSome_iff_exists.1 hs
 obtain ⟨t', _, h1, h2⟩ := hW.hd k s hs
 rw [h2 hD] at h1
 obtain ⟨g1, g2, _⟩ := hG t k s h1
 have hst : stAt L k = s := by unfold stAt; rw [hs]; rfl
 unfold goesF
 dsimp only
 rw [hst]
 have h3 : (waysF C k (insAt C k)).any (fun j => decide ((C.length : Int) ≤ j)) = false := List.any_eq_false.2 fun j hj => by
  have := g2 j hj
  simp; omega
 rw [if_neg (by rw [g1, h3]; simp)]
 have hW' : WsI e C N t L (k :: D) := ⟨fun j r hj => by
  obtain ⟨t', q1, q2, q3⟩ := hW.hd j r hj
  exact ⟨t', q1, q2, fun hn => q3 fun hm => hn (.tail _ hm)⟩⟩
 exact handS_good hG hW' (fun j hj => by have := g2 j hj; have := hp k hk j hj; omega) fun i j hi => by
  rw [Nat.zero_add]; exact .way h1 hi
theorem loop_good {e : Bool} {C : List InsM} {N : List Int} (hp : PosW C) (hG : GoodF e C N) {t : Nat} : ∀ {f : Nat} {L : LkM} {D : List Nat}, WsI e C N t L D → FirstI e C t L D → C.length + 1 ≤ f + D.length → ∃ r, loopF e C t f L D = .ok r ∧ WsI e C N t r.1 r.2
 | 0, L, D, _, h, hf => by have := h.dlen; omega
 | f + 1, L, D, hW, h, hf => by
  unfold loopF
  cases hn : nextF L D with
  | none => exact ⟨_, rfl, hW⟩
  | some k =>
   obtain ⟨h1, h2, h3⟩ := nextF_some hn
   rw [h.len] at h1
   obtain ⟨L1, hg, hW1⟩ := goes_good hp hG hW h.len h1 h2 h3
   dsimp only
   rw [hg]
   exact loop_good hp hG hW1 (goesF_ok hp h h1 h2 h3 hg).1 (by rw [List.length_cons]; omega)
theorem firstL_good {e : Bool} {C : List InsM} {N0 : List Int} (hp : PosW C) (hG : GoodF e C N0) : ∀ {N : List Int} {t : Nat} {L : LkM} {D : List Nat}, N = N0.drop t → (∀ n ∈ N, 0 ≤ n ∧ n < C.length) → WsI e C N0 t L D → FirstI e C t L D → (∀ k, (L.getD k none).isSome = true → k ∈ D) → ∃ r, firstL e C N t L D = .ok r
 | [], t, L, D, _, _, _, _, _ => ⟨_, rfl⟩
 | n :: ns, t, L, D, hN0, hN, hW, h, ha => by
  unfold firstL
  have hn := hN n (.head _)
  have hget : N0[t]? = some n := by
   have : (N0.drop t)[0]? = some n := by rw [← hN0]; rfl
   simpa using this
  have hnl : n.toNat < L.length := by rw [h.len]; omega
  obtain ⟨L1, h1, hW1⟩ := hand_good hG hW hnl (.entry hget)
  rw [h1]
  dsimp only
  obtain ⟨g1, _⟩ := handF_ext hnl h1
  have hfu : C.length + 1 ≤ (C.length + 1 - D.length) + D.length := by have := h.dlen; omega
  obtain ⟨⟨L2, D2⟩, h2, hW2⟩ := loop_good hp hG hW1 (h.hand g1) hfu
  rw [h2]
  obtain ⟨g3, _, g5⟩ := loopF_ok hp (h.hand g1) hfu h2
  refine firstL_good hp hG (t := t + 1) ?_ (fun m hm => hN m (.tail _ hm)) ⟨fun k s hk => ?_⟩ (g3.up (by omega)) g5
  ·rw [← List.drop_drop, ← hN0]; rfl
  ·obtain ⟨t', q1, q2, _⟩ := hW2.hd k s hk
   exact ⟨t', by omega, q2, fun hn => absurd (g5 k (by rw [hk]; rfl)) hn⟩
theorem good_first {e : Bool} {C : List InsM} {N : List Int} (hc : chkF e C N = (0, 0)) (hG : GoodF e C N) : ∃ r, firstF e C N = .ok r := by
 obtain ⟨_, hr, hN⟩ := chkF_ok hc
 have hp : PosW C := fun k hk j hj => (ways_in hr hk j hj).1
 have hn : ∀ k s, (List.replicate C.length (none : Option StM)).getD k none ≠ some s := fun k s hk => by
  have := init_none C k
  rw [hk] at this; cases this
 exact firstL_good hp hG (t := 0) rfl hN ⟨fun k s hk => absurd hk (hn k s)⟩ (FirstI.init e C) fun k hk => by rw [init_none] at hk; cases hk
def AccP (e : Bool) (C : List InsM) (T : Nat → Int) (L : LkM) (t : Int) (k : Nat) (s : StM) : Prop :=
 ∃ s0, L.getD k none = some s0 ∧ T k ≤ t ∧ (s0 = s ∨ (standF e (insAt C k) s t).2 = true ∧ (standF e (insAt C k) s0 t).1 = (standF e (insAt C k) s t).1)
def ExtT (L : LkM) (T T' : Nat → Int) : Prop := ∀ k, (L.getD k none).isSome = true → T' k = T k
theorem AccP.ext {e : Bool} {C : List InsM} {T T' : Nat → Int} {L L' : LkM} {t : Int} {k : Nat} {s : StM} (h : AccP e C T L t k s) (hx : Ext L L') (hT : ExtT L T T') : AccP e C T' L' t k s := by
 obtain ⟨s0, h1, h2, h3⟩ := h
 exact ⟨s0, hx.2 k s0 h1, by rw [hT k (by rw [h1]; rfl)]; exact h2, h3⟩
structure LkI (e : Bool) (C : List InsM) (T : Nat → Int) (t : Int) (L : LkM) (D : List Nat) : Prop where
 le : ∀ k, (L.getD k none).isSome = true → T k ≤ t ∧ (k ∉ D → T k = t)
 ok : ∀ k ∈ D, (standF e (insAt C k) (stAt L k) (T k)).2 = true ∧ (∀ j ∈ waysF C k (insAt C k), j < C.length) ∧ ∀ w j, (waysF C k (insAt C k))[w]? = some j → AccP e C T L (T k) j.toNat (handT (insAt C k) (standF e (insAt C k) (stAt L k) (T k)).1 w)
 st : ∀ k ∈ D, (L.getD k none).isSome = true
theorem hand_lk {e : Bool} {C : List InsM} {T : Nat → Int} {t : Int} {L L1 : LkM} {D : List Nat} {k : Nat} {s : StM} (hI : LkI e C T t L D) (hk : k < L.length) (h : handF e C L k s t = some L1) : ∃ T1, ExtT L T T1 ∧ LkI e C T1 t L1 D ∧ AccP e C T1 L1 t k s := by
 obtain ⟨hx, _⟩ := handF_ext hk h
 unfold handF at h
 cases hL : L.getD k none with
 | none =>
  rw [hL] at h
  injection h with h
  have hT : ExtT L T (fun j => if j = k then t else T j) := fun j hj => by
   by_cases hjk : j = k
   ·rw [hjk, hL] at hj; cases hj
   ·simp [hjk]
  have hself : L1.getD k none = some s := by rw [← h]; simp [List.getD, hk]
  have hother : ∀ j, j ≠ k → L1.getD j none = L.getD j none := fun j hj => by
   rw [← h]
   simp only [List.getD, List.getElem?_set_ne (Ne.symm hj)]
  refine ⟨_, hT, ⟨fun j hj => ?_, fun j hj => ?_, fun j hj => hx.some (hI.st j hj)⟩, s, hself, by simp, .inl rfl⟩
  ·by_cases hjk : j = k
   ·simp [hjk]
   ·rw [hother j hjk] at hj
    simpa [hjk] using hI.le j hj
  ·have hs := hI.st j hj
   obtain ⟨g1, g2, g3⟩ := hI.ok j hj
   have e1 : stAt L1 j = stAt L j := hx.st hs
   have e2 := hT j hs
   dsimp only at e2 ⊢
   rw [e1, e2]
   exact ⟨g1, g2, fun w i hi => (g3 w i hi).ext hx hT⟩
 | some s0 =>
  rw [hL] at h
  dsimp only at h
  have hT : ExtT L T T := fun _ _ => rfl
  have hle := (hI.le k (by rw [hL]; rfl)).1
  split at h
  ·rename_i h0
   injection h with h
   subst h
   exact ⟨T, hT, hI, s0, hL, hle, .inl h0⟩
  ·split at h
   ·rename_i h1
    injection h with h
    subst h
    exact ⟨T, hT, hI, s0, hL, hle, .inr h1⟩
   ·cases h
theorem handS_lk {e : Bool} {C : List InsM} {t : Int} {E : EfM} {x : InsM} {D : List Nat} : ∀ {ks : List Int} {w : Nat} {T : Nat → Int} {L L1 : LkM}, LkI e C T t L D → (∀ j ∈ ks, j.toNat < L.length) → handS e C t E (armsB x) ks w L = .ok L1 →
  ∃ T1, ExtT L T T1 ∧ LkI e C T1 t L1 D ∧ ∀ i j, ks[i]? = some j → AccP e C T1 L1 t j.toNat (handT x E (w + i))
 | [], w, T, L, L1, hI, _, h => by
  unfold handS at h
  injection h with h
  subst h
  exact ⟨T, fun _ _ => rfl, hI, fun i j hi => by simp at hi⟩
 | k :: ks, w, T, L, L1, hI, hlt, h => by
  unfold handS at h
  split at h
  ·cases h
  ·rename_i L2 h2
   obtain ⟨g1, g2⟩ := handF_ext (hlt k (.head _)) h2
   obtain ⟨T2, q1, q2, q3⟩ := hand_lk hI (hlt k (.head _)) h2
   have hlt2 : ∀ j ∈ ks, j.toNat < L2.length := fun j hj => by rw [g1.1]; exact hlt j (.tail _ hj)
   obtain ⟨g3, _⟩ := handS_ext hlt2 h
   obtain ⟨T3, r1, r2, r3⟩ := handS_lk q2 hlt2 h
   refine ⟨T3, fun j hj => (r1 j (g1.some hj)).trans (q1 j hj), r2, fun i j hi => ?_⟩
   cases i with
   | zero =>
    simp only [List.getElem?_cons_zero, Option.some.injEq] at hi
    subst hi
    exact q3.ext g3 r1
   | succ i =>
    have := r3 i j (by simpa using hi)
    rwa [show w + 1 + i = w + (i + 1) by omega] at this
theorem goes_lk {e : Bool} {C : List InsM} (hp : PosW C) {t : Int} {T : Nat → Int} {L L1 : LkM} {D : List Nat} {k : Nat} (hI : LkI e C T t L D) (hl : L.length = C.length) (hk : k < C.length) (hs : (L.getD k none).isSome = true) (hD : k ∉ D) (h : goesF e C k L t = .ok L1) : ∃ T1, ExtT L T T1 ∧ LkI e C T1 t L1 (k :: D) := by
 unfold goesF at h
 dsimp only at h
 split at h
 ·cases h
 ·rename_i hn
  simp only [not_or, Bool.not_eq_false, Bool.not_eq_true] at hn
  obtain ⟨h1, h2⟩ := hn
  have hlt : ∀ j ∈ waysF C k (insAt C k), j < C.length := fun j hj => by
   have := List.any_eq_false.1 h2 j hj
   simpa using this
  have hlt2 : ∀ j ∈ waysF C k (insAt C k), j.toNat < L.length := fun j hj => by have := hlt j hj; have := hp k hk j hj; omega
  obtain ⟨g1, _⟩ := handS_ext hlt2 h
  obtain ⟨T1, q1, q2, q3⟩ := handS_lk hI hlt2 h
  have hTk : T1 k = t := by rw [q1 k hs]; exact (hI.le k hs).2 hD
  have hst : stAt L1 k = stAt L k := g1.st hs
  refine ⟨T1, q1, ⟨fun j hj => ⟨(q2.le j hj).1, fun hn => (q2.le j hj).2 fun hm => hn (.tail _ hm)⟩, fun j hj => ?_, fun j hj => ?_⟩⟩
  ·rcases List.mem_cons.1 hj with rfl | hj
   ·rw [hTk, hst]
    exact ⟨h1, hlt, fun w i hi => by have := q3 w i hi; rwa [Nat.zero_add] at this⟩
   ·exact q2.ok j hj
  ·rcases List.mem_cons.1 hj with rfl | hj
   ·exact g1.some hs
   ·exact q2.st j hj
theorem loop_lk {e : Bool} {C : List InsM} (hp : PosW C) {t : Int} : ∀ {f : Nat} {T : Nat → Int} {L : LkM} {D : List Nat} {r : LkM × List Nat}, LkI e C T t L D → FirstI e C t L D → C.length + 1 ≤ f + D.length → loopF e C t f L D = .ok r → ∃ T1, ExtT L T T1 ∧ LkI e C T1 t r.1 r.2
 | 0, T, L, D, r, _, h, hf, _ => by have := h.dlen; omega
 | f + 1, T, L, D, r, hI, h, hf, hl => by
  unfold loopF at hl
  split at hl
  ·injection hl with hl
   subst hl
   exact ⟨T, fun _ _ => rfl, hI⟩
  ·rename_i k hn
   obtain ⟨h1, h2, h3⟩ := nextF_some hn
   rw [h.len] at h1
   split at hl
   ·cases hl
   ·rename_i L1 hg
    obtain ⟨g1, g2⟩ := goesF_ok hp h h1 h2 h3 hg
    obtain ⟨T1, q1, q2⟩ := goes_lk hp hI h.len h1 h2 h3 hg
    obtain ⟨T2, r1, r2⟩ := loop_lk hp q2 g1 (by rw [List.length_cons]; omega) hl
    exact ⟨T2, fun j hj => (r1 j (g2.some hj)).trans (q1 j hj), r2⟩
theorem firstL_lk {e : Bool} {C : List InsM} (hp : PosW C) : ∀ {N : List Int} {t : Int} {T : Nat → Int} {L : LkM} {D : List Nat} {r : LkM × List Nat}, (∀ n ∈ N, 0 ≤ n ∧ n < C.length) → LkI e C T t L D → FirstI e C t L D → (∀ k, (L.getD k none).isSome = true → k ∈ D) → firstL e C N t L D = .ok r →
  ∃ T1, ExtT L T T1 ∧ (∃ t1, LkI e C T1 t1 r.1 r.2) ∧ (∀ k, (r.1.getD k none).isSome = true → k ∈ r.2) ∧ ∀ (i : Nat) (n : Int), N[i]? = some n → AccP e C T1 r.1 (t + i) n.toNat (beginS e)
 | [], t, T, L, D, r, _, hI, _, ha, hf => by
  unfold firstL at hf
  injection hf with hf
  subst hf
  exact ⟨T, fun _ _ => rfl, ⟨t, hI⟩, ha, fun i n hi => by simp at hi⟩
 | n :: ns, t, T, L, D, r, hN, hI, h, ha, hf => by
  unfold firstL at hf
  have hn := hN n (.head _)
  split at hf
  ·cases hf
  ·rename_i L1 h1
   have hnl : n.toNat < L.length := by rw [h.len]; omega
   obtain ⟨g1, g2⟩ := handF_ext hnl h1
   obtain ⟨T1, q1, q2, q3⟩ := hand_lk hI hnl h1
   split at hf
   ·cases hf
   ·rename_i L2 D2 h2
    have hfu : C.length + 1 ≤ (C.length + 1 - D.length) + D.length := by have := h.dlen; omega
    obtain ⟨g3, g4, g5⟩ := loopF_ok hp (h.hand g1) hfu h2
    obtain ⟨T2, r1, r2⟩ := loop_lk hp q2 (h.hand g1) hfu h2
    have hN' : ∀ m ∈ ns, 0 ≤ m ∧ m < C.length := fun m hm => hN m (.tail _ hm)
    have g3' := g3.up (by omega : t ≤ t + 1)
    have hI2 : LkI e C T2 (t + 1) L2 D2 := ⟨fun k hk => ⟨by have := (r2.le k hk).1; omega, fun hnk => absurd (g5 k hk) hnk⟩, r2.ok, r2.st⟩
    obtain ⟨L', D'⟩ := r
    obtain ⟨_, g7, _⟩ := firstL_ok hp hN' g3' g5 hf
    obtain ⟨T3, s1, s2, s3, s4⟩ := firstL_lk hp hN' hI2 g3' g5 hf
    refine ⟨T3, fun j hj => ((s1 j (g4.some (g1.some hj))).trans (r1 j (g1.some hj))).trans (q1 j hj), s2, s3, fun i m hi => ?_⟩
    cases i with
    | zero =>
     simp only [List.getElem?_cons_zero, Option.some.injEq] at hi
     subst hi
     have := (q3.ext g4 r1).ext g7 s1
     simpa using this
    | succ i =>
     have := s4 i m (by simpa using hi)
     rwa [show t + ((i + 1 : Nat) : Int) = t + 1 + i by omega]
theorem first_good {e : Bool} {C : List InsM} {N : List Int} (hc : chkF e C N = (0, 0)) {r : LkM × List Nat} (hf : firstF e C N = .ok r) : GoodF e C N := by
 obtain ⟨_, hr, hN⟩ := chkF_ok hc
 have hp : PosW C := fun k hk j hj => (ways_in hr hk j hj).1
 have hn : ∀ k, ¬ ((List.replicate C.length (none : Option StM)).getD k none).isSome = true := fun k hk => by rw [init_none] at hk; cases hk
 obtain ⟨T, _, ⟨t1, hI⟩, hall, hent⟩ := firstL_lk (T := fun _ => 0) hp hN ⟨fun k hk => absurd hk (hn k), fun k hk => (by cases hk), fun k hk => (by cases hk)⟩ (FirstI.init e C) (fun k hk => absurd hk (hn k)) hf
 have acc : ∀ (t t' : Int) k s, t ≤ t' → AccP e C T r.1 t k s → k ∈ r.2 ∧ T k ≤ t' ∧ (standF e (insAt C k) s t').2 = true ∧ (standF e (insAt C k) s t').1 = (standF e (insAt C k) (stAt r.1 k) (T k)).1 := fun t t' k s htt ⟨s0, h1, h2, h3⟩ => by
  have hD := hall k (by rw [h1]; rfl)
  obtain ⟨g1, _, _⟩ := hI.ok k hD
  have hst : stAt r.1 k = s0 := by unfold stAt; rw [h1]; rfl
  rw [hst] at g1 ⊢
  refine ⟨hD, by omega, ?_⟩
  rcases h3 with rfl | ⟨h3, h4⟩
  ·have := stand_mono g1 (show T k ≤ t' by omega)
   rw [this]; exact ⟨g1, rfl⟩
  ·have m1 := stand_mono h3 htt
   have m2 := stand_mono g1 h2
   rw [m1]
   exact ⟨h3, by rw [← h4, m2]⟩
 have key : ∀ t k s, Hd e C N t k s → k ∈ r.2 ∧ T k ≤ t ∧ (standF e (insAt C k) s t).2 = true ∧ (standF e (insAt C k) s t).1 = (standF e (insAt C k) (stAt r.1 k) (T k)).1 := fun t k s h => by
  induction h with
  | entry hi =>
   have := hent _ _ hi
   rw [Int.zero_add] at this
   exact acc _ _ _ _ (Int.le_refl _) this
  | way _ hw ih =>
   obtain ⟨h1, h2, h3, h4⟩ := ih
   obtain ⟨_, _, g3⟩ := hI.ok _ h1
   rw [h4]
   exact acc _ _ _ _ h2 (g3 _ _ hw)
 intro t k s h
 obtain ⟨h1, h2, h3, h4⟩ := key t k s h
 refine ⟨h3, (hI.ok k h1).2.1, fun t' s' h' => ?_⟩
 obtain ⟨_, _, _, g4⟩ := key t' k s' h'
 rw [h4, g4]
end Go.Proofs.Ytjeplogcfedmeaa
end
section
namespace Go.Proofs.Ytjeplogcfedmeaa
open Go.RowKit
set_option maxRecDepth 100000
set_option maxHeartbeats 8000000
def shI (kk : Nat) (n : Int) : Int := if (kk : Int) < n then n + 1 else n
def shN (kk k : Nat) : Nat := if kk < k then k + 1 else k
def unN (kk k : Nat) : Nat := if k ≤ kk + 1 then k else k - 1
def shX (kk : Nat) (x : InsM) : InsM := if tgF x.op = true then { x with b := shI kk x.b } else x
def jmpC (C : List InsM) (kk : Nat) : List InsM := (C.take (kk + 1)).map (shX kk) ++ ⟨19, 0, (kk : Int) + 2, 0⟩ :: (C.drop (kk + 1)).map (shX kk)
section
variable {kk : Nat}
theorem shI_nat (k : Nat) : shI kk (k : Int) = (shN kk k : Nat) := by
 unfold shI shN
 split <;> split <;> omega
theorem shI_toNat {n : Int} (h : 0 ≤ n) : (shI kk n).toNat = shN kk n.toNat := by
 unfold shI shN
 split <;> split <;> omega
theorem un_sh (k : Nat) : unN kk (shN kk k) = k := by
 unfold unN shN
 split <;> split <;> omega
theorem sh_un {k : Nat} (h : k ≠ kk + 1) : shN kk (unN kk k) = k := by
 unfold unN shN
 split <;> split <;> omega
theorem sh_ne (k : Nat) : shN kk k ≠ kk + 1 := by
 unfold shN
 split <;> omega
theorem op_sh (x : InsM) : (shX kk x).op = x.op := by unfold shX; split <;> rfl
theorem a_sh (x : InsM) : (shX kk x).a = x.a := by unfold shX; split <;> rfl
theorem c_sh (x : InsM) : (shX kk x).c = x.c := by unfold shX; split <;> rfl
theorem b_sh {x : InsM} (h : tgF x.op = true) : (shX kk x).b = shI kk x.b := by unfold shX; rw [if_pos h]
theorem x_sh {x : InsM} (h : ¬ tgF x.op = true) : shX kk x = x := by unfold shX; rw [if_neg h]
theorem jmpC_len {C : List InsM} (h : kk < C.length) : (jmpC C kk).length = C.length + 1 := by
 simp [jmpC]; omega
theorem insAt_sh {C : List InsM} (h : kk < C.length) (k : Nat) : insAt (jmpC C kk) (shN kk k) = shX kk (insAt C k) := by
 have hl : ((C.take (kk + 1)).map (shX kk)).length = kk + 1 := by simp; omega
 unfold insAt shN jmpC
 by_cases hk : kk < k
 ·rw [if_pos hk, List.getD_eq_getElem?_getD, List.getElem?_append_right (by omega), hl, show k + 1 - (kk + 1) = (k - kk - 1) + 1 by omega, List.getElem?_cons_succ, List.getElem?_map, List.getElem?_drop, show kk + 1 + (k - kk - 1) = k by omega, List.getD_eq_getElem?_getD]
  cases C[k]? <;> rfl
 ·rw [if_neg hk, List.getD_eq_getElem?_getD, List.getElem?_append_left (by omega), List.getElem?_map, List.getElem?_take_of_lt (by omega), List.getD_eq_getElem?_getD]
  cases C[k]? <;> rfl
theorem insAt_jmp {C : List InsM} (h : kk < C.length) : insAt (jmpC C kk) (kk + 1) = ⟨19, 0, (kk : Int) + 2, 0⟩ := by
 have hl : ((C.take (kk + 1)).map (shX kk)).length = kk + 1 := by simp; omega
 unfold insAt jmpC
 rw [List.getD_eq_getElem?_getD, List.getElem?_append_right (by omega), hl, Nat.sub_self]
 rfl
theorem tg_ops {op : Int} (h : tgF op = true) : op = 7 ∨ op = 9 ∨ op = 11 ∨ op = 12 ∨ op = 13 ∨ op = 14 ∨ op = 15 ∨ op = 19 ∨ op = 40 ∨ op = 47 := by
 by_cases g : op = 7 ∨ op = 9 ∨ op = 11 ∨ op = 12 ∨ op = 13 ∨ op = 14 ∨ op = 15 ∨ op = 19 ∨ op = 40 ∨ op = 47
 ·exact g
 ·simp only [not_or] at g
  obtain ⟨g1, g2, g3, g4, g5, g6, g7, g8, g9, g10⟩ := g
  unfold tgF at h
  simp only [g1, g2, g3, g4, g5, g6, g7, g8, g9, g10, if_false] at h
  cases h
theorem stand_sh (e : Bool) (x : InsM) (s : StM) (t : Int) : standF e (shX kk x) s t = standF e x s t := by
 by_cases h : tgF x.op = true
 ·unfold shX
  rw [if_pos h]
  obtain ⟨op, a, b, c⟩ := x
  dsimp only at h ⊢
  rcases tg_ops h with rfl | rfl | rfl | rfl | rfl | rfl | rfl | rfl | rfl | rfl <;> cases e <;> rfl
 ·rw [x_sh h]
structure JmpOK (e : Bool) (C : List InsM) (N : List Int) (kk : Nat) : Prop where
 ok : ∀ k, k < C.length → rightF e C N k = true
 en : ∀ n ∈ N, 0 ≤ n ∧ n < C.length
 lt : kk + 1 < C.length
 nu : ¬ ((insAt C kk).op = 8 ∨ (insAt C kk).op = 41)
 na : (insAt C (kk + 1)).op ≠ 9
def adj (kk k : Nat) (x : InsM) (w : Nat) (j : Int) : Int := if k = kk ∧ w = 0 ∧ x.op ≠ 19 then (kk : Int) + 1 else shI kk j
variable {e : Bool} {C : List InsM} {N : List Int} (J : JmpOK e C N kk)
include J
theorem JmpOK.lt' : kk < C.length := by have := J.lt; omega
theorem ins_lt {k : Nat} (h : (insAt C k).op ≠ 0) : k < C.length := by
 rcases Nat.lt_or_ge k C.length with g | g
 ·exact g
 ·exfalso
  apply h
  unfold insAt
  rw [List.getD_eq_getElem?_getD, List.getElem?_eq_none g]
  rfl
theorem ways_sh (k w : Nat) : (waysF (jmpC C kk) (shN kk k) (shX kk (insAt C k)))[w]? = ((waysF C k (insAt C k))[w]?).map (adj kk k (insAt C k) w) := by
 have hnu := J.nu
 have hna := J.na
 obtain ⟨x, hx⟩ : ∃ x, insAt C k = x := ⟨_, rfl⟩
 have nxt : x.op ≠ 19 → ((shN kk k : Nat) : Int) + 1 = adj kk k x 0 ((k : Int) + 1) := fun h => by
  by_cases hk : k = kk
  ·have e1 : adj kk k x 0 ((k : Int) + 1) = (kk : Int) + 1 := by
    unfold adj
    rw [if_pos ⟨hk, rfl, h⟩]
   have e2 : shN kk k = k := by
    unfold shN
    rw [if_neg (by omega)]
   rw [e1, e2, hk]
  ·have e1 : adj kk k x 0 ((k : Int) + 1) = shI kk ((k : Int) + 1) := by
    unfold adj
    rw [if_neg (fun g => hk g.1)]
   rw [e1]
   unfold shI shN
   split <;> split <;> omega
 rw [hx]
 unfold waysF
 rw [op_sh]
 by_cases h19 : x.op = 19
 ·rw [if_pos h19, if_pos h19, b_sh (by rw [h19]; rfl)]
  cases w with
  | zero =>
   show some _ = some _
   unfold adj
   rw [if_neg (fun g => g.2.2 h19)]
  | succ w => rfl
 rw [if_neg h19, if_neg h19]
 by_cases h20 : x.op = 20 ∨ x.op = 9
 ·rw [if_pos h20, if_pos h20]; rfl
 rw [if_neg h20, if_neg h20]
 by_cases hu : x.op = 8 ∨ x.op = 41
 ·rw [if_pos hu, if_pos hu, a_sh]
  have hk : k < C.length := ins_lt J (by rw [hx]; omega)
  have hkk : k ≠ kk := fun g => by rw [g] at hx; rw [hx] at hnu; exact hnu hu
  have hr := J.ok k hk
  obtain ⟨a1, a2, a3, a4⟩ := right_arms hr (by rw [hx]; exact hu)
  rw [hx] at a1 a2 a3 a4
  have arm : ∀ n : Nat, (n : Int) < x.a → (insAt C (k + 1 + n)).op = 9 := fun n hn => armsOK_all a4 _ (List.mem_of_getElem? (armsL_get hn a3))
  have hno : kk < k ∨ (k : Int) + x.a ≤ kk := by
   rcases Nat.lt_or_ge kk k with g | g
   ·exact .inl g
   ·right
    rcases Int.lt_or_le (kk : Int) ((k : Int) + x.a) with g2 | g2
    ·exfalso
     have := arm (kk - k) (by omega)
     rw [show k + 1 + (kk - k) = kk + 1 by omega] at this
     exact hna this
    ·exact g2
  rw [List.getElem?_map, List.getElem?_map, Option.map_map]
  by_cases hw : w < x.a.toNat
  ·rw [List.getElem?_range hw]
   show some _ = some _
   have hs : shN kk k + 1 + w = shN kk (k + 1 + w) := by
    unfold shN
    split <;> split <;> omega
   have hl := jmpC_len (C := C) (J.lt')
   have h1 : shN kk (k + 1 + w) ≤ k + 1 + w + 1 := by unfold shN; split <;> omega
   show some ((((jmpC C kk)[shN kk k + 1 + w]?).map (·.b)).getD 0) = some (adj kk k x w (((C[k + 1 + w]?).map (·.b)).getD 0))
   rw [hs, wayArm_eq (C := C) (by omega)]
   have h2 : (((jmpC C kk)[shN kk (k + 1 + w)]?).map (·.b)).getD 0 = (insAt (jmpC C kk) (shN kk (k + 1 + w))).b := by
    have : shN kk (k + 1 + w) < (jmpC C kk).length := by rw [hl]; omega
    simp [insAt, List.getD, this]
   rw [h2, insAt_sh J.lt', b_sh (by rw [arm w (by omega)]; rfl)]
   unfold adj
   rw [if_neg (fun g => hkk g.1)]
  ·rw [List.getElem?_eq_none (by rw [List.length_range]; omega)]; rfl
 rw [if_neg hu, if_neg hu]
 by_cases h2 : x.op = 7 ∨ x.op = 11 ∨ x.op = 12 ∨ x.op = 13 ∨ x.op = 14 ∨ x.op = 15 ∨ x.op = 40 ∨ x.op = 47
 ·rw [if_pos h2, if_pos h2]
  have ht : tgF x.op = true := by rcases h2 with g | g | g | g | g | g | g | g <;> rw [g] <;> rfl
  rw [b_sh ht]
  match w with
  | 0 => exact congrArg some (nxt h19)
  | 1 =>
   show some _ = some _
   unfold adj
   rw [if_neg (fun g => by cases g.2.1)]
  | w + 2 => rfl
 ·rw [if_neg h2, if_neg h2]
  match w with
  | 0 => exact congrArg some (nxt h19)
  | w + 1 => rfl
theorem ways_pos {k w : Nat} {j : Int} (h : (waysF C k (insAt C k))[w]? = some j) : 0 ≤ j := by
 rcases Nat.lt_or_ge k C.length with g | g
 ·exact (ways_in J.ok g j (List.mem_of_getElem? h)).1
 ·have hz : insAt C k = ⟨0, 0, 0, 0⟩ := by
   unfold insAt
   rw [List.getD_eq_getElem?_getD, List.getElem?_eq_none g]
   rfl
  rw [hz] at h
  have h2 : ([(k : Int) + 1] : List Int)[w]? = some j := h
  have := List.mem_of_getElem? h2
  simp at this
  omega
theorem ways_next {w : Nat} {j : Int} (h : (waysF C kk (insAt C kk))[w]? = some j) (h0 : w = 0) (h19 : (insAt C kk).op ≠ 19) : j = (kk : Int) + 1 := by
 subst h0
 have hnu := J.nu
 unfold waysF at h
 rw [if_neg h19] at h
 by_cases h20 : (insAt C kk).op = 20 ∨ (insAt C kk).op = 9
 ·rw [if_pos h20] at h; cases h
 rw [if_neg h20, if_neg hnu] at h
 by_cases h2 : (insAt C kk).op = 7 ∨ (insAt C kk).op = 11 ∨ (insAt C kk).op = 12 ∨ (insAt C kk).op = 13 ∨ (insAt C kk).op = 14 ∨ (insAt C kk).op = 15 ∨ (insAt C kk).op = 40 ∨ (insAt C kk).op = 47
 ·rw [if_pos h2] at h
  injection h with h
  exact h.symm
 ·rw [if_neg h2] at h
  injection h with h
  exact h.symm
theorem jump_ways (w : Nat) (j : Int) : (waysF (jmpC C kk) (kk + 1) (insAt (jmpC C kk) (kk + 1)))[w]? = some j ↔ w = 0 ∧ j = (kk : Int) + 2 := by
 rw [insAt_jmp J.lt']
 show ([(kk : Int) + 2] : List Int)[w]? = some j ↔ _
 cases w with
 | zero => simp; exact ⟨fun h => h.symm, fun h => h.symm⟩
 | succ w => simp
theorem new_way {k w : Nat} {j' : Int} : (waysF (jmpC C kk) (shN kk k) (insAt (jmpC C kk) (shN kk k)))[w]? = some j' ↔ ∃ j, (waysF C k (insAt C k))[w]? = some j ∧ j' = adj kk k (insAt C k) w j := by
 rw [insAt_sh J.lt', ways_sh J]
 cases (waysF C k (insAt C k))[w]? with
 | none => simp
 | some j =>
  simp only [Option.map_some, Option.some.injEq]
  exact ⟨fun h => ⟨j, rfl, h.symm⟩, fun ⟨i, h1, h2⟩ => by rw [h2, h1]⟩
theorem adj_cases {k w : Nat} {j : Int} (h : (waysF C k (insAt C k))[w]? = some j) : (adj kk k (insAt C k) w j).toNat = shN kk j.toNat ∨ k = kk ∧ w = 0 ∧ (insAt C k).op ≠ 19 ∧ j = (kk : Int) + 1 ∧ adj kk k (insAt C k) w j = (kk : Int) + 1 := by
 unfold adj
 by_cases g : k = kk ∧ w = 0 ∧ (insAt C k).op ≠ 19
 ·obtain ⟨rfl, g2, g3⟩ := g
  rw [if_pos ⟨rfl, g2, g3⟩]
  exact .inr ⟨rfl, g2, g3, ways_next J h g2 g3, rfl⟩
 ·rw [if_neg g]
  exact .inl (shI_toNat (ways_pos J h))
theorem un_adj {k w : Nat} {j : Int} (h : (waysF C k (insAt C k))[w]? = some j) : unN kk (adj kk k (insAt C k) w j).toNat = j.toNat := by
 rcases adj_cases J h with g | ⟨_, _, _, g1, g2⟩
 ·rw [g, un_sh]
 ·rw [g2, g1]
  unfold unN
  rw [if_pos (by omega)]
theorem handT_sh (k : Nat) (s : StM) (t : Int) (w : Nat) : handT (insAt (jmpC C kk) (shN kk k)) (standF e (insAt (jmpC C kk) (shN kk k)) s t).1 w = handT (insAt C k) (standF e (insAt C k) s t).1 w := by
 rw [insAt_sh J.lt', stand_sh]
 unfold handT armsB
 rw [op_sh]
theorem stand_jump (s : StM) (t : Int) : standF e (insAt (jmpC C kk) (kk + 1)) s t = (both s, true) := by
 rw [insAt_jmp J.lt']
 cases e <;> rfl
theorem hd_up {t k : Nat} {s : StM} (h : Hd e C N t k s) : Hd e (jmpC C kk) (N.map (shI kk)) t (shN kk k) s := by
 induction h with
 | @entry n hi =>
  have h0 := (J.en _ (List.mem_of_getElem? hi)).1
  rw [← shI_toNat h0]
  exact .entry (by rw [List.getElem?_map, hi]; rfl)
 | @way k s w j _ hw ih =>
  have h1 := (new_way J).2 ⟨j, hw, rfl⟩
  have h2 := Hd.way ih h1
  rw [handT_sh J] at h2
  rcases adj_cases J hw with g | ⟨g1, g2, g3, g4, g5⟩
  ·rwa [g] at h2
  ·rw [g5] at h2
   have h3 : Hd e (jmpC C kk) (N.map (shI kk)) t (kk + 1) (handT (insAt C k) (standF e (insAt C k) s t).1 w) := by
    have : ((kk : Int) + 1).toNat = kk + 1 := by omega
    rwa [this] at h2
   have h4 := Hd.way h3 ((jump_ways J 0 _).2 ⟨rfl, rfl⟩)
   rw [stand_jump J] at h4
   rw [g4]
   have e1 : ((kk : Int) + 2).toNat = shN kk ((kk : Int) + 1).toNat := by unfold shN; split <;> omega
   rw [e1] at h4
   exact h4
theorem hd_dn {t k' : Nat} {s : StM} (h : Hd e (jmpC C kk) (N.map (shI kk)) t k' s) : Hd e C N t (unN kk k') s := by
 induction h with
 | @entry n hi =>
  rw [List.getElem?_map] at hi
  obtain ⟨m, hm, rfl⟩ := Option.map_eq_some_iff.1 hi
  rw [shI_toNat (J.en _ (List.mem_of_getElem? hm)).1, un_sh]
  exact .entry hm
 | @way k' s w j' _ hw ih =>
  by_cases hk : k' = kk + 1
  ·subst hk
   obtain ⟨rfl, rfl⟩ := (jump_ways J _ _).1 hw
   rw [stand_jump J]
   have e1 : unN kk ((kk : Int) + 2).toNat = unN kk (kk + 1) := by unfold unN; split <;> split <;> omega
   rw [e1]
   exact ih
  ·obtain ⟨k, rfl⟩ : ∃ k, k' = shN kk k := ⟨_, (sh_un hk).symm⟩
   rw [un_sh] at ih
   obtain ⟨j, hj, rfl⟩ := (new_way J).1 hw
   rw [un_adj J hj, handT_sh J]
   exact .way ih hj
theorem jump_src {t : Nat} {s : StM} (h : Hd e (jmpC C kk) (N.map (shI kk)) t (kk + 1) s) : ∃ s0, Hd e C N t kk s0 ∧ s = handT (insAt C kk) (standF e (insAt C kk) s0 t).1 0 := by
 generalize hK : kk + 1 = K at h
 cases h with
 | @entry n hi =>
  exfalso
  rw [List.getElem?_map] at hi
  obtain ⟨m, hm, rfl⟩ := Option.map_eq_some_iff.1 hi
  rw [shI_toNat (J.en _ (List.mem_of_getElem? hm)).1] at hK
  exact sh_ne _ hK.symm
 | @way k' s0 w j' h0 hw =>
  by_cases hk : k' = kk + 1
  ·exfalso
   subst hk
   obtain ⟨rfl, rfl⟩ := (jump_ways J _ _).1 hw
   omega
  ·obtain ⟨k, rfl⟩ : ∃ k, k' = shN kk k := ⟨_, (sh_un hk).symm⟩
   obtain ⟨j, hj, rfl⟩ := (new_way J).1 hw
   rcases adj_cases J hj with g | ⟨rfl, rfl, _, _, _⟩
   ·rw [g] at hK
    exact absurd hK.symm (sh_ne _)
   ·rw [handT_sh J]
    have := hd_dn J h0
    rw [un_sh] at this
    exact ⟨s0, this, rfl⟩
theorem good_up (hG : GoodF e C N) : GoodF e (jmpC C kk) (N.map (shI kk)) := by
 intro t k' s h
 have hl := jmpC_len (C := C) J.lt'
 have hlt := J.lt
 by_cases hk : k' = kk + 1
 ·subst hk
  refine ⟨by rw [stand_jump J], fun j hj => ?_, fun t' s' h' => ?_⟩
  ·obtain ⟨w, hw⟩ := List.mem_iff_getElem?.1 hj
   obtain ⟨_, rfl⟩ := (jump_ways J _ _).1 hw
   omega
  ·obtain ⟨s0, q1, rfl⟩ := jump_src J h
   obtain ⟨s1, q2, rfl⟩ := jump_src J h'
   rw [stand_jump J, stand_jump J, (hG t kk s0 q1).2.2 t' s1 q2]
 ·obtain ⟨k, rfl⟩ : ∃ k, k' = shN kk k := ⟨_, (sh_un hk).symm⟩
  have hd := hd_dn J h
  rw [un_sh] at hd
  obtain ⟨g1, g2, g3⟩ := hG t k s hd
  rw [insAt_sh J.lt']
  refine ⟨by rw [stand_sh]; exact g1, fun j' hj => ?_, fun t' s' h' => ?_⟩
  ·obtain ⟨w, hw⟩ := List.mem_iff_getElem?.1 hj
   rw [← insAt_sh J.lt'] at hw
   obtain ⟨j, hj2, rfl⟩ := (new_way J).1 hw
   have := g2 j (List.mem_of_getElem? hj2)
   unfold adj shI
   split
   ·omega
   ·split <;> omega
  ·have hd' := hd_dn J h'
   rw [un_sh] at hd'
   rw [stand_sh, stand_sh]
   exact g3 t' s' hd'
theorem good_dn (hG : GoodF e (jmpC C kk) (N.map (shI kk))) : GoodF e C N := by
 intro t k s h
 have hl := jmpC_len (C := C) J.lt'
 have hlt := J.lt
 obtain ⟨g1, g2, g3⟩ := hG t _ s (hd_up J h)
 rw [insAt_sh J.lt', stand_sh] at g1
 refine ⟨g1, fun j hj => ?_, fun t' s' h' => ?_⟩
 ·obtain ⟨w, hw⟩ := List.mem_iff_getElem?.1 hj
  have := g2 _ (List.mem_of_getElem? ((new_way J).2 ⟨j, hw, rfl⟩))
  have hnx := ways_next J (w := w) (j := j)
  unfold adj at this
  split at this
  ·rename_i q
   obtain ⟨rfl, q2, q3⟩ := q
   have := hnx hw q2 q3
   omega
  ·unfold shI at this
   split at this <;> omega
 ·have := g3 t' s' (hd_up J h')
  rw [insAt_sh J.lt', stand_sh, stand_sh] at this
  exact this
end
end Go.Proofs.Ytjeplogcfedmeaa
end
section
namespace Go.Proofs.Ytjeplogcfedmeaa
open Go.RowKit
set_option maxRecDepth 100000
set_option maxHeartbeats 8000000
section
variable {kk : Nat} {e : Bool} {C : List InsM} {N : List Int} (J : JmpOK e C N kk)
include J
section
variable {g g' : Nat → Int → Bool} (hg : ∀ k w, g' (shN kk k) w = g k w) (hj : g' (kk + 1) 0 = true)
include hg
theorem step_dn {a' b' : Nat} (h : wayR (jmpC C kk) g' a' b') : (a' = kk + 1 ∧ b' = kk + 2) ∨ ∃ a, a' = shN kk a ∧ wayR C g a (unN kk b') := by
 obtain ⟨w, h1, h2⟩ := h
 by_cases hk : a' = kk + 1
 ·subst hk
  obtain ⟨_, q⟩ := (jump_ways J _ _).1 h1
  exact .inl ⟨rfl, by omega⟩
 ·obtain ⟨a, rfl⟩ : ∃ a, a' = shN kk a := ⟨_, (sh_un hk).symm⟩
  obtain ⟨j, hj, q⟩ := (new_way J).1 h1
  refine .inr ⟨a, rfl, w, ?_, by rw [← hg]; exact h2⟩
  have h0 := ways_pos J hj
  have := un_adj J hj
  rw [← q, Int.toNat_natCast] at this
  rw [hj, this]
  congr 1
  omega
theorem rch_dn {a b' : Nat} (h : Rch (wayR (jmpC C kk) g') (shN kk a) b') : Rch (wayR C g) a (unN kk b') := by
 generalize hK : shN kk a = K at h
 induction h with
 | one h =>
  subst hK
  rcases step_dn J hg h with ⟨q, _⟩ | ⟨a2, q, q2⟩
  ·exact absurd q (sh_ne _)
  ·have : a = a2 := by rw [← un_sh (kk := kk) a, q, un_sh]
   subst this
   exact .one q2
 | more _ h ih =>
  subst hK
  rcases step_dn J hg h with ⟨rfl, rfl⟩ | ⟨a2, rfl, q2⟩
  ·have e1 : unN kk (kk + 1) = kk + 1 := by unfold unN; rw [if_pos (by omega)]
   have e2 : unN kk (kk + 2) = kk + 1 := by unfold unN; rw [if_neg (by omega)]; omega
   rw [e1] at ih
   rw [e2]
   exact ih
  ·rw [un_sh] at ih
   exact .more ih q2
theorem come_dn {a b' : Nat} (h : Come (wayR (jmpC C kk) g') (shN kk a) b') : Come (wayR C g) a (unN kk b') := by
 rcases h with rfl | h
 ·rw [un_sh]; exact .inl rfl
 ·exact .inr (rch_dn J hg h)
include hj
theorem step_up {a b : Nat} (h : wayR C g a b) : Rch (wayR (jmpC C kk) g') (shN kk a) (shN kk b) := by
 obtain ⟨w, h1, h2⟩ := h
 have h3 := (new_way J).2 ⟨_, h1, rfl⟩
 have h4 : g' (shN kk a) w = true := by rw [hg]; exact h2
 by_cases q : a = kk ∧ w = 0 ∧ (insAt C a).op ≠ 19
 ·have ha : adj kk a (insAt C a) w b = ((kk + 1 : Nat) : Int) := by unfold adj; rw [if_pos q]; omega
  rw [ha] at h3
  obtain ⟨rfl, rfl, q3⟩ := q
  have hb := ways_next J h1 rfl q3
  have hb2 : b = a + 1 := by omega
  have e1 : shN a b = a + 2 := by unfold shN; rw [if_pos (by omega)]; omega
  rw [e1]
  exact .more (.one ⟨0, h3, h4⟩) ⟨0, (jump_ways J _ _).2 ⟨rfl, by omega⟩, hj⟩
 ·have ha : adj kk a (insAt C a) w b = ((shN kk b : Nat) : Int) := by unfold adj; rw [if_neg q, shI_nat]
  rw [ha] at h3
  exact .one ⟨w, h3, h4⟩
theorem rch_up {a b : Nat} (h : Rch (wayR C g) a b) : Rch (wayR (jmpC C kk) g') (shN kk a) (shN kk b) := by
 induction h with
 | one h => exact step_up J hg hj h
 | more _ h ih => exact ih.trans (step_up J hg hj h)
theorem come_up {a b : Nat} (h : Come (wayR C g) a b) : Come (wayR (jmpC C kk) g') (shN kk a) (shN kk b) := by
 rcases h with rfl | h
 ·exact .inl rfl
 ·exact .inr (rch_up J hg hj h)
end
theorem takes_sh (B : List Bool) (k : Nat) (w : Int) : takesF (jmpC C kk) B (shN kk k) w = takesF C B k w := by
 unfold takesF
 rw [insAt_sh J.lt', c_sh]
 unfold takesX
 rw [op_sh, a_sh]
theorem takes_jump (B : List Bool) (w : Int) : takesF (jmpC C kk) B (kk + 1) w = false := by
 unfold takesF
 rw [insAt_jmp J.lt']
 rfl
theorem bare_sh (B : List Bool) (k : Nat) (w : Int) : bareF (jmpC C kk) B (shN kk k) w = bareF C B k w := by unfold bareF; rw [takes_sh J]
theorem bare_jump (B : List Bool) : bareF (jmpC C kk) B (kk + 1) 0 = true := by unfold bareF; rw [takes_jump J]; rfl
theorem pays_sh (B : List Bool) (k : Nat) (w : Int) : paysF (jmpC C kk) B (shN kk k) w = paysF C B k w := by unfold paysF; rw [takes_sh J, insAt_sh J.lt', op_sh]
theorem pays_jump (B : List Bool) : paysF (jmpC C kk) B (kk + 1) 0 = true := by unfold paysF; rw [takes_jump J]; simp
theorem free_sh (B : List Bool) (k : Nat) : freeI (jmpC C kk) B (shN kk k) ↔ freeI C B k := by
 unfold freeI
 rw [insAt_sh J.lt', op_sh, c_sh]
theorem free_jump (B : List Bool) : ¬ freeI (jmpC C kk) B (kk + 1) := fun h => by
 unfold freeI at h
 rw [insAt_jmp J.lt'] at h
 exact absurd h.1 (show (19 : Int) ≠ 16 by decide)
theorem pay_sh (B : List Bool) (en : Nat) : payF (jmpC C kk) B (shN kk en) = payF C B en := by
 unfold payF
 congr 1
 refine propext ⟨fun h k hc => ?_, fun h k' hc => ?_⟩
 ·have := h _ (come_up J (pays_sh J B) (pays_jump J B) hc)
  rw [insAt_sh J.lt', op_sh] at this
  exact this
 ·by_cases hk : k' = kk + 1
  ·subst hk
   rw [insAt_jmp J.lt']
   show (19 : Int) ≠ 20
   decide
  ·have hd := h _ (come_dn J (pays_sh J B) hc)
   rw [← sh_un hk, insAt_sh J.lt', op_sh]
   exact hd
theorem bad_sh (B : List Bool) (en : Nat) : (∃ k, BadP e (jmpC C kk) B (shN kk en) k) ↔ ∃ k, BadP e C B en k := by
 have al : ∀ (k : Nat) (w : Int), alwaysF (shN kk k) w = alwaysF k w := fun _ _ => rfl
 constructor
 ·rintro ⟨k', hc, hb⟩
  by_cases hk : k' = kk + 1
  ·subst hk
   rcases hb with hb | ⟨_, _, hf, _⟩
   ·obtain ⟨b, h1, h2⟩ := hb.front
    have e1 : unN kk (kk + 1) = kk + 1 := by unfold unN; rw [if_pos (by omega)]
    have e2 : shN kk (kk + 1) = kk + 2 := by unfold shN; rw [if_pos (by omega)]
    rcases step_dn J (bare_sh J B) h1 with ⟨_, rfl⟩ | ⟨a, q, _⟩
    ·rcases h2 with h2 | h2
     ·omega
     ·have hcd := come_dn J al hc
      rw [← e2] at h2
      have hr := rch_dn J (bare_sh J B) h2
      rw [e1] at hcd hr
      exact ⟨kk + 1, hcd, .inl hr⟩
    ·exact absurd q.symm (sh_ne _)
   ·exact absurd hf (free_jump J B)
  ·obtain ⟨k, rfl⟩ : ∃ k, k' = shN kk k := ⟨_, (sh_un hk).symm⟩
   have hcd := come_dn J al hc
   rw [un_sh] at hcd
   refine ⟨k, hcd, ?_⟩
   rcases hb with hb | ⟨he, _, hf, hu⟩
   ·have := rch_dn J (bare_sh J B) hb
    rw [un_sh] at this
    exact .inl this
   ·refine .inr ⟨he, hcd, (free_sh J B k).1 hf, ?_⟩
    rcases hu with hu | hu | ⟨a', ha, hfa, hu⟩
    ·left
     rw [← un_sh (kk := kk) k, hu, un_sh]
    ·have := rch_dn J (bare_sh J B) hu
     rw [un_sh] at this
     exact .inr (.inl this)
    ·have hka : a' ≠ kk + 1 := fun g => by rw [g] at hfa; exact free_jump J B hfa
     obtain ⟨a, rfl⟩ : ∃ a, a' = shN kk a := ⟨_, (sh_un hka).symm⟩
     have h1 := come_dn J al ha
     have h2 := rch_dn J (bare_sh J B) hu
     rw [un_sh] at h1 h2
     exact .inr (.inr ⟨a, h1, (free_sh J B a).1 hfa, h2⟩)
 ·rintro ⟨k, hc, hb⟩
  have hcu := come_up (g' := alwaysF) J al rfl hc
  refine ⟨shN kk k, hcu, ?_⟩
  rcases hb with hb | ⟨he, _, hf, hu⟩
  ·exact .inl (rch_up J (bare_sh J B) (bare_jump J B) hb)
  ·refine .inr ⟨he, hcu, (free_sh J B k).2 hf, ?_⟩
   rcases hu with hu | hu | ⟨a, ha, hfa, hu⟩
   ·exact .inl (by rw [hu])
   ·exact .inr (.inl (rch_up J (bare_sh J B) (bare_jump J B) hu))
   ·exact .inr (.inr ⟨shN kk a, come_up (g' := alwaysF) J al rfl ha, (free_sh J B a).2 hfa, rch_up J (bare_sh J B) (bare_jump J B) hu⟩)
theorem sec_sh : ∀ {ns : List Int} {B : List Bool}, (∀ n ∈ ns, 0 ≤ n) → (SecI e (jmpC C kk) (ns.map (shI kk)) B (-1) ↔ SecI e C ns B (-1))
 | [], _, _ => Iff.rfl
 | n :: ns, B, hn => by
  have h0 := hn n (.head _)
  have hb := bad_sh J B n.toNat
  have ih := sec_sh (ns := ns) (B := B ++ [payF C B n.toNat]) fun m hm => hn m (.tail _ hm)
  have no : ∀ {p : Nat → Prop}, ¬ MinP p (-1) := fun ⟨k, h, _⟩ => by omega
  show (MinP (BadP e (jmpC C kk) B (shI kk n).toNat) (-1) ∨ (¬ ∃ k, BadP e (jmpC C kk) B (shI kk n).toNat k) ∧ SecI e (jmpC C kk) (ns.map (shI kk)) (B ++ [payF (jmpC C kk) B (shI kk n).toNat]) (-1)) ↔ (MinP (BadP e C B n.toNat) (-1) ∨ (¬ ∃ k, BadP e C B n.toNat k) ∧ SecI e C ns (B ++ [payF C B n.toNat]) (-1))
  rw [shI_toNat h0, hb, pay_sh J, ih]
  exact ⟨fun h => h.imp (fun g => absurd g no) id, fun h => h.imp (fun g => absurd g no) id⟩
end
def tellB (n : Nat) (f : FormM) : Bool := !f.known || !tgF n || !(decide (f.name = kindU) || decide (f.name = kindN') || decide (f.name = kindP) || decide (f.name = kindO) || decide (f.name = kindC))
theorem tell_b : (List.range 48).all (fun n => tellB n (formF true n) && tellB n (formF false n)) = true := by decide +kernel
theorem rest_tg {e : Bool} {op : Int} (h : (formF e op).known = true) (ht : tgF op = true) (C : List InsM) (k : Nat) (x : InsM) : restF (formF e op).name C k x = true := by
 obtain ⟨n, rfl, hn⟩ : ∃ n : Nat, op = n ∧ n < 48 := by
  by_cases g : op < 0 ∨ 48 ≤ op
  ·rw [formF_out e g] at h; cases h
  ·exact ⟨op.toNat, by omega, by omega⟩
 have hb : tellB n (formF e n) = true := by
  have := List.all_eq_true.1 tell_b n (List.mem_range.2 hn)
  rw [Bool.and_eq_true] at this
  cases e
  ·exact this.2
  ·exact this.1
 unfold tellB at hb
 rw [h, ht] at hb
 simp only [Bool.not_true, Bool.false_or, Bool.not_eq_true', Bool.or_eq_false_iff, decide_eq_false_iff_not] at hb
 obtain ⟨⟨⟨⟨h1, h2⟩, h3⟩, h4⟩, h5⟩ := hb
 unfold restF
 rw [if_neg h1, if_neg h2, if_neg h3, if_neg (by rintro (g | g); exact h4 g; exact h5 g)]
theorem armsOK_sh (kk : Nat) : ∀ (l R : List InsM), armsOK (l.map (shX kk)) (R.map (shX kk)) = armsOK l R
 | l, [] => rfl
 | l, y :: R => by
  have ih := armsOK_sh kk (l ++ [y]) R
  rw [List.map_append] at ih
  show (decide ((shX kk y).op = 9) && !((l.map (shX kk)).any (sameA (shX kk y))) && armsOK (l.map (shX kk) ++ [shX kk y]) (R.map (shX kk))) = (decide (y.op = 9) && !(l.any (sameA y)) && armsOK (l ++ [y]) R)
  rw [op_sh, List.any_map]
  have e1 : (sameA (shX kk y) ∘ shX kk) = sameA y := by
   funext z
   show decide ((shX kk z).a = (shX kk y).a) = decide (z.a = y.a)
   rw [a_sh, a_sh]
  rw [e1]
  congr 1
theorem shI_in {kk m : Nat} {n : Int} (h : 0 ≤ n ∧ n < m) : 0 ≤ shI kk n ∧ shI kk n < ((m + 1 : Nat) : Int) := by
 unfold shI
 split <;> omega
theorem right_sh {kk : Nat} {e : Bool} {C : List InsM} {N : List Int} (J : JmpOK e C N kk) {k : Nat} (hk : k < C.length) : rightF e (jmpC C kk) (N.map (shI kk)) (shN kk k) = true := by
 have hl := jmpC_len (C := C) J.lt'
 have h := J.ok k hk
 obtain ⟨h1, h2, h3, h4, h5⟩ := right_parts h
 have T := lett h1
 have hlen : (N.map (shI kk)).length = N.length := List.length_map ..
 have q3 : mayF (jmpC C kk).length N.length (bAt (formF e (insAt C k).op).has 1) (shX kk (insAt C k)).b = true := by
  by_cases gt : tgF (insAt C k).op = true
  ·rw [T.b1 gt] at h3 ⊢
   have := may_t h3
   rw [b_sh gt]
   have := shI_in (kk := kk) this
   exact may_116 (by rw [hl]; exact this)
  ·rw [may_plain (T.b0 gt) _ _ C.length N.length, x_sh gt]; exact h3
 have q4 : mayF (jmpC C kk).length N.length (bAt (formF e (insAt C k).op).has 2) (insAt C k).c = true := by
  by_cases gt : callB (insAt C k).op = true
  ·rw [T.c1 gt] at h4 ⊢
   exact h4
  ·rw [may_plain (T.c0 gt) _ _ C.length N.length]; exact h4
 have q5 : restF (formF e (insAt C k).op).name (jmpC C kk) (shN kk k) (shX kk (insAt C k)) = true := by
  by_cases gt : tgF (insAt C k).op = true
  ·exact rest_tg h1 gt _ _ _
  ·rw [x_sh gt]
   by_cases hu : (insAt C k).op = 8 ∨ (insAt C k).op = 41
   ·obtain ⟨a1, a2, a3, a4⟩ := right_arms h hu
    have hkk : k ≠ kk := fun g => by rw [g] at hu; exact J.nu hu
    have arm : ∀ n : Nat, (n : Int) < (insAt C k).a → (insAt C (k + 1 + n)).op = 9 := fun n hn => armsOK_all a4 _ (List.mem_of_getElem? (armsL_get hn a3))
    have hno : kk < k ∨ (k : Int) + (insAt C k).a ≤ kk := by
     rcases Nat.lt_or_ge kk k with g | g
     ·exact .inl g
     ·right
      rcases Int.lt_or_le (kk : Int) ((k : Int) + (insAt C k).a) with g2 | g2
      ·exfalso
       have := arm (kk - k) (by omega)
       rw [show k + 1 + (kk - k) = kk + 1 by omega] at this
       exact J.na this
      ·exact g2
    have hsk : ((shN kk k : Nat) : Int) + (insAt C k).a < (jmpC C kk).length := by
     rw [hl]; unfold shN; split <;> omega
    have hL : armsL (jmpC C kk) (shN kk k) (insAt C k).a = (armsL C k (insAt C k).a).map (shX kk) := by
     refine List.ext_getElem? fun i => ?_
     by_cases hi : (i : Int) < (insAt C k).a
     ·have hs : shN kk k + 1 + i = shN kk (k + 1 + i) := by
       unfold shN
       split <;> split <;> omega
      rw [armsL_get hi hsk, List.getElem?_map, armsL_get hi a3, hs, insAt_sh J.lt']
      rfl
     ·have l1 : ∀ (X : List InsM) (m : Nat), (m : Int) + (insAt C k).a < X.length → (armsL X m (insAt C k).a).length = (insAt C k).a.toNat := fun X m hX => by
       unfold armsL
       rw [List.length_drop, List.length_take]; omega
      rw [List.getElem?_eq_none (by rw [l1 _ _ hsk]; omega), List.getElem?_eq_none (by rw [List.length_map, l1 _ _ a3]; omega)]
    rw [restF_O (T.n.2 hu), if_neg (by omega), hL]
    have := armsOK_sh kk [] (armsL C k (insAt C k).a)
    rw [List.map_nil] at this
    rw [this]; exact a4
   ·have hn : ¬ ((formF e (insAt C k).op).name = kindO ∨ (formF e (insAt C k).op).name = kindC) := fun g => hu (T.n.1 g)
    unfold restF at h5 ⊢
    rw [if_neg hn] at h5 ⊢
    exact h5
 unfold rightF mayB
 dsimp only
 rw [insAt_sh J.lt', op_sh, a_sh, c_sh, h1, hlen, q3, q4, q5, may_plain T.a (jmpC C kk).length N.length C.length N.length, h2]
 rfl
theorem chk_jmp {kk : Nat} {e : Bool} {C : List InsM} {N : List Int} (J : JmpOK e C N kk) (hN : N.length ≤ 1048576) (h100 : C.length ≤ 1000000) : chkF e (jmpC C kk) (N.map (shI kk)) = (0, 0) := by
 have hl := jmpC_len (C := C) J.lt'
 refine chkF_iff.2 ⟨⟨by omega, by rw [List.length_map]; exact hN⟩, fun k' hk' => ?_, fun n hn => ?_⟩
 ·by_cases hk : k' = kk + 1
  ·subst hk
   have h116 : mayF (jmpC C kk).length (N.map (shI kk)).length 116 ((kk : Int) + 2) = true := may_116 (by have := J.lt; omega)
   unfold rightF mayB
   dsimp only
   rw [insAt_jmp J.lt']
   cases e
   ·show (true && (true && mayF (jmpC C kk).length (N.map (shI kk)).length 116 ((kk : Int) + 2) && true) && true) = true
    rw [h116]; rfl
   ·show (true && (true && mayF (jmpC C kk).length (N.map (shI kk)).length 116 ((kk : Int) + 2) && true) && true) = true
    rw [h116]; rfl
  ·rw [← sh_un hk]
   refine right_sh J ?_
   have : shN kk (unN kk k') < C.length + 1 := by rw [sh_un hk]; omega
   have := J.lt
   unfold shN at *
   split at * <;> omega
 ·obtain ⟨m, hm, rfl⟩ := List.mem_map.1 hn
  have := shI_in (kk := kk) (J.en m hm)
  rw [hl]; exact this
theorem jump_ver {kk : Nat} {e : Bool} {C : List InsM} {N : List Int} (hc : chkF e C N = (0, 0)) (J : JmpOK e C N kk) (h100 : C.length ≤ 1000000) : (verF e (jmpC C kk) (N.map (shI kk))).1 = 0 ↔ (verF e C N).1 = 0 := by
 obtain ⟨hlen, _, _⟩ := chkF_ok hc
 have hc' := chk_jmp J hlen.2 h100
 have key : ∀ {C : List InsM} {N : List Int}, chkF e C N = (0, 0) → ((verF e C N).1 = 0 ↔ (∃ r, firstF e C N = .ok r) ∧ SecI e C N [] (-1)) := fun {C N} hc => by
  constructor
  ·intro hv
   obtain ⟨_, h2, h3, _⟩ := ver_ok hv
   have := secF_spec e C N
   rw [secI_neg this h3] at this
   exact ⟨h2, this⟩
  ·rintro ⟨⟨r, hr⟩, hs⟩
   have : secF e C N = -1 := SecI.uniq (secF_spec e C N) hs
   unfold verF
   rw [hc, if_neg (by decide), hr, this]
   rfl
 rw [key hc', key hc, sec_sh J fun n hn => (J.en n hn).1]
 refine and_congr_left fun _ => ⟨fun ⟨r, hr⟩ => good_first hc (good_dn J (first_good hc' hr)), fun ⟨r, hr⟩ => good_first hc' (good_up J (first_good hc hr))⟩
end Go.Proofs.Ytjeplogcfedmeaa
end
section
namespace Go.Proofs.Ytjeplogcfedmeaa
open Go.RowKit
set_option maxRecDepth 100000
set_option maxHeartbeats 8000000
theorem now_G (kk : Nat) (n : Int) (hn : -4611686018427387904 ≤ n ∧ n ≤ 4611686018427387904) : GCall Try.prog 20 [vI n, .ptr 1 10001 0 0] [(10001, .var [vI kk])] (vI (shI kk n)) [(10001, .var [vI kk])] := by
 have hw := wrap_i64 (n := n + 1) (by omega)
 unfold shI
 by_cases h : (kk : Int) < n
 ·have e1 : (n > (kk : Int)) = True := eq_true h
  rw [if_pos h]
  refine go_fnG (tyOf_ok _) Try.func20 rfl rfl (by rw [Try.results20]) Try.ntmps20 rfl fun E => ?_
  (repeat' (first | exact trivial | (with_reducible first | apply awA | apply awD | apply awF | apply awG) | ((with_reducible first | apply awn | refine awQ ?_ | refine awT ?_); intro r hr; simp only [go_sem, Nat.reduceBEq, Nat.reduceLT, Nat.reduceLeDiff, Nat.reduceMul, e1, hw] at hr; subst hr; (first | refine awV ?_ ?_ | refine endGK ?_ ?_ ?_ | (refine condK (fun h => ?_) (fun h => ?_) <;> (try simp only [go_sem, reduceCtorEq] at h) <;> (try (exfalso; omega))))))) <;> (try omega)
  all_goals first | exact AV.up_rfl _ | (repeat first | exact obUp_nil | refine obUp_cons rfl ?_)
 ·have e1 : (n > (kk : Int)) = False := eq_false h
  rw [if_neg h]
  refine go_fnG (tyOf_ok _) Try.func20 rfl rfl (by rw [Try.results20]) Try.ntmps20 rfl fun E => ?_
  (repeat' (first | exact trivial | (with_reducible first | apply awA | apply awC | apply awD | apply awF) | ((with_reducible first | apply awn | refine awQ ?_ | refine awT ?_); intro r hr; simp only [go_sem, Nat.reduceBEq, Nat.reduceLT, Nat.reduceLeDiff, Nat.reduceMul, e1] at hr; subst hr; (first | refine awV ?_ ?_ | refine endGK ?_ ?_ ?_ | (refine condK (fun h => ?_) (fun h => ?_) <;> (try simp only [go_sem, reduceCtorEq] at h) <;> (try (exfalso; omega))))))) <;> (try omega)
  all_goals first | exact AV.up_rfl _ | (repeat first | exact obUp_nil | refine obUp_cons rfl ?_)
def apartF (C : List InsM) (kk : Nat) : Bool := !(decide ((insAt C kk).op = 8) || decide ((insAt C kk).op = 41)) && !decide ((insAt C (kk + 1)).op = 9)
theorem apart_any (e : Bool) (C : List InsM) (N : List Int) (kk : Nat) (h : kk + 1 < C.length) (hC : C.length ≤ 1000000) : PCall Try.prog 11 [pG e C N, vI kk] (fun r => r = vB (apartF C kk)) := by
 have g0 := insAt_get4 (show kk < C.length by omega)
 have g1 := insAt_get4 h
 have w1 := wrap_i64 (n := (kk : Int) + 1) (by omega)
 have z0 : ((kk : Int)).toNat = kk := by omega
 have z1 : ((kk : Int) + 1).toNat = kk + 1 := by omega
 have e1 : ((kk : Int) + 1 ≥ (C.length : Int)) = False := eq_false (by omega)
 unfold pG apartF
 by_cases h8 : (insAt C kk).op = 8
 ·refine go_fn (tyOf_ok _) Try.func11 rfl rfl (by rw [Try.results11]) Try.ntmps11 rfl fun E => ?_
  (repeat' (first | exact trivial | (with_reducible first | apply awA | apply awD | apply awF | apply awG) | ((with_reducible first | apply awn | refine awQ ?_ | refine awR ?_); intro r hr; simp only [go_sem, Nat.reduceBEq, Nat.reduceLT, Nat.reduceLeDiff, Nat.reduceAdd, Nat.reduceMul, reduceCtorEq, g0, z0, h8, encIs_len, Int.reduceEq] at hr; subst hr; (first | refine awV ?_ ?_ | refine endK ?_ ?_ | (refine condK (fun h => ?_) (fun h => ?_) <;> (try simp only [go_sem, reduceCtorEq] at h) <;> (try (exfalso; omega))))))) <;> (try omega)
  all_goals (simp [h8]; try rfl)
 by_cases h41 : (insAt C kk).op = 41
 ·refine go_fn (tyOf_ok _) Try.func11 rfl rfl (by rw [Try.results11]) Try.ntmps11 rfl fun E => ?_
  (repeat' (first | exact trivial | (with_reducible first | apply awA | apply awD | apply awF | apply awG) | ((with_reducible first | apply awn | refine awQ ?_ | refine awR ?_); intro r hr; simp only [go_sem, Nat.reduceBEq, Nat.reduceLT, Nat.reduceLeDiff, Nat.reduceAdd, Nat.reduceMul, reduceCtorEq, g0, z0, h41, encIs_len, Int.reduceEq] at hr; subst hr; (first | refine awV ?_ ?_ | refine endK ?_ ?_ | (refine condK (fun h => ?_) (fun h => ?_) <;> (try simp only [go_sem, reduceCtorEq] at h) <;> (try (exfalso; omega))))))) <;> (try omega)
  all_goals (simp [h41]; try rfl)
 by_cases h9 : (insAt C (kk + 1)).op = 9
 ·refine go_fn (tyOf_ok _) Try.func11 rfl rfl (by rw [Try.results11]) Try.ntmps11 rfl fun E => ?_
  (repeat' (first | exact trivial | (with_reducible first | apply awA | apply awC | apply awD | apply awF) | ((with_reducible first | apply awn | refine awQ ?_ | refine awR ?_); intro r hr; simp only [go_sem, Nat.reduceBEq, Nat.reduceLT, Nat.reduceLeDiff, Nat.reduceAdd, Nat.reduceMul, reduceCtorEq, g0, g1, w1, z0, z1, e1, h8, h41, h9, encIs_len] at hr; subst hr; (first | refine awV ?_ ?_ | refine endK ?_ ?_ | (refine condK (fun h => ?_) (fun h => ?_) <;> (try simp only [go_sem, reduceCtorEq] at h) <;> (try (exfalso; omega))))))) <;> (try omega)
  all_goals (simp [h8, h41, h9]; try rfl)
 ·refine go_fn (tyOf_ok _) Try.func11 rfl rfl (by rw [Try.results11]) Try.ntmps11 rfl fun E => ?_
  (repeat' (first | exact trivial | (with_reducible first | apply awA | apply awC | apply awD | apply awF) | ((with_reducible first | apply awn | refine awQ ?_ | refine awR ?_); intro r hr; simp only [go_sem, Nat.reduceBEq, Nat.reduceLT, Nat.reduceLeDiff, Nat.reduceAdd, Nat.reduceMul, reduceCtorEq, g0, g1, w1, z0, z1, e1, h8, h41, h9, encIs_len] at hr; subst hr; (first | refine awV ?_ ?_ | refine endK ?_ ?_ | (refine condK (fun h => ?_) (fun h => ?_) <;> (try simp only [go_sem, reduceCtorEq] at h) <;> (try (exfalso; omega))))))) <;> (try omega)
  all_goals (simp [h8, h41, h9]; try rfl)
theorem encIs_app2 (l : List InsM) (a b c d : Int) : encIs l ++ [[vI a, vI b, vI c, vI d]] = encIs (l ++ [⟨a, b, c, d⟩]) := by simp [encIs, encI]
def jmpP (C : List InsM) (kk i : Nat) : List InsM := if i ≤ kk then (C.take i).map (shX kk) else (C.take (kk + 1)).map (shX kk) ++ ⟨19, 0, (kk : Int) + 2, 0⟩ :: ((C.take i).drop (kk + 1)).map (shX kk)
theorem jmpP_zero (C : List InsM) (kk : Nat) : jmpP C kk 0 = [] := by simp [jmpP]
theorem jmpP_all {C : List InsM} {kk : Nat} (h : kk < C.length) : jmpP C kk C.length = jmpC C kk := by
 unfold jmpP jmpC
 rw [if_neg (by omega), List.take_of_length_le (Nat.le_refl C.length)]
theorem insAt_getE {C : List InsM} {i : Nat} (h : i < C.length) : C[i] = insAt C i := by simp [insAt, List.getD, h]
theorem jmpP_ne {C : List InsM} {kk i : Nat} (h : i < C.length) (hk : i ≠ kk) : jmpP C kk (i + 1) = jmpP C kk i ++ [shX kk (insAt C i)] := by
 unfold jmpP
 by_cases h1 : i < kk
 ·rw [if_pos (by omega), if_pos (by omega), List.take_succ_eq_append_getElem h, List.map_append, insAt_getE h]; rfl
 ·rw [if_neg (by omega), if_neg (by omega), List.take_succ_eq_append_getElem h, List.drop_append_of_le_length (by rw [List.length_take]; omega), List.map_append, insAt_getE h, List.append_assoc, List.cons_append]; rfl
theorem jmpP_eq {C : List InsM} {kk : Nat} (h : kk < C.length) : jmpP C kk (kk + 1) = (jmpP C kk kk ++ [shX kk (insAt C kk)]) ++ [⟨19, 0, (kk : Int) + 2, 0⟩] := by
 unfold jmpP
 rw [if_neg (by omega), if_pos (Nat.le_refl _), List.take_succ_eq_append_getElem h, List.map_append, insAt_getE h, List.drop_of_length_le (by rw [List.length_append, List.length_take]; simp; omega)]
 rfl
theorem jmpP_len {C : List InsM} {kk i : Nat} (h : i ≤ C.length) : (jmpP C kk i).length = if i ≤ kk then i else i + 1 := by
 unfold jmpP
 split
 ·simp; omega
 ·simp; omega
theorem jumped_G (e : Bool) (C : List InsM) (N : List Int) (kk : Nat) (h : kk < C.length) (hC : C.length ≤ 1000000) (hN : N.length ≤ 1048576) (hb : ∀ k, k < C.length → tgF (insAt C k).op = true → 0 ≤ (insAt C k).b ∧ (insAt C k).b ≤ 1000000) (hn : ∀ n ∈ N, 0 ≤ n ∧ n ≤ 1000000) :
  GCall Try.prog 12 [pG e C N, vI kk] [] (.agg [vB e, .ref 37 4 8001 0 (C.length + 1), .ref 3 1 8002 0 N.length]) [(8001, .row 37 4 (encIs (jmpC C kk))), (8002, .row 3 1 (v8 (N.map (shI kk))))] := by
 have w2 := wrap_i64 (n := (kk : Int) + 2) (by omega)
 unfold pG
 refine go_fnG (tyOf_ok _) Try.func12 rfl rfl (by rw [Try.results12]) Try.ntmps12 rfl fun E => ?_
 (repeat' (first | exact trivial | (with_reducible first | apply awA | apply awB | apply awF) | ((with_reducible apply awn); intro r hr; simp only [go_sem, Nat.reduceBEq, Nat.reduceLT, Nat.reduceLeDiff, Nat.reduceAdd, Nat.reduceMul] at hr; subst hr; (first | refine awV ?_ ?_)))) <;> (try omega)
 refine aw_nilvar 5 1 37 4 8001 (.inl (by decide)) (by decide) rfl rfl ?_
 refine aw_nilvar 5 2 3 1 8002 (.inl (by decide)) (by decide) rfl rfl ?_
 refine go_loop [2, 3, 4, 5, 6, 7] [2, 3, 4, 5, 8001, 8002] (fun i : Nat => ⟨[(2, true, .ptr 1 2 0 0), (3, true, .ptr 1 3 0 0), (4, true, .ptr 1 4 0 0), (5, true, .ptr 1 5 0 0), (6, true, .fn 20 [.ptr 1 3 0 0]), (7, true, vI i)], [(2, .var [vB e, .lst 4 (encIs C), .lst 1 (v8 N)]), (3, .var [vI kk]), (4, .var [vB false, .v (.slice none 0 0), .v (.slice none 0 0)]), (5, .var [vB e, .ref 37 4 8001 0 (jmpP C kk i).length, .ref 3 1 8002 0 0]), (8001, .row 37 4 (encIs (jmpP C kk i))), (8002, .row 3 1 [])]⟩)
  (fun i => i ≤ C.length) (fun i => C.length - i) 0 (by simp only [AState.nilvar, jmpP_zero, go_sem, Nat.reduceBEq, Nat.reduceLT] <;> exact rfl) (Nat.zero_le _) ?_
 intro i hi
 have hwi := wrap_i64 (n := (i : Int) + 1) (by omega)
 have zi : ((i : Int)).toNat = i := by omega
 by_cases hlt : i < C.length
 ·have e1 : ((i : Int) < (C.length : Int)) = True := eq_true (by omega)
  have gC := insAt_get4 hlt
  have hbi := hb i hlt
  have ht := targets_any (insAt C i).op
  have hnow := fun h => now_G kk (insAt C i).b h
  have hne := jmpP_ne (C := C) (kk := kk) hlt
  have heq := jmpP_eq (C := C) (kk := kk) h
  have hpl := jmpP_len (C := C) (kk := kk) hi
  have hL : (jmpP C kk i).length ≤ 1000001 := by rw [hpl]; split <;> omega
  clear hpl
  obtain ⟨x, hx⟩ : ∃ x, insAt C i = x := ⟨_, rfl⟩
  rw [hx] at gC hbi ht hnow hne
  have hsx : shX kk x = ⟨x.op, x.a, (shX kk x).b, x.c⟩ := by
   unfold shX
   split <;> rfl
  have hP : ∀ P, jmpP C kk i = P → (i ≠ kk → jmpP C kk (i + 1) = P ++ [shX kk x]) ∧ (i = kk → jmpP C kk (i + 1) = (P ++ [shX kk x]) ++ [⟨19, 0, (kk : Int) + 2, 0⟩]) := fun P hp => by
   rw [← hp]
   exact ⟨hne, fun q => by subst q; rw [← hx]; exact heq⟩
  clear hne heq
  generalize jmpP C kk i = P at hP hL
  obtain ⟨hne, heq⟩ := hP P rfl
  have hap : encIs P ++ [[vI x.op, vI x.a, vI (shX kk x).b, vI x.c]] = encIs (P ++ [shX kk x]) := by rw [encIs_app2, ← hsx]
  have hap2 : encIs (P ++ [shX kk x]) ++ [[vI 19, vI 0, vI ((kk : Int) + 2), vI 0]] = encIs ((P ++ [shX kk x]) ++ [⟨19, 0, (kk : Int) + 2, 0⟩]) := encIs_app2 _ _ _ _ _
  have tP : (encIs P).take P.length = encIs P := List.take_of_length_le (by rw [encIs_len]; exact Nat.le_refl _)
  have tP2 : (encIs (P ++ [shX kk x])).take (P ++ [shX kk x]).length = encIs (P ++ [shX kk x]) := List.take_of_length_le (by rw [encIs_len]; exact Nat.le_refl _)
  have lP : (P ++ [shX kk x]).length = P.length + 1 := by rw [List.length_append]; rfl
  rw [lP] at tP2
  obtain ⟨b', hb'⟩ : ∃ b', (shX kk x).b = b' := ⟨_, rfl⟩
  rw [hb'] at hap
  have lP3 : ((P ++ [shX kk x]) ++ ([⟨19, 0, (kk : Int) + 2, 0⟩] : List InsM)).length = P.length + 2 := by rw [List.length_append, lP]; rfl
  by_cases htg : tgF x.op = true
  ·rw [htg] at ht
   rw [b_sh htg] at hb'
   have hnow := hnow (by have := hbi htg; omega)
   rw [hb'] at hnow
   by_cases hk : i = kk
   ·have e2 : ((i : Int) = (kk : Int)) = True := eq_true (by omega)
    have h1 := heq hk
    (repeat' (first | exact trivial | (with_reducible first | apply awA | apply awB | apply awC | apply awF | apply awI) | ((with_reducible first | apply awn | apply awo | refine awQ ?_); intro r hr; simp only [go_sem, Nat.reduceBEq, Nat.reduceLT, Nat.reduceLeDiff, Nat.reduceAdd, Nat.reduceMul, Nat.reduceEqDiff, e1, e2, hwi, zi, w2, gC, hap, hap2, tP, tP2, lP, encIs_len] at hr; subst hr; (first | refine caA (fun _ => ht) rfl ?_ ?_ ?_ | refine awV ?_ ?_ | refine awW ?_ ?_ | (refine condK (fun h => ?_) (fun h => ?_) <;> (try simp only [go_sem, reduceCtorEq] at h) <;> (try (exfalso; omega))))) | (refine go_callI (tyOf_ok _) [(3, 10001)] [(10001, 3)] [] [3] (by simp only [go_sem, Nat.reduceBEq, Nat.reduceLT, Nat.reduceSub] <;> exact rfl) ?_ rfl rfl (by first | exact .inl rfl | exact .inr rfl) (by simp only [go_sem, Nat.reduceBEq] <;> exact rfl) (hnow) (.inl rfl) ?_))) <;> (try omega)
    refine ⟨i + 1, ?_, hlt, by omega⟩
    rw [h1]
    simp only [go_sem, Nat.reduceBEq]
    try exact rfl
   ·have e2 : ((i : Int) = (kk : Int)) = False := eq_false (by omega)
    have h1 := hne hk
    (repeat' (first | exact trivial | (with_reducible first | apply awA | apply awB | apply awC | apply awF | apply awI) | ((with_reducible first | apply awn | apply awo | refine awQ ?_); intro r hr; simp only [go_sem, Nat.reduceBEq, Nat.reduceLT, Nat.reduceLeDiff, Nat.reduceAdd, Nat.reduceMul, Nat.reduceEqDiff, e1, e2, hwi, zi, gC, hap, tP, tP2, lP, encIs_len] at hr; subst hr; (first | refine caA (fun _ => ht) rfl ?_ ?_ ?_ | refine awV ?_ ?_ | refine awW ?_ ?_ | (refine condK (fun h => ?_) (fun h => ?_) <;> (try simp only [go_sem, reduceCtorEq] at h) <;> (try (exfalso; omega))))) | (refine go_callI (tyOf_ok _) [(3, 10001)] [(10001, 3)] [] [3] (by simp only [go_sem, Nat.reduceBEq, Nat.reduceLT, Nat.reduceSub] <;> exact rfl) ?_ rfl rfl (by first | exact .inl rfl | exact .inr rfl) (by simp only [go_sem, Nat.reduceBEq] <;> exact rfl) (hnow) (.inl rfl) ?_))) <;> (try omega)
    refine ⟨i + 1, ?_, hlt, by omega⟩
    rw [h1]
    simp only [lP, go_sem, Nat.reduceBEq]
    try exact rfl
  ·rw [x_sh htg] at hb'
   rw [show tgF x.op = false by simpa using htg] at ht
   subst hb'
   by_cases hk : i = kk
   ·have e2 : ((i : Int) = (kk : Int)) = True := eq_true (by omega)
    have h1 := heq hk
    (repeat' (first | exact trivial | (with_reducible first | apply awA | apply awB | apply awC | apply awF | apply awI) | ((with_reducible first | apply awn | apply awo | refine awQ ?_); intro r hr; simp only [go_sem, Nat.reduceBEq, Nat.reduceLT, Nat.reduceLeDiff, Nat.reduceAdd, Nat.reduceMul, Nat.reduceEqDiff, e1, e2, hwi, zi, w2, gC, hap, hap2, tP, tP2, lP, encIs_len] at hr; subst hr; (first | refine caA (fun _ => ht) rfl ?_ ?_ ?_ | refine awV ?_ ?_ | (refine condK (fun h => ?_) (fun h => ?_) <;> (try simp only [go_sem, reduceCtorEq] at h) <;> (try (exfalso; omega))))))) <;> (try omega)
    refine ⟨i + 1, ?_, hlt, by omega⟩
    rw [h1]
    simp only [go_sem, Nat.reduceBEq]
    try exact rfl
   ·have e2 : ((i : Int) = (kk : Int)) = False := eq_false (by omega)
    have h1 := hne hk
    (repeat' (first | exact trivial | (with_reducible first | apply awA | apply awB | apply awC | apply awF | apply awI) | ((with_reducible first | apply awn | apply awo | refine awQ ?_); intro r hr; simp only [go_sem, Nat.reduceBEq, Nat.reduceLT, Nat.reduceLeDiff, Nat.reduceAdd, Nat.reduceMul, Nat.reduceEqDiff, e1, e2, hwi, zi, gC, hap, tP, tP2, lP, encIs_len] at hr; subst hr; (first | refine caA (fun _ => ht) rfl ?_ ?_ ?_ | refine awV ?_ ?_ | (refine condK (fun h => ?_) (fun h => ?_) <;> (try simp only [go_sem, reduceCtorEq] at h) <;> (try (exfalso; omega))))))) <;> (try omega)
    refine ⟨i + 1, ?_, hlt, by omega⟩
    rw [h1]
    simp only [lP, go_sem, Nat.reduceBEq]
    try exact rfl
 ·have e1 : ((i : Int) < (C.length : Int)) = False := eq_false (by omega)
  obtain rfl : i = C.length := by omega
  have hjl := jmpC_len h
  rw [jmpP_all h, hjl]
  clear hwi zi hlt hi
  (repeat' (first | exact trivial | (with_reducible first | apply awA | apply awB | apply awE | apply awF | apply awH | apply awK) | ((with_reducible first | apply awn | refine awQ ?_); intro r hr; simp only [go_sem, Nat.reduceBEq, Nat.reduceLT, Nat.reduceLeDiff, Nat.reduceAdd, Nat.reduceMul, e1, encIs_len] at hr; subst hr; (first | refine awV ?_ ?_ | (refine condK (fun h => ?_) (fun h => ?_) <;> (try simp only [go_sem, reduceCtorEq] at h) <;> (try (exfalso; omega))))))) <;> (try omega)
  clear e1
  refine go_loop [2, 3, 4, 5, 6, 9] [2, 3, 4, 5, 8001, 8002] (fun j : Nat => ⟨[(2, true, .ptr 1 2 0 0), (3, true, .ptr 1 3 0 0), (4, true, .ptr 1 4 0 0), (5, true, .ptr 1 5 0 0), (6, true, .fn 20 [.ptr 1 3 0 0]), (9, true, vI j)], [(2, .var [vB e, .lst 4 (encIs C), .lst 1 (v8 N)]), (3, .var [vI kk]), (4, .var [vB false, .v (.slice none 0 0), .v (.slice none 0 0)]), (5, .var [vB e, .ref 37 4 8001 0 (C.length + 1), .ref 3 1 8002 0 j]), (8001, .row 37 4 (encIs (jmpC C kk))), (8002, .row 3 1 (v8 ((N.take j).map (shI kk))))]⟩)
   (fun j => j ≤ N.length) (fun j => N.length - j) 0 (by simp only [List.take_zero, List.map_nil, go_sem, Nat.reduceBEq] <;> exact rfl) (Nat.zero_le _) ?_
  intro j hj
  have hwj := wrap_i64 (n := (j : Int) + 1) (by omega)
  have zj : ((j : Int)).toNat = j := by omega
  have hml : ((N.take j).map (shI kk)).length = j := by rw [List.length_map, List.length_take]; omega
  have tm : (v8 ((N.take j).map (shI kk))).take j = v8 ((N.take j).map (shI kk)) := List.take_of_length_le (by rw [v8_len, hml]; exact Nat.le_refl _)
  by_cases hlt : j < N.length
  ·have e1 : ((j : Int) < (N.length : Int)) = True := eq_true (by omega)
   have gN := v8_get hlt
   have hnj := hn N[j] (List.getElem_mem hlt)
   have hnow := now_G kk N[j] (by omega)
   have hap := v8_app ((N.take j).map (shI kk)) (shI kk N[j])
   have hst : (N.take j).map (shI kk) ++ [shI kk N[j]] = (N.take (j + 1)).map (shI kk) := by rw [List.take_succ_eq_append_getElem hlt, List.map_append]; rfl
   have hml1 : ((N.take (j + 1)).map (shI kk)).length = j + 1 := by rw [List.length_map, List.length_take]; omega
   rw [hst] at hap
   generalize shI kk N[j] = z at hnow hap
   generalize N[j] = nj at gN hnow
   (repeat' (first | exact trivial | (with_reducible first | apply awA | apply awB | apply awC | apply awF | apply awI) | (refine aw_draw (id := 15) (t := (.node [0, 2, 3, 4, 5, 6, 7] [(.node [1, 8, 9, 10, 11, 12] []), (.node [8, 1, 9, 10, 11, 12] [])])) (drR [2] [59, 65] [66]) mixed (by kernel_rfl) (by kernel_rfl) (fun _ _ h => h) ?_) | (refine at_done (by simp only [go_sem]; exact rfl) ?_) | (refine at_alt (by simp only [go_sem]; exact rfl) ?_) | refine qalt_normal ?_ | refine ats_cons ?_ ?_ | exact ats_nil | ((with_reducible first | apply awn | apply awp | refine awQ ?_); intro r hr; simp only [go_sem, Nat.reduceBEq, Nat.reduceLT, Nat.reduceLeDiff, Nat.reduceAdd, Nat.reduceMul, Nat.reduceEqDiff, reduceCtorEq, e1, hwj, zj, gN, hap, hml, hml1, tm, v8_len] at hr; subst hr; (first | refine awV ?_ ?_ | refine awW ?_ ?_ | (refine condK (fun h => ?_) (fun h => ?_) <;> (try simp only [go_sem, reduceCtorEq] at h) <;> (try (exfalso; omega))))) | (refine go_callI (tyOf_ok _) [(3, 10001)] [(10001, 3)] [] [3] (by simp only [go_sem, Nat.reduceBEq, Nat.reduceLT, Nat.reduceSub] <;> exact rfl) ?_ rfl rfl (by first | exact .inl rfl | exact .inr rfl) (by simp only [go_sem, Nat.reduceBEq] <;> exact rfl) (hnow) (.inl rfl) ?_))) <;> (try omega)
   all_goals
    refine ⟨j + 1, ?_, hlt, by omega⟩
    simp only [go_sem, Nat.reduceBEq]
    try exact rfl
  ·have e1 : ((j : Int) < (N.length : Int)) = False := eq_false (by omega)
   obtain rfl : j = N.length := by omega
   rw [List.take_of_length_le (Nat.le_refl N.length)] at *
   (repeat' (first | exact trivial | (with_reducible first | apply awA | apply awD | apply awE | apply awF | apply awH | apply awK) | ((with_reducible first | apply awn | refine awQ ?_ | refine awT ?_); intro r hr; simp only [go_sem, Nat.reduceBEq, Nat.reduceLT, Nat.reduceLeDiff, Nat.reduceAdd, Nat.reduceMul, e1, v8_len] at hr; subst hr; (first | refine awV ?_ ?_ | refine endGK ?_ ?_ ?_ | (refine condK (fun h => ?_) (fun h => ?_) <;> (try simp only [go_sem, reduceCtorEq] at h) <;> (try (exfalso; omega))))))) <;> (try omega)
   all_goals first | exact AV.up_rfl _ | (repeat first | exact obUp_nil | refine obUp_cons rfl ?_)
end Go.Proofs.Ytjeplogcfedmeaa
end
section
namespace Go.Proofs.Ytjeplogcfedmeaa
open Go.RowKit
set_option maxRecDepth 100000
set_option maxHeartbeats 8000000
theorem ver_two {e : Bool} {C : List InsM} {N : List Int} (hc : chkF e C N = (0, 0)) : (verF e C N).1 = 0 ∨ (verF e C N).1 = 150 := by
 by_cases h : (verF e C N).1 = 0
 ·exact .inl h
 ·obtain ⟨j, hj, _⟩ := ver_err hc h
  exact .inr (by rw [hj])
theorem soundJumps_any (e : Bool) (C : List InsM) (N : List Int) (hC : C.length ≤ 100000000) (hN : N.length ≤ 100000000) (at_ : Int) (hat : I64 at_) : PCall Try.prog 3 [pG e C N, vI at_] (fun r => r = vB true) := by
 have hm := made15_P e C N hC hN
 have hfi := first_any
 unfold pG at hm
 unfold pG
 refine go_fn (tyOf_ok _) Try.func3 rfl rfl (by rw [Try.results3]) Try.ntmps3 rfl fun E => ?_
 (repeat' (first | exact trivial | (with_reducible first | apply awA | apply awC | apply awF) | ((with_reducible first | apply awn | apply awo | refine awQ ?_); intro r hr; simp only [go_sem, Nat.reduceBEq, Nat.reduceLT, Nat.reduceLeDiff, Nat.reduceAdd, Nat.reduceMul] at hr; subst hr; (first | refine caA (fun _ => hfi) rfl ?_ ?_ ?_ | refine caD (hm) rfl ?_ ?_ (fun r hr => hold ?_) | refine awV ?_ ?_ | (refine condK (fun h => ?_) (fun h => ?_) <;> (try simp only [go_sem, reduceCtorEq] at h) <;> (try (exfalso; omega))))))) <;> (try omega)
 refine ⟨?_⟩
 obtain ⟨X, Z, rfl, hc, hx1, hx2⟩ := hr
 clear hm hfi
 obtain ⟨⟨hX, hZ⟩, hright, hent⟩ := chkF_ok hc
 have hV := verify_any e X Z (by omega) (by omega)
 have hf2 := ver_two hc
 have n0 : ((X.length : Int) = 0) = False := eq_false (by omega)
 obtain ⟨z, hz⟩ : ∃ z, at_.tmod (X.length : Int) = z := ⟨_, rfl⟩
 have hzb : -(X.length : Int) < z ∧ z < X.length := by
  have h1 := Int.natAbs_tmod at_ (X.length : Int)
  rw [hz] at h1
  have h2 := Nat.mod_lt at_.natAbs (show 0 < (X.length : Int).natAbs by omega)
  omega
 have hJV := fun kk J => jump_ver (kk := kk) hc J (by omega)
 obtain ⟨f, hf⟩ : ∃ f, verF e X Z = f := ⟨_, rfl⟩
 rw [hf] at hV hf2 hJV
 obtain ⟨f1, f2⟩ := f
 dsimp only at hf2 hJV
 clear hf
 unfold pG at *
 (repeat' (first | exact trivial | (refine go_cutS (.tmp 21) [5, 6, 7] [5, 6] (fun n : Nat => ⟨[(5, true, .ptr 1 5 0 0), (6, true, .ptr 1 6 0 0), (7, true, vI n)], [(5, .var [vB e, .lst 4 (encIs X), .lst 1 (v8 Z)]), (6, .var [vI f1, vI f2])]⟩) (fun n => n < X.length) (hold ?_) ?_) | (with_reducible first | apply awA | apply awF) | ((with_reducible first | apply awn | apply awo); intro r hr; simp only [go_sem, Nat.reduceBEq, Nat.reduceLT, Nat.reduceLeDiff, Nat.reduceAdd, Nat.reduceMul, encIs_len, n0, hz] at hr; subst hr; (first | refine caA (fun _ => hV) rfl ?_ ?_ ?_ | refine awV ?_ ?_)))) <;> (try omega)
 ·refine ⟨?_⟩
  by_cases h0 : z < 0
  ·have e0 : (z < 0) = True := eq_true h0
   have w3 : IntKind.i64.wrap (z + (X.length : Int)) = ((z + X.length).toNat : Int) := by rw [wrap_i64 (by omega)]; omega
   (repeat' (first | exact trivial | (with_reducible first | apply awA | apply awF) | ((with_reducible first | apply awn | refine awQ ?_); intro r hr; simp only [go_sem, Nat.reduceBEq, Nat.reduceLT, Nat.reduceLeDiff, Nat.reduceAdd, Nat.reduceMul, encIs_len, e0, w3] at hr; subst hr; (first | refine awV ?_ ?_ | (refine condK (fun h => ?_) (fun h => ?_) <;> (try simp only [go_sem, reduceCtorEq] at h) <;> (try (exfalso; omega))))))) <;> (try omega)
   exact ⟨(z + X.length).toNat, rfl, by omega⟩
  ·have e0 : (z < 0) = False := eq_false h0
   have w4 : z = (z.toNat : Int) := by omega
   (repeat' (first | exact trivial | (with_reducible first | apply awA | apply awC | apply awF) | ((with_reducible first | apply awn | refine awQ ?_); intro r hr; simp only [go_sem, Nat.reduceBEq, Nat.reduceLT, e0] at hr; subst hr; (first | refine awV ?_ ?_ | (refine condK (fun h => ?_) (fun h => ?_) <;> (try simp only [go_sem, reduceCtorEq] at h) <;> (try (exfalso; omega))))))) <;> (try omega)
   exact ⟨z.toNat, by rw [← w4]; rfl, by omega⟩
 intro kk hkk
 clear hz hzb hat n0
 have w1 := wrap_i64 (n := (kk : Int) + 1) (by omega)
 have fin : ∀ {P : Prop}, P → P := fun h => h
 by_cases hlt : kk + 1 < X.length
 ·have e1 : ((kk : Int) + 1 ≥ (X.length : Int)) = False := eq_false (by omega)
  have hap := apart_any e X Z kk hlt (by omega)
  unfold pG at hap
  cases hb : apartF X kk with
  | false =>
   rw [hb] at hap
   rcases hf2 with rfl | rfl
   ·(repeat' (first | exact trivial | (with_reducible first | apply awA | apply awD | apply awF | apply awG) | ((with_reducible first | apply awn | apply awo | refine awQ ?_ | refine awR ?_); intro r hr; simp only [go_sem, Nat.reduceBEq, Nat.reduceLT, Nat.reduceLeDiff, Nat.reduceAdd, Nat.reduceMul, reduceCtorEq, w1, e1, encIs_len, Int.reduceEq] at hr; subst hr; (first | refine caA (fun _ => hap) rfl ?_ ?_ ?_ | refine awV ?_ ?_ | refine endK ?_ ?_ | (refine condK (fun h => ?_) (fun h => ?_) <;> (try simp only [go_sem, reduceCtorEq] at h) <;> (try (exfalso; omega))))))) <;> (try omega)
    all_goals rfl
   ·(repeat' (first | exact trivial | (with_reducible first | apply awA | apply awD | apply awF | apply awG) | ((with_reducible first | apply awn | apply awo | refine awQ ?_ | refine awR ?_); intro r hr; simp only [go_sem, Nat.reduceBEq, Nat.reduceLT, Nat.reduceLeDiff, Nat.reduceAdd, Nat.reduceMul, reduceCtorEq, w1, e1, encIs_len, Int.reduceEq] at hr; subst hr; (first | refine caA (fun _ => hap) rfl ?_ ?_ ?_ | refine awV ?_ ?_ | refine endK ?_ ?_ | (refine condK (fun h => ?_) (fun h => ?_) <;> (try simp only [go_sem, reduceCtorEq] at h) <;> (try (exfalso; omega))))))) <;> (try omega)
    all_goals rfl
  | true =>
   rw [hb] at hap
   unfold apartF at hb
   simp only [Bool.and_eq_true, Bool.not_eq_true', Bool.or_eq_false_iff, decide_eq_false_iff_not] at hb
   have J : JmpOK e X Z kk := ⟨hright, hent, hlt, by omega, hb.2⟩
   have hJ := jumped_G e X Z kk (by omega) (by omega) hZ (fun k hk ht => by
    obtain ⟨q1, _, q3, _⟩ := right_parts (hright k hk)
    rw [(lett q1).b1 ht] at q3
    have := may_t q3
    omega) (fun n hn => by have := hent n hn; omega)
   have hjl := jmpC_len (C := X) (kk := kk) (by omega)
   have hc2 := chk_jmp J hZ (by omega)
   have hg2 := ver_two hc2
   have hV2 := verify_any e (jmpC X kk) (Z.map (shI kk)) (by omega) (by rw [List.length_map]; omega)
   have hiff := hJV kk J
   generalize verF e (jmpC X kk) (Z.map (shI kk)) = g at hg2 hV2 hiff
   obtain ⟨g1, g2⟩ := g
   dsimp only at hg2 hiff
   have tJ : (encIs (jmpC X kk)).take (X.length + 1) = encIs (jmpC X kk) := List.take_of_length_le (by rw [encIs_len, hjl]; exact Nat.le_refl _)
   have tZ : (v8 (Z.map (shI kk))).take Z.length = v8 (Z.map (shI kk)) := List.take_of_length_le (by rw [v8_len, List.length_map]; exact Nat.le_refl _)
   have lZ : (Z.map (shI kk)).length = Z.length := List.length_map ..
   unfold pG at hJ hV2
   rcases hf2 with rfl | rfl
   ·obtain rfl := hiff.2 rfl
    (repeat' (first | exact trivial | (with_reducible first | apply awA | apply awC | apply awD | apply awF) | ((with_reducible first | apply awn | apply awo | refine awQ ?_ | refine awR ?_); intro r hr; simp only [go_sem, Nat.reduceBEq, Nat.reduceLT, Nat.reduceLeDiff, Nat.reduceAdd, Nat.reduceMul, reduceCtorEq, w1, e1, encIs_len, v8_len, tJ, tZ, hjl, lZ, Int.reduceEq] at hr; subst hr; (first | refine caA (fun _ => hap) rfl ?_ ?_ ?_ | refine caA (fun _ => hV2) rfl ?_ ?_ ?_ | refine awV ?_ ?_ | refine awW ?_ ?_ | refine endK ?_ ?_ | (refine condK (fun h => ?_) (fun h => ?_) <;> (try simp only [go_sem, reduceCtorEq] at h) <;> (try (exfalso; omega))))) | (refine go_callGE [] [(8001, 8001), (8002, 8002)] [8001, 8002] [] ?_; intro r hr; simp only [go_sem, Nat.reduceBEq, Nat.reduceLT] at hr; subst hr; refine callGK (hJ) rfl rfl (by first | exact .inl rfl | exact .inr rfl) ?_ (.inl rfl) ?_))) <;> (try omega)
    all_goals rfl
   ·obtain rfl : g1 = 150 := hg2.resolve_left fun q => by
     have := hiff.1 q
     exact absurd this (by decide)
    (repeat' (first | exact trivial | (with_reducible first | apply awA | apply awC | apply awD | apply awF) | ((with_reducible first | apply awn | apply awo | refine awQ ?_ | refine awR ?_); intro r hr; simp only [go_sem, Nat.reduceBEq, Nat.reduceLT, Nat.reduceLeDiff, Nat.reduceAdd, Nat.reduceMul, reduceCtorEq, w1, e1, encIs_len, v8_len, tJ, tZ, hjl, lZ, Int.reduceEq] at hr; subst hr; (first | refine caA (fun _ => hap) rfl ?_ ?_ ?_ | refine caA (fun _ => hV2) rfl ?_ ?_ ?_ | refine awV ?_ ?_ | refine awW ?_ ?_ | refine endK ?_ ?_ | (refine condK (fun h => ?_) (fun h => ?_) <;> (try simp only [go_sem, reduceCtorEq] at h) <;> (try (exfalso; omega))))) | (refine go_callGE [] [(8001, 8001), (8002, 8002)] [8001, 8002] [] ?_; intro r hr; simp only [go_sem, Nat.reduceBEq, Nat.reduceLT] at hr; subst hr; refine callGK (hJ) rfl rfl (by first | exact .inl rfl | exact .inr rfl) ?_ (.inl rfl) ?_))) <;> (try omega)
    all_goals rfl
 ·have e1 : ((kk : Int) + 1 ≥ (X.length : Int)) = True := eq_true (by omega)
  rcases hf2 with rfl | rfl
  ·(repeat' (first | exact trivial | (with_reducible first | apply awA | apply awD | apply awF | apply awG) | ((with_reducible first | apply awn | apply awo | refine awQ ?_ | refine awR ?_); intro r hr; simp only [go_sem, Nat.reduceBEq, Nat.reduceLT, Nat.reduceLeDiff, Nat.reduceAdd, Nat.reduceMul, reduceCtorEq, w1, e1, encIs_len, Int.reduceEq] at hr; subst hr; (first | refine caB 11 (vB true) ?_ ?_ ?_ | refine awV ?_ ?_ | refine endK ?_ ?_ | (refine condK (fun h => ?_) (fun h => ?_) <;> (try simp only [go_sem, reduceCtorEq] at h) <;> (try (exfalso; omega))))))) <;> (try omega)
   all_goals rfl
  ·(repeat' (first | exact trivial | (with_reducible first | apply awA | apply awD | apply awF | apply awG) | ((with_reducible first | apply awn | apply awo | refine awQ ?_ | refine awR ?_); intro r hr; simp only [go_sem, Nat.reduceBEq, Nat.reduceLT, Nat.reduceLeDiff, Nat.reduceAdd, Nat.reduceMul, reduceCtorEq, w1, e1, encIs_len, Int.reduceEq] at hr; subst hr; (first | refine caB 11 (vB true) ?_ ?_ ?_ | refine awV ?_ ?_ | refine endK ?_ ?_ | (refine condK (fun h => ?_) (fun h => ?_) <;> (try simp only [go_sem, reduceCtorEq] at h) <;> (try (exfalso; omega))))))) <;> (try omega)
   all_goals rfl
end Go.Proofs.Ytjeplogcfedmeaa
end
