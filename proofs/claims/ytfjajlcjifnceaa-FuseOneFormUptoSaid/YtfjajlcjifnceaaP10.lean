import Derived.Test.YtfjajlcjifnceaaP9
set_option linter.all false
set_option maxRecDepth 100000
set_option maxHeartbeats 8000000
namespace Go.Proofs.Ytfjajlcjifnceaa
section
open Go.RowKit
def xR (s : StM) : Prop := s.place = 6 → 0 ≤ s.left ∧ s.left ≤ 64
theorem xR.same {s r : StM} (h : xR s) (h1 : r.place = s.place) (h2 : r.left = s.left) : xR r := fun g => by rw [h2]; exact h (by rw [← h1]; exact g)
theorem xR.far {r : StM} (h : r.place ≠ 6) : xR r := fun g => absurd g h
theorem xR.zero : xR .zero := .far (by decide)
theorem xR.still {s : StM} (h : xR s) : xR s.still := h.same rfl rfl
theorem xR.fill {s : StM} (h : xR s) (k : Int) : xR (s.fill k).1 := by
 unfold StM.fill
 split
 ·exact .far (by show (4 : Int) ≠ 6; decide)
 ·split
  ·exact .far (by show (4 : Int) ≠ 6; decide)
  ·split
   ·exact h.still
   ·split
    ·split
     ·exact h
     ·exact h.same rfl rfl
    ·exact h
theorem xR.take {s : StM} (h : xR s) {n : Int} (hn : 0 ≤ n ∧ n ≤ 64) (hok : (s.take n).2 = true) : xR (s.take n).1 := by
 unfold StM.take at hok ⊢
 split
 ·exact fun _ => ⟨Int.le_refl _, by show (0 : Int) ≤ 64; decide⟩
 ·rename_i h1
  rw [if_neg h1] at hok
  split
  ·rename_i h2
   rw [if_pos h2] at hok
   obtain ⟨h3, h4⟩ := h h2
   have hw : IntKind.i64.wrap (s.left - n) = s.left - n := zg (by omega)
   rw [hw] at hok ⊢
   have := of_decide_eq_true hok
   exact fun _ => ⟨this, by show s.left - n ≤ 64; omega⟩
  ·exact h
theorem xR.turn {s : StM} (h : xR s) : xR s.turn.1 := h.still
theorem xR.runN : ∀ (n : Nat) (k : Int) {s : StM} (ok : Bool), xR s → xR (Go.Proofs.Ytfjajlcjifnceaa.runN n k s ok).1
 | 0, _, _, _, h => h
 | n + 1, k, s, ok, h => by
  unfold Go.Proofs.Ytfjajlcjifnceaa.runN
  split
  ·exact xR.runN n (k + 1) _ (h.fill k)
  ·exact h
def X4 (E : EfM) : Prop := xR E.next ∧ xR E.target
theorem X4.both {s : StM} (h : xR s) : X4 (both s) := ⟨h, h⟩
def UC (e : Bool) (x : InsM) : Prop := e = true → (x.op = 39 → 0 ≤ x.a ∧ x.a ≤ 64) ∧ (x.op = 34 → 0 ≤ x.b ∧ x.b ≤ 64)
theorem y7 {p : Prop} [Decidable p] {a b : EfM × Bool} (ha : p → X4 a.1) (hb : ¬ p → X4 b.1) : X4 (if p then a else b).1 := by
 by_cases h : p
 ·rw [if_pos h]; exact ha h
 ·rw [if_neg h]; exact hb h
theorem y5 {p : Prop} [Decidable p] {a b : EfM × Bool} (ha : p → a.2 = true → X4 a.1) (hb : ¬ p → b.2 = true → X4 b.1) : (if p then a else b).2 = true → X4 (if p then a else b).1 := by
 by_cases h : p
 ·rw [if_pos h]; exact ha h
 ·rw [if_neg h]; exact hb h
theorem UD {s : StM} (h : xR s) (f : Int) : X4 (s.offset f).1 := by
 unfold StM.offset
 refine y7 (fun _ => .both (h.same rfl rfl)) (fun _ => .both (h.same rfl rfl))
theorem za6 {s : StM} (h : xR s) (x : InsM) : X4 (s.part x).1 := by
 unfold StM.part
 refine y7 (fun _ => .both h.still) (fun _ => .both ((h.fill x.a).same rfl rfl))
theorem UE {s : StM} (h : xR s) (x : InsM) : X4 (s.rounds x).1 := by
 unfold StM.rounds
 dsimp only
 refine y7 (fun _ => ⟨h.same rfl rfl, h.still⟩) fun _ => ?_
 refine y7 (fun _ => ⟨h.still, h.same rfl rfl⟩) fun _ => ?_
 refine y7 (fun _ => ⟨h.same rfl rfl, h.still⟩) fun _ => ?_
 refine y7 (fun _ => ⟨h.still, h.same rfl rfl⟩) fun _ => ?_
 exact y7 (fun _ => ⟨h.still, h.same rfl rfl⟩) fun _ => .both h.still
theorem za7 {s : StM} {x : InsM} {t : Int} (h : xR s) : X4 (Kv s x t).1 := by
 unfold Kv
 dsimp only
 refine y7 (fun _ => y7 (fun _ => .both .zero) fun _ => .both (h.fill _)) fun _ => ?_
 refine y7 (fun _ => .both (h.fill _)) fun _ => ?_
 refine y7 (fun _ => .both (xR.runN _ _ _ h)) fun _ => ?_
 refine y7 (fun _ => .both (.far (by show (1 : Int) ≠ 6; decide))) fun _ => ?_
 refine y7 (fun _ => .both (.far (by show (2 : Int) ≠ 6; decide))) fun _ => ?_
 refine y7 (fun _ => ⟨.far (by show (3 : Int) ≠ 6; decide), .far (by show (4 : Int) ≠ 6; decide)⟩) fun _ => ?_
 refine y7 (fun _ => .both (.far (by show (3 : Int) ≠ 6; decide))) fun _ => ?_
 refine y7 (fun _ => UD h _) fun _ => ?_
 refine y7 (fun _ => y7 (fun _ => .both .zero) fun _ => za6 h x) fun _ => ?_
 refine y7 (fun _ => UE h x) fun _ => ?_
 refine y7 (fun _ => .both h) fun _ => ?_
 exact y7 (fun _ => .both .zero) fun _ => .both .zero
theorem za8 {s : StM} {x : InsM} {t : Int} (h : xR s) (hx : (x.op = 39 → 0 ≤ x.a ∧ x.a ≤ 64) ∧ (x.op = 34 → 0 ≤ x.b ∧ x.b ≤ 64)) : (Q6 s x t).2 = true → X4 (Q6 s x t).1 := by
 have f1 : ∀ l, 0 ≤ l ∧ l ≤ 64 → xR ⟨6, 0, 0, 0, 0, l⟩ := fun l hl _ => hl
 have f2 : ∀ f, xR ⟨7, 0, 0, 0, f, 0⟩ := fun f => .far (by show (7 : Int) ≠ 6; decide)
 have ft : (s.take 1).2 = true → xR (s.take 1).1 := fun g => h.take ⟨by decide, by decide⟩ g
 unfold Q6
 dsimp only
 refine y5 (fun _ => y5 (fun _ _ => .both .zero) fun _ => y5 (fun _ _ => .both h.turn) fun _ g => .both (ft g)) fun _ => ?_
 refine y5 (fun _ => y5 (fun _ _ => .both h.turn) fun _ g => .both (ft g)) fun _ => ?_
 refine y5 (fun ho g => .both (h.take (hx.2 ho) (by rw [Bool.and_eq_true] at g; exact g.1))) fun _ => ?_
 refine y5 (fun _ _ => .both (f2 2)) fun _ => ?_
 refine y5 (fun _ _ => .both (f2 0)) fun _ => ?_
 refine y5 (fun ho _ => .both (f1 _ (hx.1 ho))) fun _ => ?_
 refine y5 (fun _ _ => ⟨f1 1 (by decide), f1 0 (by decide)⟩) fun _ => ?_
 refine y5 (fun _ _ => .both (f1 1 (by decide))) fun _ => ?_
 refine y5 (fun _ _ => .both h) fun _ => ?_
 refine y5 (fun _ _ => .both h) fun _ => ?_
 refine y5 (fun _ _ => ⟨f1 0 (by decide), f2 2⟩) fun _ => ?_
 refine y5 (fun _ _ => .both h) fun _ => ?_
 exact y5 (fun _ _ => .both .zero) fun _ _ => .both .zero
theorem UF {e : Bool} {s : StM} {x : InsM} {t : Int} (h : xR s) (hx : UC e x) (hok : (z5 e x s t).2 = true) : X4 (z5 e x s t).1 := by
 unfold z5 at hok ⊢
 cases e with
 | true => rw [if_pos rfl] at hok ⊢; exact za8 h (hx rfl) hok
 | false => rw [if_neg (by decide)]; exact za7 h
theorem Zg {e : Bool} {C : List InsM} {N : List Int} (hr : ∀ k, k < C.length → yr e C N k = true) (k : Nat) : UC e (zb C k) := by
 intro he
 subst he
 by_cases hk : k < C.length
 ·obtain ⟨_, h1, h2, _⟩ := zZ (hr k hk)
  refine ⟨fun ho => ?_, fun ho => ?_⟩
  ·rw [ho] at h1
   have : inF (zb C k).a 1 64 = true := h1
   simp only [inF, Bool.and_eq_true, decide_eq_true_eq] at this
   omega
  ·rw [ho] at h2
   have : inF (zb C k).b 2 64 = true := h2
   simp only [inF, Bool.and_eq_true, decide_eq_true_eq] at this
   omega
 ·have hz : zb C k = ⟨0, 0, 0, 0⟩ := by
   unfold zb
   rw [List.getD_eq_getElem?_getD, List.getElem?_eq_none (by omega)]
   rfl
  rw [hz]
  exact ⟨fun h => absurd h (by decide), fun h => absurd h (by decide)⟩
end
section
open Go.RowKit
structure FldM where
 a : Int
 n : Int
 w : Int
deriving DecidableEq
def yF (x : InsM) : Option FldM :=
 if x.a < 0 then none else if x.op = 1 ∨ x.op = 33 then some ⟨x.a, 1, x.b⟩ else if x.op = 2 ∨ x.op = 34 then some ⟨x.a, x.b, x.c⟩ else none
def FldM.behind (e : Bool) (f : FldM) : Int := if e = true then f.a + f.n * f.w else f.a + f.n
def FldM.ins (e : Bool) (f : FldM) : InsM := if e = true then (if 1 < f.n then ⟨34, f.a, f.n, f.w⟩ else ⟨33, f.a, f.w, 0⟩) else if 1 < f.n then ⟨2, f.a, f.n, f.w⟩ else ⟨1, f.a, f.w, 0⟩
structure FldOK (e : Bool) (f : FldM) : Prop where
 a : 0 ≤ f.a
 n : 1 ≤ f.n ∧ f.n ≤ 64
 w : f.w = 1 ∨ f.w = 2 ∨ f.w = 4 ∨ f.w = 8
 d : e = false → f.a + f.n ≤ 64
 e1 : e = true → f.a ≤ 16777215
 e2 : e = true → 1 < f.n → f.a + f.n * f.w ≤ 16777216
theorem Yl {n w : Int} (hw : w = 1 ∨ w = 2 ∨ w = 4 ∨ w = 8) (hn : 0 ≤ n) : 0 ≤ n * w ∧ n * w ≤ 8 * n ∧ (n * w = n ∨ n * w = 2 * n ∨ n * w = 4 * n ∨ n * w = 8 * n) := by
 rcases hw with rfl | rfl | rfl | rfl <;> omega
theorem FldM.beh_bd {e : Bool} {f : FldM} (h : FldOK e f) : f.a + 1 ≤ f.behind e ∧ f.behind e ≤ f.a + 512 := by
 have h2 := h.n
 have h1 := Yl h.w (n := f.n) (by omega)
 unfold FldM.behind
 cases e
 ·rw [if_neg (by decide)]; omega
 ·rw [if_pos rfl]
  rcases h.w with q | q | q | q <;> rw [q] at h1 ⊢ <;> omega
theorem zcw {e : Bool} {f : FldM} : (f.ins e).op = (if e = true then (if 1 < f.n then 34 else 33) else if 1 < f.n then 2 else 1) := by
 unfold FldM.ins
 cases e <;> by_cases h : 1 < f.n <;> simp [h]
theorem UV {e : Bool} {f : FldM} : (f.ins e).a = f.a := by
 unfold FldM.ins
 cases e <;> by_cases h : 1 < f.n <;> simp [h]
theorem yS {e : Bool} {f : FldM} : (f.ins e).op = 1 ∨ (f.ins e).op = 2 ∨ (f.ins e).op = 33 ∨ (f.ins e).op = 34 := by
 rw [zcw]
 split <;> split <;> simp
theorem xO {e : Bool} {f : FldM} (h : FldOK e f) : yF (f.ins e) = some f := by
 have h1 := h.n
 have h2 := h.a
 unfold yF
 rw [UV, if_neg (by omega)]
 obtain ⟨a, n, w⟩ := f
 unfold FldM.ins
 dsimp only at h1 h2 ⊢
 by_cases hn : 1 < n
 ·cases e <;> simp [hn]
 ·have : n = 1 := by omega
  subst this
  cases e <;> simp
theorem Wa {nC nN : Nat} {n : Int} (h : wW nC nN 119 n = true) : n = 1 ∨ n = 2 ∨ n = 4 ∨ n = 8 := by
 have : (decide (n = 1) || decide (n = 2) || decide (n = 4) || decide (n = 8)) = true := h
 simp only [Bool.or_eq_true, decide_eq_true_eq] at this
 omega
theorem v9 {a b : Int} {n : Int} (h : inF n a b = true) : a ≤ n ∧ n ≤ b := by
 simp only [inF, Bool.and_eq_true, decide_eq_true_eq] at h
 omega
theorem xS {e : Bool} {C : List InsM} {N : List Int} {k : Nat} {f : FldM} (h : yr e C N k = true) (hf : yF (zb C k) = some f) : FldOK e f ∧ zb C k = f.ins e := by
 obtain ⟨h1, h2, h3, h4, h5⟩ := zZ h
 generalize zb C k = x at *
 obtain ⟨op, a, b, c⟩ := x
 unfold yF at hf
 dsimp only at *
 split at hf
 ·cases hf
 rename_i ha
 split at hf
 ·rename_i ho
  injection hf with hf
  subst hf
  rcases ho with rfl | rfl
  ·cases e
   ·have w1 := v9 (show inF a (-1) 63 = true from h2)
    have w2 := Wa (show wW C.length N.length 119 b = true from h3)
    have w3 : c = 0 := of_decide_eq_true (show decide (c = 0) = true from h4)
    subst w3
    exact ⟨⟨by dsimp only; omega, by dsimp only; omega, w2, fun _ => by dsimp only; omega, fun q => (by cases q), fun q => (by cases q)⟩, rfl⟩
   ·exact absurd h1 (by decide)
  ·cases e
   ·exact absurd h1 (by decide)
   ·have w1 := v9 (show inF a (-1) 16777215 = true from h2)
    have w2 := Wa (show wW C.length N.length 119 b = true from h3)
    have w3 : c = 0 := of_decide_eq_true (show decide (c = 0) = true from h4)
    subst w3
    exact ⟨⟨by dsimp only; omega, by dsimp only; omega, w2, fun q => (by cases q), fun _ => by dsimp only; omega, fun _ q => absurd q (by dsimp only; omega)⟩, rfl⟩
 split at hf
 ·rename_i ho
  injection hf with hf
  subst hf
  rcases ho with rfl | rfl
  ·cases e
   ·have w1 := v9 (show inF a 0 63 = true from h2)
    have w2 := v9 (show inF b 2 64 = true from h3)
    have w3 := Wa (show wW C.length N.length 119 c = true from h4)
    have w4 : IntKind.i64.wrap (a + b) ≤ 64 := of_decide_eq_true (show decide (IntKind.i64.wrap (a + b) ≤ 64) = true from h5)
    rw [zg (by omega)] at w4
    refine ⟨⟨by dsimp only; omega, by dsimp only; omega, w3, fun _ => by dsimp only; omega, fun q => (by cases q), fun q => (by cases q)⟩, ?_⟩
    unfold FldM.ins
    rw [if_neg (by decide), if_pos (by dsimp only; omega)]
   ·exact absurd h1 (by decide)
  ·cases e
   ·exact absurd h1 (by decide)
   ·have w1 := v9 (show inF a 0 16777215 = true from h2)
    have w2 := v9 (show inF b 2 64 = true from h3)
    have w3 := Wa (show wW C.length N.length 119 c = true from h4)
    have w5 := Yl w3 (show 0 ≤ b by omega)
    have w4 : IntKind.i64.wrap (a + IntKind.i64.wrap (b * c)) ≤ 16777216 := of_decide_eq_true (show decide (IntKind.i64.wrap (a + IntKind.i64.wrap (b * c)) ≤ 16777216) = true from h5)
    rw [zg (n := b * c) (by omega), zg (by omega)] at w4
    refine ⟨⟨by dsimp only; omega, by dsimp only; omega, w3, fun q => (by cases q), fun _ => by dsimp only; omega, fun _ _ => w4⟩, ?_⟩
    unfold FldM.ins
    rw [if_pos rfl, if_pos (by dsimp only; omega)]
 ·cases hf
theorem qe {a b n : Int} (h : a ≤ n ∧ n ≤ b) : inF n a b = true := by
 simp only [inF, Bool.and_eq_true, decide_eq_true_eq]
 omega
theorem Wb {nC nN : Nat} {n : Int} (h : n = 1 ∨ n = 2 ∨ n = 4 ∨ n = 8) : wW nC nN 119 n = true := by
 show (decide (n = 1) || decide (n = 2) || decide (n = 4) || decide (n = 8)) = true
 simp only [Bool.or_eq_true, decide_eq_true_eq]
 omega
theorem Ym {e : Bool} {C : List InsM} {N : List Int} {k : Nat} {f : FldM} (h : FldOK e f) (hi : zb C k = f.ins e) : yr e C N k = true := by
 unfold yr zbI
 dsimp only
 rw [hi]
 obtain ⟨a, n, w⟩ := f
 obtain ⟨h1, h2, h3, h4, h5, h6⟩ := h
 dsimp only at *
 unfold FldM.ins
 by_cases hn : 1 < n
 ·cases e
  ·rw [if_neg (by decide), if_pos hn]
   have r1 : inF a 0 63 = true := qe (by have := h4 rfl; omega)
   have r2 : inF n 2 64 = true := qe (by omega)
   have r3 := Wb (nC := C.length) (nN := N.length) h3
   have r4 : decide (IntKind.i64.wrap (a + n) ≤ 64) = true := by
    have := h4 rfl
    rw [zg (by omega)]
    exact decide_eq_true this
   show (true && (inF a 0 63 && inF n 2 64 && wW C.length N.length 119 w) && decide (IntKind.i64.wrap (a + n) ≤ 64)) = true
   rw [r1, r2, r3, r4]; rfl
  ·rw [if_pos rfl, if_pos hn]
   have w5 := Yl h3 (show 0 ≤ n by omega)
   have h7 := h6 rfl hn
   have h8 := h5 rfl
   have r1 : inF a 0 16777215 = true := qe (by omega)
   have r2 : inF n 2 64 = true := qe (by omega)
   have r3 := Wb (nC := C.length) (nN := N.length) h3
   have r4 : decide (IntKind.i64.wrap (a + IntKind.i64.wrap (n * w)) ≤ 16777216) = true := by
    rw [zg (n := n * w) (by omega), zg (by omega)]
    exact decide_eq_true h7
   show (true && (inF a 0 16777215 && inF n 2 64 && wW C.length N.length 119 w) && decide (IntKind.i64.wrap (a + IntKind.i64.wrap (n * w)) ≤ 16777216)) = true
   rw [r1, r2, r3, r4]; rfl
 ·cases e
  ·rw [if_neg (by decide), if_neg hn]
   have r1 : inF a (-1) 63 = true := qe (by have := h4 rfl; omega)
   have r3 := Wb (nC := C.length) (nN := N.length) h3
   show (true && (inF a (-1) 63 && wW C.length N.length 119 w && decide ((0 : Int) = 0)) && true) = true
   rw [r1, r3]; rfl
  ·rw [if_pos rfl, if_neg hn]
   have r1 : inF a (-1) 16777215 = true := qe (by have := h5 rfl; omega)
   have r3 := Wb (nC := C.length) (nN := N.length) h3
   show (true && (inF a (-1) 16777215 && wW C.length N.length 119 w && decide ((0 : Int) = 0)) && true) = true
   rw [r1, r3]; rfl
def plc (e : Bool) : Int := if e = true then 6 else 2
def stF (e : Bool) (f : FldM) (s : StM) : StM × Bool :=
 if e = true then ((s.take f.n).1, (s.take f.n).2 && (decide (f.n = 1) || decide (s.place = 6)))
 else if 1 < f.n then runN f.n.toNat f.a s (decide (s.place = 2)) else s.fill f.a
theorem yj {e : Bool} {f : FldM} (h : FldOK e f) (s : StM) (t : Int) : z5 e (f.ins e) s t = (both (stF e f s).1, (stF e f s).2) := by
 have h1 := h.n
 have h2 := h.a
 obtain ⟨a, n, w⟩ := f
 dsimp only at h1 h2
 cases e
 ·show Kv s (if 1 < n then ⟨2, a, n, w⟩ else ⟨1, a, w, 0⟩) t = (both (if 1 < n then runN n.toNat a s (decide (s.place = 2)) else s.fill a).1, (if 1 < n then runN n.toNat a s (decide (s.place = 2)) else s.fill a).2)
  by_cases hn : 1 < n
  ·rw [if_pos hn, if_pos hn]; rfl
  ·rw [if_neg hn, if_neg hn]; rfl
 ·show Q6 s (if 1 < n then ⟨34, a, n, w⟩ else ⟨33, a, w, 0⟩) t = (both (s.take n).1, (s.take n).2 && (decide (n = 1) || decide (s.place = 6)))
  by_cases hn : 1 < n
  ·rw [if_pos hn, decide_eq_false (show ¬ n = 1 by omega), Bool.false_or]; rfl
  ·have : n = 1 := by omega
   subst this
   rw [if_neg hn]
   have : Q6 s ⟨33, a, w, 0⟩ t = if a = -1 then (both s.turn.1, s.turn.2) else (both (s.take 1).1, (s.take 1).2) := rfl
   rw [this, if_neg (by omega)]
   simp
theorem vW (n : Nat) (k : Int) (s : StM) : runN n k s false = (s, false) := by
 cases n with
 | zero => rfl
 | succ n => unfold runN; rw [if_neg (by decide)]
theorem zae (n : Nat) (k : Int) (s : StM) : runN (n + 1) k s true = runN n (k + 1) (s.fill k).1 (s.fill k).2 := by
 show (if true = true then _ else _) = _
 rw [if_pos rfl]
theorem Wc : ∀ (n m : Nat) (k : Int) (s : StM) (ok : Bool), runN (n + m) k s ok = runN m (k + n) (runN n k s ok).1 (runN n k s ok).2
 | 0, m, k, s, ok => by simp [runN]
 | n + 1, m, k, s, ok => by
  rw [show n + 1 + m = (n + m) + 1 by omega]
  cases ok with
  | true => rw [zae, zae, Wc n m, show k + 1 + (n : Int) = k + ((n + 1 : Nat) : Int) by omega]
  | false => rw [vW, vW, vW]
theorem Yn {s : StM} (h2 : s.place = 2) (k : Int) : (s.fill k).1.place = 2 := by
 unfold StM.fill
 rw [if_neg (by omega), if_neg (by omega), if_neg (by omega), if_pos h2]
 split <;> exact h2
theorem UW : ∀ (n : Nat) (k : Int) {s : StM} (ok : Bool), s.place = 2 → (runN n k s ok).1.place = 2
 | 0, _, _, _, h => h
 | n + 1, k, s, ok, h => by
  unfold runN
  split
  ·exact UW n (k + 1) _ (Yn h k)
  ·exact h
theorem vj {f : FldM} (h1 : 1 ≤ f.n) {s : StM} (h2 : s.place = 2) : stF false f s = runN f.n.toNat f.a s true := by
 unfold stF
 rw [if_neg (by decide)]
 by_cases hn : 1 < f.n
 ·rw [if_pos hn, decide_eq_true h2]
 ·rw [if_neg hn, show f.n.toNat = 1 by omega]
  unfold runN
  rw [if_pos rfl]
  rfl
theorem UX {f : FldM} (h0 : 0 ≤ f.a) (h1 : 1 ≤ f.n) {s : StM} (h2 : s.place ≠ 2) : (stF false f s).2 = true → f.n = 1 ∧ (stF false f s).1.place = 4 := by
 unfold stF
 rw [if_neg (by decide)]
 by_cases hn : 1 < f.n
 ·rw [if_pos hn, decide_eq_false h2, vW]
  intro h; cases h
 ·rw [if_neg hn]
  unfold StM.fill
  intro h
  refine ⟨by omega, ?_⟩
  split
  ·rfl
  ·rename_i g1
   rw [if_neg g1] at h
   split
   ·rfl
   ·rename_i g2
    rw [if_neg g2] at h
    split
    ·rename_i g3
     rw [if_pos g3, decide_eq_false (show ¬ f.a = -1 by omega)] at h
     cases h
    ·rename_i g3
     rw [if_neg g3, if_neg h2] at h
     cases h
theorem zdh {f : FldM} {s : StM} (h1 : 1 ≤ f.n) (h : s.place = 4) : (stF false f s).2 = false := by
 unfold stF
 rw [if_neg (by decide)]
 by_cases hn : 1 < f.n
 ·rw [if_pos hn, decide_eq_false (by omega), vW]
 ·rw [if_neg hn]
  unfold StM.fill
  rw [if_neg (by omega), if_neg (by omega), if_neg (by omega), if_neg (by omega)]
theorem UY {e : Bool} {f g r : FldM} (hg : 1 ≤ g.n) (hr : 1 ≤ r.n) (h64 : f.n ≤ 64) (hn : f.n = g.n + r.n) (h0 : 0 ≤ g.a) (ha : f.a = g.a) (hb : e = false → r.a = g.a + g.n) {s : StM} (hs : xR s) :
  ((stF e f s).2 = true ↔ (stF e g s).2 = true ∧ (stF e r (stF e g s).1).2 = true) ∧ ((stF e f s).2 = true → (stF e f s).1 = (stF e r (stF e g s).1).1 ∧ s.place = plc e ∧ (stF e g s).1.place = plc e) := by
 cases e with
 | false =>
  have hb := hb rfl
  show _ ∧ (_ → _ ∧ s.place = 2 ∧ (stF false g s).1.place = 2)
  by_cases h2 : s.place = 2
  ·have hp : (stF false g s).1.place = 2 := by rw [vj hg h2]; exact UW _ _ _ h2
   have e1 : stF false f s = runN r.n.toNat r.a (stF false g s).1 (stF false g s).2 := by
    rw [vj (f := f) (by omega) h2, vj hg h2, show f.n.toNat = g.n.toNat + r.n.toNat by omega, Wc, ha, hb, show ((g.n.toNat : Nat) : Int) = g.n by omega]
   rw [e1, vj hr hp]
   cases (stF false g s).2 with
   | true => exact ⟨⟨fun h => ⟨rfl, h⟩, fun h => h.2⟩, fun _ => ⟨rfl, h2, hp⟩⟩
   | false =>
    rw [vW]
    exact ⟨⟨fun h => (by cases h), fun h => (by cases h.1)⟩, fun h => (by cases h)⟩
  ·have e1 : (stF false f s).2 = false := by
    cases hq : (stF false f s).2 with
    | false => rfl
    | true => have := (UX (f := f) (by omega) (by omega) h2 hq).1; omega
   rw [e1]
   refine ⟨⟨fun h => (by cases h), fun ⟨h, h'⟩ => ?_⟩, fun h => (by cases h)⟩
   have := (UX h0 hg h2 h).2
   rw [zdh hr this] at h'
   cases h'
 | true =>
  show _ ∧ (_ → _ ∧ s.place = 6 ∧ (stF true g s).1.place = 6)
  by_cases h6 : s.place = 6
  ·obtain ⟨l0, l1⟩ := hs h6
   have tk : ∀ n, 0 ≤ n → n ≤ 64 → s.take n = ({ s with left := s.left - n }, decide (0 ≤ s.left - n)) := fun n q1 q2 => by
    unfold StM.take
    rw [if_neg (by omega), if_pos h6, zg (by omega)]
   have hf : stF true f s = ({ s with left := s.left - f.n }, decide (0 ≤ s.left - f.n)) := by
    unfold stF
    rw [if_pos rfl, tk _ (by omega) h64, decide_eq_true h6, Bool.or_true, Bool.and_true]
   have hgs : stF true g s = ({ s with left := s.left - g.n }, decide (0 ≤ s.left - g.n)) := by
    unfold stF
    rw [if_pos rfl, tk _ (by omega) (by omega), decide_eq_true h6, Bool.or_true, Bool.and_true]
   have hrs : stF true r (stF true g s).1 = ({ s with left := s.left - g.n - r.n }, decide (0 ≤ s.left - g.n - r.n)) := by
    rw [hgs]
    unfold stF
    rw [if_pos rfl, decide_eq_true (show ({ s with left := s.left - g.n } : StM).place = 6 from h6), Bool.or_true, Bool.and_true]
    unfold StM.take
    rw [if_neg (by show ¬ (s.place = 5 ∧ _); omega), if_pos (show ({ s with left := s.left - g.n } : StM).place = 6 from h6)]
    dsimp only
    rw [zg (by omega)]
   rw [hrs, hf, hgs]
   dsimp only
   refine ⟨?_, fun _ => ⟨?_, h6, h6⟩⟩
   ·rw [decide_eq_true_eq, decide_eq_true_eq, decide_eq_true_eq]; omega
   ·rw [hn, show s.left - (g.n + r.n) = s.left - g.n - r.n by omega]
  ·have e1 : (stF true f s).2 = false := by
    unfold stF
    rw [if_pos rfl, decide_eq_false h6, decide_eq_false (show ¬ f.n = 1 by omega)]
    simp
   rw [e1]
   refine ⟨⟨fun h => (by cases h), fun ⟨h, h'⟩ => ?_⟩, fun h => (by cases h)⟩
   unfold stF at h h'
   rw [if_pos rfl, decide_eq_false h6, Bool.or_false] at h
   rw [if_pos rfl, if_pos rfl] at h'
   simp only [Bool.and_eq_true, decide_eq_true_eq] at h
   obtain ⟨h1, h2⟩ := h
   rw [h2] at h1 h'
   unfold StM.take at h1
   split at h1
   ·rename_i q
    have hst : (s.take 1).1 = ⟨6, 0, 0, 0, 0, 0⟩ := by unfold StM.take; rw [if_pos q]
    rw [hst, Bool.and_eq_true] at h'
    obtain ⟨h', _⟩ := h'
    have : (StM.take ⟨6, 0, 0, 0, 0, 0⟩ r.n).2 = decide (0 ≤ IntKind.i64.wrap (0 - r.n)) := rfl
    rw [this, zg (by omega), decide_eq_true_eq] at h'
    omega
   ·first
     | (rw [if_neg h6] at h1; cases h1)
     | cases h1
end
section
open Go.RowKit
theorem Wd {m : Nat} (hm : m < 18446744073709551616) {k : Int} (h : 0 ≤ k ∧ k < 64) : zay (m : Int) k = ((m ||| 2 ^ k.toNat : Nat) : Int) := by
 have h1 : min k.toNat 64 = k.toNat := by omega
 have h2 : (2 : Nat) ^ k.toNat < 18446744073709551616 := Nat.pow_lt_pow_right (by decide) (show k.toNat < 64 by omega)
 have hx : m ||| 2 ^ k.toNat < 2 ^ 64 := Nat.or_lt_two_pow hm h2
 unfold zay
 rw [h1, Int.one_mul, show ((2 : Int) ^ k.toNat) = ((2 ^ k.toNat : Nat) : Int) by simp]
 generalize (2 : Nat) ^ k.toNat = p at *
 have hw : IntKind.u64.wrap (p : Int) = p := by rw [IntKind.wrap_u64]; omega
 rw [hw]
 show IntKind.u64.wrap ((BitVec.ofInt 64 (m : Int) ||| BitVec.ofInt 64 (p : Int)).toNat : Int) = _
 have q1 : V5 (m : Int) = m := by unfold V5; omega
 have q2 : V5 (p : Int) = p := by unfold V5; omega
 rw [BitVec.toNat_or, x3, x3, q1, q2, IntKind.wrap_u64]
 omega
theorem Yo {m : Nat} (hm : m < 18446744073709551616) {k : Int} (h : 0 ≤ k ∧ k < 64) : zb3 (m : Int) k = m.testBit k.toNat := by
 have h1 : min k.toNat 64 = k.toNat := by omega
 have h2 : (m : Int).fdiv (2 ^ k.toNat) = ((m / 2 ^ k.toNat : Nat) : Int) := by
  rw [show ((2 : Int) ^ k.toNat) = ((2 ^ k.toNat : Nat) : Int) by simp, Int.fdiv_eq_ediv_of_nonneg _ (Int.natCast_nonneg _)]
  rfl
 have h3 : m / 2 ^ k.toNat < 18446744073709551616 := Nat.lt_of_le_of_lt (Nat.div_le_self _ _) hm
 have h4 : (m / 2 ^ k.toNat) &&& 1 = (m.testBit k.toNat).toNat := by
  rw [Nat.testBit_eq_decide_div_mod_eq, Nat.and_one_is_mod]
  rcases Nat.mod_two_eq_zero_or_one (m / 2 ^ k.toNat) with q | q <;> simp [q]
 unfold zb3
 rw [h1, h2]
 generalize m / 2 ^ k.toNat = p at *
 have q1 : V5 (p : Int) = p := by unfold V5; omega
 have hx : p &&& 1 < 2 ^ 64 := Nat.and_lt_two_pow _ (by decide)
 have : bits .and .u64 (p : Int) 1 = ((p &&& 1 : Nat) : Int) := by
  show IntKind.u64.wrap ((BitVec.ofInt 64 (p : Int) &&& BitVec.ofInt 64 1).toNat : Int) = _
  rw [BitVec.toNat_and, x3, x3, q1, show V5 1 = 1 from rfl, IntKind.wrap_u64]
  omega
 rw [this, h4]
 cases m.testBit k.toNat <;> simp
theorem zcx {m n i : Nat} (hm : m.testBit i = false) (hn : n.testBit i = false) (h : m ||| 2 ^ i = n ||| 2 ^ i) : m = n := by
 apply Nat.eq_of_testBit_eq
 intro j
 by_cases hj : i = j
 ·subst hj; rw [hm, hn]
 ·have := congrArg (Nat.testBit · j) h
  simpa [Nat.testBit_or, Nat.testBit_two_pow, hj] using this
def KOK (s : StM) : Prop := ∃ m : Nat, s.kids = m ∧ m < 18446744073709551616
theorem KOK.same {s r : StM} (h : KOK s) (g : r.kids = s.kids) : KOK r := by obtain ⟨m, h1, h2⟩ := h; exact ⟨m, by rw [g, h1], h2⟩
theorem KOK.zero {r : StM} (g : r.kids = 0) : KOK r := ⟨0, g, by decide⟩
theorem zcy (x k : Int) : ∃ m : Nat, zay x k = m ∧ m < 18446744073709551616 := by
 have hx : V5 x ||| V5 (IntKind.u64.wrap (1 * 2 ^ min k.toNat 64)) < 2 ^ 64 := Nat.or_lt_two_pow (Kp _) (Kp _)
 refine ⟨_, ?_, hx⟩
 unfold zay
 show IntKind.u64.wrap ((BitVec.ofInt 64 x ||| BitVec.ofInt 64 _).toNat : Int) = _
 rw [BitVec.toNat_or, x3, x3, IntKind.wrap_u64]
 omega
theorem KOK.fill {s : StM} (h : KOK s) (k : Int) : KOK (s.fill k).1 := by
 unfold StM.fill
 split
 ·exact h.same rfl
 split
 ·exact h.same rfl
 split
 ·exact h.same rfl
 split
 ·split
  ·exact h
  ·exact zcy s.kids k
 ·exact h
theorem KOK.runN : ∀ (n : Nat) (k : Int) {s : StM} (ok : Bool), KOK s → KOK (Go.Proofs.Ytfjajlcjifnceaa.runN n k s ok).1
 | 0, _, _, _, h => h
 | n + 1, k, s, ok, h => by
  unfold Go.Proofs.Ytfjajlcjifnceaa.runN
  split
  ·exact KOK.runN n (k + 1) _ (h.fill k)
  ·exact h
theorem KOK.take {s : StM} (h : KOK s) (n : Int) : KOK (s.take n).1 := by
 unfold StM.take
 split
 ·exact .zero rfl
 split
 ·exact h.same rfl
 ·exact h
def EfK (E : EfM) : Prop := KOK E.next ∧ KOK E.target
theorem EfK.both {s : StM} (h : KOK s) : EfK (both s) := ⟨h, h⟩
theorem ym {p : Prop} [Decidable p] {a b : EfM × Bool} (ha : EfK a.1) (hb : EfK b.1) : EfK (if p then a else b).1 := by
 by_cases h : p
 ·rw [if_pos h]; exact ha
 ·rw [if_neg h]; exact hb
theorem Jg {e : Bool} {s : StM} {x : InsM} {t : Int} (h : KOK s) : EfK (z5 e x s t).1 := by
 have z : EfK .zero := .both (.zero rfl)
 have same : ∀ {r : StM}, r.kids = s.kids → KOK r := fun g => h.same g
 unfold z5
 refine ym ?_ ?_
 ·unfold Q6
  dsimp only
  refine ym (ym z (ym (.both (same rfl)) (.both (h.take 1)))) ?_
  refine ym (ym (.both (same rfl)) (.both (h.take 1))) ?_
  refine ym (.both (h.take _)) ?_
  refine ym (.both (.zero rfl)) ?_
  refine ym (.both (.zero rfl)) ?_
  refine ym (.both (.zero rfl)) ?_
  refine ym ⟨.zero rfl, .zero rfl⟩ ?_
  refine ym (.both (.zero rfl)) ?_
  refine ym (.both h) ?_
  refine ym (.both h) ?_
  refine ym ⟨.zero rfl, .zero rfl⟩ ?_
  refine ym (.both h) ?_
  exact ym z z
 ·unfold Kv
  dsimp only
  refine ym (ym z (.both (h.fill _))) ?_
  refine ym (.both (h.fill _)) ?_
  refine ym (.both (KOK.runN _ _ _ h)) ?_
  refine ym (.both (same rfl)) ?_
  refine ym (.both (same rfl)) ?_
  refine ym ⟨same rfl, same rfl⟩ ?_
  refine ym (.both (same rfl)) ?_
  refine ym ?_ ?_
  ·unfold StM.offset
   exact ym (.both (same rfl)) (.both (same rfl))
  refine ym (ym z ?_) ?_
  ·unfold StM.part
   exact ym (.both (same rfl)) (.both ((h.fill x.a).same rfl))
  refine ym ?_ ?_
  ·unfold StM.rounds
   dsimp only
   refine ym ⟨same rfl, same rfl⟩ ?_
   refine ym ⟨same rfl, same rfl⟩ ?_
   refine ym ⟨same rfl, same rfl⟩ ?_
   refine ym ⟨same rfl, same rfl⟩ ?_
   exact ym ⟨same rfl, same rfl⟩ (.both (same rfl))
  refine ym (.both h) ?_
  exact ym z z
theorem zbe {e : Bool} {f : FldM} {s : StM} (h : KOK s) : KOK (stF e f s).1 := by
 unfold stF
 split
 ·exact h.take _
 split
 ·exact KOK.runN _ _ _ h
 ·exact h.fill _
theorem We {e : Bool} {f : FldM} {s : StM} (hf : FldOK e f) (h : xR s) (hok : (stF e f s).2 = true) : xR (stF e f s).1 := by
 unfold stF at hok ⊢
 split
 ·rename_i he
  rw [if_pos he] at hok
  rw [Bool.and_eq_true] at hok
  exact h.take (by have := hf.n; omega) hok.1
 split
 ·exact xR.runN _ _ _ h
 ·exact h.fill _
theorem kC {e : Bool} {f : FldM} {s : StM} (hf : FldOK e f) (h : s.place = plc e) : (stF e f s).1.place = plc e := by
 have h1 := hf.n
 cases e with
 | false => rw [vj h1.1 h]; exact UW _ _ _ h
 | true =>
  have h : s.place = 6 := h
  unfold stF StM.take
  rw [if_pos rfl, if_neg (by omega), if_pos h]
  exact h
theorem Zq {s : StM} (h2 : s.place = 2) {k : Int} (hok : (s.fill k).2 = true) : s.fill k = (({ s with kids := zay s.kids k } : StM).still, true) ∧ 0 ≤ k ∧ zb3 s.kids k = false := by
 unfold StM.fill at hok ⊢
 rw [if_neg (by omega), if_neg (by omega), if_neg (by omega), if_pos h2] at hok ⊢
 by_cases hk : k < 0 ∨ zb3 s.kids k = true
 ·rw [if_pos hk] at hok; cases hok
 ·rw [if_neg hk]
  refine ⟨rfl, by omega, ?_⟩
  cases hb : zb3 s.kids k
  ·rfl
  ·exact absurd (.inr hb) hk
theorem UZ : ∀ (n : Nat) (k : Int) {s s' : StM}, s.place = 2 → s'.place = 2 → s.free = s'.free → KOK s → KOK s' → 0 ≤ k → k + n ≤ 64 → (runN n k s true).2 = true → (runN n k s' true).2 = true → (runN n k s true).1 = (runN n k s' true).1 → s = s'
 | 0, _, _, _, _, _, _, _, _, _, _, _, _, h => h
 | n + 1, k, s, s', p, p', hf, hk, hk', h0, hl, o, o', h => by
  unfold runN at o o' h
  rw [if_pos rfl] at o o' h
  rw [if_pos rfl] at h
  have q : (s.fill k).2 = true := by
   cases hq : (s.fill k).2 with
   | true => rfl
   | false => rw [hq, vW] at o; cases o
  have q' : (s'.fill k).2 = true := by
   cases hq : (s'.fill k).2 with
   | true => rfl
   | false => rw [hq, vW] at o'; cases o'
  rw [q] at o h
  rw [q'] at o' h
  obtain ⟨a1, _, a3⟩ := Zq p q
  obtain ⟨b1, _, b3⟩ := Zq p' q'
  have fr : (s.fill k).1.free = (s'.fill k).1.free := by rw [a1, b1]; rfl
  have key := UZ n (k + 1) (Yn p k) (Yn p' k) fr (hk.fill k) (hk'.fill k) (by omega) (by omega) o o' h
  rw [a1, b1] at key
  obtain ⟨m, hm, hlt⟩ := hk
  obtain ⟨m', hm', hlt'⟩ := hk'
  rw [hm, Yo hlt ⟨h0, by omega⟩] at a3
  rw [hm', Yo hlt' ⟨h0, by omega⟩] at b3
  obtain ⟨pl, ki, ta, pa, fe, le⟩ := s
  obtain ⟨pl', ki', ta', pa', fe', le'⟩ := s'
  simp only [StM.still, StM.mk.injEq] at key hm hm' p p' hf ⊢
  obtain ⟨_, g2, g3, g4, _, g6⟩ := key
  rw [hm, hm', Wd hlt ⟨h0, by omega⟩, Wd hlt' ⟨h0, by omega⟩] at g2
  have := zcx a3 b3 (by omega)
  exact ⟨by omega, by omega, g3, g4, hf, g6⟩
theorem zbf {e : Bool} {g : FldM} {s s' : StM} (hg : FldOK e g) (p : s.place = plc e) (p' : s'.place = plc e) (k : KOK s) (k' : KOK s') (hs : xR s) (hs' : xR s') (hf : e = false → s.free = s'.free) (o : (stF e g s).2 = true) (o' : (stF e g s').2 = true) (h : (stF e g s).1 = (stF e g s').1) : s = s' := by
 have h1 := hg.n
 cases e with
 | false =>
  rw [vj h1.1 p] at o h
  rw [vj h1.1 p'] at o' h
  have := hg.d rfl
  exact UZ _ _ p p' (hf rfl) k k' hg.a (by omega) o o' h
 | true =>
  have p : s.place = 6 := p
  have p' : s'.place = 6 := p'
  have := hs p
  have := hs' p'
  have tk : ∀ {s : StM}, s.place = 6 → 0 ≤ s.left ∧ s.left ≤ 64 → (stF true g s).1 = { s with left := s.left - g.n } := fun {s} q1 q2 => by
   show (s.take g.n).1 = _
   unfold StM.take
   rw [if_neg (by omega), if_pos q1, zg (by omega)]
  rw [tk p (hs p), tk p' (hs' p')] at h
  obtain ⟨pl, ki, ta, pa, fe, le⟩ := s
  obtain ⟨pl', ki', ta', pa', fe', le'⟩ := s'
  simp only [StM.mk.injEq] at h ⊢
  obtain ⟨g1, g2, g3, g4, g5, g6⟩ := h
  exact ⟨g1, g2, g3, g4, g5, by omega⟩
theorem qV {f : FldM} {s : StM} (hf : FldOK false f) (p : s.place = 2) (o : (stF false f s).2 = true) : (stF false f s).1.free = 0 := by
 have h1 := hf.n
 rw [vj h1.1 p] at o ⊢
 obtain ⟨n, hn⟩ : ∃ n, f.n.toNat = n + 1 := ⟨f.n.toNat - 1, by omega⟩
 rw [hn] at o ⊢
 generalize f.a = k at *
 have gen : ∀ (n : Nat) (k : Int) (s : StM), s.place = 2 → s.free = 0 → (runN n k s true).2 = true → (runN n k s true).1.free = 0 := by
  intro n
  induction n with
  | zero => intro k s _ h _; exact h
  | succ n ih =>
   intro k s p h o
   unfold runN at o ⊢
   rw [if_pos rfl] at o ⊢
   cases hq : (s.fill k).2 with
   | false => rw [hq, vW] at o; cases o
   | true =>
    rw [hq] at o
    refine ih _ _ (Yn p k) ?_ o
    rw [(Zq p hq).1]; rfl
 unfold runN at o ⊢
 rw [if_pos rfl] at o ⊢
 cases hq : (s.fill k).2 with
 | false => rw [hq, vW] at o; cases o
 | true =>
  rw [hq] at o
  refine gen _ _ _ (Yn p k) ?_ o
  rw [(Zq p hq).1]; rfl
def qJ (e : Bool) : FldM → List FldM → Prop
 | _, [] => False
 | f, g :: l => (l = [] ∧ g = f) ∨ (l ≠ [] ∧ g.a = f.a ∧ g.w = f.w ∧ 1 ≤ g.n ∧ g.n < f.n ∧ qJ e ⟨g.behind e, f.n - g.n, f.w⟩ l)
theorem U0 {e : Bool} {f g : FldM} (h : FldOK e f) (ha : g.a = f.a) (hw : g.w = f.w) (h1 : 1 ≤ g.n) (h2 : g.n < f.n) : FldOK e g ∧ FldOK e ⟨g.behind e, f.n - g.n, f.w⟩ := by
 obtain ⟨q1, q2, q3, q4, q5, q6⟩ := h
 obtain ⟨a, n, w⟩ := f
 obtain ⟨a', n', w'⟩ := g
 dsimp only at *
 subst ha
 subst hw
 unfold FldM.behind
 cases e with
 | false =>
  have := q4 rfl
  refine ⟨⟨q1, by dsimp only; omega, q3, fun _ => by dsimp only; omega, fun h => (by cases h), fun h => (by cases h)⟩, ⟨by dsimp only; rw [if_neg (by decide)]; omega, by dsimp only; omega, q3, fun _ => by dsimp only; rw [if_neg (by decide)]; omega, fun h => (by cases h), fun h => (by cases h)⟩⟩
 | true =>
  have g1 := q5 rfl
  have g2 := q6 rfl (by omega)
  have m1 := Yl q3 (show 0 ≤ n' by omega)
  have m2 := Yl q3 (show 0 ≤ n - n' by omega)
  have e1 : n * w' = n' * w' + (n - n') * w' := by rw [← Int.add_mul]; congr 1; omega
  have m3 : n - n' ≤ (n - n') * w' := by rcases q3 with r | r | r | r <;> rw [r] <;> omega
  refine ⟨⟨q1, by dsimp only; omega, q3, fun h => (by cases h), fun _ => g1, fun _ _ => by dsimp only; omega⟩, ⟨by dsimp only; rw [if_pos rfl]; omega, by dsimp only; omega, q3, fun h => (by cases h), fun _ => by dsimp only; rw [if_pos rfl]; omega, fun _ _ => by dsimp only; rw [if_pos rfl]; omega⟩⟩
theorem xb {e : Bool} : ∀ {l : List FldM} {f : FldM}, FldOK e f → qJ e f l → ∀ g ∈ l, FldOK e g
 | [], _, _, h, _, _ => h.elim
 | g :: l, f, hf, h, x, hx => by
  rcases h with ⟨rfl, rfl⟩ | ⟨_, h1, h2, h3, h4, h5⟩
  ·simp at hx; rw [hx]; exact hf
  ·obtain ⟨r1, r2⟩ := U0 hf h1 h2 h3 h4
   rcases List.mem_cons.1 hx with rfl | hx
   ·exact r1
   ·exact xb r2 h5 x hx
def chF (e : Bool) : List FldM → StM → StM
 | [], s => s
 | g :: l, s => chF e l (stF e g s).1
def U1 (e : Bool) : List FldM → StM → Prop
 | [], _ => True
 | g :: l, s => (stF e g s).2 = true ∧ U1 e l (stF e g s).1
theorem wO {e : Bool} : ∀ {l : List FldM} {f : FldM} {s : StM}, FldOK e f → qJ e f l → xR s →
  ((stF e f s).2 = true ↔ U1 e l s) ∧ ((stF e f s).2 = true → (stF e f s).1 = chF e l s ∧ (2 ≤ l.length → s.place = plc e))
 | [], _, _, _, h, _ => h.elim
 | g :: l, f, s, hf, h, hs => by
  rcases h with ⟨rfl, rfl⟩ | ⟨hl, h1, h2, h3, h4, h5⟩
  ·exact ⟨⟨fun h => ⟨h, trivial⟩, fun h => h.1⟩, fun _ => ⟨rfl, fun h => absurd h (by simp)⟩⟩
  ·obtain ⟨r1, r2⟩ := U0 hf h1 h2 h3 h4
   have hq := hf.n
   have hsp := UY (e := e) (f := f) (g := g) (r := ⟨g.behind e, f.n - g.n, f.w⟩) h3 (by dsimp only; omega) hq.2 (by dsimp only; omega) r1.a h1.symm (fun he => by subst he; rfl) hs
   by_cases hg : (stF e g s).2 = true
   ·obtain ⟨i1, i2⟩ := wO r2 h5 (We r1 hs hg)
    refine ⟨hsp.1.trans ⟨fun ⟨a, b⟩ => ⟨a, i1.1 b⟩, fun ⟨a, b⟩ => ⟨a, i1.2 b⟩⟩, fun ho => ?_⟩
    obtain ⟨s1, s2, _⟩ := hsp.2 ho
    exact ⟨s1.trans (i2 (hsp.1.1 ho).2).1, fun _ => s2⟩
   ·exact ⟨⟨fun h => absurd (hsp.1.1 h).1 hg, fun h => absurd h.1 hg⟩, fun h => absurd (hsp.1.1 h).1 hg⟩
theorem xC {e : Bool} : ∀ {l : List FldM} {j : Nat} {g : FldM} {s : StM}, l[j]? = some g → chF e (l.take (j + 1)) s = (stF e g (chF e (l.take j) s)).1
 | [], _, _, _, h => by simp at h
 | x :: l, 0, g, s, h => by simp at h; subst h; rfl
 | x :: l, j + 1, g, s, h => by
  show chF e (l.take (j + 1)) _ = (stF e g (chF e (l.take j) _)).1
  exact xC (by simpa using h)
theorem Zr {e : Bool} : ∀ {l : List FldM} {j : Nat} {g : FldM} {s : StM}, U1 e l s → l[j]? = some g → (stF e g (chF e (l.take j) s)).2 = true
 | [], _, _, _, _, h => by simp at h
 | x :: l, 0, g, s, ho, h => by simp at h; subst h; exact ho.1
 | x :: l, j + 1, g, s, ho, h => by
  show (stF e g (chF e (l.take j) _)).2 = true
  exact Zr ho.2 (by simpa using h)
theorem U2 {e : Bool} : ∀ {l : List FldM} {s : StM}, (∀ j g, l[j]? = some g → (stF e g (chF e (l.take j) s)).2 = true) → U1 e l s
 | [], _, _ => trivial
 | x :: l, s, h => ⟨h 0 x rfl, U2 fun j g hj => h (j + 1) g (by simpa using hj)⟩
theorem Xk {e : Bool} : ∀ {l : List FldM} {s : StM}, (∀ g ∈ l, FldOK e g) → xR s → U1 e l s → ∀ j, xR (chF e (l.take j) s)
 | [], _, _, hs, _, j => by rw [List.take_nil]; exact hs
 | x :: l, s, hl, hs, ho, 0 => hs
 | x :: l, s, hl, hs, ho, j + 1 => Xk (l := l) (s := (stF e x s).1) (fun g hg => hl g (.tail _ hg)) (We (hl x (.head _)) hs ho.1) ho.2 j
theorem zdi {e : Bool} : ∀ {l : List FldM} {s : StM}, KOK s → KOK (chF e l s)
 | [], _, h => h
 | x :: l, s, h => zdi (l := l) (zbe h)
theorem uD {e : Bool} : ∀ {l : List FldM} {s : StM}, (∀ g ∈ l, FldOK e g) → s.place = plc e → (chF e l s).place = plc e
 | [], _, _, h => h
 | x :: l, s, hl, h => uD (l := l) (s := (stF e x s).1) (fun g hg => hl g (.tail _ hg)) (kC (hl x (.head _)) h)
theorem zaf {e : Bool} : ∀ {l : List FldM} {s s' : StM}, (∀ g ∈ l, FldOK e g) → s.place = plc e → s'.place = plc e → KOK s → KOK s' → xR s → xR s' → (e = false → s.free = s'.free) → U1 e l s → U1 e l s' → chF e l s = chF e l s' → s = s'
 | [], _, _, _, _, _, _, _, _, _, _, _, _, h => h
 | x :: l, s, s', hl, p, p', k, k', hs, hs', hf, o, o', h => by
  have hx := hl x (.head _)
  refine zbf hx p p' k k' hs hs' hf o.1 o'.1 (zaf (fun g hg => hl g (.tail _ hg)) (kC hx p) (kC hx p') (zbe k) (zbe k') (We hx hs o.1) (We hx hs' o'.1) (fun he => ?_) o.2 o'.2 h)
  subst he
  rw [qV hx p o.1, qV hx p' o'.1]
theorem Jh {e : Bool} {l : List FldM} {f : FldM} {s s' : StM} (hf : FldOK e f) (h : qJ e f l) (k : KOK s) (k' : KOK s') (hs : xR s) (hs' : xR s') (o : (stF e f s).2 = true) (o' : (stF e f s').2 = true) (he : (stF e f s).1 = (stF e f s').1) {j : Nat} {g : FldM} (hj : l[j]? = some g) :
  (stF e g (chF e (l.take j) s)).1 = (stF e g (chF e (l.take j) s')).1 := by
 have hall := xb hf h
 obtain ⟨i1, i2⟩ := wO hf h hs
 obtain ⟨i1', i2'⟩ := wO hf h hs'
 obtain ⟨r1, r2⟩ := i2 o
 obtain ⟨r1', r2'⟩ := i2' o'
 have c := i1.1 o
 have c' := i1'.1 o'
 rw [r1, r1'] at he
 rw [← xC hj, ← xC hj]
 by_cases h2 : 2 ≤ l.length
 ·have split : ∀ {l : List FldM} {s : StM} (j : Nat), chF e l s = chF e (l.drop j) (chF e (l.take j) s) ∧ (U1 e l s → U1 e (l.drop j) (chF e (l.take j) s)) := by
   intro l
   induction l with
   | nil => intro s j; simp [chF, U1]
   | cons x l ih =>
    intro s j
    cases j with
    | zero => exact ⟨rfl, fun h => h⟩
    | succ j =>
     have := ih (s := (stF e x s).1) j
     exact ⟨this.1, fun h => this.2 h.2⟩
  have p := r2 h2
  have p' := r2' h2
  have ht : ∀ g ∈ l.take (j + 1), FldOK e g := fun g hg => hall g (List.mem_of_mem_take hg)
  have hd : ∀ g ∈ l.drop (j + 1), FldOK e g := fun g hg => hall g (List.mem_of_mem_drop hg)
  refine zaf hd (uD ht p) (uD ht p') (zdi k) (zdi k') (Xk hall hs c _) (Xk hall hs' c' _) (fun hfe => ?_) ((split (j + 1)).2 c) ((split (j + 1)).2 c') (by rw [← (split (j + 1)).1, ← (split (j + 1)).1]; exact he)
  subst hfe
  have hg := hall g (List.mem_of_getElem? hj)
  have ht' : ∀ g ∈ l.take j, FldOK false g := fun g hg => hall g (List.mem_of_mem_take hg)
  rw [xC hj, xC hj, qV hg (uD ht' p) (Zr c hj), qV hg (uD ht' p') (Zr c' hj)]
 ·have hl1 : l.take (j + 1) = l := by
   have : j < l.length := by
    rcases Nat.lt_or_ge j l.length with q | q
    ·exact q
    ·rw [List.getElem?_eq_none q] at hj; cases hj
   exact List.take_of_length_le (by omega)
  rw [hl1]
  exact he
end
section
open Go.RowKit
def trI (pos : Nat → Nat) (n : Int) : Int := (pos n.toNat : Nat)
def mvX (m : Int → Int) (x : InsM) : InsM := if tgF x.op = true then { x with b := m x.b } else x
abbrev trX (pos : Nat → Nat) (x : InsM) : InsM := mvX (trI pos) x
def zG (P : Nat → List FldM) : Nat → Nat
 | 0 => 0
 | k + 1 => zG P k + max 1 (P k).length
structure Rf (e : Bool) (C : List InsM) (N : List Int) (D : List InsM) (P : Nat → List FldM) : Prop where
 chk : ∀ k, k < C.length → yr e C N k = true
 en : ∀ n ∈ N, 0 ≤ n ∧ n < C.length
 oth : ∀ k, P k = [] → yF (zb C k) = none ∧ zb D (zG P k) = trX (zG P) (zb C k)
 num : ∀ k, P k ≠ [] → k < C.length ∧ ∃ f, FldOK e f ∧ zb C k = f.ins e ∧ qJ e f (P k) ∧ ∀ j g, (P k)[j]? = some g → zb D (zG P k + j) = g.ins e
 len : D.length = zG P C.length
section
variable {P : Nat → List FldM}
theorem kD (k : Nat) : zG P (k + 1) = zG P k + max 1 (P k).length := rfl
theorem ua {k k' : Nat} (h : k < k') : zG P k + max 1 (P k).length ≤ zG P k' := by
 induction k' with
 | zero => omega
 | succ k' ih =>
  rw [kD]
  by_cases q : k = k'
  ·subst q; omega
  ·have := ih (by omega); omega
theorem wC {k k' : Nat} (h : k ≤ k') : zG P k ≤ zG P k' := by
 by_cases q : k = k'
 ·subst q; omega
 ·have := ua (P := P) (show k < k' by omega); omega
theorem uE {k k' : Nat} (h : k < k') : zG P k < zG P k' := by have := ua (P := P) h; omega
theorem zcz (P : Nat → List FldM) (i : Nat) : ∃ k j, i = zG P k + j ∧ j < max 1 (P k).length := by
 induction i with
 | zero => exact ⟨0, 0, rfl, by omega⟩
 | succ i ih =>
  obtain ⟨k, j, rfl, hj⟩ := ih
  by_cases q : j + 1 < max 1 (P k).length
  ·exact ⟨k, j + 1, rfl, q⟩
  ·exact ⟨k + 1, 0, by show _ = zG P k + max 1 (P k).length + 0; omega, by omega⟩
theorem uF {k k' j j' : Nat} (hj : j < max 1 (P k).length) (hj' : j' < max 1 (P k').length) (h : zG P k + j = zG P k' + j') : k = k' ∧ j = j' := by
 have hk : k = k' := by
  rcases Nat.lt_trichotomy k k' with q | q | q
  ·have := ua (P := P) q; omega
  ·exact q
  ·have := ua (P := P) q; omega
 subst hk
 exact ⟨rfl, by omega⟩
theorem vn {k k' : Nat} (h : zG P k = zG P k') : k = k' := (uF (P := P) (j := 0) (j' := 0) (by omega) (by omega) h).1
theorem Xl {k j n : Nat} (hj : j < max 1 (P k).length) : zG P k + j < zG P n ↔ k < n := by
 constructor
 ·intro h
  rcases Nat.lt_or_ge k n with q | q
  ·exact q
  ·have := wC (P := P) q; omega
 ·intro h
  have := ua (P := P) h
  omega
theorem vo {n : Int} : (trI (zG P) n).toNat = zG P n.toNat := by unfold trI; omega
theorem vQ (x : InsM) (m : Int → Int) : (mvX m x).op = x.op := by unfold mvX; split <;> rfl
theorem zbY (x : InsM) (m : Int → Int) : (mvX m x).a = x.a := by unfold mvX; split <;> rfl
theorem zdj (x : InsM) (m : Int → Int) : (mvX m x).c = x.c := by unfold mvX; split <;> rfl
theorem zbg {x : InsM} {m : Int → Int} (h : tgF x.op = true) : (mvX m x).b = m x.b := by unfold mvX; rw [if_pos h]
theorem qK {x : InsM} {m : Int → Int} (h : ¬ tgF x.op = true) : mvX m x = x := by unfold mvX; rw [if_neg h]
theorem wP (e : Bool) (x : InsM) (m : Int → Int) (s : StM) (t : Int) : z5 e (mvX m x) s t = z5 e x s t := by
 by_cases h : tgF x.op = true
 ·unfold mvX
  rw [if_pos h]
  obtain ⟨op, a, b, c⟩ := x
  dsimp only at h ⊢
  rcases Ye h with rfl | rfl | rfl | rfl | rfl | rfl | rfl | rfl | rfl | rfl <;> cases e <;> rfl
 ·rw [qK h]
theorem Wf {C : List InsM} {i : Nat} {x : InsM} (h : x.op = 1 ∨ x.op = 2 ∨ x.op = 33 ∨ x.op = 34) : yz C i x = [(i : Int) + 1] := by
 unfold yz
 rw [if_neg (by omega), if_neg (by omega), if_neg (by omega), if_neg (by omega)]
theorem xG {C : List InsM} {k : Nat} (h : C.length ≤ k) : zb C k = ⟨0, 0, 0, 0⟩ := by
 unfold zb
 rw [List.getD_eq_getElem?_getD, List.getElem?_eq_none h]
 rfl
variable {e : Bool} {C : List InsM} {N : List Int} {D : List InsM} (J : Rf e C N D P)
include J
theorem Rf.op (k : Nat) (h : P k ≠ []) : (zb C k).op = 1 ∨ (zb C k).op = 2 ∨ (zb C k).op = 33 ∨ (zb C k).op = 34 := by
 obtain ⟨_, f, _, h2, _⟩ := J.num k h
 rw [h2]
 exact yS
theorem Rf.single {k : Nat} (h : ¬ ((zb C k).op = 1 ∨ (zb C k).op = 2 ∨ (zb C k).op = 33 ∨ (zb C k).op = 34)) : P k = [] := by
 cases hp : P k with
 | nil => rfl
 | cons g l => exact absurd (J.op k (by rw [hp]; simp)) h
theorem Zs {k : Nat} (h : P k = []) : zG P (k + 1) = zG P k + 1 := by
 show zG P k + max 1 (P k).length = _
 rw [h]; rfl
theorem Zt {k : Nat} (ho : (zb C k).op = 8 ∨ (zb C k).op = 41) : ∀ n : Nat, (n : Int) ≤ (zb C k).a → zG P (k + 1 + n) = zG P k + 1 + n
 | 0, _ => Zs J (J.single (by omega))
 | n + 1, hn => by
  have hk : k < C.length := by
   rcases Nat.lt_or_ge k C.length with q | q
   ·exact q
   ·rw [xG q] at ho; exact absurd ho (by decide)
  obtain ⟨a1, a2, a3, a4⟩ := xu (J.chk k hk) ho
  have h9 : (zb C (k + 1 + n)).op = 9 := x2 a4 _ (List.mem_of_getElem? (xK (by omega) a3))
  have := Zs J (J.single (k := k + 1 + n) (by omega))
  rw [show k + 1 + (n + 1) = k + 1 + n + 1 by omega, this, Zt ho n (by omega)]
  omega
theorem zbh {k : Nat} (hp : P k = []) (w : Nat) : (yz D (zG P k) (trX (zG P) (zb C k)))[w]? = ((yz C k (zb C k))[w]?).map (trI (zG P)) := by
 have nx := Zs J hp
 have nxt : trI (zG P) ((k : Int) + 1) = ((zG P k : Nat) : Int) + 1 := by
  unfold trI
  rw [show ((k : Int) + 1).toNat = k + 1 by omega, nx]
  omega
 have har := fun ho => Zt J (k := k) ho
 have hk : (zb C k).op = 8 ∨ (zb C k).op = 41 → k < C.length := fun ho => by
  rcases Nat.lt_or_ge k C.length with q | q
  ·exact q
  ·rw [xG q] at ho; exact absurd ho (by decide)
 have hr := fun ho => xu (J.chk k (hk ho)) ho
 obtain ⟨x, hx⟩ : ∃ x, zb C k = x := ⟨_, rfl⟩
 rw [hx] at har hk hr ⊢
 unfold yz
 rw [vQ]
 by_cases h19 : x.op = 19
 ·rw [if_pos h19, if_pos h19, zbg (by rw [h19]; rfl)]
  cases w <;> rfl
 rw [if_neg h19, if_neg h19]
 by_cases h20 : x.op = 20 ∨ x.op = 9
 ·rw [if_pos h20, if_pos h20]; rfl
 rw [if_neg h20, if_neg h20]
 by_cases hu : x.op = 8 ∨ x.op = 41
 ·rw [if_pos hu, if_pos hu, zbY]
  obtain ⟨a1, a2, a3, a4⟩ := hr hu
  rw [List.getElem?_map, List.getElem?_map, Option.map_map]
  by_cases hw : w < x.a.toNat
  ·rw [List.getElem?_range hw]
   show some ((((D)[zG P k + 1 + w]?).map (·.b)).getD 0) = some (trI (zG P) (((C[k + 1 + w]?).map (·.b)).getD 0))
   have h9 : (zb C (k + 1 + w)).op = 9 := x2 a4 _ (List.mem_of_getElem? (xK (by omega) a3))
   have hs := J.single (k := k + 1 + w) (by omega)
   have hl : zG P (k + 1 + w) < D.length := by rw [J.len]; exact uE (by omega)
   rw [← har hu w (by omega)]
   have h2 : ((D[zG P (k + 1 + w)]?).map (·.b)).getD 0 = (zb D (zG P (k + 1 + w))).b := by simp [zb, List.getD, hl]
   rw [h2, (J.oth _ hs).2, zbg (by rw [h9]; rfl), YM (C := C) (by omega)]
  ·rw [List.getElem?_eq_none (by rw [List.length_range]; omega)]; rfl
 rw [if_neg hu, if_neg hu]
 by_cases h2 : x.op = 7 ∨ x.op = 11 ∨ x.op = 12 ∨ x.op = 13 ∨ x.op = 14 ∨ x.op = 15 ∨ x.op = 40 ∨ x.op = 47
 ·rw [if_pos h2, if_pos h2]
  have ht : tgF x.op = true := by rcases h2 with g | g | g | g | g | g | g | g <;> rw [g] <;> rfl
  rw [zbg ht]
  match w with
  | 0 => show some _ = some _; rw [nxt]
  | 1 => rfl
  | w + 2 => rfl
 ·rw [if_neg h2, if_neg h2]
  match w with
  | 0 => show some _ = some _; rw [nxt]
  | w + 1 => rfl
theorem wD {k w : Nat} {j : Int} (h : (yz C k (zb C k))[w]? = some j) : 0 ≤ j := by
 rcases Nat.lt_or_ge k C.length with g | g
 ·exact (ja J.chk g j (List.mem_of_getElem? h)).1
 ·rw [xG g] at h
  have h2 : ([(k : Int) + 1] : List Int)[w]? = some j := h
  have := List.mem_of_getElem? h2
  simp at this
  omega
theorem ub {k w : Nat} (hp : P k = []) {j' : Int} : (yz D (zG P k) (zb D (zG P k)))[w]? = some j' ↔ ∃ j, (yz C k (zb C k))[w]? = some j ∧ j' = trI (zG P) j := by
 rw [(J.oth k hp).2, zbh J hp]
 cases (yz C k (zb C k))[w]? with
 | none => simp
 | some j =>
  simp only [Option.map_some, Option.some.injEq]
  exact ⟨fun h => ⟨j, rfl, h.symm⟩, fun ⟨i, h1, h2⟩ => by rw [h2, h1]⟩
theorem ud {k j : Nat} (hp : P k ≠ []) (hj : j < (P k).length) {w : Nat} {i : Int} : (yz D (zG P k + j) (zb D (zG P k + j)))[w]? = some i ↔ w = 0 ∧ i = ((zG P k + j : Nat) : Int) + 1 := by
 obtain ⟨_, f, _, _, _, h4⟩ := J.num k hp
 rw [h4 j _ (List.getElem?_eq_getElem hj), Wf yS]
 cases w with
 | zero => simp; exact ⟨fun h => h.symm, fun h => h.symm⟩
 | succ w => simp
theorem kE {k : Nat} (hp : P k ≠ []) {w : Nat} {i : Int} : (yz C k (zb C k))[w]? = some i ↔ w = 0 ∧ i = (k : Int) + 1 := by
 rw [Wf (J.op k hp)]
 cases w with
 | zero => simp; exact ⟨fun h => h.symm, fun h => h.symm⟩
 | succ w => simp
theorem kF {k : Nat} (hp : P k ≠ []) : zG P (k + 1) = zG P k + (P k).length := by
 show zG P k + max 1 (P k).length = _
 have : 0 < (P k).length := List.length_pos_iff.2 hp
 omega
theorem Wg (k : Nat) (hp : P k = []) (s : StM) (t : Int) (w : Nat) : handT (zb D (zG P k)) (z5 e (zb D (zG P k)) s t).1 w = handT (zb C k) (z5 e (zb C k) s t).1 w := by
 rw [(J.oth k hp).2, wP]
 unfold handT YR
 rw [vQ]
omit J in
theorem Xm {e : Bool} {C : List InsM} {N : List Int} (hI : ∀ k, UC e (zb C k)) (hG : vR e C N) {t k : Nat} {s : StM} (h : Hd e C N t k s) : xR s ∧ KOK s := by
 induction h with
 | entry _ =>
  unfold xh
  split
  ·exact ⟨.far (by show (5 : Int) ≠ 6; decide), .zero rfl⟩
  ·exact ⟨.zero, .zero rfl⟩
 | @way k s w j h0 hw ih =>
  have h1 := UF ih.1 (hI k) (hG _ _ _ h0).1
  have h2 := fun t : Int => Jg (e := e) (x := zb C k) (t := t) ih.2
  unfold handT
  split
  ·exact ⟨h1.2, (h2 _).2⟩
  ·exact ⟨h1.1, (h2 _).1⟩
theorem U3 (hG : vR e C N) {t i : Nat} {s' : StM} (h : Hd e D (N.map (trI (zG P))) t i s') : ∃ k j s, k < C.length ∧ i = zG P k + j ∧ j < max 1 (P k).length ∧ Hd e C N t k s ∧ s' = chF e ((P k).take j) s := by
 have hI := Zg J.chk
 induction h with
 | @entry n hi =>
  rw [List.getElem?_map] at hi
  obtain ⟨m, hm, rfl⟩ := Option.map_eq_some_iff.1 hi
  have := J.en _ (List.mem_of_getElem? hm)
  exact ⟨m.toNat, 0, _, by omega, vo, by omega, .entry hm, rfl⟩
 | @way i s' w i2 h0 hw ih =>
  obtain ⟨k, j, s, hk, rfl, hj, hd, rfl⟩ := ih
  obtain ⟨g1, g2, _⟩ := hG _ _ _ hd
  by_cases hp : P k = []
  ·have hj0 : j = 0 := by rw [hp] at hj; simpa using hj
   subst hj0
   rw [Nat.add_zero] at hw ⊢
   obtain ⟨j0, hj0, rfl⟩ := (ub J hp).1 hw
   have hb := g2 _ (List.mem_of_getElem? hj0)
   have h0 := wD J hj0
   rw [List.take_zero, Wg J k hp]
   exact ⟨j0.toNat, 0, _, by omega, vo, by omega, .way hd hj0, by rw [List.take_zero]; rfl⟩
  ·have hlen : 0 < (P k).length := List.length_pos_iff.2 hp
   have hjl : j < (P k).length := by omega
   obtain ⟨_, f, f1, f2, f3, f4⟩ := J.num k hp
   obtain ⟨rfl, rfl⟩ := (ud J hp hjl).1 hw
   have hst := (Xm hI hG hd).1
   rw [f2, yj f1] at g1
   obtain ⟨p1, p2⟩ := wO f1 f3 hst
   have hgj := List.getElem?_eq_getElem hjl
   have hins := f4 j _ hgj
   have hfo := xb f1 f3 _ (List.getElem_mem hjl)
   have e1 : handT (zb D (zG P k + j)) (z5 e (zb D (zG P k + j)) (chF e ((P k).take j) s) t).1 0 = chF e ((P k).take (j + 1)) s := by
    unfold handT
    rw [if_neg (fun q => absurd q.1 (by decide)), hins, yj hfo, xC hgj]
    rfl
   rw [e1, show (((zG P k + j : Nat) : Int) + 1).toNat = zG P k + (j + 1) by omega]
   by_cases hl : j + 1 < (P k).length
   ·exact ⟨k, j + 1, s, hk, rfl, by omega, hd, rfl⟩
   ·have hw2 := (kE J hp (w := 0)).2 ⟨rfl, rfl⟩
    have h3 := Hd.way hd hw2
    have hb := g2 _ (List.mem_of_getElem? hw2)
    have e2 : handT (zb C k) (z5 e (zb C k) s t).1 0 = chF e ((P k).take (j + 1)) s := by
     unfold handT
     rw [if_neg (fun q => absurd q.1 (by decide)), f2, yj f1, List.take_of_length_le (by omega), ← (p2 g1).1]
     rfl
    rw [e2, show ((k : Int) + 1).toNat = k + 1 by omega] at h3
    exact ⟨k + 1, 0, _, by omega, by rw [kF J hp]; omega, by omega, h3, by rw [List.take_zero]; rfl⟩
theorem U4 (hG : vR e C N) : vR e D (N.map (trI (zG P))) := by
 have hI := Zg J.chk
 intro t i s' h
 obtain ⟨k, j, s, hk, rfl, hj, hd, rfl⟩ := U3 J hG h
 obtain ⟨g1, g2, g3⟩ := hG _ _ _ hd
 by_cases hp : P k = []
 ·have hj0 : j = 0 := by rw [hp] at hj; simpa using hj
  subst hj0
  rw [Nat.add_zero] at h ⊢
  rw [List.take_zero] at h ⊢
  refine ⟨by rw [(J.oth k hp).2, wP]; exact g1, fun i2 hi2 => ?_, fun t2 s2 h2 => ?_⟩
  ·obtain ⟨w, hw⟩ := List.mem_iff_getElem?.1 hi2
   obtain ⟨j0, hj0, rfl⟩ := (ub J hp).1 hw
   have hb := g2 _ (List.mem_of_getElem? hj0)
   have h0 := wD J hj0
   have := uE (P := P) (show j0.toNat < C.length by omega)
   unfold trI
   rw [J.len]
   omega
  ·obtain ⟨k2, j2, r, _, q, hj2, hd2, rfl⟩ := U3 J hG h2
   obtain ⟨rfl, rfl⟩ := uF (P := P) (k := k) (j := 0) (by omega) hj2 q
   rw [(J.oth k hp).2, wP, wP, List.take_zero]
   exact g3 _ _ hd2
 ·have hlen : 0 < (P k).length := List.length_pos_iff.2 hp
  have hjl : j < (P k).length := by omega
  obtain ⟨_, f, f1, f2, f3, f4⟩ := J.num k hp
  have hgj := List.getElem?_eq_getElem hjl
  have hins := f4 j _ hgj
  have hfo := xb f1 f3 _ (List.getElem_mem hjl)
  obtain ⟨hst, hkk⟩ := Xm hI hG hd
  rw [f2, yj f1] at g1
  obtain ⟨p1, _⟩ := wO f1 f3 hst
  refine ⟨by rw [hins, yj hfo]; exact Zr (p1.1 g1) hgj, fun i2 hi2 => ?_, fun t2 s2 h2 => ?_⟩
  ·obtain ⟨w, hw⟩ := List.mem_iff_getElem?.1 hi2
   obtain ⟨rfl, rfl⟩ := (ud J hp hjl).1 hw
   have hw2 := (kE J hp (w := 0)).2 ⟨rfl, rfl⟩
   have hb := g2 _ (List.mem_of_getElem? hw2)
   have := uE (P := P) (show k + 1 < C.length by omega)
   have := kF J hp
   rw [J.len]
   omega
  ·obtain ⟨k2, j2, r, _, q, hj2, hd2, rfl⟩ := U3 J hG h2
   obtain ⟨rfl, rfl⟩ := uF (P := P) (k := k) (j := j) hj hj2 q
   obtain ⟨hst2, hkk2⟩ := Xm hI hG hd2
   have g3' := g3 _ _ hd2
   obtain ⟨o2, _, _⟩ := hG _ _ _ hd2
   rw [f2, yj f1] at o2
   rw [f2, yj f1, yj f1] at g3'
   have hh : (stF e f s).1 = (stF e f r).1 := congrArg EfM.next g3'
   rw [hins, yj hfo, yj hfo]
   have := Jh f1 f3 hkk hkk2 hst hst2 g1 o2 hh hgj
   dsimp only
   rw [this]
theorem uG (hG : vR e D (N.map (trI (zG P)))) {t k : Nat} {s : StM} (hp : P k ≠ []) (h : Hd e D (N.map (trI (zG P))) t (zG P k) s) : ∀ j, j < (P k).length → Hd e D (N.map (trI (zG P))) t (zG P k + j) (chF e ((P k).take j) s)
 | 0, _ => h
 | j + 1, hj => by
  have ih := uG hG hp h j (by omega)
  have hjl : j < (P k).length := by omega
  obtain ⟨_, f, f1, f2, f3, f4⟩ := J.num k hp
  have hgj := List.getElem?_eq_getElem hjl
  have hw := (ud J hp hjl (w := 0)).2 ⟨rfl, rfl⟩
  have h3 := Hd.way ih hw
  have e1 : handT (zb D (zG P k + j)) (z5 e (zb D (zG P k + j)) (chF e ((P k).take j) s) t).1 0 = chF e ((P k).take (j + 1)) s := by
   unfold handT
   rw [if_neg (fun q => absurd q.1 (by decide)), f4 j _ hgj, yj (xb f1 f3 _ (List.getElem_mem hjl)), xC hgj]
   rfl
  rw [e1, show (((zG P k + j : Nat) : Int) + 1).toNat = zG P k + (j + 1) by omega] at h3
  exact h3
theorem Wh (hG : vR e D (N.map (trI (zG P)))) {t k : Nat} {s : StM} (hp : P k ≠ []) (h : Hd e D (N.map (trI (zG P))) t (zG P k) s) : U1 e (P k) s := by
 obtain ⟨_, f, f1, f2, f3, f4⟩ := J.num k hp
 refine U2 fun j g hg => ?_
 have hjl : j < (P k).length := by
  rcases Nat.lt_or_ge j (P k).length with q | q
  ·exact q
  ·rw [List.getElem?_eq_none q] at hg; cases hg
 have := (hG _ _ _ (uG J hG hp h j hjl)).1
 rw [f4 j g hg, yj (xb f1 f3 _ (List.mem_of_getElem? hg))] at this
 exact this
theorem U5 (hI : ∀ k, UC e (zb D k)) (hG : vR e D (N.map (trI (zG P)))) {t k : Nat} {s : StM} (h : Hd e C N t k s) : k < C.length ∧ Hd e D (N.map (trI (zG P))) t (zG P k) s := by
 induction h with
 | @entry n hi =>
  have := J.en _ (List.mem_of_getElem? hi)
  refine ⟨by omega, ?_⟩
  rw [← vo]
  exact .entry (by rw [List.getElem?_map, hi]; rfl)
 | @way k s w j h0 hw ih =>
  obtain ⟨hk, ih⟩ := ih
  by_cases hp : P k = []
  ·have h1 := (ub J hp).2 ⟨j, hw, rfl⟩
   have h2 := Hd.way ih h1
   rw [Wg J k hp, vo] at h2
   refine ⟨?_, h2⟩
   have := (hG _ _ _ ih).2.1 _ (List.mem_of_getElem? h1)
   have := wD J hw
   unfold trI at *
   rw [J.len] at *
   exact (Xl (P := P) (k := j.toNat) (j := 0) (by omega)).1 (by omega)
  ·obtain ⟨rfl, rfl⟩ := (kE J hp).1 hw
   have hlen : 0 < (P k).length := List.length_pos_iff.2 hp
   obtain ⟨_, f, f1, f2, f3, f4⟩ := J.num k hp
   have hjl : (P k).length - 1 < (P k).length := by omega
   have hgj := List.getElem?_eq_getElem hjl
   have hc := uG J hG hp ih _ hjl
   have hw2 := (ud J hp hjl (w := 0)).2 ⟨rfl, rfl⟩
   have h3 := Hd.way hc hw2
   have hst := (Xm hI hG ih).1
   obtain ⟨p1, p2⟩ := wO f1 f3 hst
   have ho := p1.2 (Wh J hG hp ih)
   have e1 : handT (zb D (zG P k + ((P k).length - 1))) (z5 e (zb D (zG P k + ((P k).length - 1))) (chF e ((P k).take ((P k).length - 1)) s) t).1 0 = handT (zb C k) (z5 e (zb C k) s t).1 0 := by
    unfold handT
    rw [if_neg (fun q => absurd q.1 (by decide)), if_neg (fun q => absurd q.1 (by decide)), f4 _ _ hgj, yj (xb f1 f3 _ (List.getElem_mem hjl)), f2, yj f1, (p2 ho).1]
    show (stF e _ _).1 = chF e (P k) s
    rw [← xC hgj, List.take_of_length_le (by omega)]
   have e2 := kF J hp
   rw [e1, show (((zG P k + ((P k).length - 1) : Nat) : Int) + 1).toNat = zG P (k + 1) by omega] at h3
   rw [show ((k : Int) + 1).toNat = k + 1 by omega]
   refine ⟨?_, h3⟩
   have := (hG _ _ _ hc).2.1 _ (List.mem_of_getElem? hw2)
   rw [J.len] at this
   exact (Xl (P := P) (k := k + 1) (j := 0) (by omega)).1 (by omega)
theorem Xn (hI : ∀ k, UC e (zb D k)) (hG : vR e D (N.map (trI (zG P)))) : vR e C N := by
 intro t k s h
 obtain ⟨hk, hd⟩ := U5 J hI hG h
 obtain ⟨g1, g2, g3⟩ := hG _ _ _ hd
 refine ⟨?_, fun j hj => ?_, fun t2 s2 h2 => ?_⟩
 ·by_cases hp : P k = []
  ·rw [(J.oth k hp).2, wP] at g1; exact g1
  ·obtain ⟨_, f, f1, f2, f3, f4⟩ := J.num k hp
   rw [f2, yj f1]
   exact (wO f1 f3 (Xm hI hG hd).1).1.2 (Wh J hG hp hd)
 ·obtain ⟨w, hw⟩ := List.mem_iff_getElem?.1 hj
  have := (U5 J hI hG (.way h hw)).1
  have := wD J hw
  omega
 ·obtain ⟨_, hd2⟩ := U5 J hI hG h2
  by_cases hp : P k = []
  ·have := g3 _ _ hd2
   rw [(J.oth k hp).2, wP, wP] at this
   exact this
  ·obtain ⟨_, f, f1, f2, f3, f4⟩ := J.num k hp
   have hlen : 0 < (P k).length := List.length_pos_iff.2 hp
   have hjl : (P k).length - 1 < (P k).length := by omega
   have hgj := List.getElem?_eq_getElem hjl
   have c1 := uG J hG hp hd _ hjl
   have c2 := uG J hG hp hd2 _ hjl
   have h3 := (hG _ _ _ c1).2.2 _ _ c2
   rw [f4 _ _ hgj, yj (xb f1 f3 _ (List.getElem_mem hjl)), yj (xb f1 f3 _ (List.getElem_mem hjl))] at h3
   have h4 := congrArg EfM.next h3
   have h5 : (stF e (P k)[(P k).length - 1] (chF e ((P k).take ((P k).length - 1)) s)).1 = (stF e (P k)[(P k).length - 1] (chF e ((P k).take ((P k).length - 1)) s2)).1 := h4
   rw [← xC hgj, ← xC hgj, List.take_of_length_le (by omega)] at h5
   have p := wO f1 f3 (Xm hI hG hd).1
   have p' := wO f1 f3 (Xm hI hG hd2).1
   rw [f2, yj f1, yj f1, (p.2 (p.1.2 (Wh J hG hp hd))).1, (p'.2 (p'.1.2 (Wh J hG hp hd2))).1, h5]
end
end
section
open Go.RowKit
theorem qI.step {R : Nat → Nat → Prop} {a b c : Nat} (h : qI R a b) (g : R b c) : qI R a c := by
 rcases h with rfl | h
 ·exact .inr (.one g)
 ·exact .inr (.more h g)
theorem qI.trans {R : Nat → Nat → Prop} {a b c : Nat} (h : qI R a b) (g : qI R b c) : qI R a c := by
 rcases g with rfl | g
 ·exact h
 ·rcases h with rfl | h
  ·exact .inr g
  ·exact .inr (h.trans g)
section
variable {P : Nat → List FldM} {e : Bool} {C : List InsM} {N : List Int} {D : List InsM} (J : Rf e C N D P)
include J
section
variable {g g' : Nat → Int → Bool} (hg : ∀ k w, P k = [] → g' (zG P k) w = g k w) (hk : ∀ k w, P k ≠ [] → g k w = false) (hk' : ∀ k j w, P k ≠ [] → j < (P k).length → g' (zG P k + j) w = false)
include hg hk'
theorem Wi {i i' : Nat} (h : xF D g' i i') : ∃ k k', i = zG P k ∧ i' = zG P k' ∧ xF C g k k' := by
 obtain ⟨w, h1, h2⟩ := h
 obtain ⟨k, j, rfl, hj⟩ := zcz P i
 by_cases hp : P k = []
 ·have hj0 : j = 0 := by rw [hp] at hj; simpa using hj
  subst hj0
  rw [Nat.add_zero] at h1 h2 ⊢
  obtain ⟨j0, hj0, q⟩ := (ub J hp).1 h1
  have h0 := wD J hj0
  refine ⟨k, j0.toNat, rfl, ?_, w, ?_, by rw [← hg k w hp]; exact h2⟩
  ·unfold trI at q; omega
  ·rw [hj0]; congr 1; omega
 ·have hlen : 0 < (P k).length := List.length_pos_iff.2 hp
  rw [hk' k j w hp (by omega)] at h2
  cases h2
theorem Zu {i i' : Nat} (h : Rch (xF D g') i i') : ∃ a b, i = zG P a ∧ i' = zG P b ∧ Rch (xF C g) a b := by
 induction h with
 | one h =>
  obtain ⟨k, k', h1, h2, h3⟩ := Wi J hg hk' h
  exact ⟨k, k', h1, h2, .one h3⟩
 | more _ h ih =>
  obtain ⟨a, b, q1, q2, q3⟩ := ih
  obtain ⟨k, k', h1, h2, h3⟩ := Wi J hg hk' h
  have := vn (P := P) (q2.symm.trans h1)
  subst this
  exact ⟨a, k', q1, h2, .more q3 h3⟩
theorem Ji {a i' : Nat} (h : qI (xF D g') (zG P a) i') : ∃ b, i' = zG P b ∧ qI (xF C g) a b := by
 rcases h with h | h
 ·exact ⟨a, h, .inl rfl⟩
 ·obtain ⟨a', b, q1, q2, q3⟩ := Zu J hg hk' h
  have := vn q1
  subst this
  exact ⟨b, q2, .inr q3⟩
omit hk'
include hk
theorem Wj {k k' : Nat} (h : xF C g k k') : xF D g' (zG P k) (zG P k') := by
 obtain ⟨w, h1, h2⟩ := h
 by_cases hp : P k = []
 ·exact ⟨w, (ub J hp).2 ⟨_, h1, by unfold trI; simp⟩, by rw [hg k w hp]; exact h2⟩
 ·rw [hk k w hp] at h2; cases h2
theorem Zv {a b : Nat} (h : Rch (xF C g) a b) : Rch (xF D g') (zG P a) (zG P b) := by
 induction h with
 | one h => exact .one (Wj J hg hk h)
 | more _ h ih => exact .more ih (Wj J hg hk h)
theorem Jj {a b : Nat} (h : qI (xF C g) a b) : qI (xF D g') (zG P a) (zG P b) := by
 rcases h with rfl | h
 ·exact .inl rfl
 ·exact .inr (Zv J hg hk h)
end
theorem Wk {k j i' : Nat} (hj : j < max 1 (P k).length) (h : xF D yV (zG P k + j) i') : ∃ k' j', i' = zG P k' + j' ∧ j' < max 1 (P k').length ∧ (k' = k ∨ xF C yV k k') := by
 obtain ⟨w, h1, h2⟩ := h
 by_cases hp : P k = []
 ·have hj0 : j = 0 := by rw [hp] at hj; simpa using hj
  subst hj0
  rw [Nat.add_zero] at h1
  obtain ⟨j0, hj0, q⟩ := (ub J hp).1 h1
  have h0 := wD J hj0
  refine ⟨j0.toNat, 0, by unfold trI at q; omega, by omega, .inr ⟨w, by rw [hj0]; congr 1; omega, rfl⟩⟩
 ·have hlen : 0 < (P k).length := List.length_pos_iff.2 hp
  obtain ⟨rfl, q⟩ := (ud J hp (by omega)).1 h1
  by_cases hl : j + 1 < (P k).length
  ·exact ⟨k, j + 1, by omega, by omega, .inl rfl⟩
  ·refine ⟨k + 1, 0, by rw [kF J hp]; omega, by omega, .inr ⟨0, (kE J hp).2 ⟨rfl, by omega⟩, rfl⟩⟩
theorem Zw {en i : Nat} (h : qI (xF D yV) (zG P en) i) : ∃ k j, i = zG P k + j ∧ j < max 1 (P k).length ∧ qI (xF C yV) en k := by
 have gen : ∀ {a i : Nat}, Rch (xF D yV) a i → a = zG P en → ∃ k j, i = zG P k + j ∧ j < max 1 (P k).length ∧ qI (xF C yV) en k := by
  intro a i h
  induction h with
  | one h =>
   intro ha
   rw [ha] at h
   obtain ⟨k', j', q1, q2, q3⟩ := Wk J (k := en) (j := 0) (by omega) h
   rcases q3 with rfl | q3
   ·exact ⟨_, j', q1, q2, .inl rfl⟩
   ·exact ⟨k', j', q1, q2, .inr (.one q3)⟩
  | more _ h ih =>
   intro ha
   obtain ⟨k, j, rfl, hj, hc⟩ := ih ha
   obtain ⟨k', j', q1, q2, q3⟩ := Wk J hj h
   rcases q3 with rfl | q3
   ·exact ⟨_, j', q1, q2, hc⟩
   ·exact ⟨k', j', q1, q2, hc.step q3⟩
 rcases h with rfl | h
 ·exact ⟨en, 0, rfl, by omega, .inl rfl⟩
 ·exact gen h rfl
theorem zag {k : Nat} (hp : P k ≠ []) : ∀ j, j < (P k).length → qI (xF D yV) (zG P k) (zG P k + j)
 | 0, _ => .inl rfl
 | j + 1, hj => (zag hp j (by omega)).step ⟨0, (ud J hp (by omega)).2 ⟨rfl, by omega⟩, rfl⟩
theorem Wl {k k' : Nat} (h : xF C yV k k') : qI (xF D yV) (zG P k) (zG P k') := by
 obtain ⟨w, h1, h2⟩ := h
 by_cases hp : P k = []
 ·exact .inr (.one ⟨w, (ub J hp).2 ⟨_, h1, by unfold trI; simp⟩, rfl⟩)
 ·have hlen : 0 < (P k).length := List.length_pos_iff.2 hp
  obtain ⟨rfl, q⟩ := (kE J hp).1 h1
  obtain rfl : k' = k + 1 := by omega
  refine (zag J hp ((P k).length - 1) (by omega)).step ⟨0, (ud J hp (by omega)).2 ⟨rfl, ?_⟩, rfl⟩
  rw [kF J hp]; omega
theorem Wm {a b : Nat} (h : qI (xF C yV) a b) : qI (xF D yV) (zG P a) (zG P b) := by
 rcases h with rfl | h
 ·exact .inl rfl
 ·induction h with
  | one h => exact Wl J h
  | more _ h ih => exact ih.trans (Wl J h)
omit J in
theorem uH {C : List InsM} {B : List Bool} {k : Nat} {w : Int} (h : (zb C k).op = 1 ∨ (zb C k).op = 2 ∨ (zb C k).op = 33 ∨ (zb C k).op = 34) : wG C B k w = true := by
 unfold wG WR
 split
 ·rfl
 ·rw [if_pos (by omega)]
theorem Wn {k j : Nat} (hp : P k ≠ []) (hj : j < (P k).length) : (zb D (zG P k + j)).op = 1 ∨ (zb D (zG P k + j)).op = 2 ∨ (zb D (zG P k + j)).op = 33 ∨ (zb D (zG P k + j)).op = 34 := by
 obtain ⟨_, f, f1, f2, f3, f4⟩ := J.num k hp
 rw [f4 j _ (List.getElem?_eq_getElem hj)]
 exact yS
theorem Yp {k : Nat} (hp : P k = []) (B : List Bool) (w : Int) : wG D B (zG P k) w = wG C B k w := by
 unfold wG
 rw [(J.oth k hp).2, zdj]
 unfold WR
 rw [vQ, zbY]
theorem zcA (B : List Bool) (en : Nat) : XQ D B (zG P en) = XQ C B en := by
 have p1 : ∀ k w, P k = [] → qP D B (zG P k) w = qP C B k w := fun k w hp => by
  unfold qP
  rw [Yp J hp, (J.oth k hp).2, vQ]
 have p2 : ∀ k w, P k ≠ [] → qP C B k w = false := fun k w hp => by
  have := J.op k hp
  unfold qP
  rw [uH this, decide_eq_false (by omega)]
  rfl
 have p3 : ∀ k j w, P k ≠ [] → j < (P k).length → qP D B (zG P k + j) w = false := fun k j w hp hj => by
  have := Wn J hp hj
  unfold qP
  rw [uH this, decide_eq_false (by omega)]
  rfl
 unfold XQ
 congr 1
 refine propext ⟨fun h k hc => ?_, fun h k' hc => ?_⟩
 ·have := h _ (Jj J p1 p2 hc)
  by_cases hp : P k = []
  ·rw [(J.oth k hp).2, vQ] at this; exact this
  ·have := J.op k hp; omega
 ·obtain ⟨b, rfl, hb⟩ := Ji J p1 p3 hc
  by_cases hp : P b = []
  ·rw [(J.oth b hp).2, vQ]; exact h _ hb
  ·have := Wn J (j := 0) hp (List.length_pos_iff.2 hp)
   rw [Nat.add_zero] at this
   omega
theorem Zx {B : List Bool} {k j : Nat} (hj : j < max 1 (P k).length) : uZ D B (zG P k + j) ↔ j = 0 ∧ P k = [] ∧ uZ C B k := by
 unfold uZ
 by_cases hp : P k = []
 ·have hj0 : j = 0 := by rw [hp] at hj; simpa using hj
  subst hj0
  rw [Nat.add_zero, (J.oth k hp).2, vQ, zdj]
  exact ⟨fun h => ⟨rfl, hp, h⟩, fun h => h.2.2⟩
 ·have hlen : 0 < (P k).length := List.length_pos_iff.2 hp
  have := Wn J hp (show j < (P k).length by omega)
  exact ⟨fun h => by have := h.1; omega, fun h => absurd h.2.1 hp⟩
theorem zcB {B : List Bool} {k : Nat} (h : uZ C B k) : P k = [] := J.single (by have := h.1; omega)
theorem zcC (B : List Bool) (en : Nat) : (∃ k, Y4 e D B (zG P en) k) ↔ ∃ k, Y4 e C B en k := by
 have p1 : ∀ k w, P k = [] → xp D B (zG P k) w = xp C B k w := fun k w hp => by
  unfold xp
  rw [Yp J hp]
 have p2 : ∀ k w, P k ≠ [] → xp C B k w = false := fun k w hp => by
  unfold xp
  rw [uH (J.op k hp)]
  rfl
 have p3 : ∀ k j w, P k ≠ [] → j < (P k).length → xp D B (zG P k + j) w = false := fun k j w hp hj => by
  unfold xp
  rw [uH (Wn J hp hj)]
  rfl
 constructor
 ·rintro ⟨k', hc, hb⟩
  rcases hb with hb | ⟨he, _, hf, hu⟩
  ·obtain ⟨a, b, q1, q2, q3⟩ := Zu J p1 p3 hb
   have := vn (P := P) (q1.symm.trans q2)
   subst this
   obtain ⟨k, j, q4, q5, q6⟩ := Zw J hc
   obtain ⟨rfl, _⟩ := uF (P := P) (k := a) (j := 0) (by omega) q5 (q1.symm.trans q4)
   exact ⟨a, q6, .inl q3⟩
  ·obtain ⟨k, j, rfl, hj, q6⟩ := Zw J hc
   obtain ⟨rfl, hp, hfc⟩ := (Zx J hj).1 hf
   rw [Nat.add_zero] at hu
   refine ⟨k, q6, .inr ⟨he, q6, hfc, ?_⟩⟩
   rcases hu with hu | hu | ⟨a', ha, hfa, hu⟩
   ·exact .inl (vn hu)
   ·obtain ⟨a, b, r1, r2, r3⟩ := Zu J p1 p3 hu
    rw [vn r1, vn r2]
    exact .inr (.inl r3)
   ·obtain ⟨k2, j2, rfl, hj2, r6⟩ := Zw J ha
    obtain ⟨rfl, _, hfa⟩ := (Zx J hj2).1 hfa
    rw [Nat.add_zero] at hu
    obtain ⟨a, b, r1, r2, r3⟩ := Zu J p1 p3 hu
    have e1 := vn r1
    have e2 := vn r2
    subst e1
    subst e2
    exact .inr (.inr ⟨k2, r6, hfa, r3⟩)
 ·rintro ⟨k, hc, hb⟩
  have hcu := Wm J hc
  refine ⟨zG P k, hcu, ?_⟩
  have fr : ∀ k, uZ C B k → uZ D B (zG P k) := fun k h => (Zx J (k := k) (j := 0) (by omega)).2 ⟨rfl, zcB J h, h⟩
  rcases hb with hb | ⟨he, _, hf, hu⟩
  ·exact .inl (Zv J p1 p2 hb)
  ·refine .inr ⟨he, hcu, fr k hf, ?_⟩
   rcases hu with hu | hu | ⟨a, ha, hfa, hu⟩
   ·exact .inl (by rw [hu])
   ·exact .inr (.inl (Zv J p1 p2 hu))
   ·exact .inr (.inr ⟨zG P a, Wm J ha, fr a hfa, Zv J p1 p2 hu⟩)
theorem zah : ∀ {ns : List Int} {B : List Bool}, (qQ e D (ns.map (trI (zG P))) B (-1) ↔ qQ e C ns B (-1))
 | [], _ => Iff.rfl
 | n :: ns, B => by
  have hb := zcC J B n.toNat
  have ih := zah (ns := ns) (B := B ++ [XQ C B n.toNat])
  have no : ∀ {p : Nat → Prop}, ¬ Kw p (-1) := fun ⟨k, h, _⟩ => by omega
  show (Kw (Y4 e D B (trI (zG P) n).toNat) (-1) ∨ (¬ ∃ k, Y4 e D B (trI (zG P) n).toNat k) ∧ qQ e D (ns.map (trI (zG P))) (B ++ [XQ D B (trI (zG P) n).toNat]) (-1)) ↔ (Kw (Y4 e C B n.toNat) (-1) ∨ (¬ ∃ k, Y4 e C B n.toNat k) ∧ qQ e C ns (B ++ [XQ C B n.toNat]) (-1))
  rw [vo, hb, zcA J, ih]
  exact ⟨fun h => h.imp (fun g => absurd g no) id, fun h => h.imp (fun g => absurd g no) id⟩
theorem U6 (hc : yK e C N = (0, 0)) (hd : yK e D (N.map (trI (zG P))) = (0, 0)) : (wX e D (N.map (trI (zG P)))).1 = 0 ↔ (wX e C N).1 = 0 := by
 have key : ∀ {C : List InsM} {N : List Int}, yK e C N = (0, 0) → ((wX e C N).1 = 0 ↔ (∃ r, xV e C N = .ok r) ∧ qQ e C N [] (-1)) := fun {C N} hc => by
  constructor
  ·intro hv
   obtain ⟨_, h2, h3, _⟩ := vF hv
   have := vE e C N
   rw [WG this h3] at this
   exact ⟨h2, this⟩
  ·rintro ⟨⟨r, hr⟩, hs⟩
   have : Ko e C N = -1 := qQ.uniq (vE e C N) hs
   unfold wX
   rw [hc, if_neg (by decide), hr, this]
   rfl
 rw [key hd, key hc, zah J]
 have hI := Zg (z9 hd).2.1
 exact and_congr_left fun _ => ⟨fun ⟨r, hr⟩ => jU hc (Xn J hI (jV hd hr)), fun ⟨r, hr⟩ => jU hd (U4 J (jV hc hr))⟩
end
theorem Jk {e : Bool} {op : Int} (h : (yB e op).known = true) (ht : tgF op = true) (C : List InsM) (k : Nat) (x : InsM) : qN (yB e op).name C k x = true := by
 rcases Ye ht with rfl | rfl | rfl | rfl | rfl | rfl | rfl | rfl | rfl | rfl <;> cases e <;> first | rfl | exact absurd h (by decide)
theorem Yq (m : Int → Int) : ∀ (l R : List InsM), yI (l.map (mvX m)) (R.map (mvX m)) = yI l R
 | l, [] => rfl
 | l, y :: R => by
  have ih := Yq m (l ++ [y]) R
  rw [List.map_append] at ih
  show (decide ((mvX m y).op = 9) && !((l.map (mvX m)).any (qM (mvX m y))) && yI (l.map (mvX m) ++ [mvX m y]) (R.map (mvX m))) = (decide (y.op = 9) && !(l.any (qM y)) && yI (l ++ [y]) R)
  rw [vQ, List.any_map]
  have e1 : (qM (mvX m y) ∘ mvX m) = qM y := by
   funext z
   show decide ((mvX m z).a = (mvX m y).a) = decide (z.a = y.a)
   rw [zbY, zbY]
  rw [e1]
  congr 1
theorem Wo {e : Bool} {X Y : List InsM} {NX NY : List Int} {i j : Nat} {m : Int → Int} (h : yr e X NX i = true) (hi : zb Y j = mvX m (zb X i)) (hN : NY.length = NX.length) (hb : tgF (zb X i).op = true → 0 ≤ m (zb X i).b ∧ m (zb X i).b < Y.length)
  (harm : (zb X i).op = 8 ∨ (zb X i).op = 41 → (j : Int) + (zb X i).a < Y.length ∧ y8 Y j (zb X i).a = (y8 X i (zb X i).a).map (mvX m)) : yr e Y NY j = true := by
 obtain ⟨h1, h2, h3, h4, h5⟩ := zZ h
 have T := Ku h1
 have q3 : wW Y.length NY.length (bAt (yB e (zb X i).op).has 1) (mvX m (zb X i)).b = true := by
  by_cases gt : tgF (zb X i).op = true
  ·rw [T.b1 gt, zbg gt]
   exact za5 (hb gt)
  ·rw [kr (T.b0 gt) _ _ X.length NX.length, qK gt]; exact h3
 have q4 : wW Y.length NY.length (bAt (yB e (zb X i).op).has 2) (zb X i).c = true := by
  by_cases gt : K3 (zb X i).op = true
  ·rw [T.c1 gt] at h4 ⊢
   rw [hN]
   exact h4
  ·rw [kr (T.c0 gt) _ _ X.length NX.length]; exact h4
 have q5 : qN (yB e (zb X i).op).name Y j (mvX m (zb X i)) = true := by
  by_cases gt : tgF (zb X i).op = true
  ·exact Jk h1 gt _ _ _
  ·rw [qK gt]
   by_cases hu : (zb X i).op = 8 ∨ (zb X i).op = 41
   ·obtain ⟨a1, a2, a3, a4⟩ := xu h hu
    obtain ⟨b1, b2⟩ := harm hu
    rw [XN (T.n.2 hu), if_neg (by omega), b2]
    have := Yq m [] (y8 X i (zb X i).a)
    rw [List.map_nil] at this
    rw [this]; exact a4
   ·have hn : ¬ ((yB e (zb X i).op).name = we ∨ (yB e (zb X i).op).name = wg) := fun g => hu (T.n.1 g)
    unfold qN at h5 ⊢
    rw [if_neg hn] at h5 ⊢
    exact h5
 unfold yr zbI
 dsimp only
 rw [hi, vQ, zbY, zdj, h1, q3, q4, q5, kr T.a Y.length NY.length X.length NX.length, h2]
 rfl
theorem jI {X : List InsM} {i : Nat} {a : Int} (h : (i : Int) + a < X.length) : (y8 X i a).length = a.toNat := by
 unfold y8
 rw [List.length_drop, List.length_take]; omega
theorem Wp {X Y : List InsM} {i j : Nat} {a : Int} {m : Int → Int} (hX : (i : Int) + a < X.length) (hY : (j : Int) + a < Y.length) (h : ∀ n : Nat, (n : Int) < a → zb Y (j + 1 + n) = mvX m (zb X (i + 1 + n))) : y8 Y j a = (y8 X i a).map (mvX m) := by
 refine List.ext_getElem? fun n => ?_
 by_cases hn : (n : Int) < a
 ·rw [xK hn hY, List.getElem?_map, xK hn hX, h n hn]
  rfl
 ·rw [List.getElem?_eq_none (by rw [jI hY]; omega), List.getElem?_eq_none (by rw [List.length_map, jI hX]; omega)]
theorem Jl {P : Nat → List FldM} {e : Bool} {C : List InsM} {N : List Int} {D : List InsM} (J : Rf e C N D P) (hN : N.length ≤ 1048576) (hD : D.length ≤ 1048576) : yK e D (N.map (trI (zG P))) = (0, 0) := by
 have inD : ∀ {n : Int}, 0 ≤ n ∧ n < C.length → 0 ≤ trI (zG P) n ∧ trI (zG P) n < D.length := fun {n} h => by
  have := uE (P := P) (show n.toNat < C.length by omega)
  unfold trI
  rw [J.len]
  omega
 refine ZL.2 ⟨⟨hD, by rw [List.length_map]; exact hN⟩, fun i hi => ?_, fun n hn => ?_⟩
 ·obtain ⟨k, j, rfl, hj⟩ := zcz P i
  rw [J.len] at hi
  have hk := (Xl hj).1 hi
  by_cases hp : P k = []
  ·have hj0 : j = 0 := by rw [hp] at hj; simpa using hj
   subst hj0
   rw [Nat.add_zero]
   refine Wo (J.chk k hk) (J.oth k hp).2 (List.length_map ..) (fun ht => ?_) fun ho => ?_
   ·have h3 := zZ (J.chk k hk)
    have h4 := h3.2.2.1
    rw [(Ku h3.1).b1 ht] at h4
    exact inD (jr h4)
   ·obtain ⟨a1, a2, a3, a4⟩ := xu (J.chk k hk) ho
    have har := Zt J ho
    have hY : ((zG P k : Nat) : Int) + (zb C k).a < D.length := by
     have := har (zb C k).a.toNat (by omega)
     have hl := wC (P := P) (show k + 1 + (zb C k).a.toNat ≤ C.length by omega)
     rw [J.len]
     omega
    refine ⟨hY, Wp a3 hY fun n hn => ?_⟩
    have h9 : (zb C (k + 1 + n)).op = 9 := x2 a4 _ (List.mem_of_getElem? (xK hn a3))
    rw [← har n (by omega)]
    exact (J.oth _ (J.single (by omega))).2
  ·have hlen : 0 < (P k).length := List.length_pos_iff.2 hp
   obtain ⟨_, f, f1, f2, f3, f4⟩ := J.num k hp
   have hjl : j < (P k).length := by omega
   exact Ym (xb f1 f3 _ (List.getElem_mem hjl)) (f4 j _ (List.getElem?_eq_getElem hjl))
 ·obtain ⟨m, hm, rfl⟩ := List.mem_map.1 hn
  exact inD (J.en m hm)
end
section
open Go.RowKit
abbrev GrM := InsM × List FldM
def glF (e : Bool) (g : GrM) : List InsM := if g.2 = [] then [g.1] else g.2.map (·.ins e)
def PgF (gs : List GrM) (k : Nat) : List FldM := (gs.getD k (⟨0, 0, 0, 0⟩, [])).2
structure GrOK (e : Bool) (g : GrM) : Prop where
 one : g.2 = [] → yF g.1 = none
 run : g.2 ≠ [] → ∃ f, FldOK e f ∧ g.1 = f.ins e ∧ qJ e f g.2
theorem ue (e : Bool) (g : GrM) : (glF e g).length = max 1 g.2.length := by
 unfold glF
 split
 ·rename_i h; rw [h]; rfl
 ·rename_i h
  have : 0 < g.2.length := List.length_pos_iff.2 h
  rw [List.length_map]; omega
theorem vp (g : GrM) (gs : List GrM) : ∀ k, zG (PgF (g :: gs)) (k + 1) = max 1 g.2.length + zG (PgF gs) k
 | 0 => by show 0 + max 1 g.2.length = max 1 g.2.length + 0; omega
 | k + 1 => by
  show zG (PgF (g :: gs)) (k + 1) + max 1 (PgF gs k).length = max 1 g.2.length + (zG (PgF gs) k + max 1 (PgF gs k).length)
  rw [vp g gs k]; omega
theorem xj (e : Bool) : ∀ gs : List GrM, (gs.flatMap (glF e)).length = zG (PgF gs) gs.length
 | [] => rfl
 | g :: gs => by
  rw [List.flatMap_cons, List.length_append, ue, xj e gs, List.length_cons, vp]
theorem kG {e : Bool} : ∀ {gs : List GrM} {k j : Nat} {g : GrM}, gs[k]? = some g → j < max 1 g.2.length → (gs.flatMap (glF e))[zG (PgF gs) k + j]? = (glF e g)[j]?
 | [], _, _, _, h, _ => by simp at h
 | x :: gs, 0, j, g, h, hj => by
  simp at h
  subst h
  rw [List.flatMap_cons, show zG (PgF (x :: gs)) 0 + j = j by show 0 + j = j; omega, List.getElem?_append_left (by rw [ue]; exact hj)]
 | x :: gs, k + 1, j, g, h, hj => by
  rw [vp, List.flatMap_cons, List.getElem?_append_right (by rw [ue]; omega), ue, show max 1 x.2.length + zG (PgF gs) k + j - max 1 x.2.length = zG (PgF gs) k + j by omega]
  exact kG (by simpa using h) hj
theorem qx {gs : List GrM} {k : Nat} {g : GrM} (h : gs[k]? = some g) : PgF gs k = g.2 := by unfold PgF; rw [List.getD_eq_getElem?_getD, h]; rfl
theorem Xo {gs : List GrM} {k : Nat} (h : gs.length ≤ k) : PgF gs k = [] := by unfold PgF; rw [List.getD_eq_getElem?_getD, List.getElem?_eq_none h]; rfl
theorem zP {C : List InsM} {k : Nat} {x : InsM} (h : C[k]? = some x) : zb C k = x := by unfold zb; rw [List.getD_eq_getElem?_getD, h]; rfl
theorem wv {e : Bool} {g : GrM} (h : g.2 = []) : glF e g = [g.1] := by unfold glF; rw [if_pos h]
theorem U7 {e : Bool} {g : GrM} (h : g.2 ≠ []) {j : Nat} {f : FldM} (hj : g.2[j]? = some f) : (glF e g)[j]? = some (f.ins e) := by unfold glF; rw [if_neg h, List.getElem?_map, hj]; rfl
theorem qy {x : InsM} (h : x.op = 1 ∨ x.op = 2 ∨ x.op = 33 ∨ x.op = 34) : ¬ tgF x.op = true := by
 rcases h with h | h | h | h <;> rw [h] <;> decide
theorem kH {x : InsM} {m : Int → Int} (h : x.op = 1 ∨ x.op = 2 ∨ x.op = 33 ∨ x.op = 34) : mvX m x = x := qK (qy h)
theorem U8 (m : Int → Int) : mvX m ⟨0, 0, 0, 0⟩ = ⟨0, 0, 0, 0⟩ := qK (by decide)
theorem U9 {e : Bool} {gs : List GrM} {M : List Int} {now : Int → Int} (hD : yK e (gs.flatMap (glF e)) M = (0, 0)) (hok : ∀ g ∈ gs, GrOK e g)
  (hnow : ∀ k, k < gs.length → now (zG (PgF gs) k : Nat) = k) (hst : ∀ g ∈ gs, tgF g.1.op = true → ∃ k, k < gs.length ∧ g.1.b = (zG (PgF gs) k : Nat)) (hsM : ∀ n ∈ M, ∃ k, k < gs.length ∧ n = (zG (PgF gs) k : Nat)) :
  yK e (gs.map fun g => mvX now g.1) (M.map now) = (0, 0) ∧ Rf e (gs.map fun g => mvX now g.1) (M.map now) (gs.flatMap (glF e)) (PgF gs) ∧ (M.map now).map (trI (zG (PgF gs))) = M := by
 obtain ⟨hlen, hr, hM⟩ := z9 hD
 have hl := xj e gs
 have hCl : (gs.map fun g => mvX now g.1).length = gs.length := List.length_map ..
 have hle : gs.length ≤ (gs.flatMap (glF e)).length := by
  have : ∀ n, n ≤ zG (PgF gs) n := fun n => by
   induction n with
   | zero => omega
   | succ n ih => have := ua (P := PgF gs) (show n < n + 1 by omega); omega
  rw [hl]; exact this _
 have atC : ∀ {k : Nat} {g : GrM}, gs[k]? = some g → zb (gs.map fun g => mvX now g.1) k = mvX now g.1 := fun {k g} h => zP (by rw [List.getElem?_map, h]; rfl)
 have atD : ∀ {k : Nat} {g : GrM}, gs[k]? = some g → g.2 = [] → zb (gs.flatMap (glF e)) (zG (PgF gs) k) = g.1 := fun {k g} h h2 => by
  refine zP ?_
  have := kG (e := e) (j := 0) h (by omega)
  rw [Nat.add_zero] at this
  rw [this, wv h2]
  rfl
 have atR : ∀ {k j : Nat} {g : GrM} {f : FldM}, gs[k]? = some g → g.2[j]? = some f → zb (gs.flatMap (glF e)) (zG (PgF gs) k + j) = f.ins e := fun {k j g f} h h2 => by
  have hne : g.2 ≠ [] := fun q => by rw [q] at h2; cases h2
  have hj : j < g.2.length := by
   rcases Nat.lt_or_ge j g.2.length with q | q
   ·exact q
   ·rw [List.getElem?_eq_none q] at h2; cases h2
  refine zP ?_
  rw [kG h (by omega), U7 hne h2]
 have some_of : ∀ {k}, k < gs.length → ∃ g, gs[k]? = some g ∧ g ∈ gs := fun {k} h => ⟨gs[k], List.getElem?_eq_getElem h, List.getElem_mem h⟩
 have hb : ∀ g ∈ gs, tgF g.1.op = true → 0 ≤ now g.1.b ∧ now g.1.b < gs.length ∧ trI (zG (PgF gs)) (now g.1.b) = g.1.b := fun g hg ht => by
  obtain ⟨k, hk, h⟩ := hst g hg ht
  rw [h, hnow k hk]
  refine ⟨by omega, by omega, ?_⟩
  unfold trI
  rw [Int.toNat_natCast]
 have op9 : ∀ {k : Nat} {g : GrM}, gs[k]? = some g → g ∈ gs → (zb (gs.flatMap (glF e)) (zG (PgF gs) k)).op = 9 → g.2 = [] := fun {k g} h hg h9 => by
  cases hp : g.2 with
  | nil => rfl
  | cons f l =>
   have := atR (j := 0) (f := f) h (by rw [hp]; rfl)
   rw [Nat.add_zero] at this
   rw [this] at h9
   have := yS (e := e) (f := f)
   omega
 have nxt : ∀ {k : Nat} {g : GrM}, gs[k]? = some g → g.2 = [] → zG (PgF gs) (k + 1) = zG (PgF gs) k + 1 := fun {k g} h h2 => by
  show zG (PgF gs) k + max 1 (PgF gs k).length = _
  rw [qx h, h2]; rfl
 have rightC : ∀ k, k < gs.length → yr e (gs.map fun g => mvX now g.1) (M.map now) k = true := fun k hk => by
  obtain ⟨g, h, hg⟩ := some_of hk
  have hD' : zG (PgF gs) k < (gs.flatMap (glF e)).length := by rw [hl]; exact uE hk
  by_cases h2 : g.2 = []
  ·have hx := atD h h2
   refine Wo (hr _ hD') (by rw [atC h, hx]) (List.length_map ..) (fun ht => ?_) fun ho => ?_
   ·rw [hx] at ht ⊢
    obtain ⟨q1, q2, _⟩ := hb g hg ht
    rw [hCl]; exact ⟨q1, q2⟩
   ·obtain ⟨a1, a2, a3, a4⟩ := xu (hr _ hD') ho
    have h9 : ∀ n : Nat, (n : Int) < (zb (gs.flatMap (glF e)) (zG (PgF gs) k)).a → (zb (gs.flatMap (glF e)) (zG (PgF gs) k + 1 + n)).op = 9 := fun n hn => x2 a4 _ (List.mem_of_getElem? (xK hn a3))
    generalize (zb (gs.flatMap (glF e)) (zG (PgF gs) k)).a = a at *
    have ps : ∀ n : Nat, (n : Int) ≤ a → zG (PgF gs) (k + 1 + n) = zG (PgF gs) k + 1 + n ∧ k + 1 + n ≤ gs.length := fun n => by
     induction n with
     | zero => intro _; exact ⟨nxt h h2, hk⟩
     | succ n ih =>
      intro hn
      obtain ⟨i1, i2⟩ := ih (by omega)
      have hlt : k + 1 + n < gs.length := by
       rcases Nat.lt_or_ge (k + 1 + n) gs.length with q | q
       ·exact q
       ·have : k + 1 + n = gs.length := by omega
        rw [this, ← hl] at i1
        omega
      obtain ⟨g', h', hg'⟩ := some_of hlt
      have h9' := h9 n (by omega)
      rw [← i1] at h9'
      have := nxt h' (op9 h' hg' h9')
      rw [show k + 1 + (n + 1) = k + 1 + n + 1 by omega, this, i1]
      exact ⟨by omega, by omega⟩
    have hY : (k : Int) + a < (gs.map fun g => mvX now g.1).length := by
     have := (ps a.toNat (by omega)).2
     rw [hCl]; omega
    refine ⟨hY, Wp a3 hY fun n hn => ?_⟩
    obtain ⟨i1, i2⟩ := ps n (by omega)
    have hlt : k + 1 + n < gs.length := by
     have := (ps (n + 1) (by omega)).2
     omega
    obtain ⟨g', h', hg'⟩ := some_of hlt
    have h9' := h9 n hn
    rw [← i1] at h9' ⊢
    rw [atC h', atD h' (op9 h' hg' h9')]
  ·obtain ⟨f, f1, f2, f3⟩ := (hok g hg).run h2
   refine Ym f1 ?_
   rw [atC h, f2, kH yS]
 have enC : ∀ n ∈ M.map now, 0 ≤ n ∧ n < (gs.map fun g => mvX now g.1).length := fun n hn => by
  obtain ⟨m, hm, rfl⟩ := List.mem_map.1 hn
  obtain ⟨k, hk, rfl⟩ := hsM m hm
  rw [hnow k hk, hCl]
  omega
 refine ⟨ZL.2 ⟨⟨by omega, by rw [List.length_map]; exact hlen.2⟩, fun k hk => rightC k (by rw [hCl] at hk; exact hk), enC⟩, ⟨fun k hk => rightC k (by rw [hCl] at hk; exact hk), enC, fun k hp => ?_, fun k hp => ?_, by rw [hCl]; exact hl⟩, ?_⟩
 ·rcases Nat.lt_or_ge k gs.length with hk | hk
  ·obtain ⟨g, h, hg⟩ := some_of hk
   rw [qx h] at hp
   have hf := (hok g hg).one hp
   rw [atC h, atD h hp]
   by_cases ht : tgF g.1.op = true
   ·obtain ⟨_, _, q⟩ := hb g hg ht
    refine ⟨?_, ?_⟩
    ·unfold yF at hf ⊢
     rw [zbY, vQ]
     have := Ye ht
     split
     ·rfl
     ·rw [if_neg (by omega), if_neg (by omega)]
    ·show _ = mvX _ _
     unfold mvX
     rw [if_pos ht]
     dsimp only
     rw [if_pos ht, q]
   ·rw [qK ht]
    exact ⟨hf, (qK ht).symm⟩
  ·have hD' : (gs.flatMap (glF e)).length ≤ zG (PgF gs) k := by rw [hl]; exact wC hk
   rw [xG (by rw [hCl]; exact hk), xG hD']
   exact ⟨rfl, (U8 _).symm⟩
 ·have hk : k < gs.length := by
   rcases Nat.lt_or_ge k gs.length with q | q
   ·exact q
   ·exact absurd (Xo q) hp
  obtain ⟨g, h, hg⟩ := some_of hk
  rw [qx h] at hp ⊢
  obtain ⟨f, f1, f2, f3⟩ := (hok g hg).run hp
  refine ⟨by rw [hCl]; exact hk, f, f1, by rw [atC h, f2, kH yS], f3, fun j f' hj => atR h hj⟩
 ·rw [List.map_map]
  conv => rhs; rw [← List.map_id M]
  refine List.map_congr_left fun n hn => ?_
  obtain ⟨k, hk, rfl⟩ := hsM n hn
  show trI _ (now _) = _
  rw [hnow k hk]
  unfold trI
  rw [Int.toNat_natCast]
  rfl
def yd (e : Bool) (a w : Int) : Nat → List FldM
 | 0 => []
 | n + 1 => ⟨a, 1, w⟩ :: yd e (a + if e = true then w else 1) w n
def spG (e : Bool) (x : InsM) : GrM := match yF x with
 | none => (x, [])
 | some f => (x, yd e f.a f.w f.n.toNat)
def zF (e : Bool) (C : List InsM) : List InsM := ((C.map (spG e)).flatMap (glF e)).map (mvX (trI (zG (PgF (C.map (spG e))))))
def yb (e : Bool) (C : List InsM) (N : List Int) : List Int := N.map (trI (zG (PgF (C.map (spG e)))))
theorem uI (e : Bool) (w : Int) : ∀ (n : Nat) (a : Int), (yd e a w n).length = n
 | 0, _ => rfl
 | n + 1, a => by unfold yd; rw [List.length_cons, uI e w n]
theorem kI (e : Bool) (w : Int) : ∀ (n : Nat) (a : Int), qJ e ⟨a, ((n + 1 : Nat) : Int), w⟩ (yd e a w (n + 1))
 | 0, a => .inl ⟨rfl, rfl⟩
 | n + 1, a => by
  have ih := kI e w n (a + if e = true then w else 1)
  refine .inr ⟨by unfold yd; simp, rfl, rfl, by dsimp only; omega, by dsimp only; omega, ?_⟩
  have e1 : (⟨FldM.behind e ⟨a, 1, w⟩, ((n + 1 + 1 : Nat) : Int) - 1, w⟩ : FldM) = ⟨a + if e = true then w else 1, ((n + 1 : Nat) : Int), w⟩ := by
   unfold FldM.behind
   rw [FldM.mk.injEq]
   refine ⟨?_, by omega, rfl⟩
   dsimp only
   split <;> simp
  dsimp only
  rw [e1]
  exact ih
theorem zai {e : Bool} {C : List InsM} {N : List Int} {k : Nat} (h : yr e C N k = true) : GrOK e (spG e (zb C k)) := by
 unfold spG
 split
 ·rename_i hf
  exact ⟨fun _ => hf, fun q => absurd rfl q⟩
 ·rename_i f hf
  obtain ⟨f1, f2⟩ := xS h hf
  have hn := f1.n
  obtain ⟨n, hn'⟩ : ∃ n, f.n.toNat = n + 1 := ⟨f.n.toNat - 1, by omega⟩
  have hp := kI e f.w n f.a
  rw [hn']
  refine ⟨fun q => (by unfold yd at q; cases q), fun _ => ⟨f, f1, f2, ?_⟩⟩
  have : f = ⟨f.a, ((n + 1 : Nat) : Int), f.w⟩ := by
   obtain ⟨a, m, w⟩ := f
   rw [FldM.mk.injEq]
   refine ⟨rfl, ?_, rfl⟩
   dsimp only at hn hn'
   omega
  dsimp only
  rw [this]
  exact hp
theorem Xp (e : Bool) (x : InsM) : (spG e x).1 = x := by unfold spG; split <;> rfl
theorem uJ {e : Bool} {C : List InsM} {N : List Int} (hc : yK e C N = (0, 0)) : Rf e C N (zF e C) (PgF (C.map (spG e))) := by
 obtain ⟨hlen, hr, hN⟩ := z9 hc
 have hl := xj e (C.map (spG e))
 rw [List.length_map] at hl
 have atG : ∀ {k}, k < C.length → (C.map (spG e))[k]? = some (spG e (zb C k)) := fun {k} h => by
  rw [List.getElem?_map, List.getElem?_eq_getElem h, zP (List.getElem?_eq_getElem h)]; rfl
 have sl : (zF e C).length = zG (PgF (C.map (spG e))) C.length := by unfold zF; rw [List.length_map, hl]
 refine ⟨hr, hN, fun k hp => ?_, fun k hp => ?_, sl⟩
 ·rcases Nat.lt_or_ge k C.length with hk | hk
  ·have h := atG hk
   rw [qx h] at hp
   refine ⟨?_, ?_⟩
   ·have := (zai (hr k hk)).one hp
    rw [Xp] at this; exact this
   ·refine zP ?_
    have h2 := kG (e := e) (j := 0) h (by omega)
    rw [Nat.add_zero] at h2
    unfold zF
    rw [List.getElem?_map, h2, wv hp, Xp]
    rfl
  ·rw [xG hk, xG (by rw [sl]; exact wC hk)]
   exact ⟨rfl, (U8 _).symm⟩
 ·have hk : k < C.length := by
   rcases Nat.lt_or_ge k C.length with q | q
   ·exact q
   ·exact absurd (Xo (by rw [List.length_map]; exact q)) hp
  have h := atG hk
  rw [qx h] at hp ⊢
  obtain ⟨f, f1, f2, f3⟩ := (zai (hr k hk)).run hp
  rw [Xp] at f2
  refine ⟨hk, f, f1, f2, f3, fun j g hj => ?_⟩
  have hjl : j < (spG e (zb C k)).2.length := by
   rcases Nat.lt_or_ge j (spG e (zb C k)).2.length with q | q
   ·exact q
   ·rw [List.getElem?_eq_none q] at hj; cases hj
  refine zP ?_
  unfold zF
  rw [List.getElem?_map, kG h (by omega), U7 hp hj]
  show some (mvX _ _) = _
  rw [kH yS]
end
section
open Go.RowKit
def Yr (e : Bool) : Int := if e = true then 16777216 else 64
def xc (e : Bool) (f g : FldM) : Option FldM :=
 if g.a = f.behind e ∧ g.w = f.w ∧ f.n + g.n ≤ 64 ∧ FldM.behind e ⟨f.a, f.n + g.n, f.w⟩ ≤ Yr e then some ⟨f.a, f.n + g.n, f.w⟩ else none
structure FzS where
 gs : List GrM
 cur : Option (FldM × List FldM)
def zI (e : Bool) (S : FzS) : List GrM := match S.cur with
 | none => S.gs
 | some (f, l) => S.gs ++ [(f.ins e, l)]
def qz (e : Bool) (gs : List GrM) (x : InsM) : FzS := match yF x with
 | some g => ⟨gs, some (g, [g])⟩
 | none => ⟨gs ++ [(x, [])], none⟩
def xH (e : Bool) (m : Bool) (S : FzS) (x : InsM) : FzS := match S.cur, yF x with
 | some (f, l), some g => match (if m = true then none else xc e f g) with
  | some b => ⟨S.gs, some (b, l ++ [g])⟩
  | none => qz e (zI e S) x
 | _, _ => qz e (zI e S) x
def y3 (e : Bool) (mk : Nat → Bool) : Nat → List InsM → FzS → FzS
 | _, [], S => S
 | i, x :: xs, S => y3 e mk (i + 1) xs (xH e (mk i) S x)
def Qa (e : Bool) (mk : Nat → Bool) (D : List InsM) : List GrM := zI e (y3 e mk 0 D ⟨[], none⟩)
def zV (D : List InsM) (M : List Int) (i : Nat) : Bool := D.any (fun x => tgF x.op && decide (x.b = i)) || M.any (fun n => decide (n = i))
def uK : Nat → List GrM → List Int
 | _, [] => []
 | k, g :: gs => List.replicate (max 1 g.2.length) (k : Int) ++ uK (k + 1) gs
def uj (gs : List GrM) (n : Int) : Int := (uK 0 gs).getD n.toNat 0
def zJ (e : Bool) (D : List InsM) (M : List Int) : List GrM := Qa e (zV D M) D
def ye (e : Bool) (D : List InsM) (M : List Int) : List InsM := (zJ e D M).map fun g => mvX (uj (zJ e D M)) g.1
def yX (e : Bool) (D : List InsM) (M : List Int) : List Int := M.map (uj (zJ e D M))
theorem wE {e : Bool} {f g b : FldM} (h : xc e f g = some b) : g.a = f.behind e ∧ g.w = f.w ∧ b = ⟨f.a, f.n + g.n, f.w⟩ ∧ b.n ≤ 64 ∧ b.behind e ≤ Yr e := by
 unfold xc at h
 split at h
 ·rename_i q
  injection h with h
  subst h
  exact ⟨q.1, q.2.1, rfl, q.2.2.1, q.2.2.2⟩
 ·cases h
theorem Qb {e : Bool} {f g b : FldM} (hf : FldOK e f) (hg : FldOK e g) (h : xc e f g = some b) : FldOK e b := by
 obtain ⟨_, _, rfl, h3, h4⟩ := wE h
 have h1 := hf.n
 have h2 := hg.n
 refine ⟨hf.a, ⟨by dsimp only; omega, h3⟩, hf.w, fun q => ?_, fun q => hf.e1 q, fun q _ => ?_⟩
 ·subst q
  exact h4
 ·subst q
  exact h4
theorem Xq {e : Bool} {f g : FldM} (ha : g.a = f.a) (hw : g.w = f.w) : FldM.behind e ⟨g.behind e, f.n - g.n, f.w⟩ = f.behind e := by
 unfold FldM.behind
 dsimp only
 cases e
 ·rw [if_neg (by decide), if_neg (by decide), if_neg (by decide)]; omega
 ·rw [if_pos rfl, if_pos rfl, if_pos rfl, hw, ha, Int.sub_mul]; omega
theorem Zy {e : Bool} : ∀ {l : List FldM} {f : FldM}, qJ e f l → 1 ≤ f.n → l ≠ []
 | [], _, h, _ => h.elim
 | _ :: _, _, _, _ => by simp
theorem Ys {e : Bool} : ∀ {l : List FldM} {f g : FldM}, qJ e f l → 1 ≤ f.n → 1 ≤ g.n → g.a = f.behind e → g.w = f.w → qJ e ⟨f.a, f.n + g.n, f.w⟩ (l ++ [g])
 | [], _, _, h, _, _, _, _ => h.elim
 | x :: l, f, g, h, h1, h2, ha, hw => by
  rcases h with ⟨rfl, rfl⟩ | ⟨hl, q1, q2, q3, q4, q5⟩
  ·refine .inr ⟨by simp, rfl, rfl, h1, by dsimp only; omega, .inl ⟨rfl, ?_⟩⟩
   obtain ⟨a, n, w⟩ := g
   dsimp only at ha hw
   rw [FldM.mk.injEq]
   exact ⟨ha, by dsimp only; omega, hw⟩
  ·have ih := Ys q5 (by dsimp only; omega) h2 (by rw [Xq q1 q2]; exact ha) hw
   refine .inr ⟨by simp, q1, q2, q3, by dsimp only; omega, ?_⟩
   dsimp only at ih ⊢
   rw [show f.n + g.n - x.n = f.n - x.n + g.n by omega]
   exact ih
theorem xk {gs hs : List GrM} : ∀ {k : Nat}, k ≤ gs.length → zG (PgF (gs ++ hs)) k = zG (PgF gs) k
 | 0, _ => rfl
 | k + 1, h => by
  show zG (PgF (gs ++ hs)) k + max 1 (PgF (gs ++ hs) k).length = zG (PgF gs) k + max 1 (PgF gs k).length
  rw [xk (by omega)]
  have : PgF (gs ++ hs) k = PgF gs k := by
   unfold PgF
   rw [List.getD_eq_getElem?_getD, List.getD_eq_getElem?_getD, List.getElem?_append_left (by omega)]
  rw [this]
structure FzI (e : Bool) (mk : Nat → Bool) (pre : List InsM) (S : FzS) : Prop where
 ok : ∀ g ∈ S.gs, GrOK e g
 cur : ∀ f l, S.cur = some (f, l) → FldOK e f ∧ qJ e f l
 flat : (zI e S).flatMap (glF e) = pre
 st : ∀ i, i < pre.length → mk i = true → ∃ k, k < (zI e S).length ∧ i = zG (PgF (zI e S)) k
theorem FzI.gok {e : Bool} {mk : Nat → Bool} {pre : List InsM} {S : FzS} (h : FzI e mk pre S) : ∀ g ∈ zI e S, GrOK e g := by
 intro g hg
 unfold zI at hg
 split at hg
 ·exact h.ok g hg
 ·rename_i f l hc
  rcases List.mem_append.1 hg with hg | hg
  ·exact h.ok g hg
  ·simp at hg
   subst hg
   obtain ⟨h1, h2⟩ := h.cur f l hc
   exact ⟨fun q => absurd q (Zy h2 h1.n.1), fun _ => ⟨f, h1, rfl, h2⟩⟩
theorem kJ {e : Bool} {gs : List GrM} {x : InsM} : ∃ g, zI e (qz e gs x) = gs ++ [g] ∧ g.2.length ≤ 1 ∧ (yF x = none → g = (x, [])) ∧ (∀ f, yF x = some f → g = (f.ins e, [f])) := by
 unfold qz
 cases hf : yF x with
 | none => exact ⟨_, rfl, by simp, fun _ => rfl, fun f q => by cases q⟩
 | some f => exact ⟨_, rfl, by simp, fun q => (by cases q), fun f' q => by injection q with q; rw [q]⟩
theorem FzI.beg {e : Bool} {mk : Nat → Bool} {pre : List InsM} {S : FzS} (h : FzI e mk pre S) {x : InsM} (hx : ∀ f, yF x = some f → FldOK e f ∧ x = f.ins e) : FzI e mk (pre ++ [x]) (qz e (zI e S) x) := by
 obtain ⟨g, h1, h2, h3, h4⟩ := kJ (e := e) (gs := zI e S) (x := x)
 have hg1 : glF e g = [x] := by
  cases hf : yF x with
  | none => rw [h3 hf]; exact wv rfl
  | some f => rw [h4 f hf, (hx f hf).2]; rfl
 refine ⟨fun g hg => ?_, fun f l hc => ?_, ?_, fun i hi hm => ?_⟩
 ·unfold qz at hg
  cases hf : yF x with
  | none =>
   rw [hf] at hg
   rcases List.mem_append.1 hg with hg | hg
   ·exact h.gok g hg
   ·simp at hg
    subst hg
    exact ⟨fun _ => hf, fun q => absurd rfl q⟩
  | some f => rw [hf] at hg; exact h.gok g hg
 ·unfold qz at hc
  cases hf : yF x with
  | none => rw [hf] at hc; cases hc
  | some f' =>
   rw [hf] at hc
   injection hc with hc
   injection hc with c1 c2
   subst c1
   subst c2
   exact ⟨(hx _ hf).1, .inl ⟨rfl, rfl⟩⟩
 ·rw [h1, List.flatMap_append, h.flat]
  show pre ++ (glF e g ++ []) = _
  rw [hg1]; rfl
 ·rw [h1, List.length_append]
  rw [List.length_append] at hi
  have hl := xj e (zI e S)
  rw [h.flat] at hl
  by_cases hlt : i < pre.length
  ·obtain ⟨k, hk, q⟩ := h.st i hlt hm
   exact ⟨k, by omega, by rw [xk (by omega)]; exact q⟩
  ·refine ⟨(zI e S).length, by simp, ?_⟩
   rw [xk (Nat.le_refl _), ← hl]
   simp only [List.length_singleton] at hi
   omega
theorem FzI.step {e : Bool} {mk : Nat → Bool} {pre : List InsM} {S : FzS} (h : FzI e mk pre S) {x : InsM} (hx : ∀ f, yF x = some f → FldOK e f ∧ x = f.ins e) : FzI e mk (pre ++ [x]) (xH e (mk pre.length) S x) := by
 unfold xH
 split
 ·rename_i f l g hc hf
  split
  ·rename_i b hb
   cases hm : mk pre.length with
   | true => rw [hm, if_pos rfl] at hb; cases hb
   | false =>
    rw [hm, if_neg (by decide)] at hb
    obtain ⟨h1, h2⟩ := h.cur f l hc
    obtain ⟨g1, g2⟩ := hx g hf
    obtain ⟨j1, j2, rfl, _, _⟩ := wE hb
    have hflat := h.flat
    have hst := h.st
    unfold zI at hflat hst
    rw [hc] at hflat hst
    refine ⟨h.ok, fun f' l' q => ?_, ?_, fun i hi hmi => ?_⟩
    ·injection q with q
     injection q with q1 q2
     subst q1
     subst q2
     exact ⟨Qb h1 g1 hb, Ys h2 h1.n.1 g1.n.1 j1 j2⟩
    ·show (S.gs ++ [_]).flatMap (glF e) = _
     rw [List.flatMap_append] at hflat ⊢
     rw [← hflat, List.append_assoc]
     congr 1
     have hl := Zy h2 h1.n.1
     show glF e _ ++ [] = (glF e _ ++ []) ++ [x]
     unfold glF
     rw [if_neg (by simp), if_neg hl, List.append_nil, List.append_nil, List.map_append, g2]
     rfl
    ·have hne : i ≠ pre.length := fun q => by rw [q, hm] at hmi; cases hmi
     rw [List.length_append, List.length_singleton] at hi
     obtain ⟨k, hk, q⟩ := hst i (by omega) hmi
     refine ⟨k, by show k < (S.gs ++ [_]).length; simpa using hk, ?_⟩
     have hk' : k ≤ S.gs.length := by simpa [Nat.lt_succ_iff] using hk
     dsimp only at q ⊢
     rw [q]
     show _ = zG (PgF (S.gs ++ [_])) k
     rw [xk hk', xk hk']
  ·exact h.beg hx
 ·exact h.beg hx
theorem FzI.fold {e : Bool} {mk : Nat → Bool} : ∀ {xs pre : List InsM} {S : FzS}, FzI e mk pre S → (∀ x ∈ xs, ∀ f, yF x = some f → FldOK e f ∧ x = f.ins e) → FzI e mk (pre ++ xs) (y3 e mk pre.length xs S)
 | [], pre, S, h, _ => by rw [List.append_nil]; exact h
 | x :: xs, pre, S, h, hx => by
  have h1 := h.step (x := x) (hx x (.head _))
  have := FzI.fold h1 fun y hy => hx y (.tail _ hy)
  rw [List.append_assoc, List.length_append, List.length_singleton] at this
  exact this
theorem Qc : ∀ {gs : List GrM} {k c : Nat}, k < gs.length → (uK c gs).getD (zG (PgF gs) k) 0 = ((c + k : Nat) : Int)
 | [], _, _, h => by simp at h
 | g :: gs, 0, c, _ => by
  show (List.replicate (max 1 g.2.length) (c : Int) ++ uK (c + 1) gs).getD 0 0 = _
  rw [List.getD_eq_getElem?_getD, List.getElem?_append_left (by rw [List.length_replicate]; omega), List.getElem?_replicate]
  rw [if_pos (by omega)]
  rfl
 | g :: gs, k + 1, c, h => by
  show (List.replicate (max 1 g.2.length) (c : Int) ++ uK (c + 1) gs).getD _ 0 = _
  rw [vp, List.getD_eq_getElem?_getD, List.getElem?_append_right (by rw [List.length_replicate]; omega), List.length_replicate, show max 1 g.2.length + zG (PgF gs) k - max 1 g.2.length = zG (PgF gs) k by omega, ← List.getD_eq_getElem?_getD, Qc (by simpa using h)]
  omega
theorem Wq {D : List InsM} {M : List Int} {x : InsM} (hx : x ∈ D) (ht : tgF x.op = true) (h0 : 0 ≤ x.b) : zV D M x.b.toNat = true := by
 unfold zV
 rw [Bool.or_eq_true]
 left
 refine List.any_eq_true.2 ⟨x, hx, ?_⟩
 rw [ht, Bool.true_and, decide_eq_true_eq]
 omega
theorem Wr {D : List InsM} {M : List Int} {n : Int} (hn : n ∈ M) (h0 : 0 ≤ n) : zV D M n.toNat = true := by
 unfold zV
 rw [Bool.or_eq_true]
 right
 refine List.any_eq_true.2 ⟨n, hn, ?_⟩
 rw [decide_eq_true_eq]
 omega
theorem yO {C : List InsM} {x : InsM} (h : x ∈ C) : ∃ k, k < C.length ∧ zb C k = x := by
 obtain ⟨k, hk, rfl⟩ := List.mem_iff_getElem.1 h
 exact ⟨k, hk, zP (List.getElem?_eq_getElem hk)⟩
theorem Qd {e : Bool} {D : List InsM} {M : List Int} (hc : yK e D M = (0, 0)) : FzI e (zV D M) D (y3 e (zV D M) 0 D ⟨[], none⟩) := by
 obtain ⟨_, hr, _⟩ := z9 hc
 have h0 : FzI e (zV D M) [] ⟨[], none⟩ := ⟨fun g h => (by cases h), fun f l h => (by cases h), rfl, fun i h => absurd h (by simp)⟩
 exact FzI.fold h0 fun x hx f hf => by
  obtain ⟨k, hk, rfl⟩ := yO hx
  exact xS (hr k hk) hf
theorem x9 {e : Bool} {D : List InsM} {M : List Int} (hc : yK e D M = (0, 0)) : yK e (ye e D M) (yX e D M) = (0, 0) ∧ Rf e (ye e D M) (yX e D M) D (PgF (zJ e D M)) ∧ (yX e D M).map (trI (zG (PgF (zJ e D M)))) = M ∧ (zJ e D M).flatMap (glF e) = D := by
 obtain ⟨_, hr, hM⟩ := z9 hc
 have h := Qd hc
 have hflat : (zJ e D M).flatMap (glF e) = D := h.flat
 have hgok : ∀ g ∈ zJ e D M, GrOK e g := h.gok
 have hst : ∀ i, i < D.length → zV D M i = true → ∃ k, k < (zJ e D M).length ∧ i = zG (PgF (zJ e D M)) k := h.st
 have hnow : ∀ k, k < (zJ e D M).length → uj (zJ e D M) (zG (PgF (zJ e D M)) k : Nat) = k := fun k hk => by
  unfold uj
  rw [Int.toNat_natCast, Qc hk, Nat.zero_add]
 have := U9 (e := e) (gs := zJ e D M) (M := M) (now := uj (zJ e D M)) (by rw [hflat]; exact hc) hgok hnow (fun g hg ht => ?_) (fun n hn => ?_)
 ·rw [hflat] at this
  exact ⟨this.1, this.2.1, this.2.2, hflat⟩
 ·have hmem : g.1 ∈ D := by
   rw [← hflat, List.mem_flatMap]
   refine ⟨g, hg, ?_⟩
   by_cases h2 : g.2 = []
   ·rw [wv h2]; exact .head _
   ·obtain ⟨f, f1, f2, _⟩ := (hgok g hg).run h2
    rw [f2] at ht
    exact absurd ht (qy yS)
  obtain ⟨k, hk, hx⟩ := yO hmem
  have h3 := zZ (hr k hk)
  rw [hx] at h3
  have h4 := h3.2.2.1
  rw [(Ku h3.1).b1 ht] at h4
  have h5 := jr h4
  obtain ⟨k2, q1, q2⟩ := hst g.1.b.toNat (by omega) (Wq hmem ht h5.1)
  exact ⟨k2, q1, by omega⟩
 ·have h5 := hM n hn
  obtain ⟨k2, q1, q2⟩ := hst n.toNat (by omega) (Wr hn h5.1)
  exact ⟨k2, q1, by omega⟩
end
section
open Go.RowKit
def zaa (x : InsM) : FldM := if x.op = 2 ∨ x.op = 34 then ⟨x.a, x.b, x.c⟩ else ⟨x.a, 1, x.b⟩
theorem Zi {x : InsM} {f : FldM} (h : yF x = some f) : zaa x = f := by
 unfold yF at h
 unfold zaa
 split at h
 ·cases h
 split at h
 ·injection h with h
  rw [if_neg (by omega), h]
 split at h
 ·rename_i q
  injection h with h
  rw [if_pos q, h]
 ·cases h
def vFd (e : Bool) (f : FldM) : AV := .agg [vB e, vI f.a, vI f.n, vI f.w]
theorem vg (x : InsM) (e : Bool) : zN Try.prog 19 [.agg (qF x), vB e] (fun r => r = .tup [vFd e (zaa x), vB (yF x).isSome]) := by
 obtain ⟨op, a, b, c⟩ := x
 unfold vFd zaa yF
 have e5 : (a ≥ 0) = ¬ (a < 0) := by simp
 dsimp only
 by_cases h2 : op = 2
 ·subst h2
  rcases Classical.propComplete (a < 0) with e0 | e0
  all_goals
   refine zB (za _) Try.func19 rfl rfl (by rw [Try.results19]) Try.ntmps19 rfl fun E => ?_
   (repeat' (first | exact trivial | (with_reducible first | apply awA | apply awB | apply awC | apply awD | apply awF | apply awI) | (refine zn (id := 6) (t := (.node [0, 1, 2, 3, 4, 5, 6, 7] [])) (drR [2] [] []) zD (by kernel_rfl) (by kernel_rfl) (fun _ _ h => h) ?_) | (refine zn (id := 9) (t := (.node [0, 1, 2, 3, 4, 5] [])) (drR [6, 2] [] []) zD (by kernel_rfl) (by kernel_rfl) (fun _ _ h => h) ?_) | (refine zx (by simp only [go_sem]; exact rfl) ?_) | (refine zA (by simp only [go_sem]; exact rfl) ?_) | refine ze ?_ | refine zl ?_ ?_ | exact zy | ((with_reducible first | apply awn | apply awp | refine awQ ?_ | refine awR ?_); intro r hr; simp only [go_sem, Nat.reduceBEq, Nat.reduceLT, Nat.reduceLeDiff, Nat.reduceAdd, Nat.reduceMul, reduceCtorEq, e0, e5] at hr; subst hr; (first | refine awV ?_ ?_ | refine zR ?_ ?_ | (refine zf (fun h => ?_) (fun h => ?_) <;> (try simp only [go_sem, reduceCtorEq] at h) <;> (try (exfalso; omega))))))) <;> (try omega)
   all_goals first | (simp [e0]; done) | (simp [e0]; rfl) | trace_state
 by_cases h34 : op = 34
 ·subst h34
  rcases Classical.propComplete (a < 0) with e0 | e0
  all_goals
   refine zB (za _) Try.func19 rfl rfl (by rw [Try.results19]) Try.ntmps19 rfl fun E => ?_
   (repeat' (first | exact trivial | (with_reducible first | apply awA | apply awB | apply awD | apply awF | apply awI) | (refine zn (id := 6) (t := (.node [0, 1, 2, 3, 4, 5, 6, 7] [])) (drR [2] [] []) zD (by kernel_rfl) (by kernel_rfl) (fun _ _ h => h) ?_) | (refine zn (id := 9) (t := (.node [0, 1, 2, 3, 4, 5] [])) (drR [6, 2] [] []) zD (by kernel_rfl) (by kernel_rfl) (fun _ _ h => h) ?_) | (refine zx (by simp only [go_sem]; exact rfl) ?_) | (refine zA (by simp only [go_sem]; exact rfl) ?_) | refine ze ?_ | refine zl ?_ ?_ | exact zy | ((with_reducible first | apply awn | apply awp | refine awQ ?_ | refine awR ?_); intro r hr; simp only [go_sem, Nat.reduceBEq, Nat.reduceLT, Nat.reduceLeDiff, Nat.reduceAdd, Nat.reduceMul, reduceCtorEq, e0, e5, Int.reduceEq] at hr; subst hr; (first | refine awV ?_ ?_ | refine zR ?_ ?_ | (refine zf (fun h => ?_) (fun h => ?_) <;> (try simp only [go_sem, reduceCtorEq] at h) <;> (try (exfalso; omega))))))) <;> (try omega)
   all_goals first | (simp [e0]; done) | (simp [e0]; rfl) | trace_state
 have e2 := eq_false h2
 have e34 := eq_false h34
 rcases Classical.propComplete (op = 1) with e1 | e1 <;> rcases Classical.propComplete (op = 33) with e3 | e3 <;> rcases Classical.propComplete (a < 0) with e0 | e0
 all_goals
  refine zB (za _) Try.func19 rfl rfl (by rw [Try.results19]) Try.ntmps19 rfl fun E => ?_
  (repeat' (first | exact trivial | (with_reducible first | apply awA | apply awB | apply awC | apply awD | apply awF | apply awG | apply awI | apply awJ) | (refine zn (id := 9) (t := (.node [0, 1, 2, 3, 4, 5] [])) (drR [6, 2] [] []) zD (by kernel_rfl) (by kernel_rfl) (fun _ _ h => h) ?_) | (refine zx (by simp only [go_sem]; exact rfl) ?_) | (refine zA (by simp only [go_sem]; exact rfl) ?_) | refine ze ?_ | refine zl ?_ ?_ | exact zy | ((with_reducible first | apply awn | apply awp | refine awQ ?_ | refine awR ?_); intro r hr; simp only [go_sem, Nat.reduceBEq, Nat.reduceLT, Nat.reduceLeDiff, Nat.reduceAdd, Nat.reduceMul, reduceCtorEq, e0, e1, e2, e3, e34, e5] at hr; subst hr; (first | refine awV ?_ ?_ | refine zR ?_ ?_ | (refine zf (fun h => ?_) (fun h => ?_) <;> (try simp only [go_sem, reduceCtorEq] at h) <;> (try (exfalso; omega))))))) <;> (try omega)
  all_goals first | (simp [e0, e1, e2, e3, e34]; done) | (simp [e0, e1, e2, e3, e34]; rfl) | trace_state
def Sml (n : Int) : Prop := -1 ≤ n ∧ n ≤ 16777216
theorem qd (e : Bool) (f : FldM) (ha : Sml f.a) (hn : -1 ≤ f.n ∧ f.n ≤ 33554432) (hw : f.w = 1 ∨ f.w = 2 ∨ f.w = 4 ∨ f.w = 8) : zN Try.prog 24 [vFd e f] (fun r => r = vI (f.behind e)) := by
 unfold Sml at ha
 have hm : -8 ≤ f.n * f.w ∧ f.n * f.w ≤ 268435456 := by rcases hw with q | q | q | q <;> rw [q] <;> omega
 have w1 := zg (n := f.n * f.w) (by omega)
 have w2 := zg (n := f.a + f.n * f.w) (by omega)
 have w3 := zg (n := f.a + f.n) (by omega)
 unfold vFd FldM.behind
 cases e
 all_goals
  refine zB (za _) Try.func24 rfl rfl (by rw [Try.results24]) Try.ntmps24 rfl fun E => ?_
  (repeat' (first | exact trivial | (with_reducible first | apply awA | apply awC | apply awD | apply awF | apply awG) | ((with_reducible first | apply awn | refine awQ ?_ | refine awR ?_); intro r hr; simp only [go_sem, Nat.reduceBEq, Nat.reduceLT, Nat.reduceLeDiff, Nat.reduceAdd, Nat.reduceMul, w1, w2, w3] at hr; subst hr; (first | refine awV ?_ ?_ | refine zR ?_ ?_ | (refine zf (fun h => ?_) (fun h => ?_) <;> (try simp only [go_sem, reduceCtorEq] at h) <;> (try (exfalso; omega))))))) <;> (try omega)
  all_goals rfl
def jF (e : Bool) (f g : FldM) : FldM := if g.a ≠ f.behind e ∨ g.w ≠ f.w then f else ⟨f.a, f.n + g.n, f.w⟩
theorem Vo (e : Bool) (f g : FldM) (hf : FldOK e f) (ha : Sml g.a) (hn : Sml g.n) : zN Try.prog 20 [vFd e f, vFd e g] (fun r => r = .tup [vFd e (jF e f g), vB (xc e f g).isSome]) := by
 have h1 := hf.n
 have h2 := hf.a
 have hb := FldM.beh_bd hf
 have hfa : f.a ≤ 16777216 := by
  cases e
  ·have := hf.d rfl; omega
  ·have := hf.e1 rfl; omega
 unfold Sml at ha hn
 have b1 := qd e f (by unfold Sml; omega) (by omega) hf.w
 have b2 := qd e ⟨f.a, f.n + g.n, f.w⟩ (by unfold Sml; dsimp only; omega) (by dsimp only; omega) hf.w
 have w1 := zg (n := f.n + g.n) (by omega)
 unfold jF xc
 unfold vFd at *
 generalize f.behind e = q at *
 generalize FldM.behind e ⟨f.a, f.n + g.n, f.w⟩ = p at *
 rcases Classical.propComplete (g.a = q) with e1 | e1 <;> rcases Classical.propComplete (g.w = f.w) with e2 | e2 <;> rcases Classical.propComplete (f.n + g.n ≤ 64) with e3 | e3 <;> cases e
 all_goals
  refine zB (za _) Try.func20 rfl rfl (by rw [Try.results20]) Try.ntmps20 rfl fun E => ?_
  (repeat' (first | exact trivial | (with_reducible first | apply awA | apply awC | apply awD | apply awF | apply awG) | (refine zn (id := 1) (t := (.node [0, 1, 2, 3, 4, 5, 6, 7, 8, 9, 10, 11] [])) (drR [3, 2] [] []) zD (by kernel_rfl) (by kernel_rfl) (fun _ _ h => h) ?_) | (refine zn (id := 7) (t := (.node [0, 1, 2, 3, 4, 5, 7, 6, 8, 9, 10, 11] [])) (drR [2] [] []) zD (by kernel_rfl) (by kernel_rfl) (fun _ _ h => h) ?_) | (refine zx (by simp only [go_sem]; exact rfl) ?_) | (refine zA (by simp only [go_sem]; exact rfl) ?_) | refine ze ?_ | refine zl ?_ ?_ | exact zy | ((with_reducible first | apply awn | apply awp | refine awQ ?_ | refine awR ?_); intro r hr; simp only [go_sem, Nat.reduceBEq, Nat.reduceLT, Nat.reduceLeDiff, Nat.reduceAdd, Nat.reduceMul, reduceCtorEq, e1, e2, e3, w1, Int.reduceLE] at hr; subst hr; (first | refine caB 24 (vI 0) ?_ ?_ ?_ | refine caA (fun _ => b1) rfl ?_ ?_ ?_ | refine caA (fun _ => b2) rfl ?_ ?_ ?_ | refine awV ?_ ?_ | refine zR ?_ ?_ | (refine zf (fun h => ?_) (fun h => ?_) <;> (try simp only [go_sem, reduceCtorEq] at h) <;> (try (exfalso; omega))))))) <;> (try omega)
  all_goals first | (simp [e1, e2, e3]; done) | (simp [e1, e2, e3]; rfl) | (by_cases hp : p ≤ 64 <;> by_cases hq : p ≤ 16777216 <;> simp [e1, e2, e3, Yr, hp, hq] <;> rfl) | trace_state
theorem Yf (e : Bool) (f : FldM) : zN Try.prog 21 [vFd e f] (fun r => r = .agg (qF (f.ins e))) := by
 unfold vFd FldM.ins
 rcases Classical.propComplete (1 < f.n) with e1 | e1 <;> cases e
 all_goals
  have e2 : (f.n > 1) = (1 < f.n) := rfl
  refine zB (za _) Try.func21 rfl rfl (by rw [Try.results21]) Try.ntmps21 rfl fun E => ?_
  (repeat' (first | exact trivial | (with_reducible first | apply awA | apply awB | apply awC | apply awD | apply awF | apply awG | apply awI | apply awJ) | ((with_reducible first | apply awn | refine awQ ?_ | refine awR ?_); intro r hr; simp only [go_sem, Nat.reduceBEq, Nat.reduceLT, Nat.reduceLeDiff, Nat.reduceAdd, Nat.reduceMul, reduceCtorEq, e1] at hr; subst hr; (first | refine awV ?_ ?_ | refine zR ?_ ?_ | (refine zf (fun h => ?_) (fun h => ?_) <;> (try simp only [go_sem, reduceCtorEq] at h) <;> (try (exfalso; omega))))))) <;> (try omega)
  all_goals first | (simp [e1]; done) | (simp [e1]; rfl) | trace_state
theorem qw (e : Bool) (C : List InsM) (N : List Int) (k : Nat) (hk : k < C.length) : zN Try.prog 37 [pG e C N, vI k] (fun r => r = vB (tgF (zb C k).op)) := by
 have gk := yy hk
 have zk : ((k : Int)).toNat = k := by omega
 unfold pG
 generalize zb C k = x at gk ⊢
 obtain ⟨op, a, b, c⟩ := x
 dsimp only
 refine zB (za _) Try.func37 rfl rfl (by rw [Try.results37]) Try.ntmps37 rfl fun E => ?_
 (repeat' (first | exact trivial | (with_reducible first | apply awA | apply awB | apply awC | apply awD | apply awF | apply awG | apply awI | apply awJ) | ((with_reducible first | apply awn | refine awQ ?_ | refine awR ?_); intro r hr; simp only [go_sem, Nat.reduceBEq, Nat.reduceLT, Nat.reduceLeDiff, Nat.reduceAdd, Nat.reduceMul, gk, zk, zd] at hr; subst hr; (first | refine awV ?_ ?_ | refine zR ?_ ?_ | (refine zf (fun h => ?_) (fun h => ?_) <;> (try simp only [go_sem] at h) <;> (try (exfalso; omega))))))) <;> (try omega)
 all_goals first | (subst_vars; rfl) | (unfold tgF; simp only [*, if_false]; rfl) | skip
end
section
open Go.RowKit
def uk (nC nN : Nat) (w n : Int) : Bool :=
 if w = 107 then inF n (-1) 63 else
 if w = 112 then inF n (-1) 63 else
 if w = 75 then inF n 0 63 else
 if w = 119 then decide (n = 1) || decide (n = 2) || decide (n = 4) || decide (n = 8) else
 if w = 109 then inF n 2 64 else
 if w = 102 then inF n 4 16777216 else
 if w = 110 then inF n 1 1048576 else
 if w = 115 then inF n 1 64 else
 if w = 97 then inF n 1 64 else
 if w = 103 then inF n 0 255 else
 if w = 108 then inF n 0 16777215 else
 if w = 76 then inF n (-1) 16777215 else
 if w = 114 then decide (n = -1) || inF n 1 16777216 else
 if w = 122 then inF n 1 16777216 else
 if w = 116 then inF n 0 ((nC : Int) - 1) else
 if w = 121 then inF n 0 ((nN : Int) - 1) else
 decide (n = 0)
theorem ZM (e : Bool) (C : List InsM) (N : List Int) (hC : C.length ≤ 1000000000) (hN : N.length ≤ 1000000000) (w n : Int) : zN Try.prog 38 [pG e C N, vU8 w, vI n] (fun r => r = vB (uk C.length N.length w n)) := by
 have hw1 := zg (n := (C.length : Int) - 1) (by omega)
 have hw2 := zg (n := (N.length : Int) - 1) (by omega)
 unfold pG
 refine zB (za _) Try.func38 rfl rfl (by rw [Try.results38]) Try.ntmps38 rfl fun E => ?_
 (repeat' (first | exact trivial | (with_reducible first | apply awA | apply awB | apply awC | apply awD | apply awF | apply awG | apply awI | apply awJ) | ((with_reducible first | apply awn | apply awo | refine awQ ?_ | refine awR ?_); intro r hr; simp only [go_sem, Nat.reduceBEq, Nat.reduceLT, Nat.reduceLeDiff, Nat.reduceAdd, Nat.reduceMul, hw1, hw2, zd, zq] at hr; subst hr; (first | refine caA (fun _ => XK _ _ _) rfl ?_ ?_ ?_ | refine awV ?_ ?_ | refine zR ?_ ?_ | (refine zf (fun h => ?_) (fun h => ?_) <;> (try simp only [go_sem] at h) <;> (try (exfalso; omega))))))) <;> (try omega)
 all_goals first | (subst_vars; rfl) | (unfold uk; simp only [*, if_false]; rfl) | skip
end
end Go.Proofs.Ytfjajlcjifnceaa
