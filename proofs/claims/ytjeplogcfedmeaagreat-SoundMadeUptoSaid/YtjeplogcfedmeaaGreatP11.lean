import Derived.Test.YtjeplogcfedmeaaGreatP10
set_option linter.all false
set_option maxRecDepth 100000
set_option maxHeartbeats 8000000
namespace Go.Proofs.YtjeplogcfedmeaaGreat
section
open Go.RowKit
structure FormE (x : InsM) : Prop where
 leb : x.op = 36 → x.a ≠ -1
 run : x.op = 34 → 2 ≤ x.b ∧ x.b ≤ 64
def J7 (f g : StM → EfM × Bool) : Prop :=
 (∀ s, FineE s → (f s).2 = (g s).2 ∧ ((g s).2 = true → (f s).1 = (g s).1)) ∧ ∀ s0 s, FineE s0 → FineE s → (g s).2 = true → ((f s0).1 = (f s).1 ↔ (g s0).1 = (g s).1)
theorem J7.same {f g : StM → EfM × Bool} (h : ∀ s, FineE s → f s = g s) : J7 f g :=
 ⟨fun s hs => by rw [h s hs]; exact ⟨rfl, fun _ => rfl⟩, fun s0 s h0 hs _ => by rw [h s0 h0, h s hs]⟩
theorem Y9 {c : Bool} : J7 (fun s => (both s.takenD.1, s.takenD.2 && c)) (fun s => (both (s.take 1).1, (s.take 1).2 && c)) := by
 refine ⟨fun s hs => ?_, fun s0 s h0 hs hok => ?_⟩
 ·rcases ue hs with g | ⟨_, g1, g2, _, _⟩
  ·dsimp only; rw [g]; exact ⟨rfl, fun _ => rfl⟩
  ·dsimp only; rw [g1, g2]; exact ⟨rfl, fun q => by cases q⟩
 ·dsimp only at hok ⊢
  rw [Bool.and_eq_true] at hok
  have h6 := take_left hok.1
  have e1 : s.takenD = s.take 1 := by
   rcases ue hs with g | ⟨_, _, g2, _, _⟩
   ·exact g
   ·rw [g2] at hok; cases hok.1
  rw [e1]
  rcases ue h0 with g | ⟨_, _, _, g3, g4⟩
  ·rw [g]
  ·exact ⟨fun q => by
    have : s0.takenD.1.place = (s.take 1).1.place := congrArg (fun e : EfM => e.next.place) q
    omega, fun q => by
    have : (s0.take 1).1.place = (s.take 1).1.place := congrArg (fun e : EfM => e.next.place) q
    omega⟩
theorem Vn {x : InsM} (hx : FormE x) (t : Int) : J7 (fun s => qp s x t) (fun s => vd s x t) := by
 have cut : ∀ (g : StM → EfM × Bool) (f : StM → EfM × Bool), J7 f g → J7 f g := fun _ _ h => h
 by_cases h44 : x.op = 44
 ·by_cases hc : t ≤ x.c
  ·refine ⟨fun s _ => ?_, fun s0 s _ _ hok => ?_⟩
   ·simp [qp, vd, h44, hc, show ¬ x.c < t by omega]
   ·simp [vd, h44, hc] at hok
  ·have := Y9 (c := true)
   simp only [Bool.and_true] at this
   have e1 : (fun s => qp s x t) = fun s => (both s.takenD.1, s.takenD.2) := by
    funext s; simp [qp, h44, show x.c < t by omega]
   have e2 : (fun s => vd s x t) = fun s => (both (s.take 1).1, (s.take 1).2) := by
    funext s; simp [vd, h44, hc]
   rw [e1, e2]; exact this
 by_cases h45 : x.op = 45
 ·by_cases hc : t ≤ x.c
  ·refine ⟨fun s _ => ?_, fun s0 s _ _ hok => ?_⟩
   ·simp [qp, vd, h45, hc, show ¬ x.c < t by omega]
   ·simp [vd, h45, hc] at hok
  ·exact .same fun s _ => by simp [qp, vd, h45, hc, show x.c < t by omega]
 by_cases h46 : x.op = 46
 ·by_cases hc : t ≤ x.c
  ·refine ⟨fun s _ => ?_, fun s0 s _ _ hok => ?_⟩
   ·by_cases h7 : s.place = 7 <;> simp [qp, vd, h46, hc, h7, show ¬ x.c < t by omega]
   ·simp [vd, h46, hc] at hok
  ·have e1 : ∀ s, qp s x t = if s.place = 7 then (both s.turn.1, s.turn.2) else (both s.takenD.1, s.takenD.2) := fun s => by
    simp [qp, h46, show x.c < t by omega]
   have e2 : ∀ s, vd s x t = if s.place = 7 then (both s.turn.1, s.turn.2) else (both (s.take 1).1, (s.take 1).2) := fun s => by
    simp [vd, h46, hc]
   exact .same fun s hs => by
    rw [e1, e2]
    by_cases h7 : s.place = 7
    ·rw [if_pos h7, if_pos h7]
    ·rw [if_neg h7, if_neg h7]
     rcases ue hs with g | ⟨g, _⟩
     ·rw [g]
     ·exact absurd g h7
 by_cases h33 : x.op = 33 ∨ x.op = 35 ∨ x.op = 36
 ·by_cases ha : x.a = -1
  ·have h36 : ¬ x.op = 36 := fun g => hx.leb g ha
   exact .same fun s _ => by rcases h33 with g | g | g <;> simp [qp, vd, g, ha] ; exact absurd g h36
  ·have := Y9 (c := true)
   simp only [Bool.and_true] at this
   have e1 : (fun s => qp s x t) = fun s => (both s.takenD.1, s.takenD.2) := by
    funext s; rcases h33 with g | g | g <;> simp [qp, g, ha]
   have e2 : (fun s => vd s x t) = fun s => (both (s.take 1).1, (s.take 1).2) := by
    funext s; rcases h33 with g | g | g <;> simp [vd, g, ha]
   rw [e1, e2]; exact this
 by_cases h34 : x.op = 34
 ·obtain ⟨b1, b2⟩ := hx.run h34
  have e1 : ∀ s, qp s x t = (both { s with left := IntKind.i64.wrap (s.left - x.b) }, decide (s.place = 6) && decide (x.b ≤ s.left)) := fun s => by simp [qp, h34]
  have e2 : ∀ s, vd s x t = (both (s.take x.b).1, (s.take x.b).2 && decide (s.place = 6)) := fun s => by simp [vd, h34]
  have k6 : ∀ s, FineE s → s.place = 6 → qp s x t = vd s x t := fun s hs g => by
   have hl := hs.ok g
   rw [e1, e2]
   unfold StM.take
   rw [if_neg (by omega), if_pos g, decide_eq_true g, Bool.true_and, Bool.and_true]
   refine Prod.ext rfl ?_
   rw [decide_eq_decide, zy (by omega)]
   omega
  have kn : ∀ s, s.place ≠ 6 → (qp s x t).2 = false ∧ (vd s x t).2 = false ∧ (qp s x t).1.next.place = s.place ∧ (vd s x t).1.next.place = s.place := fun s g => by
   rw [e1, e2]
   unfold StM.take
   rw [if_neg (fun q => by omega), if_neg g, decide_eq_false g]
   exact ⟨rfl, rfl, rfl, rfl⟩
  refine ⟨fun s hs => ?_, fun s0 s h0 hs hok => ?_⟩
  ·by_cases g : s.place = 6
   ·dsimp only; rw [k6 s hs g]; exact ⟨rfl, fun _ => rfl⟩
   ·obtain ⟨q1, q2, _⟩ := kn s g
    dsimp only
    rw [q1, q2]; exact ⟨rfl, fun q => by cases q⟩
  ·dsimp only at hok ⊢
   have g : s.place = 6 := Decidable.byContradiction fun g => by rw [(kn s g).2.1] at hok; cases hok
   have p6 : (vd s x t).1.next.place = 6 := by
    rw [e2]
    unfold StM.take
    rw [if_neg (by omega), if_pos g]
    exact g
   rw [k6 s hs g]
   by_cases g0 : s0.place = 6
   ·rw [k6 s0 h0 g0]
   ·obtain ⟨_, _, q3, q4⟩ := kn s0 g0
    exact ⟨fun q => by rw [q, p6] at q3; exact absurd q3.symm g0, fun q => by rw [q, p6] at q4; exact absurd q4.symm g0⟩
 simp only [not_or] at h33
 obtain ⟨n33, n35, n36⟩ := h33
 refine .same fun s hs => ?_
 unfold qp vd
 dsimp only
 simp only [h44, h45, h46, n33, n35, n36, h34, or_self, if_false, false_and]
 repeat' (split; rfl)
 all_goals try rfl
 by_cases h20 : x.op = 20
 ·rw [if_pos h20]
  unfold StM.over
  by_cases h6 : s.place = 6
  ·simp [h20, h6]
  ·simp [h20, h6]
 ·rw [if_neg h20]
  simp [h20]
end
section
open Go.RowKit
def EfP (P : StM → Prop) (E : EfM) : Prop := P E.next ∧ P E.target
theorem EfP.both {P : StM → Prop} {s : StM} (h : P s) : EfP P (both s) := ⟨h, h⟩
theorem zV {P : StM → Prop} {p : Prop} [Decidable p] {a b : EfM × Bool} (ha : p → a.2 = true → EfP P a.1) (hb : ¬ p → b.2 = true → EfP P b.1) : (if p then a else b).2 = true → EfP P (if p then a else b).1 := by
 by_cases h : p
 ·rw [if_pos h]; exact ha h
 ·rw [if_neg h]; exact hb h
theorem FineD.still {s : StM} (h : FineD s) : FineD s.still := ⟨h.place, fun _ => rfl, h.table, h.kids⟩
theorem FineD.zero : FineD .zero := ⟨by decide, fun _ => rfl, fun _ => by decide, 0, rfl, by decide⟩
theorem FineD.at_ {s : StM} (h : FineD s) {p : Int} (hp : 0 ≤ p ∧ p ≤ 4) (ht : p = 2 ∨ p = 0 → 0 ≤ s.table) : FineD (s.at_ p) := ⟨hp, fun _ => rfl, ht, h.kids⟩
theorem FineD.free1 {s : StM} (h : FineD s) (h1 : s.place = 1) (f : Int) : FineD (s.still.wth f) := ⟨h.place, fun g => absurd h1 g, h.table, h.kids⟩
theorem Xa : ∀ (n : Nat) (k : Int) {s : StM} (ok : Bool), FineD s → FineD (runN n k s ok).1
 | 0, _, _, _, h => h
 | n + 1, k, s, ok, h => by
  unfold runN
  split
  ·exact Xa n (k + 1) _ (wR h k)
  ·exact h
theorem Zq : ∀ (n : Nat) (k : Int) {s : StM} (ok : Bool), s.place = 2 → (runN n k s ok).1.place = 2
 | 0, _, _, _, h => h
 | n + 1, k, s, ok, h => by
  unfold runN
  split
  ·exact Zq n (k + 1) _ (kL h k)
  ·exact h
theorem Qs {s : StM} {x : InsM} {t : Int} (h : FineD s) : (vC s x t).2 = true → EfP FineD (vC s x t).1 := by
 have e1 : (0 : Int) ≤ 1 ∧ (1 : Int) ≤ 4 := by decide
 have e2 : (0 : Int) ≤ 2 ∧ (2 : Int) ≤ 4 := by decide
 have e3 : (0 : Int) ≤ 3 ∧ (3 : Int) ≤ 4 := by decide
 have e4 : (0 : Int) ≤ 4 ∧ (4 : Int) ≤ 4 := by decide
 unfold vC
 dsimp only
 refine zV (fun _ => zV (fun _ g => by cases g) fun _ _ => .both (wR h _)) fun _ => ?_
 refine zV (fun _ _ => .both (wR h _)) fun _ => ?_
 refine zV (fun _ _ => .both (Xa _ _ _ h)) fun _ => ?_
 refine zV (fun _ _ => .both ⟨e1, fun g => absurd rfl g, fun g => by rcases g with g | g <;> exact absurd (show (1 : Int) = _ from g) (by decide), h.kids⟩) fun _ => ?_
 refine zV (fun _ g => .both (h.at_ e2 fun _ => h.table (.inr (of_decide_eq_true g)))) fun _ => ?_
 refine zV (fun _ _ => ⟨h.at_ e3 fun g => by rcases g with g | g <;> exact absurd g (by decide), h.at_ e4 fun g => by rcases g with g | g <;> exact absurd g (by decide)⟩) fun _ => ?_
 refine zV (fun _ _ => .both (h.at_ e3 fun g => by rcases g with g | g <;> exact absurd g (by decide))) fun _ => ?_
 refine zV (fun _ => ?_) fun _ => ?_
 ·unfold StM.offset
  refine zV (fun h2 g => .both ⟨h.place, fun _ => rfl, fun _ => ?_, h.kids⟩) fun h2 g => .both ⟨h.place, fun _ => rfl, fun q => ?_, h.kids⟩
  ·simp only [Bool.and_eq_true, decide_eq_true_eq] at g
   have := h.table (.inl h2)
   show 0 ≤ IntKind.i64.wrap (s.table + 1)
   rw [zy (by omega)]
   omega
  ·simp only [Bool.and_eq_true, decide_eq_true_eq] at g
   have q' : s.place = 2 ∨ s.place = 0 := q
   omega
 refine zV (fun _ => zV (fun _ g => by cases g) fun _ => ?_) fun _ => ?_
 ·unfold StM.part
  refine zV (fun _ _ => .both h.still) fun _ _ => .both ?_
  have hf := wR h x.a
  exact ⟨hf.place, hf.free, hf.table, hf.kids⟩
 refine zV (fun _ => ?_) fun _ => ?_
 ·unfold StM.rounds
  dsimp only
  refine zV (fun _ g => ?_) fun _ => ?_
  ·simp only [Bool.and_eq_true, decide_eq_true_eq] at g
   exact ⟨⟨h.place, fun _ => rfl, fun q => by have q' : s.place = 2 ∨ s.place = 0 := q; omega, h.kids⟩, h.still⟩
  refine zV (fun _ g => ?_) fun _ => ?_
  ·simp only [Bool.and_eq_true, decide_eq_true_eq] at g
   exact ⟨h.still, h.free1 g.1 _⟩
  refine zV (fun _ g => ⟨h.free1 (of_decide_eq_true g) _, h.still⟩) fun _ => ?_
  refine zV (fun _ g => ⟨h.still, h.free1 (of_decide_eq_true g) _⟩) fun _ => ?_
  refine zV (fun _ g => ?_) fun _ _ => .both h.still
  simp only [Bool.and_eq_true, decide_eq_true_eq] at g
  exact ⟨h.still, h.free1 g.1 _⟩
 refine zV (fun _ _ => .both h) fun _ => ?_
 exact zV (fun _ _ => .both .zero) fun _ g => by cases g
theorem Qt {s : StM} {x : InsM} {t : Int} (h : FineD s) (h19 : x.op ≠ 19) (h20 : x.op ≠ 20) : (vC s x t).2 = true → EfP (fun r => r.place ≠ 0) (vC s x t).1 := by
 have hp := h.place
 have hf : ∀ k, (s.fill k).2 = true → (s.fill k).1.place ≠ 0 := fun k => by
  unfold StM.fill
  split
  ·exact fun _ => by show (4 : Int) ≠ 0; decide
  split
  ·exact fun _ => by show (4 : Int) ≠ 0; decide
  split
  ·rename_i h1 _ _; exact fun _ => by show s.place ≠ 0; assumption
  split
  ·split
   ·exact fun g => by cases g
   ·exact fun _ => by show s.place ≠ 0; assumption
  ·exact fun g => by cases g
 unfold vC
 dsimp only
 refine zV (fun _ => zV (fun _ g => by cases g) fun _ g => .both (hf _ g)) fun _ => ?_
 refine zV (fun _ g => .both (hf _ g)) fun _ => ?_
 refine zV (fun _ g => ?_) fun _ => ?_
 ·unfold StM.run at g ⊢
  dsimp only at g ⊢
  by_cases h2 : s.place = 2
  ·have := Zq x.b.toNat x.a (decide (s.place = 2)) h2
   exact .both (by rw [this]; decide)
  ·rw [decide_eq_false h2, (Zp _ _ _).2] at g; cases g
 refine zV (fun _ _ => .both (by show (1 : Int) ≠ 0; decide)) fun _ => ?_
 refine zV (fun _ _ => .both (by show (2 : Int) ≠ 0; decide)) fun _ => ?_
 refine zV (fun _ _ => ⟨by show (3 : Int) ≠ 0; decide, by show (4 : Int) ≠ 0; decide⟩) fun _ => ?_
 refine zV (fun _ _ => .both (by show (3 : Int) ≠ 0; decide)) fun _ => ?_
 refine zV (fun _ => ?_) fun _ => ?_
 ·unfold StM.offset
  refine zV (fun h2 _ => .both (by show s.place ≠ 0; omega)) fun _ g => .both ?_
  simp only [Bool.and_eq_true, decide_eq_true_eq] at g
  show s.place ≠ 0
  omega
 refine zV (fun _ => zV (fun _ g => by cases g) fun _ => ?_) fun _ => ?_
 ·unfold StM.part
  refine zV (fun _ g => .both ?_) fun _ g => .both ?_
  ·simp only [Bool.and_eq_true, decide_eq_true_eq] at g
   show s.place ≠ 0
   omega
  ·simp only [Bool.and_eq_true, decide_eq_true_eq] at g
   exact hf _ g.1.1.1
 refine zV (fun _ => ?_) fun _ => ?_
 ·unfold StM.rounds
  dsimp only
  have st : ∀ {b : Bool}, (decide (s.place = 1) && b) = true → s.place ≠ 0 := fun g => by
   simp only [Bool.and_eq_true, decide_eq_true_eq] at g
   omega
  refine zV (fun _ g => ⟨st g, st g⟩) fun _ => ?_
  refine zV (fun _ g => ⟨st g, st g⟩) fun _ => ?_
  refine zV (fun _ g => ?_) fun _ => ?_
  ·have := of_decide_eq_true g
   exact ⟨by show s.place ≠ 0; omega, by show s.place ≠ 0; omega⟩
  refine zV (fun _ g => ?_) fun _ => ?_
  ·have := of_decide_eq_true g
   exact ⟨by show s.place ≠ 0; omega, by show s.place ≠ 0; omega⟩
  refine zV (fun _ g => ⟨st g, st g⟩) fun _ g => .both ?_
  simp only [Bool.or_eq_true, Bool.and_eq_true, decide_eq_true_eq] at g
  show s.place ≠ 0
  omega
 refine zV (fun g _ => absurd g h19) fun _ => ?_
 exact zV (fun g _ => absurd g h20) fun _ g => by cases g
end
section
open Go.RowKit
theorem Qu {s : StM} {x : InsM} {t : Int} (h : FineE s) (hx : Zn true x) (h20 : x.op ≠ 20) (hok : (vd s x t).2 = true) : EfP FineE (vd s x t).1 := by
 obtain ⟨g1, g2⟩ := Vf h.ok (hx rfl) hok
 have e0 : FineE .zero → True := fun _ => trivial
 have c6 : ∀ l, xD ⟨6, 0, 0, 0, 0, l⟩ → FineE ⟨6, 0, 0, 0, 0, l⟩ := fun l q => ⟨q, .inr (.inl ⟨rfl, rfl, rfl, rfl, rfl⟩)⟩
 have c7 : ∀ f, xD ⟨7, 0, 0, 0, f, 0⟩ → FineE ⟨7, 0, 0, 0, f, 0⟩ := fun f q => ⟨q, .inr (.inr ⟨rfl, rfl, rfl, rfl, rfl⟩)⟩
 have tk : ∀ n, (s.take n).2 = true → xD (s.take n).1 → FineE (s.take n).1 := fun n q r => by
  unfold StM.take at q r ⊢
  split
  ·exact c6 0 (fun _ => ⟨by decide, by decide⟩)
  ·rename_i h1
   rw [if_neg h1] at q r
   split
   ·rename_i h2
    rw [if_pos h2] at r
    rcases h.st with g | g | g
    ·rw [g] at h2; exact absurd h2 (by decide)
    ·exact ⟨r, .inr (.inl ⟨g.1, g.2.1, g.2.2.1, g.2.2.2.1, g.2.2.2.2⟩)⟩
    ·omega
   ·rename_i h2
    rw [if_neg h2] at q; cases q
 have tn : s.turn.2 = true → FineE s.turn.1 := fun q => by
  unfold StM.turn at q
  simp only [Bool.and_eq_true, decide_eq_true_eq] at q
  rcases h.st with g | g | g
  ·rw [g] at q; exact absurd q.1 (by decide)
  ·omega
  ·exact ⟨h.ok.still, .inr (.inr ⟨g.1, g.2.1, g.2.2.1, g.2.2.2.1, g.2.2.2.2⟩)⟩
 revert g1 g2 hok
 unfold vd
 dsimp only
 have two : ∀ {p : Prop} [Decidable p] {a b : EfM × Bool}, (p → a.2 = true → xD a.1.next → xD a.1.target → EfP FineE a.1) → (¬ p → b.2 = true → xD b.1.next → xD b.1.target → EfP FineE b.1) → (if p then a else b).2 = true → xD (if p then a else b).1.next → xD (if p then a else b).1.target → EfP FineE (if p then a else b).1 := fun {p} _ {a b} ha hb => by
  by_cases hp : p
  ·rw [if_pos hp]; exact ha hp
  ·rw [if_neg hp]; exact hb hp
 refine two (fun _ => two (fun _ g _ _ => by cases g) fun _ => two (fun _ g _ _ => .both (tn g)) fun _ g q _ => .both (tk 1 g q)) fun _ => ?_
 refine two (fun _ => two (fun _ g _ _ => .both (tn g)) fun _ g q _ => .both (tk 1 g q)) fun _ => ?_
 refine two (fun _ g q _ => .both (tk _ (by rw [Bool.and_eq_true] at g; exact g.1) q)) fun _ => ?_
 refine two (fun _ _ q _ => .both (c7 _ q)) fun _ => ?_
 refine two (fun _ _ q _ => .both (c7 _ q)) fun _ => ?_
 refine two (fun _ _ q _ => .both (c6 _ q)) fun _ => ?_
 refine two (fun _ _ q r => ⟨c6 _ q, c6 _ r⟩) fun _ => ?_
 refine two (fun _ _ q _ => .both (c6 _ q)) fun _ => ?_
 refine two (fun _ _ _ _ => .both h) fun _ => ?_
 refine two (fun _ _ _ _ => .both h) fun _ => ?_
 refine two (fun _ _ q r => ⟨c6 _ q, c7 _ r⟩) fun _ => ?_
 refine two (fun _ _ _ _ => .both h) fun _ => ?_
 exact two (fun g _ _ _ => absurd g h20) fun _ g _ _ => by cases g
def yP (e : Bool) (x : InsM) (s : StM) (t : Int) : EfM × Bool := if e = true then qp s x t else kU s x t
structure FineS (e : Bool) (s : StM) : Prop where
 en : e = true → FineE s
 de : e = false → FineD s
structure FormS (e : Bool) (x : InsM) : Prop where
 en : e = true → FormE x
 de : e = false → FormD x
theorem jv {e : Bool} {x : InsM} {s : StM} {t : Int} (hx : FormS e x) (h : FineS e s) : (yP e x s t).2 = (z9 e x s t).2 ∧ ((z9 e x s t).2 = true → (yP e x s t).1 = (z9 e x s t).1) := by
 unfold yP z9
 cases e with
 | true => rw [if_pos rfl, if_pos rfl]; exact (Vn (hx.en rfl) t).1 s (h.en rfl)
 | false => rw [if_neg (by decide), if_neg (by decide)]; exact Ky (h.de rfl) (hx.de rfl) t
theorem Qv {e : Bool} {x : InsM} {s0 s : StM} {t : Int} (hx : FormS e x) (h0 : FineS e s0) (h : FineS e s) (hz : e = false → s0.place = 0 → (z9 e x s0 t).2 = true) :
  ((yP e x s t).2 = true ∧ (yP e x s0 t).1 = (yP e x s t).1) ↔ ((z9 e x s t).2 = true ∧ (z9 e x s0 t).1 = (z9 e x s t).1) := by
 rw [(jv hx h).1]
 refine and_congr_right fun hok => ?_
 by_cases hok0 : (z9 e x s0 t).2 = true
 ·rw [(jv hx h).2 hok, (jv hx h0).2 hok0]
 ·unfold yP z9 at *
  cases e with
  | true =>
   rw [if_pos rfl] at hok hok0
   rw [if_pos rfl, if_pos rfl, if_pos rfl, if_pos rfl]
   exact (Vn (hx.en rfl) t).2 s0 s (h0.en rfl) (h.en rfl) hok
  | false =>
   rw [if_neg (by decide)] at hok hok0
   rw [if_neg (by decide), if_neg (by decide), if_neg (by decide), if_neg (by decide)]
   exact Jl (h0.de rfl) (h.de rfl) (hx.de rfl) (fun g => hok0 (by have := hz rfl g; rwa [if_neg (by decide)] at this)) hok
def vT (e : Bool) (C : List InsM) (L : LkM) (k : Nat) (s : StM) (t : Int) : Option LkM :=
 match L.getD k none with
 | none => some (L.set k (some s))
 | some s0 => if s0 = s then some L else if (yP e (zg C k) s t).2 = true ∧ (yP e (zg C k) s0 t).1 = (yP e (zg C k) s t).1 then some L else none
def u5 (e : Bool) (C : List InsM) (t : Int) (E : EfM) (arms : Bool) : List Int → Nat → LkM → Except Int LkM
 | [], _, L => .ok L
 | k :: ks, w, L =>
  match vT e C L k.toNat (if w = 1 ∧ arms = false then E.target else E.next) t with
  | none => .error k
  | some L' => u5 e C t E arms ks (w + 1) L'
def Qw (e : Bool) (C : List InsM) (k : Nat) (L : LkM) (t : Int) : Except Int LkM :=
 let x := zg C k
 let r := yP e x (wK L k) t
 if r.2 = false ∨ (zO C k x).any (fun j => decide ((C.length : Int) ≤ j)) = true then .error k
 else u5 e C t r.1 (vD x) (zO C k x) 0 L
def jx (e : Bool) (C : List InsM) (t : Int) : Nat → LkM → List Nat → Except Int (LkM × List Nat)
 | 0, L, D => .ok (L, D)
 | f + 1, L, D =>
  match vE L D with
  | none => .ok (L, D)
  | some k =>
   match Qw e C k L t with
   | .error j => .error j
   | .ok L' => jx e C t f L' (k :: D)
def wc (e : Bool) (C : List InsM) : List Int → Int → LkM → List Nat → Except Int (LkM × List Nat)
 | [], _, L, D => .ok (L, D)
 | n :: ns, t, L, D =>
  match vT e C L n.toNat (yF e) t with
  | none => .error n
  | some L' =>
   match jx e C t (C.length + 1 - D.length) L' D with
   | .error j => .error j
   | .ok (L2, D2) => wc e C ns (t + 1) L2 D2
def uf (e : Bool) (L : LkM) : Prop := ∀ k s, L.getD k none = some s → FineS e s
theorem kM {e : Bool} {C : List InsM} {L : LkM} {k : Nat} {s : StM} {t : Int} (hx : FormS e (zg C k)) (hL : uf e L) (hs : FineS e s) (hz : ∀ s0, L.getD k none = some s0 → e = false → s0.place = 0 → (z9 e (zg C k) s0 t).2 = true) : vT e C L k s t = xF e C L k s t := by
 unfold vT xF
 cases h : L.getD k none with
 | none => rfl
 | some s0 =>
  dsimp only
  by_cases he : s0 = s
  ·rw [if_pos he, if_pos he]
  ·rw [if_neg he, if_neg he]
   have := Qv hx (hL k s0 h) hs (hz s0 h)
   by_cases q : (z9 e (zg C k) s t).2 = true ∧ (z9 e (zg C k) s0 t).1 = (z9 e (zg C k) s t).1
   ·rw [if_pos q, if_pos (this.2 q)]
   ·rw [if_neg q, if_neg (fun g => q (this.1 g))]
theorem wS {e : Bool} {C : List InsM} {L L1 : LkM} {k : Nat} {s : StM} {t : Int} (h : xF e C L k s t = some L1) (j : Nat) (r : StM) (hj : L1.getD j none = some r) : L.getD j none = some r ∨ (j = k ∧ r = s ∧ L.getD j none = none) := by
 unfold xF at h
 split at h
 ·rename_i hn
  injection h with h
  subst h
  by_cases hjk : k = j
  ·subst hjk
   by_cases hl : k < L.length
   ·simp [List.getD, hl] at hj
    exact .inr ⟨rfl, hj.symm, hn⟩
   ·rw [List.set_eq_of_length_le (by omega)] at hj
    exact .inl hj
  ·left
   simp only [List.getD, List.getElem?_set_ne hjk] at hj ⊢; exact hj
 ·split at h
  ·injection h with h; subst h; exact .inl hj
  ·split at h
   ·injection h with h; subst h; exact .inl hj
   ·cases h
theorem XY {e : Bool} {C : List InsM} {L L1 : LkM} {k : Nat} {s : StM} {t : Int} (h : xF e C L k s t = some L1) (j : Nat) (r : StM) (hj : L.getD j none = some r) : L1.getD j none = some r := by
 unfold xF at h
 split at h
 ·rename_i hn
  injection h with h
  subst h
  have hjk : k ≠ j := fun g => by rw [g, hj] at hn; cases hn
  simp only [List.getD, List.getElem?_set_ne hjk] at hj ⊢; exact hj
 ·split at h
  ·injection h with h; subst h; exact hj
  ·split at h
   ·injection h with h; subst h; exact hj
   ·cases h
theorem uf.hand {e : Bool} {C : List InsM} {L L1 : LkM} {k : Nat} {s : StM} {t : Int} (hL : uf e L) (hs : FineS e s) (h : xF e C L k s t = some L1) : uf e L1 := fun j r hj => by
 rcases wS h j r hj with g | ⟨_, rfl, _⟩
 ·exact hL j r g
 ·exact hs
theorem qJ {e : Bool} {C : List InsM} (hx : ∀ k, FormS e (zg C k)) {t : Int} {E : EfM} (hE : FineS e E.next ∧ FineS e E.target) {arms : Bool} : ∀ {ks : List Int} {w : Nat} {L : LkM}, uf e L →
  (∀ j ∈ ks, ∀ s0, L.getD j.toNat none = some s0 → e = false → s0.place = 0 → (z9 e (zg C j.toNat) s0 t).2 = true) → (e = true ∨ ks.length ≤ 1 ∨ (E.next.place ≠ 0 ∧ E.target.place ≠ 0)) →
  u5 e C t E arms ks w L = handS e C t E arms ks w L ∧ ∀ L1, handS e C t E arms ks w L = .ok L1 → uf e L1 ∧ ∀ j r, L1.getD j none = some r → L.getD j none = some r ∨ (L.getD j none = none ∧ (∃ i ∈ ks, j = i.toNat) ∧ (r = E.next ∨ r = E.target))
 | [], w, L, hL, _, _ => ⟨rfl, fun L1 h => by
  unfold handS at h
  injection h with h
  subst h
  exact ⟨hL, fun j r hj => .inl hj⟩⟩
 | k :: ks, w, L, hL, hz, hc => by
  have hs : FineS e (if w = 1 ∧ arms = false then E.target else E.next) := by
   split
   ·exact hE.2
   ·exact hE.1
  have h1 := kM (hx k.toNat) hL hs (hz k (.head _))
  unfold u5 handS
  rw [h1]
  cases hh : xF e C L k.toNat (if w = 1 ∧ arms = false then E.target else E.next) t with
  | none => exact ⟨rfl, fun L1 h => by cases h⟩
  | some L' =>
   dsimp only
   have hL' := hL.hand hs hh
   obtain ⟨g1, g2⟩ := qJ hx hE (arms := arms) (ks := ks) (w := w + 1) (L := L') hL' (fun j hj s0 hs0 he hp => by
    rcases wS hh _ _ hs0 with q | ⟨_, q, _⟩
    ·exact hz j (.tail _ hj) s0 q he hp
    ·exfalso
     rcases hc with hc | hc | ⟨c1, c2⟩
     ·rw [he] at hc; cases hc
     ·cases ks with
      | nil => cases hj
      | cons a b => simp at hc
     ·rw [q] at hp
      split at hp
      ·exact c2 hp
      ·exact c1 hp) (by
    rcases hc with hc | hc | hc
    ·exact .inl hc
    ·exact .inr (.inl (by rw [List.length_cons] at hc; omega))
    ·exact .inr (.inr hc))
   refine ⟨g1, fun L1 h => ?_⟩
   obtain ⟨q1, q2⟩ := g2 L1 h
   refine ⟨q1, fun j r hj => ?_⟩
   rcases q2 j r hj with q | ⟨q3, ⟨i, hi, q4⟩, q5⟩
   ·rcases wS hh j r q with q | ⟨rfl, rfl, q6⟩
    ·exact .inl q
    ·refine .inr ⟨q6, ⟨k, .head _, rfl⟩, ?_⟩
     split
     ·exact .inr rfl
     ·exact .inl rfl
   ·refine .inr ⟨?_, ⟨i, .tail _ hi, q4⟩, q5⟩
    cases hl : L.getD j none with
    | none => rfl
    | some r0 =>
     exfalso
     have := XY hh j r0 hl
     rw [this] at q3; cases q3
end
section
open Go.RowKit
theorem V2 {l : List StM} {i : Nat} (h : i < l.length) : (sts l)[i]? = some [vI l[i].place, .v (.int .u64 l[i].kids), vI l[i].table, vI l[i].parts, vI l[i].free, vI l[i].left] := by
 simp [sts, Zu, h]
theorem V3 (A B : List StM) (hA : A.length ≤ 1000000) (hB : B.length ≤ 1000000) : zQ Tryz.prog 70 [.lst 6 (sts A), .lst 6 (sts B)] (fun r => r = vB (decide (A = B))) := by
 by_cases hl : A.length = B.length
 ·have e0 : ((A.length : Int) = (B.length : Int)) = True := eq_true (by omega)
  refine zE (zb _) Tryz.func70 rfl rfl (by rw [Tryz.results70]) Tryz.ntmps70 rfl fun E => ?_
  (repeat' (first | exact trivial | (with_reducible first | apply awA | apply awB | apply awC | apply awF) | ((with_reducible first | apply awn | refine awQ ?_); intro r hr; simp only [go_sem, Nat.reduceBEq, Nat.reduceLT, wX, e0] at hr; subst hr; (first | refine awV ?_ ?_ | (refine zh (fun h => ?_) (fun h => ?_) <;> (try simp only [go_sem, reduceCtorEq] at h) <;> (try (exfalso; omega))))))) <;> (try omega)
  refine zI [0, 1, 5] [] (fun i : Nat => ⟨[(0, true, .lst 6 (sts A)), (1, true, .lst 6 (sts B)), (5, true, vI i)], []⟩)
   (fun i => i ≤ A.length ∧ A.take i = B.take i) (fun i => A.length - i) 0 (by simp only [go_sem, Nat.reduceBEq] <;> exact rfl) ⟨Nat.zero_le _, rfl⟩ ?_
  intro i ⟨hi, ht⟩
  have hwi := zy (n := (i : Int) + 1) (by omega)
  have zi : ((i : Int)).toNat = i := by omega
  by_cases hlt : i < A.length
  ·have e1 : ((i : Int) < (A.length : Int)) = True := eq_true (by omega)
   have ga := V2 (l := A) (i := i) hlt
   have gb := V2 (l := B) (i := i) (by omega)
   have hlb : i < B.length := by omega
   generalize hx : A[i] = x at ga
   generalize hy : B[i] = y at gb
   by_cases hxy : x = y
   ·subst hxy
    (repeat' (first | exact trivial | (with_reducible first | apply awA | apply awB | apply awC | apply awF | apply awI) | (refine zA (id := 6) (t := (.node [0, 1, 2, 3, 4, 5, 6, 7, 8] [])) (drR [] [20, 24] []) zH (by kernel_rfl) (by kernel_rfl) (fun _ _ h => h) ?_) | (refine zB (by simp only [go_sem]; exact rfl) ?_) | (refine zD (by simp only [go_sem]; exact rfl) ?_) | refine zl ?_ | refine zq ?_ ?_ | exact zC | ((with_reducible first | apply awn | apply awp | refine awQ ?_); intro r hr; simp only [go_sem, Nat.reduceBEq, Nat.reduceLT, Nat.reduceLeDiff, Nat.reduceAdd, reduceCtorEq, wX, e1, zi, ga, gb, hwi] at hr; subst hr; (first | refine awV ?_ ?_ | (refine zh (fun h => ?_) (fun h => ?_) <;> (try simp only [go_sem, reduceCtorEq] at h) <;> (try (exfalso; omega))))))) <;> (try omega)
    refine ⟨i + 1, ?_, ⟨hlt, by rw [List.take_succ_eq_append_getElem hlt, List.take_succ_eq_append_getElem hlb, ht, hx, hy]⟩, by omega⟩
    simp only [go_sem, Nat.reduceBEq]
    try exact rfl
   ·have hne : A ≠ B := fun g => hxy (by subst g; rw [← hx, ← hy])
    have hse := uR hxy
    rw [decide_eq_false hne]
    (repeat' (first | exact trivial | (with_reducible first | apply awA | apply awB | apply awC | apply awD | apply awF | apply awG | apply awJ) | (refine zA (id := 6) (t := (.node [0, 1, 2, 3, 4, 5, 6, 7, 8] [])) (drR [] [20, 24] []) zH (by kernel_rfl) (by kernel_rfl) (fun _ _ h => h) ?_) | (refine zB (by simp only [go_sem]; exact rfl) ?_) | (refine zD (by simp only [go_sem]; exact rfl) ?_) | refine zl ?_ | refine zq ?_ ?_ | exact zC | ((with_reducible first | apply awn | apply awp | refine awQ ?_ | refine awR ?_); intro r hr; simp only [go_sem, Nat.reduceBEq, Nat.reduceLT, Nat.reduceLeDiff, Nat.reduceAdd, reduceCtorEq, wX, e1, zi, ga, gb, hse] at hr; subst hr; (first | refine awV ?_ ?_ | refine zM ?_ ?_ | (refine zh (fun h => ?_) (fun h => ?_) <;> (try simp only [go_sem, reduceCtorEq] at h) <;> (try (exfalso; omega))))))) <;> (try omega)
    all_goals exact rfl
  ·have e1 : ((i : Int) < (A.length : Int)) = False := eq_false (by omega)
   have hAB : A = B := by rw [List.take_of_length_le (by omega), List.take_of_length_le (by omega)] at ht; exact ht
   rw [decide_eq_true hAB]
   (repeat' (first | exact trivial | (with_reducible first | apply awA | apply awD | apply awE | apply awF | apply awH | apply awK) | ((with_reducible first | apply awn | refine awQ ?_ | refine awR ?_); intro r hr; simp only [go_sem, Nat.reduceBEq, Nat.reduceLT, wX, e1] at hr; subst hr; (first | refine awV ?_ ?_ | refine zM ?_ ?_ | (refine zh (fun h => ?_) (fun h => ?_) <;> (try simp only [go_sem, reduceCtorEq] at h) <;> (try (exfalso; omega))))))) <;> (try omega)
   all_goals exact rfl
 ·have e0 : ((A.length : Int) = (B.length : Int)) = False := eq_false (by omega)
  have hne : A ≠ B := fun g => hl (by rw [g])
  rw [decide_eq_false hne]
  refine zE (zb _) Tryz.func70 rfl rfl (by rw [Tryz.results70]) Tryz.ntmps70 rfl fun E => ?_
  (repeat' (first | exact trivial | (with_reducible first | apply awA | apply awD | apply awF | apply awG) | ((with_reducible first | apply awn | refine awQ ?_ | refine awR ?_); intro r hr; simp only [go_sem, Nat.reduceBEq, Nat.reduceLT, wX, e0] at hr; subst hr; (first | refine awV ?_ ?_ | refine zM ?_ ?_ | (refine zh (fun h => ?_) (fun h => ?_) <;> (try simp only [go_sem, reduceCtorEq] at h) <;> (try (exfalso; omega))))))) <;> (try omega)
  all_goals exact rfl
end
section
open Go.RowKit
theorem vV (e : Bool) (C : List InsM) (N : List Int) (k : Nat) (hC : C.length ≤ 1048576) (hx : FormI e C k) (s : StM) (t : Int) :
  zQ Tryz.prog 46 [pG e C N, vI k, vSt s, vI t] (fun r => r = .tup [.lst 6 (sts (qr (zg C k) (yP e (zg C k) s t).1 (zO C k (zg C k)).length)), vB (yP e (zg C k) s t).2]) := by
 unfold yP
 cases e with
 | true =>
  have hf := ZB C N k hC hx s t
  rw [if_pos rfl]
  unfold pG at hf ⊢
  refine yh (zb _) Tryz.func46 rfl rfl (by rw [Tryz.results46]) Tryz.ntmps46 rfl fun E => ?_
  (repeat' (first | exact trivial | (with_reducible first | apply awA | apply awD | apply awF | apply awG) | ((with_reducible first | apply awn | apply awo | refine awQ ?_ | refine awR ?_); intro r hr; simp only [go_sem, Nat.reduceBEq, Nat.reduceLT, Nat.reduceLeDiff, Nat.reduceAdd, Nat.reduceMul] at hr; subst hr; (first | refine caC (hf) rfl ?_ ?_ ?_ | refine awV ?_ ?_ | refine zM ?_ ?_ | (refine zh (fun h => ?_) (fun h => ?_) <;> (try simp only [go_sem, reduceCtorEq] at h) <;> (try (exfalso; omega))))))) <;> (try omega)
  all_goals first | exact AV.up_rfl _ | trace_state
 | false =>
  have hf := Zz C N k hC hx s t
  rw [if_neg (by decide)]
  unfold pG at hf ⊢
  refine yh (zb _) Tryz.func46 rfl rfl (by rw [Tryz.results46]) Tryz.ntmps46 rfl fun E => ?_
  (repeat' (first | exact trivial | (with_reducible first | apply awA | apply awC | apply awD | apply awF) | ((with_reducible first | apply awn | apply awo | refine awQ ?_ | refine awR ?_); intro r hr; simp only [go_sem, Nat.reduceBEq, Nat.reduceLT, Nat.reduceLeDiff, Nat.reduceAdd, Nat.reduceMul] at hr; subst hr; (first | refine caC (hf) rfl ?_ ?_ ?_ | refine awV ?_ ?_ | refine zM ?_ ?_ | (refine zh (fun h => ?_) (fun h => ?_) <;> (try simp only [go_sem, reduceCtorEq] at h) <;> (try (exfalso; omega))))))) <;> (try omega)
  all_goals first | exact AV.up_rfl _ | trace_state
end
section
open Go.RowKit
def qe (e : Bool) (C : List InsM) (N : List Int) (n : Nat) : AObj := .var [vB e, .lst 4 (zF C), .lst 1 (v8 N), .ref 62 6 15000 0 n, .ref 4 1 15001 0 n, .ref 3 1 15002 0 n]
def xN (e : Bool) (C : List InsM) (N : List Int) (L : LkM) (O : List Int) : List (Nat × AObj) :=
 [(10000, qe e C N L.length), (15000, .row 62 6 (yk L)), (15001, .row 4 1 (yl L)), (15002, .row 3 1 (v8 O))]
def yL (n : Nat) (D : List Nat) : List (List AV) := (List.range n).map fun k => [vB (decide (k ∈ D))]
theorem yJ (n : Nat) (D : List Nat) : (yL n D).length = n := by simp [yL]
theorem xm {n k : Nat} (D : List Nat) (h : k < n) : (yL n D)[k]? = some [vB (decide (k ∈ D))] := by simp [yL, h]
theorem um (n : Nat) : List.replicate n [vB false] = yL n [] := by
 apply List.ext_getElem?
 intro i
 simp only [yL, List.getElem?_replicate, List.getElem?_map]
 by_cases h : i < n
 ·simp [h]
 ·simp [h]
theorem wm (n : Nat) (D : List Nat) (k : Nat) : (yL n D).set k [vB true] = yL n (k :: D) := by
 apply List.ext_getElem?
 intro i
 by_cases hi : i < n
 ·rw [xm _ hi]
  by_cases hk : k = i
  ·subst hk
   rw [List.getElem?_set_self (by rw [yJ]; exact hi)]
   simp
  ·rw [List.getElem?_set_ne hk, xm _ hi]
   simp [Ne.symm hk]
 ·rw [List.getElem?_eq_none (by simp [yJ]; omega), List.getElem?_eq_none (by simp [yJ]; omega)]
def kw (L : LkM) (D : List Nat) : Int := match vE L D with
 | none => -1
 | some k => k
theorem Xl (e : Bool) (C : List InsM) (N : List Int) (hC : C.length ≤ 1048576) (L : LkM) (O : List Int) (hL : L.length = C.length) (D : List Nat) :
  yb Tryz.prog 45 [.ptr 1 10000 0 0, .ref 4 1 10001 0 C.length] (xN e C N L O ++ [(10001, .row 4 1 (yL C.length D))]) (vI (kw L D)) (xN e C N L O ++ [(10001, .row 4 1 (yL C.length D))]) := by
 unfold xN qe
 simp only [List.cons_append, List.nil_append]
 rw [hL]
 refine zJ (zb _) Tryz.func45 rfl rfl (by rw [Tryz.results45]) Tryz.ntmps45 rfl fun E => ?_
 (repeat' (first | exact trivial | (with_reducible first | apply awA | apply awB | apply awF) | ((with_reducible apply awn); intro r hr; simp only [go_sem, Nat.reduceLT] at hr; subst hr; (first | refine awV ?_ ?_)))) <;> (try omega)
 refine zI [0, 1, 5] [10000, 15000, 15001, 15002, 10001] (fun i : Nat => ⟨[(0, true, .ptr 1 10000 0 0), (1, true, .ref 4 1 10001 0 C.length), (5, true, vI i)],
  [(10000, .var [vB e, .lst 4 (zF C), .lst 1 (v8 N), .ref 62 6 15000 0 C.length, .ref 4 1 15001 0 C.length, .ref 3 1 15002 0 C.length]), (15000, .row 62 6 (yk L)), (15001, .row 4 1 (yl L)), (15002, .row 3 1 (v8 O)), (10001, .row 4 1 (yL C.length D))]⟩)
  (fun i => i ≤ C.length ∧ ∀ j, j < i → yM L D j = false) (fun i => C.length - i) 0 (by simp only [go_sem, Nat.reduceBEq] <;> exact rfl) ⟨Nat.zero_le _, fun j hj => by omega⟩ ?_
 intro i ⟨hi, hb⟩
 have hwi := zy (n := (i : Int) + 1) (by omega)
 have zi : ((i : Int)).toNat = i := by omega
 by_cases hlt : i < C.length
 ·have e1 : ((i : Int) < (C.length : Int)) = True := eq_true (by omega)
  have gh := xr (L := L) (k := i) (by omega)
  have gd := xm D hlt
  have hw : yM L D i = ((L.getD i none).isSome && !decide (i ∈ D)) := rfl
  have next : yM L D i = false → ∀ j, j < i + 1 → yM L D j = false := fun h j hj => by
   rcases Nat.lt_or_ge j i with q | q
   ·exact hb j q
   ·have : j = i := by omega
    rw [this]; exact h
  generalize (L.getD i none).isSome = b1 at gh hw
  generalize decide (i ∈ D) = b2 at gd hw
  cases b1 with
  | false =>
   (repeat' (first | exact trivial | (with_reducible first | apply awA | apply awB | apply awC | apply awF | apply awI) | ((with_reducible first | apply awn | refine awQ ?_); intro r hr; simp only [go_sem, Nat.reduceBEq, Nat.reduceLT, Nat.reduceLeDiff, Nat.reduceAdd, Nat.reduceMul, reduceCtorEq, e1, zi, gh, gd, hwi, Nat.zero_add] at hr; subst hr; (first | refine awV ?_ ?_ | (refine zh (fun h => ?_) (fun h => ?_) <;> (try simp only [go_sem, reduceCtorEq] at h) <;> (try (exfalso; omega))))))) <;> (try omega)
   refine ⟨i + 1, ?_, ⟨hlt, next hw⟩, by omega⟩
   simp only [go_sem, Nat.reduceBEq]
   try exact rfl
  | true =>
   cases b2 with
   | true =>
    (repeat' (first | exact trivial | (with_reducible first | apply awA | apply awB | apply awC | apply awF | apply awI) | ((with_reducible first | apply awn | refine awQ ?_); intro r hr; simp only [go_sem, Nat.reduceBEq, Nat.reduceLT, Nat.reduceLeDiff, Nat.reduceAdd, Nat.reduceMul, reduceCtorEq, e1, zi, gh, gd, hwi, Nat.zero_add] at hr; subst hr; (first | refine awV ?_ ?_ | (refine zh (fun h => ?_) (fun h => ?_) <;> (try simp only [go_sem, reduceCtorEq] at h) <;> (try (exfalso; omega))))))) <;> (try omega)
    refine ⟨i + 1, ?_, ⟨hlt, next hw⟩, by omega⟩
    simp only [go_sem, Nat.reduceBEq]
    try exact rfl
   | false =>
    have hnx : vE L D = some i := ja (by omega) hw hb
    have hv : kw L D = i := by unfold kw; rw [hnx]
    rw [hv]
    (repeat' (first | exact trivial | (with_reducible first | apply awA | apply awB | apply awC | apply awD | apply awF | apply awG | apply awJ) | ((with_reducible first | apply awn | refine awQ ?_ | refine awT ?_); intro r hr; simp only [go_sem, Nat.reduceBEq, Nat.reduceLT, Nat.reduceLeDiff, Nat.reduceAdd, Nat.reduceMul, reduceCtorEq, e1, zi, gh, gd, Nat.zero_add] at hr; subst hr; (first | refine awV ?_ ?_ | refine zP ?_ ?_ ?_ | (refine zh (fun h => ?_) (fun h => ?_) <;> (try simp only [go_sem, reduceCtorEq] at h) <;> (try (exfalso; omega))))))) <;> (try omega)
    all_goals first | exact AV.up_rfl _ | (repeat first | exact zo | refine zn rfl ?_) | trace_state
 ·have e1 : ((i : Int) < (C.length : Int)) = False := eq_false (by omega)
  have hnx : vE L D = none := by
   unfold vE
   rw [List.find?_eq_none]
   intro k hk
   rw [List.mem_range] at hk
   rw [hb k (by omega)]
   decide
  have hv : kw L D = -1 := by unfold kw; rw [hnx]
  rw [hv]
  (repeat' (first | exact trivial | (with_reducible first | apply awA | apply awD | apply awE | apply awF | apply awH | apply awK) | ((with_reducible first | apply awn | refine awQ ?_ | refine awT ?_); intro r hr; simp only [go_sem, Nat.reduceBEq, Nat.reduceLT, e1] at hr; subst hr; (first | refine awV ?_ ?_ | refine zP ?_ ?_ ?_ | (refine zh (fun h => ?_) (fun h => ?_) <;> (try simp only [go_sem, reduceCtorEq] at h) <;> (try (exfalso; omega))))))) <;> (try omega)
  all_goals first | exact AV.up_rfl _ | (repeat first | exact zo | refine zn rfl ?_) | trace_state
end
section
open Go.RowKit
theorem Xk (x : InsM) (E : EfM) (n : Nat) : (qr x E n).length ≤ n + 2 := by
 unfold qr
 split
 ·rw [qq]; omega
 ·simp; omega
theorem qV {e : Bool} {C : List InsM} {k : Nat} (hx : FormI e C k) : (zO C k (zg C k)).length ≤ 64 := by
 by_cases h2 : qt (zg C k)
 ·rw [vn h2]; decide
 by_cases h0 : (zg C k).op = 20 ∨ (zg C k).op = 9
 ·rw [w7 h0]; decide
 by_cases ha : (zg C k).op = 8 ∨ (zg C k).op = 41
 ·have := hx.arms ha
  rw [wZ ha]; omega
 ·rw [vo h2 ha h0]; decide
theorem V4 (e : Bool) (C : List InsM) (N : List Int) (hC : C.length ≤ 1048576) (L : LkM) (O : List Int) (hL : L.length = C.length) (hO : O.length = C.length) (k : Nat) (hk : k < C.length) (s : StM) (t : Int) (hn : L.getD k none = none) :
  yb Tryz.prog 44 [.ptr 1 10000 0 0, vI k, vSt s, vI t] (xN e C N L O) (vB true) (xN e C N (L.set k (some s)) (O.set k t)) := by
 have zk : ((k : Int)).toNat = k := by omega
 have gh := xr (L := L) (k := k) (by omega)
 have gs := xh (L := L) (k := k) (by omega)
 have go := wA (W := O) (i := k) (by omega)
 have s1 := kY L k s
 have s2 := kZ L k s
 have s3 := qP O k t
 rw [hn] at gh
 simp only [Option.isSome_none] at gh
 have hls : (L.set k (some s)).length = L.length := by simp
 unfold xN qe
 rw [hls, hL]
 refine zJ (zb _) Tryz.func44 rfl rfl (by rw [Tryz.results44]) Tryz.ntmps44 rfl fun E => ?_
 (repeat' (first | exact trivial | (with_reducible first | apply awA | apply awD | apply awF | apply awG) | (refine zA (id := 3) (t := (.node [0, 1, 2, 3, 4, 5, 6, 7] [])) (drR [10000, 6] [] []) zH (by kernel_rfl) (by kernel_rfl) (fun _ _ h => h) ?_) | (refine zB (by simp only [go_sem]; exact rfl) ?_) | (refine zD (by simp only [go_sem]; exact rfl) ?_) | refine zl ?_ | refine zq ?_ ?_ | exact zC | ((with_reducible first | apply awn | apply awp | refine awQ ?_ | refine awT ?_); intro r hr; simp only [go_sem, Nat.reduceBEq, Nat.reduceLT, Nat.reduceLeDiff, Nat.reduceAdd, Nat.reduceMul, reduceCtorEq, zk, gh, gs, go, s1, s2, s3, vw, zp, hO, hL, kW, kX, Nat.zero_add] at hr; subst hr; (first | refine awV ?_ ?_ | refine zP ?_ ?_ ?_ | (refine zh (fun h => ?_) (fun h => ?_) <;> (try simp only [go_sem, reduceCtorEq] at h) <;> (try (exfalso; omega))))))) <;> (try omega)
 all_goals first | exact AV.up_rfl _ | (repeat first | exact zo | refine zn rfl ?_) | trace_state
theorem V5 (e : Bool) (C : List InsM) (N : List Int) (hC : C.length ≤ 1048576) (L : LkM) (O : List Int) (hL : L.length = C.length) (hO : O.length = C.length) (k : Nat) (hx : FormI e C k) (s s0 : StM) (t : Int) (hn : L.getD k none = some s0) :
  yb Tryz.prog 44 [.ptr 1 10000 0 0, vI k, vSt s, vI t] (xN e C N L O) (vB (vT e C L k s t).isSome) (xN e C N L O) := by
 have hk := hx.lt
 have zk : ((k : Int)).toNat = k := by omega
 have gh := xr (L := L) (k := k) (by omega)
 have gs := xh (L := L) (k := k) (by omega)
 rw [hn] at gh
 simp only [Option.isSome_some] at gh
 have hst : wK L k = s0 := by unfold wK; rw [hn]; rfl
 rw [hst] at gs
 unfold vT
 rw [hn]
 simp only
 have st0 := vV e C N k hC hx s0 t
 have st1 := vV e C N k hC hx s t
 by_cases hs : s0 = s
 ·subst hs
  rw [if_pos rfl]
  unfold xN qe
  rw [hL]
  refine zJ (zb _) Tryz.func44 rfl rfl (by rw [Tryz.results44]) Tryz.ntmps44 rfl fun E => ?_
  (repeat' (first | exact trivial | (with_reducible first | apply awA | apply awC | apply awD | apply awF | apply awG) | (refine zA (id := 6) (t := (.node [0, 1, 2, 3, 4, 5, 6, 7, 8] [])) (drR [10000, 6] [47] []) zH (by kernel_rfl) (by kernel_rfl) (fun _ _ h => h) ?_) | (refine zB (by simp only [go_sem]; exact rfl) ?_) | (refine zD (by simp only [go_sem]; exact rfl) ?_) | refine zl ?_ | refine zq ?_ ?_ | exact zC | ((with_reducible first | apply awn | apply awp | refine awQ ?_ | refine awT ?_); intro r hr; simp only [go_sem, Nat.reduceBEq, Nat.reduceLT, Nat.reduceLeDiff, Nat.reduceAdd, Nat.reduceMul, reduceCtorEq, zk, gh, gs, Nat.zero_add] at hr; subst hr; (first | refine awV ?_ ?_ | refine zP ?_ ?_ ?_ | (refine zh (fun h => ?_) (fun h => ?_) <;> (try simp only [go_sem, reduceCtorEq] at h) <;> (try (exfalso; omega))))))) <;> (try omega)
  all_goals first | exact AV.up_rfl _ | (repeat first | exact zo | refine zn rfl ?_) | trace_state
 ·rw [if_neg hs]
  have hsm : ∀ r, ul (zg C k) (yP e (zg C k) r t).1 := fun r => by
   unfold yP
   split
   ·exact V1 _ _ _
   ·exact V0 _ _ _
  have hif := QT hx (hsm s0) (hsm s)
  have w6 := qV hx
  have la := V3 (qr (zg C k) (yP e (zg C k) s0 t).1 (zO C k (zg C k)).length) (qr (zg C k) (yP e (zg C k) s t).1 (zO C k (zg C k)).length) (by have := Xk (zg C k) (yP e (zg C k) s0 t).1 (zO C k (zg C k)).length; omega) (by have := Xk (zg C k) (yP e (zg C k) s t).1 (zO C k (zg C k)).length; omega)
  generalize qr (zg C k) (yP e (zg C k) s0 t).1 (zO C k (zg C k)).length = A at st0 la hif
  generalize qr (zg C k) (yP e (zg C k) s t).1 (zO C k (zg C k)).length = B at st1 la hif
  generalize yP e (zg C k) s0 t = r0 at st0 hif ⊢
  generalize yP e (zg C k) s t = r1 at st1 hif ⊢
  obtain ⟨E0, o0⟩ := r0
  obtain ⟨E1, o1⟩ := r1
  dsimp only at st0 st1 hif ⊢
  have hse := uR hs
  unfold xN qe
  rw [hL]
  unfold pG at st0 st1
  cases o1 with
  | false =>
   simp only [Bool.false_eq_true, false_and, if_false, Option.isSome_none]
   refine zJ (zb _) Tryz.func44 rfl rfl (by rw [Tryz.results44]) Tryz.ntmps44 rfl fun E => ?_
   (repeat' (first | exact trivial | (with_reducible first | apply awA | apply awC | apply awD | apply awF) | (refine zA (id := 6) (t := (.node [0, 1, 2, 3, 4, 5, 6, 7, 8] [])) (drR [10000, 6] [47] []) zH (by kernel_rfl) (by kernel_rfl) (fun _ _ h => h) ?_) | (refine zA (id := 8) (t := (.node [0, 1, 2, 3, 4, 5, 6, 7, 8, 9, 10, 11, 12, 13, 14, 15, 16, 17, 18] [])) (drR [10000] [62] []) zH (by kernel_rfl) (by kernel_rfl) (fun _ _ h => h) ?_) | (refine zA (id := 9) (t := (.node [0, 1, 2, 3, 4, 5, 6, 7, 8, 9, 10, 11, 12] [])) (drR [10000, 6] [] []) zH (by kernel_rfl) (by kernel_rfl) (fun _ _ h => h) ?_) | (refine zB (by simp only [go_sem]; exact rfl) ?_) | (refine zD (by simp only [go_sem]; exact rfl) ?_) | refine zl ?_ | refine zq ?_ ?_ | exact zC | ((with_reducible first | apply awn | apply awo | apply awp | refine awQ ?_ | refine awT ?_); intro r hr; simp only [go_sem, Nat.reduceBEq, Nat.reduceLT, Nat.reduceLeDiff, Nat.reduceAdd, Nat.reduceMul, reduceCtorEq, zk, gh, gs, hse, Nat.zero_add] at hr; subst hr; (first | refine caC (st0) rfl ?_ ?_ ?_ | refine caC (st1) rfl ?_ ?_ ?_ | refine caB 70 (vB true) ?_ ?_ ?_ | refine awV ?_ ?_ | refine zP ?_ ?_ ?_ | (refine zh (fun h => ?_) (fun h => ?_) <;> (try simp only [go_sem, reduceCtorEq] at h) <;> (try (exfalso; omega))))))) <;> (try omega)
   all_goals first | exact AV.up_rfl _ | (repeat first | exact zo | refine zn rfl ?_) | trace_state
  | true =>
   by_cases hE : E0 = E1
   ·have hab := decide_eq_true (hif.2 hE)
    rw [hab] at la
    simp only [hE, true_and, if_true, Option.isSome_some]
    refine zJ (zb _) Tryz.func44 rfl rfl (by rw [Tryz.results44]) Tryz.ntmps44 rfl fun E => ?_
    (repeat' (first | exact trivial | (with_reducible first | apply awA | apply awC | apply awD | apply awF) | (refine zA (id := 6) (t := (.node [0, 1, 2, 3, 4, 5, 6, 7, 8] [])) (drR [10000, 6] [47] []) zH (by kernel_rfl) (by kernel_rfl) (fun _ _ h => h) ?_) | (refine zA (id := 8) (t := (.node [0, 1, 2, 3, 4, 5, 6, 7, 8, 9, 10, 11, 12, 13, 14, 15, 16, 17, 18] [])) (drR [10000] [62] []) zH (by kernel_rfl) (by kernel_rfl) (fun _ _ h => h) ?_) | (refine zA (id := 9) (t := (.node [0, 1, 2, 3, 4, 5, 6, 7, 8, 9, 10, 11, 12] [])) (drR [10000, 6] [] []) zH (by kernel_rfl) (by kernel_rfl) (fun _ _ h => h) ?_) | (refine zB (by simp only [go_sem]; exact rfl) ?_) | (refine zD (by simp only [go_sem]; exact rfl) ?_) | refine zl ?_ | refine zq ?_ ?_ | exact zC | ((with_reducible first | apply awn | apply awo | apply awp | refine awQ ?_ | refine awT ?_); intro r hr; simp only [go_sem, Nat.reduceBEq, Nat.reduceLT, Nat.reduceLeDiff, Nat.reduceAdd, Nat.reduceMul, reduceCtorEq, zk, gh, gs, hse, Nat.zero_add] at hr; subst hr; (first | refine caC (st0) rfl ?_ ?_ ?_ | refine caC (st1) rfl ?_ ?_ ?_ | refine caA (fun _ => la) rfl ?_ ?_ ?_ | refine awV ?_ ?_ | refine zP ?_ ?_ ?_ | (refine zh (fun h => ?_) (fun h => ?_) <;> (try simp only [go_sem, reduceCtorEq] at h) <;> (try (exfalso; omega))))))) <;> (try omega)
    all_goals first | exact AV.up_rfl _ | (repeat first | exact zo | refine zn rfl ?_) | trace_state
   ·have hab := decide_eq_false (fun g => hE (hif.1 g))
    rw [hab] at la
    simp only [hE, and_false, if_false, Option.isSome_none]
    refine zJ (zb _) Tryz.func44 rfl rfl (by rw [Tryz.results44]) Tryz.ntmps44 rfl fun E => ?_
    (repeat' (first | exact trivial | (with_reducible first | apply awA | apply awC | apply awD | apply awF) | (refine zA (id := 6) (t := (.node [0, 1, 2, 3, 4, 5, 6, 7, 8] [])) (drR [10000, 6] [47] []) zH (by kernel_rfl) (by kernel_rfl) (fun _ _ h => h) ?_) | (refine zA (id := 8) (t := (.node [0, 1, 2, 3, 4, 5, 6, 7, 8, 9, 10, 11, 12, 13, 14, 15, 16, 17, 18] [])) (drR [10000] [62] []) zH (by kernel_rfl) (by kernel_rfl) (fun _ _ h => h) ?_) | (refine zA (id := 9) (t := (.node [0, 1, 2, 3, 4, 5, 6, 7, 8, 9, 10, 11, 12] [])) (drR [10000, 6] [] []) zH (by kernel_rfl) (by kernel_rfl) (fun _ _ h => h) ?_) | (refine zB (by simp only [go_sem]; exact rfl) ?_) | (refine zD (by simp only [go_sem]; exact rfl) ?_) | refine zl ?_ | refine zq ?_ ?_ | exact zC | ((with_reducible first | apply awn | apply awo | apply awp | refine awQ ?_ | refine awT ?_); intro r hr; simp only [go_sem, Nat.reduceBEq, Nat.reduceLT, Nat.reduceLeDiff, Nat.reduceAdd, Nat.reduceMul, reduceCtorEq, zk, gh, gs, hse, Nat.zero_add] at hr; subst hr; (first | refine caC (st0) rfl ?_ ?_ ?_ | refine caC (st1) rfl ?_ ?_ ?_ | refine caA (fun _ => la) rfl ?_ ?_ ?_ | refine awV ?_ ?_ | refine zP ?_ ?_ ?_ | (refine zh (fun h => ?_) (fun h => ?_) <;> (try simp only [go_sem, reduceCtorEq] at h) <;> (try (exfalso; omega))))))) <;> (try omega)
    all_goals first | exact AV.up_rfl _ | (repeat first | exact zo | refine zn rfl ?_) | trace_state
def ZC (L : LkM) (O : List Int) (k : Nat) (t : Int) : List Int := match L.getD k none with
 | none => O.set k t
 | some _ => O
theorem ZD (L : LkM) (O : List Int) (k : Nat) (t : Int) : (ZC L O k t).length = O.length := by
 unfold ZC
 split <;> simp
theorem ZE {e : Bool} {C : List InsM} {L L' : LkM} {k : Nat} {s : StM} {t : Int} (h : vT e C L k s t = some L') : L'.length = L.length := by
 unfold vT at h
 split at h
 ·injection h with h; subst h; simp
 ·split at h
  ·injection h with h; subst h; rfl
  ·split at h
   ·injection h with h; subst h; rfl
   ·cases h
theorem V6 (e : Bool) (C : List InsM) (N : List Int) (hC : C.length ≤ 1048576) (L : LkM) (O : List Int) (hL : L.length = C.length) (hO : O.length = C.length) (k : Nat) (hx : FormI e C k) (s : StM) (t : Int) :
  yb Tryz.prog 44 [.ptr 1 10000 0 0, vI k, vSt s, vI t] (xN e C N L O) (vB (vT e C L k s t).isSome) (xN e C N ((vT e C L k s t).getD L) (ZC L O k t)) := by
 cases hn : L.getD k none with
 | none =>
  have h := V4 e C N hC L O hL hO k hx.lt s t hn
  unfold vT ZC
  rw [hn]
  exact h
 | some s0 =>
  have h := V5 e C N hC L O hL hO k hx s s0 t hn
  have e1 : ZC L O k t = O := by unfold ZC; rw [hn]
  have e2 : (vT e C L k s t).getD L = L := by
   unfold vT
   rw [hn]
   dsimp only
   split
   ·rfl
   ·split <;> rfl
  rw [e1, e2]
  exact h
end
section
open Go.RowKit
def Jm (e : Bool) (L : LkM) (D : List Nat) : Prop := e = false → ∀ k j, yM L D k = true → yM L D j = true → (wK L k).place = 0 → j = k
theorem xj {L : LkM} {D : List Nat} {k : Nat} : yM L D k = true ↔ (L.getD k none).isSome = true ∧ k ∉ D := by
 unfold yM
 simp
theorem uK (e : Bool) : FineS e (yF e) := by
 unfold yF
 cases e with
 | true => exact ⟨fun _ => ⟨.far (by show (5 : Int) ≠ 6; decide), .inl rfl⟩, fun h => (by cases h)⟩
 | false => exact ⟨fun h => (by cases h), fun _ => FineD.zero⟩
section
variable {e : Bool} {C : List InsM} (hx : ∀ k, FormS e (zg C k)) (hi : ∀ k, Zn e (zg C k)) (hp : UK C)
include hx hi hp
theorem XZ {t : Int} {L : LkM} {D : List Nat} {k : Nat} (I : FirstI e C t L D) (hL : uf e L) (hso : Jm e L D) (hk : k < C.length) (hs : (L.getD k none).isSome = true) (hD : k ∉ D) :
  Qw e C k L t = qf e C k L t ∧ ∀ L1, qf e C k L t = .ok L1 → uf e L1 ∧ Jm e L1 (k :: D) := by
 have hwk : yM L D k = true := xj.2 ⟨hs, hD⟩
 obtain ⟨s, hsk⟩ := Option.isSome_iff_exists.1 hs
 have hst : wK L k = s := by unfold wK; rw [hsk]; rfl
 have hfs := hL k s hsk
 obtain ⟨q1, q2⟩ := jv (t := t) (hx k) hfs
 unfold Qw qf
 dsimp only
 rw [hst, q1]
 by_cases hbad : (z9 e (zg C k) s t).2 = false ∨ (zO C k (zg C k)).any (fun j => decide ((C.length : Int) ≤ j)) = true
 ·rw [if_pos hbad, if_pos hbad]
  exact ⟨rfl, fun L1 h => by cases h⟩
 rw [if_neg hbad, if_neg hbad]
 simp only [not_or, Bool.not_eq_false, Bool.not_eq_true] at hbad
 obtain ⟨hok, _⟩ := hbad
 rw [q2 hok]
 by_cases h20 : (zg C k).op = 20
 ·have hw : zO C k (zg C k) = [] := by
   unfold zO
   rw [if_neg (by omega), if_pos (.inl h20)]
  rw [hw]
  refine ⟨rfl, fun L1 h => ?_⟩
  unfold handS at h
  injection h with h
  subst h
  refine ⟨hL, fun he i j hwi hwj hz => hso he i j ?_ ?_ hz⟩
  ·rw [xj] at hwi ⊢
   exact ⟨hwi.1, fun g => hwi.2 (.tail _ g)⟩
  ·rw [xj] at hwj ⊢
   exact ⟨hwj.1, fun g => hwj.2 (.tail _ g)⟩
 have hE : FineS e (z9 e (zg C k) s t).1.next ∧ FineS e (z9 e (zg C k) s t).1.target := by
  cases e with
  | true =>
   unfold z9 at hok ⊢
   rw [if_pos rfl] at hok ⊢
   have := Qu (hfs.en rfl) (hi k) h20 hok
   exact ⟨⟨fun _ => this.1, fun g => by cases g⟩, ⟨fun _ => this.2, fun g => by cases g⟩⟩
  | false =>
   unfold z9 at hok ⊢
   rw [if_neg (by decide)] at hok ⊢
   have := Qs (hfs.de rfl) hok
   exact ⟨⟨fun g => (by cases g), fun _ => this.1⟩, ⟨fun g => (by cases g), fun _ => this.2⟩⟩
 have hzero : e = false → (zg C k).op ≠ 19 → (z9 e (zg C k) s t).1.next.place ≠ 0 ∧ (z9 e (zg C k) s t).1.target.place ≠ 0 := fun he h19 => by
  subst he
  unfold z9 at hok ⊢
  rw [if_neg (by decide)] at hok ⊢
  exact Qt (hfs.de rfl) h19 h20 hok
 obtain ⟨g1, g2⟩ := qJ hx hE (t := t) (arms := vD (zg C k)) (ks := zO C k (zg C k)) (w := 0) hL (fun j _ s0 hs0 he hz => by
  have hst0 : wK L j.toNat = s0 := by unfold wK; rw [hs0]; rfl
  by_cases hjD : j.toNat ∈ D
  ·obtain ⟨t', h1, h2⟩ := I.st _ hjD
   rw [hst0] at h2
   rw [kS h2 h1]; exact h2
  ·have := hso he j.toNat k (xj.2 ⟨by rw [hs0]; rfl, hjD⟩) hwk (by rw [hst0]; exact hz)
   have e1 : s0 = s := by
    rw [← this, hsk] at hs0
    injection hs0 with hs0
    exact hs0.symm
   rw [e1, ← this]; exact hok) (by
  cases he : e with
  | true => exact .inl rfl
  | false =>
   right
   by_cases h19 : (zg C k).op = 19
   ·left
    unfold zO
    rw [if_pos h19]
    exact Nat.le_refl _
   ·right
    rw [he] at hzero
    exact hzero rfl h19)
 refine ⟨g1, fun L1 h => ?_⟩
 obtain ⟨f1, f2⟩ := g2 L1 h
 refine ⟨f1, fun he i j hwi hwj hz => ?_⟩
 rw [xj] at hwi hwj
 obtain ⟨r, hr⟩ := Option.isSome_iff_exists.1 hwi.1
 obtain ⟨r', hr'⟩ := Option.isSome_iff_exists.1 hwj.1
 have hsi : wK L1 i = r := by unfold wK; rw [hr]; rfl
 rw [hsi] at hz
 rcases f2 i r hr with p | ⟨p1, ⟨i', p2, p3⟩, p4⟩
 ·exfalso
  have hsi2 : wK L i = r := by unfold wK; rw [p]; rfl
  have := hso he i k (xj.2 ⟨by rw [p]; rfl, fun g => hwi.2 (.tail _ g)⟩) hwk (by rw [hsi2]; exact hz)
  exact hwi.2 (by rw [this]; exact .head _)
 ·have h19 : (zg C k).op = 19 := Decidable.byContradiction fun g => by
   obtain ⟨z1, z2⟩ := hzero he g
   rcases p4 with p4 | p4 <;> rw [p4] at hz
   ·exact z1 hz
   ·exact z2 hz
  have hE2 : (z9 e (zg C k) s t).1 = both s := by
   subst he
   unfold z9 vC
   rw [if_neg (by decide)]
   simp only [h19, Int.reduceEq, or_self, if_false, if_true]
  have hs0 : s.place = 0 := by
   rw [hE2] at p4
   rcases p4 with p4 | p4 <;> rw [p4] at hz <;> exact hz
  have hw : zO C k (zg C k) = [(zg C k).b] := by
   unfold zO
   rw [if_pos h19]
  rcases f2 j r' hr' with p | ⟨_, ⟨j', u2, u3⟩, _⟩
  ·exfalso
   have := hso he k j hwk (xj.2 ⟨by rw [p]; rfl, fun g => hwj.2 (.tail _ g)⟩) (by rw [hst]; exact hs0)
   exact hwj.2 (by rw [this]; exact .head _)
  ·rw [hw, List.mem_singleton] at p2 u2
   rw [u3, p3, p2, u2]
theorem uL {t : Int} : ∀ {f : Nat} {L : LkM} {D : List Nat}, FirstI e C t L D → uf e L → Jm e L D → C.length + 1 ≤ f + D.length → jx e C t f L D = vF e C t f L D ∧ ∀ r, vF e C t f L D = .ok r → uf e r.1
 | 0, L, D, I, _, _, hf => by have := I.dlen; omega
 | f + 1, L, D, I, hL, hso, hf => by
  unfold jx vF
  cases hn : vE L D with
  | none => exact ⟨rfl, fun r h => by injection h with h; subst h; exact hL⟩
  | some k =>
   obtain ⟨h1, h2, h3⟩ := uX hn
   rw [I.len] at h1
   obtain ⟨g1, g2⟩ := XZ hx hi hp I hL hso h1 h2 h3
   dsimp only
   rw [g1]
   cases hg : qf e C k L t with
   | error j => exact ⟨rfl, fun r h => by cases h⟩
   | ok L1 =>
    obtain ⟨q1, q2⟩ := g2 L1 hg
    exact uL (XE hp I h1 h2 h3 hg).1 q1 q2 (by rw [List.length_cons]; omega)
theorem u6 : ∀ {N : List Int} {t : Int} {L : LkM} {D : List Nat}, (∀ n ∈ N, 0 ≤ n ∧ n < C.length) → FirstI e C t L D → uf e L → (∀ k, (L.getD k none).isSome = true → k ∈ D) → wc e C N t L D = xo e C N t L D
 | [], _, _, _, _, _, _, _ => rfl
 | n :: ns, t, L, D, hN, I, hL, ha => by
  unfold wc xo
  have hn := hN n (.head _)
  have hnl : n.toNat < L.length := by rw [I.len]; omega
  rw [kM (hx n.toNat) hL (uK e) fun s0 hs0 _ _ => by
   obtain ⟨t', h1, h2⟩ := I.st _ (ha _ (by rw [hs0]; rfl))
   have hst0 : wK L n.toNat = s0 := by unfold wK; rw [hs0]; rfl
   rw [hst0] at h2
   rw [kS h2 h1]; exact h2]
  cases hh : xF e C L n.toNat (yF e) t with
  | none => rfl
  | some L1 =>
   dsimp only
   obtain ⟨g1, _⟩ := uE hnl hh
   have hL1 := hL.hand (uK e) hh
   have only : ∀ j, yM L1 D j = true → j = n.toNat := fun j hj => by
    rw [xj] at hj
    obtain ⟨r, hr⟩ := Option.isSome_iff_exists.1 hj.1
    rcases wS hh j r hr with q | ⟨q, _⟩
    ·exact absurd (ha j (by rw [q]; rfl)) hj.2
    ·exact q
   have hfu : C.length + 1 ≤ (C.length + 1 - D.length) + D.length := by have := I.dlen; omega
   obtain ⟨q1, q2⟩ := uL hx hi hp (I.hand g1) hL1 (fun _ a b h1 h2 _ => (only b h2).trans (only a h1).symm) hfu
   rw [q1]
   cases hl : vF e C t (C.length + 1 - D.length) L1 D with
   | error j => rfl
   | ok r =>
    obtain ⟨L2, D2⟩ := r
    obtain ⟨g3, _, g5⟩ := qz hp (I.hand g1) hfu hl
    exact u6 (fun m hm => hN m (.tail _ hm)) (g3.up (by omega : t ≤ t + 1)) (q2 _ hl) g5
end
def Vo (e : Bool) (C : List InsM) (N : List Int) : Except Int (LkM × List Nat) := wc e C N 0 (List.replicate C.length none) []
theorem jy {e : Bool} {C : List InsM} {N : List Int} (hr : ∀ k, k < C.length → yE e C N k = true) (k : Nat) : FormS e (zg C k) := by
 by_cases hk : k < C.length
 ·obtain ⟨h1, h2, h3, _, h5⟩ := xf (hr k hk)
  generalize zg C k = x at *
  refine ⟨fun he => ?_, fun he => ?_⟩ <;> subst he
  ·refine ⟨fun ho => ?_, fun ho => ?_⟩
   ·rw [ho] at h2
    have : decide (x.a = 0) = true := h2
    have := of_decide_eq_true this
    omega
   ·rw [ho] at h3
    have : inF x.b 2 64 = true := h3
    simp only [inF, Bool.and_eq_true, decide_eq_true_eq] at this
    omega
  ·refine ⟨fun ho => ?_, fun ho => ?_⟩
   ·have : inF x.a (-1) 63 = true := by rcases ho with ho | ho | ho | ho | ho <;> (rw [ho] at h2; exact h2)
    simp only [inF, Bool.and_eq_true, decide_eq_true_eq] at this
    omega
   ·rw [ho] at h2 h3 h5
    have a1 : inF x.a 0 63 = true := h2
    have a2 : inF x.b 2 64 = true := h3
    simp only [inF, Bool.and_eq_true, decide_eq_true_eq] at a1 a2
    have a3 : decide (IntKind.i64.wrap (x.a + x.b) ≤ 64) = true := h5
    have := of_decide_eq_true a3
    rw [zy (by omega)] at this
    omega
 ·have hz : zg C k = ⟨0, 0, 0, 0⟩ := by
   unfold zg
   rw [List.getD_eq_getElem?_getD, List.getElem?_eq_none (by omega)]
   rfl
  rw [hz]
  exact ⟨fun _ => ⟨fun h => absurd h (by decide), fun h => absurd h (by decide)⟩, fun _ => ⟨fun h => by rcases h with h | h | h | h | h <;> exact absurd h (by decide), fun h => absurd h (by decide)⟩⟩
theorem Yt {e : Bool} {C : List InsM} {N : List Int} (hc : x8 e C N = (0, 0)) : Vo e C N = xc e C N := by
 obtain ⟨_, hr, hN⟩ := wg hc
 have hp : UK C := fun k hk j hj => (w9 hr hk j hj).1
 have hn : ∀ k, ¬ ((List.replicate C.length (none : Option StM)).getD k none).isSome = true := fun k hk => by rw [xW] at hk; cases hk
 exact u6 (jy hr) (js hr) hp hN (FirstI.init e C) (fun k s hk => absurd (by rw [hk]; rfl) (hn k)) fun k hk => absurd hk (hn k)
end
section
open Go.RowKit
def JI (C : List InsM) (R : Except Int (LkM × List Nat)) (q : Int × LkM × List Int) : Prop :=
 q.2.1.length = C.length ∧ q.2.2.length = C.length ∧ match R with
 | .ok r => q.1 = -1 ∧ q.2.1 = r.1
 | .error j => q.1 = j ∧ 0 ≤ j
def ZF (e : Bool) (C : List InsM) (ns : List Int) (t : Int) (r : Except Int (LkM × List Nat)) : Except Int (LkM × List Nat) :=
 match r with
 | .error j => .error j
 | .ok (L2, D2) => wc e C ns (t + 1) L2 D2
def QU (e : Bool) (C : List InsM) (t : Int) (f : Nat) (D : List Nat) (r : Except Int LkM) : Except Int (LkM × List Nat) :=
 match r with
 | .error j => .error j
 | .ok L' => jx e C t f L' D
theorem QV {l : List StM} {i : Nat} {s : StM} (h : l[i]? = some s) : (sts l)[i]? = some [vI s.place, .v (.int .u64 s.kids), vI s.table, vI s.parts, vI s.free, vI s.left] := by
 simp [sts, Zu, h]
theorem QW {e : Bool} {C : List InsM} {k i : Nat} (hx : FormI e C k) (E : EfM) (h : i < (zO C k (zg C k)).length) : (qr (zg C k) E (zO C k (zg C k)).length)[i]? = some (if i = 1 ∧ vD (zg C k) = false then E.target else E.next) := by
 by_cases h2 : qt (zg C k)
 ·rw [vn h2] at h ⊢
  have ha : vD (zg C k) = false := by unfold vD; unfold qt at h2; simp; omega
  rw [yI (by unfold qt at h2; omega), ha]
  match i, h with
  | 0, _ => rfl
  | 1, _ => rfl
 by_cases h0 : (zg C k).op = 20 ∨ (zg C k).op = 9
 ·rw [w7 h0] at h; omega
 by_cases ha : (zg C k).op = 8 ∨ (zg C k).op = 41
 ·have hab : vD (zg C k) = true := by unfold vD; rcases ha with ha | ha <;> simp [ha]
  rw [wY ha, hab, if_neg (by simp), jI, List.getElem?_replicate, if_pos h]
 ·rw [vo h2 ha h0] at h ⊢
  obtain rfl : i = 0 := by omega
  rw [yI ha, if_neg (by simp)]
  rfl
theorem QX (e : Bool) (C : List InsM) (N : List Int) (hC : C.length ≤ 1048576) (hNl : N.length ≤ 1048576) (hx : ∀ k, k < C.length → FormI e C k) (hN : ∀ n ∈ N, 0 ≤ n ∧ n < C.length) (hp : UK C) (L0 : LkM) (O0 : List Int) (hL0 : L0 = List.replicate C.length none) (hO0 : O0.length = C.length) :
  yx Tryz.prog 25 [.ptr 1 10000 0 0] (xN e C N L0 O0) (JI C (Vo e C N)) (fun q => vI q.1) (fun q => xN e C N q.2.1 q.2.2) := by
 have hl0 : L0.length = C.length := by rw [hL0]; simp
 have hz := um C.length
 unfold Vo
 rw [← hL0]
 generalize hR : wc e C N 0 L0 [] = R
 unfold xN qe
 rw [hl0]
 refine xq (zb _) Tryz.func25 rfl rfl (by rw [Tryz.results25]) Tryz.ntmps25 rfl fun E => ?_
 (repeat' (first | exact trivial | (refine VC (.tmp 26) [0, 3, 4, 5] [5, 20, 10000, 15000, 15001, 15002] (fun _ : Unit => ⟨[(0, true, .ptr 1 10000 0 0), (3, true, vI C.length), (4, true, .ref 4 1 20 0 C.length), (5, true, .ptr 1 5 0 0)], [(5, .var (cSt (yF e))), (20, .row 4 1 (yL C.length [])), (10000, .var [vB e, .lst 4 (zF C), .lst 1 (v8 N), .ref 62 6 15000 0 C.length, .ref 4 1 15001 0 C.length, .ref 3 1 15002 0 C.length]), (15000, .row 62 6 (yk L0)), (15001, .row 4 1 (yl L0)), (15002, .row 3 1 (v8 O0))]⟩) (fun _ => True) (xI ?_) ?_) | (with_reducible first | apply awA | apply awF) | ((with_reducible apply awn); intro r hr; simp only [go_sem, Nat.reduceBEq, Nat.reduceLT, Nat.reduceLeDiff, Nat.reduceAdd, Nat.reduceMul, zd, hz, Int.cast_ofNat_Int] at hr; subst hr; (first | refine awV ?_ ?_)))) <;> (try omega)
 ·refine ⟨?_⟩
  cases e
  all_goals (repeat' (first | exact trivial | (with_reducible first | apply awC | apply awF) | ((with_reducible first | apply awn | refine awQ ?_); intro r hr; simp only [go_sem, Nat.reduceBEq, Nat.reduceLT, Nat.reduceLeDiff, Nat.reduceAdd, Nat.reduceMul] at hr; subst hr; (first | refine awV ?_ ?_ | (refine zh (fun h => ?_) (fun h => ?_) <;> (try simp only [go_sem, reduceCtorEq] at h) <;> (try (exfalso; omega))))))) <;> (try omega)
  all_goals exact ⟨(), rfl, trivial⟩
 intro _ _
 (repeat' (first | exact trivial | (with_reducible first | apply awA | apply awB | apply awF) | ((with_reducible apply awn); intro r hr; simp only [go_sem, Nat.reduceLT] at hr; subst hr; (first | refine awV ?_ ?_)))) <;> (try omega)
 refine zI [0, 3, 4, 5, 6] [5, 20, 10000, 15000, 15001, 15002] (fun q : Nat × LkM × List Nat × List Int => ⟨[(0, true, .ptr 1 10000 0 0), (3, true, vI C.length), (4, true, .ref 4 1 20 0 C.length), (5, true, .ptr 1 5 0 0), (6, true, vI q.1)],
  [(5, .var (cSt (yF e))), (20, .row 4 1 (yL C.length (q.2.2.1))), (10000, .var [vB e, .lst 4 (zF C), .lst 1 (v8 N), .ref 62 6 15000 0 C.length, .ref 4 1 15001 0 C.length, .ref 3 1 15002 0 C.length]), (15000, .row 62 6 (yk (q.2.1))), (15001, .row 4 1 (yl (q.2.1))), (15002, .row 3 1 (v8 (q.2.2.2)))]⟩)
  (fun q => q.1 ≤ N.length ∧ q.2.1.length = C.length ∧ q.2.2.2.length = C.length ∧ Dnd C q.2.2.1 ∧ wc e C (N.drop q.1) q.1 q.2.1 q.2.2.1 = R) (fun q => N.length - q.1) (0, L0, [], O0) (by simp only [go_sem, Nat.reduceBEq] <;> exact rfl) ⟨Nat.zero_le _, hl0, hO0, ⟨List.nodup_nil, fun _ h => by cases h⟩, hR⟩ ?_
 intro ⟨ti, L, D, O⟩ ⟨hti, hL, hO, hnd, hR⟩
 simp only at hti hL hO hnd hR ⊢
 have hwi := zy (n := (ti : Int) + 1) (by omega)
 have zi : ((ti : Int)).toNat = ti := by omega
 by_cases hlti : ti < N.length
 ·have e1 : ((ti : Int) < (N.length : Int)) = True := eq_true (by omega)
  have hen := hN _ (List.getElem_mem hlti)
  obtain ⟨m, hm⟩ : ∃ m : Nat, N[ti] = m := ⟨N[ti].toNat, by omega⟩
  have gi := xb hlti
  rw [hm] at gi hen
  rw [List.drop_eq_getElem_cons hlti, hm] at hR
  unfold wc at hR
  rw [Int.toNat_natCast] at hR
  have hh := V6 e C N hC L O hL hO m (hx m (by omega)) (yF e) ti
  have hO1 := ZD L O m ti
  rw [hO] at hO1
  generalize ZC L O m ti = O1 at hh hO1
  cases hd : vT e C L m (yF e) ti with
  | none =>
   rw [hd] at hh hR
   dsimp only at hR
   subst hR
   unfold xN qe at hh
   simp only [Option.isSome_none, Option.getD_none, hL] at hh
   (repeat' (first | exact trivial | (with_reducible first | apply awA | apply awB | apply awC | apply awD | apply awF | apply awG | apply awJ) | (refine zA (id := 9) (t := (.node [0, 1, 2, 3, 4, 5, 6, 7, 8, 9, 10, 11, 12] [])) (drR [5] [43, 46] [49]) zH (by kernel_rfl) (by kernel_rfl) (fun _ _ h => h) ?_) | (refine zB (by simp only [go_sem]; exact rfl) ?_) | (refine zD (by simp only [go_sem]; exact rfl) ?_) | refine zl ?_ | refine zq ?_ ?_ | exact zC | ((with_reducible first | apply awn | apply awp | refine awQ ?_ | refine wM ?_); intro r hr; simp only [go_sem, Nat.reduceBEq, Nat.reduceLT, Nat.reduceLeDiff, Nat.reduceAdd, Nat.reduceMul, reduceCtorEq, e1, zi, gi, zp] at hr; subst hr; (first | refine awV ?_ ?_ | refine awW ?_ ?_ | refine y5 ?_ ?_ | (refine zh (fun h => ?_) (fun h => ?_) <;> (try simp only [go_sem, reduceCtorEq] at h) <;> (try (exfalso; omega))))) | (refine zz [(10000, 10000), (15000, 15000), (15001, 15001), (15002, 15002)] [(10000, 10000), (15000, 15000), (15001, 15001), (15002, 15002)] [15000, 15001, 15002] [10000] ?_; intro r hr; simp only [go_sem, Nat.reduceBEq, Nat.reduceLT] at hr; subst hr; refine zR (hh) rfl rfl (by first | exact .inl rfl | exact .inr rfl) ?_ (.inl rfl) ?_))) <;> (try omega)
   refine ⟨((m : Int), L, O1), ⟨hL, hO1, rfl, by omega⟩, AV.up_rfl _, ?_⟩
   simp only [hL]
   repeat first | exact zo | refine zn rfl ?_
  | some L1 =>
   have hL1 := ZE hd
   rw [hL] at hL1
   rw [hd] at hh hR
   dsimp only at hR
   change ZF e C (N.drop (ti + 1)) ti (jx e C ti (C.length + 1 - D.length) L1 D) = R at hR
   have hwt := Xl e C N hC L1 O1 hL1 D
   unfold xN qe at hh hwt
   simp only [List.cons_append, List.nil_append, Option.isSome_some, Option.getD_some, hL, hL1] at hh hwt
   have td : (yL C.length D).take C.length = yL C.length D := List.take_of_length_le (by rw [yJ]; exact Nat.le_refl _)
   (repeat' (first | exact trivial | (with_reducible first | apply awA | apply awB | apply awC | apply awF) | (refine zA (id := 9) (t := (.node [0, 1, 2, 3, 4, 5, 6, 7, 8, 9, 10, 11, 12] [])) (drR [5] [43, 46] [49]) zH (by kernel_rfl) (by kernel_rfl) (fun _ _ h => h) ?_) | (refine zB (by simp only [go_sem]; exact rfl) ?_) | (refine zD (by simp only [go_sem]; exact rfl) ?_) | refine zl ?_ | refine zq ?_ ?_ | exact zC | ((with_reducible first | apply awn | apply awo | apply awp | refine awQ ?_); intro r hr; simp only [go_sem, Nat.reduceBEq, Nat.reduceLT, Nat.reduceLeDiff, Nat.reduceAdd, Nat.reduceMul, reduceCtorEq, e1, zi, gi, td, zp, yJ] at hr; subst hr; (first | refine awV ?_ ?_ | refine awW ?_ ?_ | (refine zh (fun h => ?_) (fun h => ?_) <;> (try simp only [go_sem, reduceCtorEq] at h) <;> (try (exfalso; omega))))) | (refine zz [(10000, 10000), (15000, 15000), (15001, 15001), (15002, 15002)] [(10000, 10000), (15000, 15000), (15001, 15001), (15002, 15002)] [15000, 15001, 15002] [10000] ?_; intro r hr; simp only [go_sem, Nat.reduceBEq, Nat.reduceLT, td, yJ] at hr; subst hr; refine zR (hh) rfl rfl (by first | exact .inl rfl | exact .inr rfl) ?_ (.inl rfl) ?_) | (refine zz [(10000, 10000), (15000, 15000), (15001, 15001), (15002, 15002), (20, 10001)] [(10000, 10000), (15000, 15000), (15001, 15001), (15002, 15002), (10001, 20)] [15000, 15001, 15002] [10000, 20] ?_; intro r hr; simp only [go_sem, Nat.reduceBEq, Nat.reduceLT] at hr; subst hr; refine zR (hwt) rfl rfl (by first | exact .inl rfl | exact .inr rfl) ?_ (.inl rfl) ?_))) <;> (try omega)
   refine zI [0, 3, 4, 5, 6, 7] [5, 20, 10000, 15000, 15001, 15002] (fun q : LkM × List Nat × List Int => ⟨[(0, true, .ptr 1 10000 0 0), (3, true, vI C.length), (4, true, .ref 4 1 20 0 C.length), (5, true, .ptr 1 5 0 0), (6, true, vI ti), (7, true, vI (kw q.1 q.2.1))],
    [(5, .var (cSt (yF e))), (20, .row 4 1 (yL C.length (q.2.1))), (10000, .var [vB e, .lst 4 (zF C), .lst 1 (v8 N), .ref 62 6 15000 0 C.length, .ref 4 1 15001 0 C.length, .ref 3 1 15002 0 C.length]), (15000, .row 62 6 (yk (q.1))), (15001, .row 4 1 (yl (q.1))), (15002, .row 3 1 (v8 (q.2.2)))]⟩)
    (fun q => q.1.length = C.length ∧ q.2.2.length = C.length ∧ Dnd C q.2.1 ∧ ZF e C (N.drop (ti + 1)) ti (jx e C ti (C.length + 1 - q.2.1.length) q.1 q.2.1) = R) (fun q => C.length + 1 - q.2.1.length) (L1, D, O1) (by simp only [go_sem, Nat.reduceBEq] <;> exact rfl) ⟨hL1, hO1, hnd, hR⟩ ?_
   intro ⟨L2, D2, O2⟩ ⟨hL2, hO2, hnd2, hR2⟩
   simp only at hL2 hO2 hnd2 hR2 ⊢
   have hdl := hnd2.len
   obtain ⟨f, hf⟩ : ∃ f, C.length + 1 - D2.length = f + 1 := ⟨C.length - D2.length, by omega⟩
   rw [hf] at hR2
   unfold jx at hR2
   cases hn : vE L2 D2 with
   | none =>
    have hv : kw L2 D2 = -1 := by unfold kw; rw [hn]
    rw [hn] at hR2
    simp only [ZF] at hR2
    rw [hv]
    (repeat' (first | exact trivial | (with_reducible first | apply awA | apply awE | apply awF | apply awH | apply awI | apply awK) | ((with_reducible first | apply awn | refine awQ ?_); intro r hr; simp only [go_sem, Nat.reduceBEq, Nat.reduceLT, hwi, Int.reduceLE] at hr; subst hr; (first | refine awV ?_ ?_ | (refine zh (fun h => ?_) (fun h => ?_) <;> (try simp only [go_sem, reduceCtorEq] at h) <;> (try (exfalso; omega))))))) <;> (try omega)
    refine ⟨(ti + 1, L2, D2, O2), ?_, ⟨hlti, hL2, hO2, hnd2, by show wc e C (N.drop (ti + 1)) ((ti + 1 : Nat) : Int) L2 D2 = R; exact hR2⟩, by show N.length - (ti + 1) < N.length - ti; omega⟩
    simp only [go_sem, Nat.reduceBEq]
    try exact rfl
   | some k =>
    have hv : kw L2 D2 = k := by unfold kw; rw [hn]
    obtain ⟨hk1, hk2, hkD⟩ := uX hn
    rw [hL2] at hk1
    have hkx := hx k hk1
    rw [hn] at hR2
    simp only at hR2
    rw [hv]
    have zk : ((k : Int)).toNat = k := by omega
    have k0 : ((k : Int) ≥ 0) = True := eq_true (by omega)
    have hnd3 : Dnd C (k :: D2) := ⟨List.nodup_cons.2 ⟨hkD, hnd2.1⟩, fun d hd => by
     rcases List.mem_cons.1 hd with rfl | hd
     ·exact hk1
     ·exact hnd2.2 d hd⟩
    have hfl := hnd3.len
    rw [List.length_cons] at hfl
    have gd := xm D2 hk1
    have sd := wm C.length D2 k
    have gs := xh (L := L2) (k := k) (by omega)
    have hst := vV e C N k hC hkx (wK L2 k) ti
    have hway := xS e C N k hk1 hC hkx.arms
    have hA := fun i => QW (i := i) hkx (yP e (zg C k) (wK L2 k) ti).1
    have hW0 := hp k hk1
    have hWl := qV hkx
    unfold Qw at hR2
    dsimp only at hR2
    generalize qr (zg C k) (yP e (zg C k) (wK L2 k) ti).1 (zO C k (zg C k)).length = A at hst hA
    generalize yP e (zg C k) (wK L2 k) ti = r at hst hA hR2
    obtain ⟨E, ok⟩ := r
    generalize zO C k (zg C k) = W at hway hA hW0 hWl hR2
    generalize wK L2 k = s at gs hst
    generalize vD (zg C k) = ab at hA hR2
    dsimp only at hst hA hR2
    unfold pG at hst hway
    (repeat' (first | exact trivial | (with_reducible first | apply awA | apply awB | apply awC | apply awF) | (refine zA (id := 15) (t := (.node [0, 1, 2, 3, 4, 5, 6, 7, 8, 9, 10, 11, 12, 13, 14, 15, 16, 17, 18] [])) (drR [10000] [82] []) zH (by kernel_rfl) (by kernel_rfl) (fun _ _ h => h) ?_) | (refine zB (by simp only [go_sem]; exact rfl) ?_) | (refine zD (by simp only [go_sem]; exact rfl) ?_) | refine zl ?_ | refine zq ?_ ?_ | exact zC | ((with_reducible first | apply awn | apply awo | apply awp | refine awQ ?_); intro r hr; simp only [go_sem, Nat.reduceBEq, Nat.reduceLT, Nat.reduceLeDiff, Nat.reduceAdd, Nat.reduceMul, reduceCtorEq, k0, zk, gd, sd, gs, vw, yJ, Nat.zero_add] at hr; subst hr; (first | refine caC (hst) rfl ?_ ?_ ?_ | refine caC (hway) rfl ?_ ?_ ?_ | refine awV ?_ ?_ | (refine zh (fun h => ?_) (fun h => ?_) <;> (try simp only [go_sem, reduceCtorEq] at h) <;> (try (exfalso; omega))))))) <;> (try omega)
    refine zI [0, 3, 4, 5, 6, 7, 8, 9, 10, 11] [5, 20, 10000, 15000, 15001, 15002] (fun q : Nat × Bool => ⟨[(0, true, .ptr 1 10000 0 0), (3, true, vI C.length), (4, true, .ref 4 1 20 0 C.length), (5, true, .ptr 1 5 0 0), (6, true, vI ti), (7, true, vI k), (8, true, .lst 6 (sts A)), (9, true, vB q.2), (10, true, .lst 1 (v8 W)), (11, true, vI q.1)],
     [(5, .var (cSt (yF e))), (20, .row 4 1 (yL C.length (k :: D2))), (10000, .var [vB e, .lst 4 (zF C), .lst 1 (v8 N), .ref 62 6 15000 0 C.length, .ref 4 1 15001 0 C.length, .ref 3 1 15002 0 C.length]), (15000, .row 62 6 (yk (L2))), (15001, .row 4 1 (yl (L2))), (15002, .row 3 1 (v8 (O2)))]⟩)
     (fun q => q.1 ≤ W.length ∧ q.2 = (ok && (W.take q.1).all fun j => decide (j < (C.length : Int)))) (fun q => W.length - q.1) (0, ok) (by simp only [go_sem, Nat.reduceBEq] <;> exact rfl) ⟨Nat.zero_le _, by simp⟩ ?_
    intro ⟨i, b⟩ ⟨hi, hb⟩
    simp only at hi hb ⊢
    have hwi2 := zy (n := (i : Int) + 1) (by omega)
    have zi2 : ((i : Int)).toNat = i := by omega
    by_cases hlt : i < W.length
    ·have e2 : ((i : Int) < (W.length : Int)) = True := eq_true (by omega)
     have gw := xb hlt
     have h0 : (W[i] ≥ 0) = True := eq_true (hW0 _ (List.getElem_mem hlt))
     have hnx : ∀ b', b' = (b && decide (W[i] < (C.length : Int))) → b' = (ok && (W.take (i + 1)).all fun j => decide (j < (C.length : Int))) := fun b' hb' => by
      rw [hb', hb, List.take_succ_eq_append_getElem hlt, List.all_append, Bool.and_assoc]
      simp
     generalize W[i] = y at gw h0 hnx
     cases b
     all_goals (repeat' (first | exact trivial | (with_reducible first | apply awA | apply awB | apply awC | apply awF | apply awI) | ((with_reducible first | apply awn | refine awQ ?_); intro r hr; simp only [go_sem, Nat.reduceBEq, Nat.reduceLT, Nat.reduceLeDiff, reduceCtorEq, e2, zi2, gw, h0, hwi2, zp] at hr; subst hr; (first | refine awV ?_ ?_ | (refine zh (fun h => ?_) (fun h => ?_) <;> (try simp only [go_sem, reduceCtorEq] at h) <;> (try (exfalso; omega))))))) <;> (try omega)
     ·refine ⟨(i + 1, false), ?_, ⟨hlt, hnx _ rfl⟩, by show W.length - (i + 1) < W.length - i; omega⟩
      simp only [go_sem, Nat.reduceBEq]
      try exact rfl
     ·refine ⟨(i + 1, decide (y < (C.length : Int))), ?_, ⟨hlt, hnx _ (Bool.true_and _).symm⟩, by show W.length - (i + 1) < W.length - i; omega⟩
      simp only [go_sem, Nat.reduceBEq]
      try exact rfl
    have e2 : ((i : Int) < (W.length : Int)) = False := eq_false (by omega)
    rw [List.take_of_length_le (by omega)] at hb
    cases b with
    | false =>
     have hbad : ok = false ∨ (W.any fun j => decide ((C.length : Int) ≤ j)) = true := by
      cases ok with
      | false => exact .inl rfl
      | true =>
       right
       rw [Bool.true_and] at hb
       obtain ⟨j, h1, h2⟩ := List.all_eq_false.1 hb.symm
       refine List.any_eq_true.2 ⟨j, h1, ?_⟩
       simp at h2 ⊢
       exact h2
     rw [if_pos hbad] at hR2
     simp only [ZF] at hR2
     subst hR2
     (repeat' (first | exact trivial | (with_reducible first | apply awA | apply awD | apply awE | apply awF | apply awG | apply awH | apply awJ | apply awK) | ((with_reducible first | apply awn | refine awQ ?_ | refine wM ?_); intro r hr; simp only [go_sem, Nat.reduceBEq, Nat.reduceLT, e2, zp] at hr; subst hr; (first | refine awV ?_ ?_ | refine y5 ?_ ?_ | (refine zh (fun h => ?_) (fun h => ?_) <;> (try simp only [go_sem, reduceCtorEq] at h) <;> (try (exfalso; omega))))))) <;> (try omega)
     refine ⟨((k : Int), L2, O2), ⟨hL2, hO2, rfl, by omega⟩, AV.up_rfl _, ?_⟩
     simp only [hL2]
     repeat first | exact zo | refine zn rfl ?_
    | true =>
     obtain ⟨hok, hall⟩ := Bool.and_eq_true_iff.1 hb.symm
     have hWn : ∀ j ∈ W, j < (C.length : Int) := fun j hj => of_decide_eq_true (List.all_eq_true.1 hall j hj)
     rw [if_neg (by
      rintro (g | g)
      ·rw [hok] at g; cases g
      ·obtain ⟨j, h1, h2⟩ := List.any_eq_true.1 g
       have := hWn j h1
       have := of_decide_eq_true h2
       omega)] at hR2
     change ZF e C (N.drop (ti + 1)) ti (QU e C ti f (k :: D2) (u5 e C ti E ab W 0 L2)) = R at hR2
     (repeat' (first | exact trivial | (with_reducible first | apply awA | apply awB | apply awC | apply awE | apply awF | apply awH | apply awK) | ((with_reducible first | apply awn | refine awQ ?_); intro r hr; simp only [go_sem, Nat.reduceBEq, Nat.reduceLT, e2, zp] at hr; subst hr; (first | refine awV ?_ ?_ | (refine zh (fun h => ?_) (fun h => ?_) <;> (try simp only [go_sem, reduceCtorEq] at h) <;> (try (exfalso; omega))))))) <;> (try omega)
     refine zI [0, 3, 4, 5, 6, 7, 8, 10, 12] [5, 20, 10000, 15000, 15001, 15002] (fun q : Nat × LkM × List Int => ⟨[(0, true, .ptr 1 10000 0 0), (3, true, vI C.length), (4, true, .ref 4 1 20 0 C.length), (5, true, .ptr 1 5 0 0), (6, true, vI ti), (7, true, vI k), (8, true, .lst 6 (sts A)), (10, true, .lst 1 (v8 W)), (12, true, vI q.1)],
      [(5, .var (cSt (yF e))), (20, .row 4 1 (yL C.length (k :: D2))), (10000, .var [vB e, .lst 4 (zF C), .lst 1 (v8 N), .ref 62 6 15000 0 C.length, .ref 4 1 15001 0 C.length, .ref 3 1 15002 0 C.length]), (15000, .row 62 6 (yk (q.2.1))), (15001, .row 4 1 (yl (q.2.1))), (15002, .row 3 1 (v8 (q.2.2)))]⟩)
      (fun q => q.1 ≤ W.length ∧ q.2.1.length = C.length ∧ q.2.2.length = C.length ∧ ZF e C (N.drop (ti + 1)) ti (QU e C ti f (k :: D2) (u5 e C ti E ab (W.drop q.1) q.1 q.2.1)) = R) (fun q => W.length - q.1) (0, L2, O2) (by simp only [go_sem, Nat.reduceBEq] <;> exact rfl) ⟨Nat.zero_le _, hL2, hO2, hR2⟩ ?_
     clear hi hb hlt hwi2 zi2 e2 i hR2
     intro ⟨i, L3, O3⟩ ⟨hi, hL3, hO3, hR3⟩
     simp only at hi hL3 hO3 hR3 ⊢
     have hwi2 := zy (n := (i : Int) + 1) (by omega)
     have zi2 : ((i : Int)).toNat = i := by omega
     by_cases hlt : i < W.length
     ·have e2 : ((i : Int) < (W.length : Int)) = True := eq_true (by omega)
      have gw := xb hlt
      have h0 := hW0 _ (List.getElem_mem hlt)
      have h1 := hWn _ (List.getElem_mem hlt)
      obtain ⟨j, hj⟩ : ∃ j : Nat, W[i] = j := ⟨W[i].toNat, by omega⟩
      rw [hj] at gw h0 h1
      rw [List.drop_eq_getElem_cons hlt, hj] at hR3
      unfold u5 at hR3
      rw [Int.toNat_natCast] at hR3
      have ga := QV (hA i hlt)
      have hAi : i < (sts A).length := zG ga
      generalize (if i = 1 ∧ ab = false then E.target else E.next) = a at ga hR3
      have hh := V6 e C N hC L3 O3 hL3 hO3 j (hx j (by omega)) a ti
      have hO4 := ZD L3 O3 j ti
      rw [hO3] at hO4
      generalize ZC L3 O3 j ti = O4 at hh hO4
      cases hd : vT e C L3 j a ti with
      | none =>
       rw [hd] at hh hR3
       simp only [QU, ZF] at hR3
       subst hR3
       unfold xN qe at hh
       simp only [Option.isSome_none, Option.getD_none, hL3] at hh
       (repeat' (first | exact trivial | (with_reducible first | apply awA | apply awB | apply awC | apply awD | apply awF | apply awG | apply awJ) | (refine zA (id := 26) (t := (.node [0, 1, 2, 3, 4, 5, 6, 7, 8, 9, 10, 11] [])) (drR [] [128, 132] [134]) zH (by kernel_rfl) (by kernel_rfl) (fun _ _ h => h) ?_) | (refine zB (by simp only [go_sem]; exact rfl) ?_) | (refine zD (by simp only [go_sem]; exact rfl) ?_) | refine zl ?_ | refine zq ?_ ?_ | exact zC | ((with_reducible first | apply awn | apply awp | refine awQ ?_ | refine wM ?_); intro r hr; simp only [go_sem, Nat.reduceBEq, Nat.reduceLT, Nat.reduceLeDiff, reduceCtorEq, e2, zi2, gw, ga, zp] at hr; subst hr; (first | refine awV ?_ ?_ | refine awW ?_ ?_ | refine y5 ?_ ?_ | (refine zh (fun h => ?_) (fun h => ?_) <;> (try simp only [go_sem, reduceCtorEq] at h) <;> (try (exfalso; omega))))) | (refine zz [(10000, 10000), (15000, 15000), (15001, 15001), (15002, 15002)] [(10000, 10000), (15000, 15000), (15001, 15001), (15002, 15002)] [15000, 15001, 15002] [10000] ?_; intro r hr; simp only [go_sem, Nat.reduceBEq, Nat.reduceLT] at hr; subst hr; refine zR (hh) rfl rfl (by first | exact .inl rfl | exact .inr rfl) ?_ (.inl rfl) ?_))) <;> (try omega)
       all_goals first | exact ⟨Int.natCast_nonneg _, Int.natCast_nonneg _, Int.ofNat_lt.2 hAi⟩ | skip
       refine ⟨((j : Int), L3, O4), ⟨hL3, hO4, rfl, by omega⟩, AV.up_rfl _, ?_⟩
       simp only [hL3]
       repeat first | exact zo | refine zn rfl ?_
      | some L4 =>
       have hL4 := ZE hd
       rw [hL3] at hL4
       rw [hd] at hh hR3
       dsimp only at hR3
       unfold xN qe at hh
       simp only [Option.isSome_some, Option.getD_some, hL3, hL4] at hh
       (repeat' (first | exact trivial | (with_reducible first | apply awA | apply awB | apply awC | apply awF | apply awI) | (refine zA (id := 26) (t := (.node [0, 1, 2, 3, 4, 5, 6, 7, 8, 9, 10, 11] [])) (drR [] [128, 132] [134]) zH (by kernel_rfl) (by kernel_rfl) (fun _ _ h => h) ?_) | (refine zB (by simp only [go_sem]; exact rfl) ?_) | (refine zD (by simp only [go_sem]; exact rfl) ?_) | refine zl ?_ | refine zq ?_ ?_ | exact zC | ((with_reducible first | apply awn | apply awp | refine awQ ?_); intro r hr; simp only [go_sem, Nat.reduceBEq, Nat.reduceLT, Nat.reduceLeDiff, reduceCtorEq, e2, zi2, gw, ga, hwi2, zp] at hr; subst hr; (first | refine awV ?_ ?_ | refine awW ?_ ?_ | (refine zh (fun h => ?_) (fun h => ?_) <;> (try simp only [go_sem, reduceCtorEq] at h) <;> (try (exfalso; omega))))) | (refine zz [(10000, 10000), (15000, 15000), (15001, 15001), (15002, 15002)] [(10000, 10000), (15000, 15000), (15001, 15001), (15002, 15002)] [15000, 15001, 15002] [10000] ?_; intro r hr; simp only [go_sem, Nat.reduceBEq, Nat.reduceLT] at hr; subst hr; refine zR (hh) rfl rfl (by first | exact .inl rfl | exact .inr rfl) ?_ (.inl rfl) ?_))) <;> (try omega)
       all_goals first | exact ⟨Int.natCast_nonneg _, Int.natCast_nonneg _, Int.ofNat_lt.2 hAi⟩ | skip
       refine ⟨(i + 1, L4, O4), ?_, ⟨hlt, hL4, hO4, hR3⟩, by show W.length - (i + 1) < W.length - i; omega⟩
       simp only [go_sem, Nat.reduceBEq]
       try exact rfl
     ·have e2 : ((i : Int) < (W.length : Int)) = False := eq_false (by omega)
      have hdW : W.drop i = [] := List.drop_of_length_le (by omega)
      rw [hdW] at hR3
      unfold u5 at hR3
      simp only [QU] at hR3
      have hwt2 := Xl e C N hC L3 O3 hL3 (k :: D2)
      unfold xN qe at hwt2
      simp only [List.cons_append, List.nil_append, hL3] at hwt2
      have td : (yL C.length (k :: D2)).take C.length = yL C.length (k :: D2) := List.take_of_length_le (by rw [yJ]; exact Nat.le_refl _)
      (repeat' (first | exact trivial | (with_reducible first | apply awA | apply awE | apply awF | apply awH | apply awI | apply awK) | ((with_reducible first | apply awn | apply awo | refine awQ ?_); intro r hr; simp only [go_sem, Nat.reduceBEq, Nat.reduceLT, e2, td, zp, yJ] at hr; subst hr; (first | refine awV ?_ ?_ | refine awW ?_ ?_ | (refine zh (fun h => ?_) (fun h => ?_) <;> (try simp only [go_sem, reduceCtorEq] at h) <;> (try (exfalso; omega))))) | (refine zz [(10000, 10000), (15000, 15000), (15001, 15001), (15002, 15002), (20, 10001)] [(10000, 10000), (15000, 15000), (15001, 15001), (15002, 15002), (10001, 20)] [15000, 15001, 15002] [10000, 20] ?_; intro r hr; simp only [go_sem, Nat.reduceBEq, Nat.reduceLT] at hr; subst hr; refine zR (hwt2) rfl rfl (by first | exact .inl rfl | exact .inr rfl) ?_ (.inl rfl) ?_))) <;> (try omega)
      refine ⟨(L3, k :: D2, O3), ?_, ⟨hL3, hO3, hnd3, ?_⟩, by show C.length + 1 - (D2.length + 1) < C.length + 1 - D2.length; omega⟩
      ·simp only [go_sem, Nat.reduceBEq]
       try exact rfl
      ·show ZF e C (N.drop (ti + 1)) ti (jx e C ti (C.length + 1 - (D2.length + 1)) L3 (k :: D2)) = R
       rw [show C.length + 1 - (D2.length + 1) = f by omega]
       exact hR3
 ·have e1 : ((ti : Int) < (N.length : Int)) = False := eq_false (by omega)
  rw [List.drop_of_length_le (by omega)] at hR
  unfold wc at hR
  subst hR
  (repeat' (first | exact trivial | (with_reducible first | apply awA | apply awD | apply awE | apply awF | apply awH | apply awK) | ((with_reducible first | apply awn | refine awQ ?_ | refine wM ?_); intro r hr; simp only [go_sem, Nat.reduceBEq, Nat.reduceLT, Nat.reduceLeDiff, Nat.reduceAdd, Nat.reduceMul, e1, zp] at hr; subst hr; (first | refine awV ?_ ?_ | refine y5 ?_ ?_ | (refine zh (fun h => ?_) (fun h => ?_) <;> (try simp only [go_sem, reduceCtorEq] at h) <;> (try (exfalso; omega))))))) <;> (try omega)
  refine ⟨(-1, L, O), ⟨hL, hO, rfl, rfl⟩, AV.up_rfl _, ?_⟩
  simp only [hL]
  repeat first | exact zo | refine zn rfl ?_
end
section
open Go.RowKit
theorem Xm (e : Bool) (C : List InsM) (N : List Int) (L : LkM) (O : List Int) (B : List Bool) (k : Nat) (hk : k < C.length) (w : Int) (hc : (zg C k).op = 16 → 0 ≤ (zg C k).c ∧ (zg C k).c < B.length) :
  yb Tryz.prog 73 [.ptr 1 10000 0 0, vI k, vI w, .ref 4 1 10001 0 B.length] (xN e C N L O ++ [(10001, .row 4 1 (xG B))]) (vB (wa C B k w)) (xN e C N L O ++ [(10001, .row 4 1 (xG B))]) := by
 have zk : ((k : Int)).toNat = k := by omega
 have gk := wE hk
 unfold wa
 generalize zg C k = x at *
 obtain ⟨op, a, b, c⟩ := x
 dsimp only at hc gk ⊢
 unfold xN qe Ur
 simp only [List.cons_append, List.nil_append]
 by_cases h1 : op = 1 ∨ op = 2 ∨ op = 3 ∨ op = 4 ∨ op = 7 ∨ op = 8 ∨ op = 10
 ·rw [if_pos h1]
  clear hc
  rcases h1 with rfl | rfl | rfl | rfl | rfl | rfl | rfl
  all_goals refine zJ (zb _) Tryz.func73 rfl rfl (by rw [Tryz.results73]) Tryz.ntmps73 rfl fun E => ?_
  all_goals (repeat' (first | exact trivial | (with_reducible first | apply awA | apply awB | apply awC | apply awD | apply awF | apply awG | apply awJ) | ((with_reducible first | apply awn | refine awQ ?_ | refine awT ?_); intro r hr; simp only [go_sem, Nat.reduceBEq, Nat.reduceLT, Nat.reduceLeDiff, Nat.reduceAdd, Nat.reduceMul, zk, gk, zd, Int.reduceEq] at hr; subst hr; (first | refine awV ?_ ?_ | refine zP ?_ ?_ ?_ | (refine zh (fun h => ?_) (fun h => ?_) <;> (try simp only [go_sem, reduceCtorEq] at h) <;> (try (exfalso; omega))))))) <;> (try omega)
  all_goals first | exact AV.up_rfl _ | (repeat first | exact zo | refine zn rfl ?_) | trace_state
 rw [if_neg h1]
 by_cases h2 : op = 33 ∨ op = 34 ∨ op = 35 ∨ op = 36 ∨ op = 37 ∨ op = 38 ∨ op = 39 ∨ op = 40 ∨ op = 41 ∨ op = 44 ∨ op = 45 ∨ op = 46
 ·rw [if_pos h2]
  clear hc h1
  rcases h2 with rfl | rfl | rfl | rfl | rfl | rfl | rfl | rfl | rfl | rfl | rfl | rfl
  all_goals refine zJ (zb _) Tryz.func73 rfl rfl (by rw [Tryz.results73]) Tryz.ntmps73 rfl fun E => ?_
  all_goals (repeat' (first | exact trivial | (with_reducible first | apply awA | apply awB | apply awC | apply awD | apply awF | apply awG | apply awJ) | ((with_reducible first | apply awn | refine awQ ?_ | refine awT ?_); intro r hr; simp only [go_sem, Nat.reduceBEq, Nat.reduceLT, Nat.reduceLeDiff, Nat.reduceAdd, Nat.reduceMul, zk, gk, zd, Int.reduceEq] at hr; subst hr; (first | refine awV ?_ ?_ | refine zP ?_ ?_ ?_ | (refine zh (fun h => ?_) (fun h => ?_) <;> (try simp only [go_sem, reduceCtorEq] at h) <;> (try (exfalso; omega))))))) <;> (try omega)
  all_goals first | exact AV.up_rfl _ | (repeat first | exact zo | refine zn rfl ?_) | trace_state
 rw [if_neg h2]
 simp only [not_or] at h1 h2
 obtain ⟨a1, a2, a3, a4, a5, a6, a7⟩ := h1
 obtain ⟨b1, b2, b3, b4, b5, b6, b7, b8, b9, b10, b11, b12⟩ := h2
 by_cases h11 : op = 11
 ·subst h11
  refine zJ (zb _) Tryz.func73 rfl rfl (by rw [Tryz.results73]) Tryz.ntmps73 rfl fun E => ?_
  (repeat' (first | exact trivial | (with_reducible first | apply awA | apply awB | apply awD | apply awF | apply awG | apply awJ) | ((with_reducible first | apply awn | refine awQ ?_ | refine awT ?_); intro r hr; simp only [go_sem, Nat.reduceBEq, Nat.reduceLT, Nat.reduceLeDiff, Nat.reduceAdd, Nat.reduceMul, zk, gk, zd, Int.reduceEq] at hr; subst hr; (first | refine awV ?_ ?_ | refine zP ?_ ?_ ?_ | (refine zh (fun h => ?_) (fun h => ?_) <;> (try simp only [go_sem, reduceCtorEq] at h) <;> (try (exfalso; omega))))))) <;> (try omega)
  all_goals first | exact AV.up_rfl _ | (repeat first | exact zo | refine zn rfl ?_) | trace_state
 by_cases h16 : op = 16
 ·subst h16
  obtain ⟨c1, c2⟩ := hc rfl
  obtain ⟨m, rfl⟩ : ∃ m : Nat, c = m := ⟨c.toNat, by omega⟩
  have zm : ((m : Int)).toNat = m := by omega
  have gb := vv (B := B) (k := m) (by omega)
  rw [zm]
  generalize B.getD m false = p at gb
  refine zJ (zb _) Tryz.func73 rfl rfl (by rw [Tryz.results73]) Tryz.ntmps73 rfl fun E => ?_
  (repeat' (first | exact trivial | (with_reducible first | apply awA | apply awB | apply awD | apply awF | apply awG | apply awJ) | ((with_reducible first | apply awn | refine awQ ?_ | refine awT ?_); intro r hr; simp only [go_sem, Nat.reduceBEq, Nat.reduceLT, Nat.reduceLeDiff, Nat.reduceAdd, Nat.reduceMul, zk, gk, zd, zm, gb, Int.reduceEq] at hr; subst hr; (first | refine awV ?_ ?_ | refine zP ?_ ?_ ?_ | (refine zh (fun h => ?_) (fun h => ?_) <;> (try simp only [go_sem, reduceCtorEq] at h) <;> (try (exfalso; omega))))))) <;> (try omega)
  all_goals first | exact AV.up_rfl _ | (repeat first | exact zo | refine zn rfl ?_) | trace_state
 by_cases h17 : op = 17
 ·subst h17
  refine zJ (zb _) Tryz.func73 rfl rfl (by rw [Tryz.results73]) Tryz.ntmps73 rfl fun E => ?_
  (repeat' (first | exact trivial | (with_reducible first | apply awA | apply awB | apply awD | apply awF | apply awG | apply awJ) | ((with_reducible first | apply awn | refine awQ ?_ | refine awT ?_); intro r hr; simp only [go_sem, Nat.reduceBEq, Nat.reduceLT, Nat.reduceLeDiff, Nat.reduceAdd, Nat.reduceMul, zk, gk, zd, Int.reduceEq] at hr; subst hr; (first | refine awV ?_ ?_ | refine zP ?_ ?_ ?_ | (refine zh (fun h => ?_) (fun h => ?_) <;> (try simp only [go_sem, reduceCtorEq] at h) <;> (try (exfalso; omega))))))) <;> (try omega)
  all_goals first | exact AV.up_rfl _ | (repeat first | exact zo | refine zn rfl ?_) | trace_state
 rw [if_neg h11, if_neg h16, if_neg h17]
 refine zJ (zb _) Tryz.func73 rfl rfl (by rw [Tryz.results73]) Tryz.ntmps73 rfl fun E => ?_
 (repeat' (first | exact trivial | (with_reducible first | apply awA | apply awB | apply awC | apply awD | apply awF | apply awI) | ((with_reducible first | apply awn | refine awQ ?_ | refine awT ?_); intro r hr; simp only [go_sem, Nat.reduceBEq, Nat.reduceLT, Nat.reduceLeDiff, Nat.reduceAdd, Nat.reduceMul, zk, gk, zd, a1, a2, a3, a4, a5, a6, a7, b1, b2, b3, b4, b5, b6, b7, b8, b9, b10, b11, b12, h11, h16, h17] at hr; subst hr; (first | refine awV ?_ ?_ | refine zP ?_ ?_ ?_ | (refine zh (fun h => ?_) (fun h => ?_) <;> (try simp only [go_sem, reduceCtorEq] at h) <;> (try (exfalso; omega))))))) <;> (try omega)
 all_goals first | exact AV.up_rfl _ | (repeat first | exact zo | refine zn rfl ?_) | trace_state
noncomputable def jK (n : Nat) (S : Nat → Prop) : List (List AV) := (List.range n).map fun k => [vB (prB (S k))]
theorem yK (n : Nat) (S : Nat → Prop) : (jK n S).length = n := by simp [jK]
theorem vp {n k : Nat} (S : Nat → Prop) (h : k < n) : (jK n S)[k]? = some [vB (prB (S k))] := by simp [jK, h]
theorem V7 {n : Nat} {Q : List Nat} {S : Nat → Prop} (h : ∀ k, k < n → (k ∈ Q ↔ S k)) : yL n Q = jK n S := by
 unfold yL jK
 refine List.map_congr_left fun k hk => ?_
 rw [List.mem_range] at hk
 have := h k hk
 by_cases hs : S k
 ·rw [decide_eq_true (this.2 hs), uB hs]
 ·rw [decide_eq_false (fun g => hs (this.1 g)), kb hs]
def ZG (R : Nat → Nat → Prop) (M : List Nat) (a b : Nat) : Prop := R a b ∧ b ∉ M
theorem JJ {R : Nat → Nat → Prop} {a b : Nat} : Rch (ZG R []) a b ↔ Rch R a b := by
 constructor
 ·intro h
  induction h with
  | one h => exact .one h.1
  | more _ h ih => exact .more ih h.1
 ·intro h
  induction h with
  | one h => exact .one ⟨h, List.not_mem_nil⟩
  | more _ h ih => exact .more ih ⟨h, List.not_mem_nil⟩
theorem jL {R : Nat → Nat → Prop} {en k : Nat} : k = en ∨ Rch (ZG R [en]) en k ↔ jb R en k := by
 constructor
 ·rintro (h | h)
  ·exact .inl h
  ·right
   induction h with
   | one h => exact .one h.1
   | more _ h ih => exact .more ih h.1
 ·rintro (h | h)
  ·exact .inl h
  ·induction h with
   | @one b h =>
    by_cases hb : b = en
    ·exact .inl hb
    ·exact .inr (.one ⟨h, by simpa using hb⟩)
   | @more b c _ h ih =>
    by_cases hc : c = en
    ·exact .inl hc
    ·right
     rcases ih with rfl | ih
     ·exact .one ⟨h, by simpa using hc⟩
     ·exact .more ih ⟨h, by simpa using hc⟩
end
section
open Go.RowKit
theorem jM {n : Nat} {D D' : List Nat} (h : ∀ k, k ∈ D ↔ k ∈ D') : yL n D = yL n D' := by
 unfold yL
 exact List.map_congr_left fun k _ => by
  by_cases hk : k ∈ D
  ·rw [decide_eq_true hk, decide_eq_true ((h k).1 hk)]
  ·rw [decide_eq_false hk, decide_eq_false (fun g => hk ((h k).2 g))]
theorem qu {R : Nat → Nat → Prop} {a k : Nat} : zaY R [a] k ↔ Rch R a k := ⟨fun ⟨b, hb, h⟩ => by simp at hb; subst hb; exact h, fun h => ⟨a, by simp, h⟩⟩
theorem JK (e : Bool) (C : List InsM) (N : List Int) (L : LkM) (O : List Int) (B : List Bool) (hC : C.length ≤ 1048576) (hx : ∀ k, k < C.length → FormI e C k) (S : Nat → Prop) (hS : ClosedS C B S) (fr : Nat) (hf : S fr) :
  yb Tryz.prog 49 [.ptr 1 10000 0 0, vI fr, .ref 4 1 10001 0 B.length] (xN e C N L O ++ [(10001, .row 4 1 (xG B))]) (.ref 4 1 18 0 C.length) (xN e C N L O ++ [(10001, .row 4 1 (xG B)), (18, .row 4 1 (jK C.length (Rch (yT C (yp C B)) fr)))]) := by
 have hz := um C.length
 have hfC := hS.lt _ hf
 have zf : ((fr : Nat) : Int).toNat = fr := by omega
 unfold xN qe
 simp only [List.cons_append, List.nil_append]
 refine zJ (zb _) Tryz.func49 rfl rfl (by rw [Tryz.results49]) Tryz.ntmps49 rfl fun E => ?_
 (repeat' (first | exact trivial | (with_reducible first | apply awA | apply awB | apply awF) | ((with_reducible refine awN (zb _) [20] ?_); intro r hr; simp only [go_sem, Nat.reduceBEq, Nat.reduceLT, Nat.reduceLeDiff, Nat.reduceAdd, Nat.reduceMul, zd, hz, Int.cast_ofNat_Int] at hr; subst hr; (first | refine awV ?_ ?_)))) <;> (try omega)
 obtain ⟨F, hF⟩ : ∃ F : List Nat, F = [fr] := ⟨_, rfl⟩
 refine zI [0, 2, 7, 8, 9] [10000, 15000, 15001, 15002, 10001, 18, 20] (fun q : Nat × List Nat => ⟨[(0, true, .ptr 1 10000 0 0), (2, true, .ref 4 1 10001 0 B.length), (7, true, .ref 4 1 18 0 C.length), (8, true, .ref 3 1 20 0 (F ++ q.2).length), (9, true, vI q.1)],
  [(10000, .var [vB e, .lst 4 (zF C), .lst 1 (v8 N), .ref 62 6 15000 0 L.length, .ref 4 1 15001 0 L.length, .ref 3 1 15002 0 L.length]), (15000, .row 62 6 (yk L)), (15001, .row 4 1 (yl L)), (15002, .row 3 1 (v8 O)), (10001, .row 4 1 (xG B)), (18, .row 4 1 (yL C.length (q.2))), (20, .row 3 1 (v8 (yo (F ++ q.2))))]⟩)
  (fun q => Srch (ZG (yT C (yp C B)) []) F q.2 q.1 ∧ q.1 ≤ (F ++ q.2).length ∧ (∀ k ∈ q.2, S k)) (fun q => C.length + 1 - q.1) (0, []) (by simp only [hF, go_sem, Nat.reduceBEq] <;> exact rfl) ⟨Srch.nil _ _, Nat.zero_le _, (fun k hk => by cases hk)⟩ ?_
 intro ⟨i, Q⟩ ⟨hs, hi, hQ⟩
 simp only at hs hi hQ  ⊢
 have hQl : Q.length ≤ C.length := yV hs.nd fun k hk => hS.lt k (hQ k hk)
 have hll : (F ++ Q).length = Q.length + 1 := by rw [hF]; simp
 have hwi := zy (n := (i : Int) + 1) (by omega)
 have zi : ((i : Int)).toNat = i := by omega
 by_cases hlt : i < (F ++ Q).length
 ·have e1 : ((i : Int) < ((F ++ Q).length : Int)) = True := eq_true (by omega)
  obtain ⟨x, hxg⟩ : ∃ x, (F ++ Q)[i]? = some x := ⟨_, List.getElem?_eq_getElem hlt⟩
  have hSx : S x := by
   rcases List.mem_append.1 (List.mem_of_getElem? hxg) with h | h
   ·rw [hF, List.mem_singleton] at h; rw [h]; exact hf
   ·exact hQ x h
  have hxC := hS.lt x hSx
  have hxw := hS.ways x hSx
  have gi := yO hxg
  have hw := xS e C N x hxC hC (hx x hxC).arms
  have hkl := qV (hx x hxC)
  have hR : ∀ k, yT C (yp C B) x k → ∃ w : Nat, w < (zO C x (zg C x)).length ∧ (zO C x (zg C x))[w]? = some (k : Int) ∧ (yp C B) x w = true := fun k ⟨w, h1, h2⟩ => ⟨w, zG h1, h1, h2⟩
  have hR2 : ∀ (k w : Nat), (zO C x (zg C x))[w]? = some (k : Int) → (yp C B) x w = true → yT C (yp C B) x k := fun k w h1 h2 => ⟨w, h1, h2⟩
  have hgt := fun j : Nat => Xm e C N L O B x hxC j (hS.calls x hSx)
  generalize zO C x (zg C x) = ks at hw hxw hR hR2 hkl
  unfold pG at hw
  (repeat' (first | exact trivial | (with_reducible first | apply awA | apply awB | apply awC | apply awF) | (refine zA (id := 6) (t := (.node [0, 1, 2, 3, 4, 5, 6, 7, 8, 9] [])) (drR [10000] [34] []) zH (by kernel_rfl) (by kernel_rfl) (fun _ _ h => h) ?_) | (refine zB (by simp only [go_sem]; exact rfl) ?_) | (refine zD (by simp only [go_sem]; exact rfl) ?_) | refine zl ?_ | refine zq ?_ ?_ | exact zC | ((with_reducible first | apply awn | apply awp | refine awQ ?_); intro r hr; simp only [go_sem, Nat.reduceBEq, Nat.reduceLT, Nat.reduceLeDiff, Nat.reduceAdd, Nat.reduceMul, reduceCtorEq, e1, zi, gi, Nat.zero_add] at hr; subst hr; (first | refine caC (hw) rfl ?_ ?_ ?_ | refine awV ?_ ?_ | (refine zh (fun h => ?_) (fun h => ?_) <;> (try simp only [go_sem, reduceCtorEq] at h) <;> (try (exfalso; omega))))))) <;> (try omega)
  refine zI [0, 2, 7, 8, 9, 10, 11] [10000, 15000, 15001, 15002, 10001, 18, 20] (fun q : Nat × List Nat => ⟨[(0, true, .ptr 1 10000 0 0), (2, true, .ref 4 1 10001 0 B.length), (7, true, .ref 4 1 18 0 C.length), (8, true, .ref 3 1 20 0 (F ++ q.2).length), (9, true, vI i), (10, true, .lst 1 (v8 ks)), (11, true, vI q.1)],
   [(10000, .var [vB e, .lst 4 (zF C), .lst 1 (v8 N), .ref 62 6 15000 0 L.length, .ref 4 1 15001 0 L.length, .ref 3 1 15002 0 L.length]), (15000, .row 62 6 (yk L)), (15001, .row 4 1 (yl L)), (15002, .row 3 1 (v8 O)), (10001, .row 4 1 (xG B)), (18, .row 4 1 (yL C.length (q.2))), (20, .row 3 1 (v8 (yo (F ++ q.2))))]⟩)
   (fun q => Srch (ZG (yT C (yp C B)) []) F q.2 i ∧ (F ++ q.2)[i]? = some x ∧ (∀ k ∈ q.2, S k) ∧ q.1 ≤ ks.length ∧ (∀ w, w < q.1 → ∀ k : Nat, ks[w]? = some (k : Int) → (yp C B) x w = true → k ∉ ([] : List Nat) → k ∈ q.2)) (fun q => ks.length - q.1) (0, Q) (by simp only [go_sem, Nat.reduceBEq] <;> exact rfl) ⟨hs, hxg, hQ, Nat.zero_le _, (fun w hw => by omega)⟩ ?_
  intro ⟨j, Q'⟩ ⟨hs', hx', hQ', hj, hin⟩
  simp only at hs' hx' hQ' hj hin  ⊢
  have hQl' : Q'.length ≤ C.length := yV hs'.nd fun k hk => hS.lt k (hQ' k hk)
  have hll' : (F ++ Q').length = Q'.length + 1 := by rw [hF]; simp
  have gi' := yO hx'
  have hi' : i < (F ++ Q').length := zG hx'
  have hwj := zy (n := (j : Int) + 1) (by omega)
  have zj : ((j : Int)).toNat = j := by omega
  by_cases hjl : j < ks.length
  ·have e2 : ((j : Int) < (ks.length : Int)) = True := eq_true (by omega)
   obtain ⟨m, hm⟩ : ∃ m : Nat, ks[j] = m := ⟨ks[j].toNat, by have := (hxw _ (List.getElem_mem hjl)).1; omega⟩
   have hSm : S m := by have := (hxw _ (List.getElem_mem hjl)).2; rwa [hm, Int.toNat_natCast] at this
   have hkj : ks[j]? = some (m : Int) := by rw [List.getElem?_eq_getElem hjl, hm]
   have gj := xb hjl
   rw [hm] at gj
   have zm : ((m : Int)).toNat = m := by omega
   have hmC := hS.lt m hSm
   have gm := xm (Q') hmC
   have sm : (yL C.length (Q')).set m [vB true] = yL C.length ((Q' ++ [m])) := (wm _ _ _).trans (jM fun k => by simp only [List.mem_cons, List.mem_append, List.not_mem_nil, or_false]; exact or_comm)
   have tq : (v8 (yo (F ++ Q'))).take (F ++ Q').length = v8 (yo (F ++ Q')) := List.take_of_length_le (by rw [zp, zS]; exact Nat.le_refl _)
   have ap : v8 (yo (F ++ Q')) ++ [[vI m]] = v8 (yo (F ++ (Q' ++ [m]))) := by rw [xy, List.append_assoc]
   have la : (F ++ Q').length + 1 = (F ++ (Q' ++ [m])).length := by simp; omega
   have step : ∀ Q2 : List Nat, (∀ k ∈ Q', k ∈ Q2) → ((yp C B) x j = true → m ∉ ([] : List Nat) → m ∈ Q2) → ∀ w, w < j + 1 → ∀ k : Nat, ks[w]? = some (k : Int) → (yp C B) x w = true → k ∉ ([] : List Nat) → k ∈ Q2 := fun Q2 h1 h2 w hw k hk hg hn => by
    rcases Nat.lt_or_ge w j with h | h
    ·exact h1 k (hin w h k hk hg hn)
    ·have : w = j := by omega
     subst this
     rw [hkj] at hk
     injection hk with hk
     have : m = k := by omega
     subst this
     exact h2 hg hn
   have skipOK : (yp C B) x j = false ∨ m ∈ (Q') → Srch (ZG (yT C (yp C B)) []) F Q' i ∧ (F ++ Q')[i]? = some x ∧ (∀ k ∈ Q', S k) ∧ j + 1 ≤ ks.length ∧ (∀ w, w < j + 1 → ∀ k : Nat, ks[w]? = some (k : Int) → (yp C B) x w = true → k ∉ ([] : List Nat) → k ∈ Q') := fun h => ⟨hs', hx', hQ', hjl, step Q' (fun _ h => h) (fun hg hn => by
    rcases h with h | h
    ·rw [hg] at h; cases h
    ·exact h)⟩
   have addOK : (yp C B) x j = true → m ∉ (Q') → Srch (ZG (yT C (yp C B)) []) F (Q' ++ [m]) i ∧ (F ++ (Q' ++ [m]))[i]? = some x ∧ (∀ k ∈ Q' ++ [m], S k) ∧ j + 1 ≤ ks.length ∧ (∀ w, w < j + 1 → ∀ k : Nat, ks[w]? = some (k : Int) → (yp C B) x w = true → k ∉ ([] : List Nat) → k ∈ Q' ++ [m]) := fun hg hn => ⟨hs'.add hx' ⟨hR2 m j hkj hg, List.not_mem_nil⟩ (hn), by rw [← List.append_assoc, List.getElem?_append_left hi']; exact hx', fun k hk => by
    rcases List.mem_append.1 hk with hk | hk
    ·exact hQ' k hk
    ·rw [List.mem_singleton] at hk; rw [hk]; exact hSm, hjl, step _ (fun _ h => List.mem_append_left _ h) (fun _ _ => by simp)⟩
   generalize hdm : decide (m ∈ (Q')) = d at gm
   have hh := hgt j
   have hgp : yp C B x j = !(wa C B x j) := rfl
   generalize wa C B x j = p at hh hgp
   unfold xN qe at hh
   simp only [List.cons_append, List.nil_append] at hh
   cases p <;> cases d
   all_goals (repeat' (first | exact trivial | (with_reducible first | apply awA | apply awB | apply awC | apply awF | apply awI) | ((with_reducible first | apply awn | apply awo | refine awQ ?_); intro r hr; simp only [go_sem, Nat.reduceBEq, Nat.reduceLT, Nat.reduceLeDiff, Nat.reduceAdd, Nat.reduceMul, Nat.reduceEqDiff, reduceCtorEq, e2, zj, gj, zi, gi', zm, gm, sm, tq, ap, la, hwj, vw, zp, zS, yJ, Nat.zero_add] at hr; subst hr; (first | refine awV ?_ ?_ | refine awW ?_ ?_ | (refine zh (fun h => ?_) (fun h => ?_) <;> (try simp only [go_sem, reduceCtorEq] at h) <;> (try (exfalso; omega))))) | (refine zz [(10000, 10000), (15000, 15000), (15001, 15001), (15002, 15002), (10001, 10001)] [(10000, 10000), (15000, 15000), (15001, 15001), (15002, 15002), (10001, 10001)] [15000, 15001, 15002] [10000, 10001] ?_; intro r hr; simp only [go_sem, Nat.reduceBEq, Nat.reduceLT] at hr; subst hr; refine zR (hh) rfl rfl (by first | exact .inl rfl | exact .inr rfl) ?_ (.inl rfl) ?_))) <;> (try omega)
   all_goals first
    | exact ⟨(j + 1, Q'), by simp only [go_sem, Nat.reduceBEq] <;> exact rfl, skipOK (.inl hgp), by show ks.length - (j + 1) < ks.length - j; omega⟩
    | exact ⟨(j + 1, Q'), by simp only [go_sem, Nat.reduceBEq] <;> exact rfl, skipOK (.inr (of_decide_eq_true hdm)), by show ks.length - (j + 1) < ks.length - j; omega⟩
    | exact ⟨(j + 1, Q' ++ [m]), by simp only [go_sem, Nat.reduceBEq] <;> exact rfl, addOK (hgp) (of_decide_eq_false hdm), by show ks.length - (j + 1) < ks.length - j; omega⟩
    | trace_state
  ·have e2 : ((j : Int) < (ks.length : Int)) = False := eq_false (by omega)
   have hn : Srch (ZG (yT C (yp C B)) []) F Q' (i + 1) := hs'.next hx' fun k hk => by
    obtain ⟨w, h1, h2, h3⟩ := hR k hk.1
    exact hin w (by omega) k h2 h3 hk.2
   (repeat' (first | exact trivial | (with_reducible first | apply awA | apply awE | apply awF | apply awH | apply awI | apply awK) | ((with_reducible first | apply awn | refine awQ ?_); intro r hr; simp only [go_sem, Nat.reduceBEq, Nat.reduceLT, e2, hwi, zp] at hr; subst hr; (first | refine awV ?_ ?_ | (refine zh (fun h => ?_) (fun h => ?_) <;> (try simp only [go_sem, reduceCtorEq] at h) <;> (try (exfalso; omega))))))) <;> (try omega)
   refine ⟨(i + 1, Q'), ?_, ⟨hn, hi', hQ'⟩, by show C.length + 1 - (i + 1) < C.length + 1 - i; omega⟩
   simp only [go_sem, Nat.reduceBEq]
   try exact rfl
 ·have e1 : ((i : Int) < ((F ++ Q).length : Int)) = False := eq_false (by omega)
  have hdn := hs.done (by omega)
  have hmk : yL C.length Q = jK C.length (Rch (yT C (yp C B)) fr) := V7 fun k _ => by rw [hdn, hF, qu, JJ]
  rw [hmk]
  (repeat' (first | exact trivial | (with_reducible first | apply awA | apply awD | apply awE | apply awF | apply awH | apply awK) | ((with_reducible first | apply awn | refine awQ ?_ | refine awT ?_); intro r hr; simp only [go_sem, Nat.reduceBEq, Nat.reduceLT, e1] at hr; subst hr; (first | refine awV ?_ ?_ | refine zP ?_ ?_ ?_ | (refine zh (fun h => ?_) (fun h => ?_) <;> (try simp only [go_sem, reduceCtorEq] at h) <;> (try (exfalso; omega))))))) <;> (try omega)
  all_goals first | exact AV.up_rfl _ | (repeat first | exact zo | refine zn rfl ?_) | trace_state
end
section
open Go.RowKit
theorem zaG (e : Bool) (C : List InsM) (N : List Int) (L : LkM) (O : List Int) (B : List Bool) (hC : C.length ≤ 1048576) (hx : ∀ k, k < C.length → FormI e C k) (S : Nat → Prop) (hS : ClosedS C B S) (en : Nat) (hf : S en) :
  yb Tryz.prog 51 [.ptr 1 10000 0 0, vI en, .ref 4 1 10001 0 B.length] (xN e C N L O ++ [(10001, .row 4 1 (xG B))]) (vB (Yd C B en)) (xN e C N L O ++ [(10001, .row 4 1 (xG B))]) := by
 have hz := um C.length
 have hfC := hS.lt _ hf
 have zf : ((en : Nat) : Int).toNat = en := by omega
 have gf := xm [] hfC
 have sf : (yL C.length []).set en [vB true] = yL C.length [en] := wm _ _ _
 unfold xN qe
 simp only [List.cons_append, List.nil_append]
 refine zJ (zb _) Tryz.func51 rfl rfl (by rw [Tryz.results51]) Tryz.ntmps51 rfl fun E => ?_
 (repeat' (first | exact trivial | (with_reducible first | apply awA | apply awB | apply awF) | ((with_reducible refine awN (zb _) [25] ?_); intro r hr; simp only [go_sem, Nat.reduceBEq, Nat.reduceLT, Nat.reduceLeDiff, Nat.reduceAdd, Nat.reduceMul, zd, hz, zf, gf, sf, vw, yJ, Nat.zero_add, Int.cast_ofNat_Int] at hr; subst hr; (first | refine awV ?_ ?_)))) <;> (try omega)
 obtain ⟨F, hF⟩ : ∃ F : List Nat, F = [en] := ⟨_, rfl⟩
 refine zI [0, 2, 7, 8, 9] [10000, 15000, 15001, 15002, 10001, 20, 25] (fun q : Nat × List Nat => ⟨[(0, true, .ptr 1 10000 0 0), (2, true, .ref 4 1 10001 0 B.length), (7, true, .ref 4 1 20 0 C.length), (8, true, .ref 3 1 25 0 (F ++ q.2).length), (9, true, vI q.1)],
  [(10000, .var [vB e, .lst 4 (zF C), .lst 1 (v8 N), .ref 62 6 15000 0 L.length, .ref 4 1 15001 0 L.length, .ref 3 1 15002 0 L.length]), (15000, .row 62 6 (yk L)), (15001, .row 4 1 (yl L)), (15002, .row 3 1 (v8 O)), (10001, .row 4 1 (xG B)), (20, .row 4 1 (yL C.length (en :: (q.2)))), (25, .row 3 1 (v8 (yo (F ++ q.2))))]⟩)
  (fun q => Srch (ZG (yT C (xU C B)) [en]) F q.2 q.1 ∧ q.1 ≤ (F ++ q.2).length ∧ (∀ k ∈ q.2, S k) ∧ ∀ y ∈ (F ++ q.2).take q.1, (zg C y).op ≠ 20) (fun q => C.length + 1 - q.1) (0, []) (by simp only [hF, go_sem, Nat.reduceBEq] <;> exact rfl) ⟨Srch.nil _ _, Nat.zero_le _, (fun k hk => by cases hk), (fun y hy => by simp at hy)⟩ ?_
 intro ⟨i, Q⟩ ⟨hs, hi, hQ, hret⟩
 simp only at hs hi hQ hret ⊢
 have hQl : Q.length ≤ C.length := yV hs.nd fun k hk => hS.lt k (hQ k hk)
 have hll : (F ++ Q).length = Q.length + 1 := by rw [hF]; simp
 have hwi := zy (n := (i : Int) + 1) (by omega)
 have zi : ((i : Int)).toNat = i := by omega
 by_cases hlt : i < (F ++ Q).length
 ·have e1 : ((i : Int) < ((F ++ Q).length : Int)) = True := eq_true (by omega)
  obtain ⟨x, hxg⟩ : ∃ x, (F ++ Q)[i]? = some x := ⟨_, List.getElem?_eq_getElem hlt⟩
  have hSx : S x := by
   rcases List.mem_append.1 (List.mem_of_getElem? hxg) with h | h
   ·rw [hF, List.mem_singleton] at h; rw [h]; exact hf
   ·exact hQ x h
  have hxC := hS.lt x hSx
  have hxw := hS.ways x hSx
  have gi := yO hxg
  have hw := xS e C N x hxC hC (hx x hxC).arms
  have hkl := qV (hx x hxC)
  have hR : ∀ k, yT C (xU C B) x k → ∃ w : Nat, w < (zO C x (zg C x)).length ∧ (zO C x (zg C x))[w]? = some (k : Int) ∧ (xU C B) x w = true := fun k ⟨w, h1, h2⟩ => ⟨w, zG h1, h1, h2⟩
  have hR2 : ∀ (k w : Nat), (zO C x (zg C x))[w]? = some (k : Int) → (xU C B) x w = true → yT C (xU C B) x k := fun k w h1 h2 => ⟨w, h1, h2⟩
  have hgt := fun j : Nat => Xm e C N L O B x hxC j (hS.calls x hSx)
  have zx : ((x : Int)).toNat = x := by omega
  have gx := wE hxC
  have hg17 : ∀ j : Nat, (xU C B) x j = (decide ((zg C x).op = 17) || !(wa C B x j)) := fun _ => rfl
  have hcx : jb (yT C (xU C B)) en x := by
   rcases List.mem_append.1 (List.mem_of_getElem? hxg) with h | h
   ·rw [hF, List.mem_singleton] at h; exact .inl h
   ·exact jL.1 (.inr (qu.1 (hF ▸ hs.ok x h)))
  by_cases h20 : (zg C x).op = 20
  ·have e20 : ((zg C x).op = 20) = True := eq_true h20
   have hpf : Yd C B en = false := kb fun g => g x hcx h20
   rw [hpf]
   (repeat' (first | exact trivial | (with_reducible first | apply awA | apply awB | apply awC | apply awD | apply awF | apply awG | apply awJ) | ((with_reducible first | apply awn | refine awQ ?_ | refine awT ?_); intro r hr; simp only [go_sem, Nat.reduceBEq, Nat.reduceLT, Nat.reduceLeDiff, Nat.reduceAdd, Nat.reduceMul, e1, zi, gi, zx, gx, e20, zd, Nat.zero_add] at hr; subst hr; (first | refine awV ?_ ?_ | refine zP ?_ ?_ ?_ | (refine zh (fun h => ?_) (fun h => ?_) <;> (try simp only [go_sem, reduceCtorEq] at h) <;> (try (exfalso; omega))))))) <;> (try omega)
   all_goals first | exact AV.up_rfl _ | (repeat first | exact zo | refine zn rfl ?_) | trace_state
  have e20 : ((zg C x).op = 20) = False := eq_false h20
  generalize zO C x (zg C x) = ks at hw hxw hR hR2 hkl
  have hX20 : (zg C x).op ≠ 20 := h20
  generalize hX : zg C x = X at gx e20 hg17
  unfold pG at hw
  (repeat' (first | exact trivial | (with_reducible first | apply awA | apply awB | apply awC | apply awF) | ((with_reducible first | apply awn | apply awo | refine awQ ?_); intro r hr; simp only [go_sem, Nat.reduceBEq, Nat.reduceLT, Nat.reduceLeDiff, Nat.reduceAdd, Nat.reduceMul, e1, zi, gi, zx, gx, e20, zd, Nat.zero_add] at hr; subst hr; (first | refine caC (hw) rfl ?_ ?_ ?_ | refine awV ?_ ?_ | (refine zh (fun h => ?_) (fun h => ?_) <;> (try simp only [go_sem, reduceCtorEq] at h) <;> (try (exfalso; omega))))))) <;> (try omega)
  refine zI [0, 2, 7, 8, 9, 10, 11, 12] [10000, 15000, 15001, 15002, 10001, 20, 25] (fun q : Nat × List Nat => ⟨[(0, true, .ptr 1 10000 0 0), (2, true, .ref 4 1 10001 0 B.length), (7, true, .ref 4 1 20 0 C.length), (8, true, .ref 3 1 25 0 (F ++ q.2).length), (9, true, vI i), (10, true, vI x), (11, true, .lst 1 (v8 ks)), (12, true, vI q.1)],
   [(10000, .var [vB e, .lst 4 (zF C), .lst 1 (v8 N), .ref 62 6 15000 0 L.length, .ref 4 1 15001 0 L.length, .ref 3 1 15002 0 L.length]), (15000, .row 62 6 (yk L)), (15001, .row 4 1 (yl L)), (15002, .row 3 1 (v8 O)), (10001, .row 4 1 (xG B)), (20, .row 4 1 (yL C.length (en :: (q.2)))), (25, .row 3 1 (v8 (yo (F ++ q.2))))]⟩)
   (fun q => Srch (ZG (yT C (xU C B)) [en]) F q.2 i ∧ (F ++ q.2)[i]? = some x ∧ (∀ k ∈ q.2, S k) ∧ q.1 ≤ ks.length ∧ (∀ w, w < q.1 → ∀ k : Nat, ks[w]? = some (k : Int) → (xU C B) x w = true → k ∉ ([en] : List Nat) → k ∈ q.2) ∧ ∀ y ∈ (F ++ q.2).take i, (zg C y).op ≠ 20) (fun q => ks.length - q.1) (0, Q) (by simp only [go_sem, Nat.reduceBEq] <;> exact rfl) ⟨hs, hxg, hQ, Nat.zero_le _, (fun w hw => by omega), hret⟩ ?_
  intro ⟨j, Q'⟩ ⟨hs', hx', hQ', hj, hin, hret'⟩
  simp only at hs' hx' hQ' hj hin hret' ⊢
  have hQl' : Q'.length ≤ C.length := yV hs'.nd fun k hk => hS.lt k (hQ' k hk)
  have hll' : (F ++ Q').length = Q'.length + 1 := by rw [hF]; simp
  have gi' := yO hx'
  have hi' : i < (F ++ Q').length := zG hx'
  have hwj := zy (n := (j : Int) + 1) (by omega)
  have zj : ((j : Int)).toNat = j := by omega
  by_cases hjl : j < ks.length
  ·have e2 : ((j : Int) < (ks.length : Int)) = True := eq_true (by omega)
   obtain ⟨m, hm⟩ : ∃ m : Nat, ks[j] = m := ⟨ks[j].toNat, by have := (hxw _ (List.getElem_mem hjl)).1; omega⟩
   have hSm : S m := by have := (hxw _ (List.getElem_mem hjl)).2; rwa [hm, Int.toNat_natCast] at this
   have hkj : ks[j]? = some (m : Int) := by rw [List.getElem?_eq_getElem hjl, hm]
   have gj := xb hjl
   rw [hm] at gj
   have zm : ((m : Int)).toNat = m := by omega
   have hmC := hS.lt m hSm
   have gm := xm (en :: (Q')) hmC
   have sm : (yL C.length (en :: (Q'))).set m [vB true] = yL C.length (en :: ((Q' ++ [m]))) := (wm _ _ _).trans (jM fun k => by simp only [List.mem_cons, List.mem_append, List.not_mem_nil, or_false]; exact ⟨fun h => by rcases h with h | h | h <;> simp [h], fun h => by rcases h with h | h | h <;> simp [h]⟩)
   have tq : (v8 (yo (F ++ Q'))).take (F ++ Q').length = v8 (yo (F ++ Q')) := List.take_of_length_le (by rw [zp, zS]; exact Nat.le_refl _)
   have ap : v8 (yo (F ++ Q')) ++ [[vI m]] = v8 (yo (F ++ (Q' ++ [m]))) := by rw [xy, List.append_assoc]
   have la : (F ++ Q').length + 1 = (F ++ (Q' ++ [m])).length := by simp; omega
   have step : ∀ Q2 : List Nat, (∀ k ∈ Q', k ∈ Q2) → ((xU C B) x j = true → m ∉ ([en] : List Nat) → m ∈ Q2) → ∀ w, w < j + 1 → ∀ k : Nat, ks[w]? = some (k : Int) → (xU C B) x w = true → k ∉ ([en] : List Nat) → k ∈ Q2 := fun Q2 h1 h2 w hw k hk hg hn => by
    rcases Nat.lt_or_ge w j with h | h
    ·exact h1 k (hin w h k hk hg hn)
    ·have : w = j := by omega
     subst this
     rw [hkj] at hk
     injection hk with hk
     have : m = k := by omega
     subst this
     exact h2 hg hn
   have skipOK : (xU C B) x j = false ∨ m ∈ (en :: (Q')) → Srch (ZG (yT C (xU C B)) [en]) F Q' i ∧ (F ++ Q')[i]? = some x ∧ (∀ k ∈ Q', S k) ∧ j + 1 ≤ ks.length ∧ (∀ w, w < j + 1 → ∀ k : Nat, ks[w]? = some (k : Int) → (xU C B) x w = true → k ∉ ([en] : List Nat) → k ∈ Q') ∧ ∀ y ∈ (F ++ Q').take i, (zg C y).op ≠ 20 := fun h => ⟨hs', hx', hQ', hjl, step Q' (fun _ h => h) (fun hg hn => by
    rcases h with h | h
    ·rw [hg] at h; cases h
    ·rcases List.mem_cons.1 h with h | h
     ·exact absurd (by rw [h]; exact List.mem_singleton.2 rfl) hn
     ·exact h), hret'⟩
   have addOK : (xU C B) x j = true → m ∉ (en :: (Q')) → Srch (ZG (yT C (xU C B)) [en]) F (Q' ++ [m]) i ∧ (F ++ (Q' ++ [m]))[i]? = some x ∧ (∀ k ∈ Q' ++ [m], S k) ∧ j + 1 ≤ ks.length ∧ (∀ w, w < j + 1 → ∀ k : Nat, ks[w]? = some (k : Int) → (xU C B) x w = true → k ∉ ([en] : List Nat) → k ∈ Q' ++ [m]) ∧ ∀ y ∈ (F ++ (Q' ++ [m])).take i, (zg C y).op ≠ 20 := fun hg hn => ⟨hs'.add hx' ⟨hR2 m j hkj hg, fun g => hn (by rw [List.mem_singleton.1 g]; exact .head _)⟩ (fun g => hn (.tail _ g)), by rw [← List.append_assoc, List.getElem?_append_left hi']; exact hx', fun k hk => by
    rcases List.mem_append.1 hk with hk | hk
    ·exact hQ' k hk
    ·rw [List.mem_singleton] at hk; rw [hk]; exact hSm, hjl, step _ (fun _ h => List.mem_append_left _ h) (fun _ _ => by simp), by rw [← List.append_assoc, List.take_append_of_le_length (by omega)]; exact hret'⟩
   generalize hdm : decide (m ∈ (en :: (Q'))) = d at gm
   have hh := hgt j
   have hgp := hg17 j
   generalize wa C B x j = p at hh hgp
   unfold xN qe at hh
   simp only [List.cons_append, List.nil_append] at hh
   have h17 : ((X.op = 17) = True ∧ decide (X.op = 17) = true) ∨ ((X.op = 17) = False ∧ decide (X.op = 17) = false) := by
    by_cases h : X.op = 17
    ·exact .inl ⟨eq_true h, decide_eq_true h⟩
    ·exact .inr ⟨eq_false h, decide_eq_false h⟩
   rcases h17 with ⟨e17, d17⟩ | ⟨e17, d17⟩ <;> rw [d17] at hgp <;> cases p <;> cases d
   all_goals (repeat' (first | exact trivial | (with_reducible first | apply awA | apply awB | apply awC | apply awF | apply awI) | ((with_reducible first | apply awn | apply awo | refine awQ ?_); intro r hr; simp only [go_sem, Nat.reduceBEq, Nat.reduceLT, Nat.reduceLeDiff, Nat.reduceAdd, Nat.reduceMul, Nat.reduceEqDiff, reduceCtorEq, e2, zj, gj, zm, gm, sm, tq, ap, la, hwj, vw, zp, zS, yJ, Nat.zero_add, zx, gx, e17, zd] at hr; subst hr; (first | refine awV ?_ ?_ | refine awW ?_ ?_ | (refine zh (fun h => ?_) (fun h => ?_) <;> (try simp only [go_sem, reduceCtorEq] at h) <;> (try (exfalso; omega))))) | (refine zz [(10000, 10000), (15000, 15000), (15001, 15001), (15002, 15002), (10001, 10001)] [(10000, 10000), (15000, 15000), (15001, 15001), (15002, 15002), (10001, 10001)] [15000, 15001, 15002] [10000, 10001] ?_; intro r hr; simp only [go_sem, Nat.reduceBEq, Nat.reduceLT] at hr; subst hr; refine zR (hh) rfl rfl (by first | exact .inl rfl | exact .inr rfl) ?_ (.inl rfl) ?_))) <;> (try omega)
   all_goals first
    | exact ⟨(j + 1, Q'), by simp only [go_sem, Nat.reduceBEq] <;> exact rfl, skipOK (.inl hgp), by show ks.length - (j + 1) < ks.length - j; omega⟩
    | exact ⟨(j + 1, Q'), by simp only [go_sem, Nat.reduceBEq] <;> exact rfl, skipOK (.inr (of_decide_eq_true hdm)), by show ks.length - (j + 1) < ks.length - j; omega⟩
    | exact ⟨(j + 1, Q' ++ [m]), by simp only [go_sem, Nat.reduceBEq] <;> exact rfl, addOK (hgp) (of_decide_eq_false hdm), by show ks.length - (j + 1) < ks.length - j; omega⟩
    | trace_state
  ·have e2 : ((j : Int) < (ks.length : Int)) = False := eq_false (by omega)
   have hn : Srch (ZG (yT C (xU C B)) [en]) F Q' (i + 1) := hs'.next hx' fun k hk => by
    obtain ⟨w, h1, h2, h3⟩ := hR k hk.1
    exact hin w (by omega) k h2 h3 hk.2
   (repeat' (first | exact trivial | (with_reducible first | apply awA | apply awE | apply awF | apply awH | apply awI | apply awK) | ((with_reducible first | apply awn | refine awQ ?_); intro r hr; simp only [go_sem, Nat.reduceBEq, Nat.reduceLT, e2, hwi, zp] at hr; subst hr; (first | refine awV ?_ ?_ | (refine zh (fun h => ?_) (fun h => ?_) <;> (try simp only [go_sem, reduceCtorEq] at h) <;> (try (exfalso; omega))))))) <;> (try omega)
   refine ⟨(i + 1, Q'), ?_, ⟨hn, hi', hQ', fun y hy => by
    rw [List.take_succ_eq_append_getElem hi'] at hy
    rcases List.mem_append.1 hy with hy | hy
    ·exact hret' y hy
    ·rw [List.mem_singleton] at hy
     rw [List.getElem?_eq_getElem hi'] at hx'
     injection hx' with hx'
     rw [hy, hx']; exact hX20⟩, by show C.length + 1 - (i + 1) < C.length + 1 - i; omega⟩
   simp only [go_sem, Nat.reduceBEq]
   try exact rfl
 ·have e1 : ((i : Int) < ((F ++ Q).length : Int)) = False := eq_false (by omega)
  have hdn := hs.done (by omega)
  have hpt : Yd C B en = true := uB fun k hk => by
   rcases jL.2 hk with h | h
   ·exact hret k (by rw [List.take_of_length_le (by omega), h, hF]; simp)
   ·exact hret k (by rw [List.take_of_length_le (by omega)]; exact List.mem_append_right _ ((hdn k).2 (by rw [hF]; exact qu.2 h)))
  rw [hpt]
  (repeat' (first | exact trivial | (with_reducible first | apply awA | apply awD | apply awE | apply awF | apply awH | apply awK) | ((with_reducible first | apply awn | refine awQ ?_ | refine awT ?_); intro r hr; simp only [go_sem, Nat.reduceBEq, Nat.reduceLT, e1] at hr; subst hr; (first | refine awV ?_ ?_ | refine zP ?_ ?_ ?_ | (refine zh (fun h => ?_) (fun h => ?_) <;> (try simp only [go_sem, reduceCtorEq] at h) <;> (try (exfalso; omega))))))) <;> (try omega)
  all_goals first | exact AV.up_rfl _ | (repeat first | exact zo | refine zn rfl ?_) | trace_state
end
end Go.Proofs.YtjeplogcfedmeaaGreat
