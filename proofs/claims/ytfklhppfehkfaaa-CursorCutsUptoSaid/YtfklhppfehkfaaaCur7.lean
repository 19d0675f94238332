import Derived.Test.YtfklhppfehkfaaaCur6
namespace Go.Proofs.Ytfklhppfehkfaaa
open Go.RowKit

/-- one cell of a slice of the call's own is written over -/
theorem OwnS.set_ {w : World} {base : Nat} {e : TypeId} {A : Option Addr} {n c : Nat} {xs : List Value} (h : OwnS w base e A n c xs) (k : Nat) (hk : k < n) (u : Value) :
    ∃ g off, A = some ⟨g, off, none⟩ ∧ w.frozen? ⟨g, off + k, none⟩ = false ∧ (∃ v, w.cell? ⟨g, off + k, none⟩ = some v) ∧ OwnS (w.setCell ⟨g, off + k, none⟩ u) base e A n c (xs.set k u) := by
  obtain ⟨h1, h2, h3, h0 | ⟨g, off, cs, rfl, hb, hc, h4, h5⟩⟩ := h
  · omega
  · refine ⟨g, off, rfl, hc.frozen _, ⟨_, by rw [hc.cell]; exact List.getElem?_eq_getElem (by omega)⟩, by simpa using h1, h2, h3, .inr ⟨g, off, _, rfl, hb, hc.set_ (off + k) u, by simpa using h4, ?_⟩⟩
    rw [← h5]
    apply List.ext_getElem?
    intro i
    simp only [List.getElem?_take, List.getElem?_drop, List.getElem?_set, List.length_take, List.length_drop, List.length_set]
    by_cases hi : i < n
    · by_cases hik : k = i
      · subst hik
        have e1 : off + k < cs.length := by omega
        have e2 : k < cs.length - off := by omega
        simp [hi, e1, e2, Nat.lt_min]
      · have : ¬ off + k = off + i := by omega
        simp [hi, hik, this]
    · simp [hi]
      omega

set_option maxRecDepth 100000 in
theorem u8_lh (A : Option Addr) (n c l k : Nat) (w : World) (hk : l + k ≤ c) : (Instr.slice 25 (.slice A n c) (some (.int .i64 l)) (some (.int .i64 ((l : Int) + k))) none).run Try.prog w = .ok (.slice (if c = l then A else A.map (·.add l)) k (c - l)) w := by
  rw [run_slice_lh w 25 A n c Try.underlying25 .i64 .i64 l ((l : Int) + k) (by omega) (by omega) (by omega)]
  have e1 : ((l : Int) + k).toNat = l + k := by omega
  rw [e1]
  simp [go_sem]

/-- an input -/
structure InpS (w : World) (b p : Nat) (at_ : Int) (over : Bool) (A : Option Addr) (xs : List Int) : Prop where
  inp : ∃ c, InpAt w b p at_ over A xs.length c xs
  lo : ∀ k, blkOf A = some k → b ≤ k ∧ k < w.heap.size
theorem InpS.lt {w : World} {b p : Nat} {at_ : Int} {over : Bool} {A : Option Addr} {xs : List Int} (h : InpS w b p at_ over A xs) : p < w.heap.size := by
  obtain ⟨c, hc⟩ := h.inp
  exact hc.2.1.lt
theorem InpS.ge {w : World} {b p : Nat} {at_ : Int} {over : Bool} {A : Option Addr} {xs : List Int} (h : InpS w b p at_ over A xs) : b ≤ p := by
  obtain ⟨c, hc⟩ := h.inp
  exact hc.1
theorem InpS.fr {w w' : World} {S : Nat → Prop} {b p : Nat} {at_ : Int} {over : Bool} {A : Option Addr} {xs : List Int} (h : InpS w b p at_ over A xs) (hf : Fr w w' S) (hp : ¬ S p) (hA : ∀ k, blkOf A = some k → ¬ S k) : InpS w' b p at_ over A xs := by
  obtain ⟨c, hc⟩ := h.inp
  exact ⟨⟨c, hc.fr hf hp hA⟩, fun k hk => ⟨(h.lo k hk).1, Nat.lt_of_lt_of_le (h.lo k hk).2 hf.size⟩⟩
theorem InpS.of {w : World} {b p : Nat} {at_ : Int} {over : Bool} {A : Option Addr} {n c : Nat} {xs : List Int} (h : InpAt w b p at_ over A n c xs) (hl : ∀ k, blkOf A = some k → b ≤ k ∧ k < w.heap.size) : InpS w b p at_ over A xs := by
  have hn : n = xs.length := by have := h.2.2.1.1; simpa using this
  subst hn
  exact ⟨⟨c, h⟩, hl⟩

/-- two inputs, apart -/
structure Duo (w : World) (b p q : Nat) (ap aq : Int) (P Q : Option Addr) (xs ys : List Int) : Prop where
  x : InpS w b p ap false P xs
  y : InpS w b q aq false Q ys
  ne : p ≠ q
  qP : blkOf P ≠ some q
  pQ : blkOf Q ≠ some p
  PQ : ∀ k, blkOf P = some k → blkOf Q ≠ some k
section
variable {w w' : World} {b p q : Nat} {ap aq : Int} {P Q : Option Addr} {xs ys : List Int}
theorem Duo.symm (h : Duo w b p q ap aq P Q xs ys) : Duo w b q p aq ap Q P ys xs :=
  ⟨h.y, h.x, Ne.symm h.ne, h.pQ, h.qP, fun k h1 h2 => h.PQ k h2 h1⟩
theorem Duo.fr {S : Nat → Prop} (h : Duo w b p q ap aq P Q xs ys) (hf : Fr w w' S) (h1 : ¬ S p) (h2 : ¬ S q) (h3 : ∀ k, blkOf P = some k → ¬ S k) (h4 : ∀ k, blkOf Q = some k → ¬ S k) : Duo w' b p q ap aq P Q xs ys :=
  ⟨h.x.fr hf h1 h3, h.y.fr hf h2 h4, h.ne, h.qP, h.pQ, h.PQ⟩
theorem Duo.below (h : Duo w b p q ap aq P Q xs ys) (hb : Below w.heap.size w w') : Duo w' b p q ap aq P Q xs ys :=
  h.fr (Fr.of_below hb (fun _ => False)) (fun h => h) (fun h => h) (fun _ _ h => h) (fun _ _ h => h)
theorem Duo.step {ap' : Int} {P' : Option Addr} {n' c' : Nat} {xs' : List Int} (h : Duo w b p q ap aq P Q xs ys) (hx : InpAt w' b p ap' false P' n' c' xs') (hbs : b ≤ w.heap.size)
    (hP : blkOf P' = blkOf P ∨ ∃ k, blkOf P' = some k ∧ w.heap.size ≤ k ∧ k < w'.heap.size) (hf : Fr w w' (fun k => k = p ∨ blkOf P = some k)) : Duo w' b p q ap' aq P' Q xs' ys := by
  have hq := h.y.lt
  have hs := hf.size
  have hy := h.y.fr hf (fun h1 => by rcases h1 with h1 | h1; exact h.ne h1.symm; exact h.qP h1) (fun k hk h1 => by rcases h1 with h1 | h1; (rw [h1] at hk; exact h.pQ hk); exact h.PQ k h1 hk)
  refine ⟨InpS.of hx ?_, hy, h.ne, ?_, h.pQ, ?_⟩
  · intro k hk
    rcases hP with e | ⟨k', e, hk'⟩
    · rw [e] at hk; have := h.x.lo k hk; exact ⟨this.1, by omega⟩
    · rw [e] at hk; injection hk with hk; exact ⟨by omega, by omega⟩
  · rcases hP with e | ⟨k', e, hk'⟩
    · rw [e]; exact h.qP
    · rw [e]; intro h1; injection h1 with h1; omega
  · intro k hk h2
    rcases hP with e | ⟨k', e, hk'⟩
    · rw [e] at hk; exact h.PQ k hk h2
    · rw [e] at hk; injection hk with hk; have := h.y.lo k h2; omega
theorem Duo.start (w : World) (a : Int) (hw1 : w' = w.alloc (.cells #[.slice none 0 0, .int .i64 a, .bool false] 138)) :
    Duo (w'.alloc (.cells #[.slice none 0 0, .int .i64 a, .bool false] 138)) w.heap.size w.heap.size w'.heap.size a a none none [] [] := by
  have h1 := INew_at a w
  rw [← hw1] at h1
  have h2 := INew_at a w'
  have hs : w'.heap.size = w.heap.size + 1 := by rw [hw1]; simp
  refine ⟨InpS.of (h1.below ((Below.refl _ _).alloc (Nat.le_refl _) _)) (fun k h => by cases h), InpS.of (b := w.heap.size) ⟨by omega, h2.2.1, h2.2.2.1.mono (by omega), h2.2.2.2⟩ (fun k h => by cases h), by omega, (by simp [blkOf]), (by simp [blkOf]), fun k h => by cases h⟩

theorem Duo_give (h : Duo w b p q ap aq P Q xs ys) (A2 : Option Addr) (m c2 : Nat) (zs : List Int) (B : Nat) (hr : Row w B A2 (zs.map (Value.int .u8))) (hmz : m = zs.length) (hnm : xs.length + m ≤ 140737488355328) (hbase : b ≤ w.heap.size) :
    Calls Try.prog 30 #[.pointer (some ⟨p, 0, none⟩), .slice A2 m c2] w fun e w' => ∃ P', e = .returned (.int .i64 0) ∧ Duo w' b p q ap aq P' Q (xs ++ zs) ys ∧
      (blkOf P' = blkOf P ∨ ∃ k, blkOf P' = some k ∧ w.heap.size ≤ k ∧ k < w'.heap.size) ∧ Fr w w' (fun k => k = p ∨ blkOf P = some k) := by
  obtain ⟨c, hc⟩ := h.x.inp
  refine (IGive_good b p ap P xs.length c xs w A2 m c2 zs B hc hr hmz hnm hbase).mono ?_
  rintro e w' ⟨P', c', rfl, h1, h2, h3⟩
  exact ⟨P', rfl, h.step h1 hbase h2 h3, h2, h3⟩
theorem Duo_skip (h : Duo w b p q ap aq P Q xs ys) (k : Nat) (hk : k ≤ xs.length) (ha0 : 0 ≤ ap) (ha1 : ap + k ≤ 9223372036854775807) (hbase : b ≤ w.heap.size) :
    Calls Try.prog 32 #[.pointer (some ⟨p, 0, none⟩), .int .i64 k] w fun e w' => e = .returned (.int .i64 0) ∧ ∃ P', Duo w' b p q (ap + k) aq P' Q (xs.drop k) ys ∧ Below b w w' := by
  obtain ⟨c, hc⟩ := h.x.inp
  have hpg := h.x.ge
  refine (ISkip_good b p ap false P xs.length c xs w k hc hk ha0 ha1).mono ?_
  rintro e w' ⟨rfl, P', h1, h2, h3⟩
  exact ⟨rfl, P', h.step h1 hbase (.inl h2) (h3.mono (fun _ _ h => .inl h)), h3.below hbase (fun k hk => by omega)⟩
theorem Duo_skip_bad (h : Duo w b p q ap aq P Q xs ys) (k : Int) (hk : k < 0 ∨ (xs.length : Int) < k) :
    Calls Try.prog 32 #[.pointer (some ⟨p, 0, none⟩), .int .i64 k] w fun e w' => e = .returned (.int .i64 3) ∧ w = w' := by
  obtain ⟨c, hc⟩ := h.x.inp
  exact ISkip_bad p ap false P xs.length c w k hc.2.1 hk
theorem Duo_peek_bad (h : Duo w b p q ap aq P Q xs ys) (k : Int) (hk : k < 0 ∨ (xs.length : Int) < k) :
    Calls Try.prog 31 #[.pointer (some ⟨p, 0, none⟩), .int .i64 k] w fun e w' => e = .returned (.tuple #[.slice none 0 0, .bool false]) ∧ w = w' := by
  obtain ⟨c, hc⟩ := h.x.inp
  exact IPeek_bad p ap false P xs.length c w k hc.2.1 hk
theorem Duo_peek (h : Duo w b p q ap aq P Q xs ys) (k : Nat) (hk : k ≤ xs.length) (hk2 : k ≤ 140737488355328) :
    Calls Try.prog 31 #[.pointer (some ⟨p, 0, none⟩), .int .i64 k] w fun e w' => e = .returned (.tuple #[.slice (some ⟨w.heap.size, 0, none⟩) k k, .bool true]) ∧
      Blk w' w.heap.size 5 ((xs.take k).map (Value.int .u8)) ∧ Below w.heap.size w w' ∧ w.heap.size < w'.heap.size := by
  obtain ⟨c, hc⟩ := h.x.inp
  exact IPeek_good b p ap false P xs.length c xs w k hc hk hk2
theorem Duo_take_none (h : Duo w b p q ap aq P Q [] ys) :
    Calls Try.prog 33 #[.pointer (some ⟨p, 0, none⟩)] w fun e w' => e = .returned (.tuple #[.int .u8 0, .bool false]) ∧ w = w' := by
  obtain ⟨c, hc⟩ := h.x.inp
  exact ITake_none p ap false P c w hc.2.1
theorem Duo_take (z : Int) (h : Duo w b p q ap aq P Q (z :: xs) ys) (ha0 : 0 ≤ ap) (ha1 : ap + 1 ≤ 9223372036854775807) (hbase : b ≤ w.heap.size) :
    Calls Try.prog 33 #[.pointer (some ⟨p, 0, none⟩)] w fun e w' => e = .returned (.tuple #[.int .u8 z, .bool true]) ∧ ∃ P', Duo w' b p q (ap + 1) aq P' Q xs ys ∧ Below b w w' := by
  obtain ⟨c, hc⟩ := h.x.inp
  have hpg := h.x.ge
  refine (ITake_some b p ap false P (z :: xs).length c xs w z hc ha0 ha1).mono ?_
  rintro e w' ⟨rfl, P', h1, h2, h3⟩
  exact ⟨rfl, P', h.step h1 hbase (.inl h2) (h3.mono (fun _ _ h => .inl h)), h3.below hbase (fun k hk => by omega)⟩
theorem Duo_at (h : Duo w b p q ap aq P Q xs ys) : Calls Try.prog 34 #[.pointer (some ⟨p, 0, none⟩)] w fun e w' => e = .returned (.int .i64 ap) ∧ w = w' := by
  obtain ⟨c, hc⟩ := h.x.inp
  exact IAt_any p ap false P xs.length c w hc.2.1
theorem Duo_held (h : Duo w b p q ap aq P Q xs ys) : Calls Try.prog 35 #[.pointer (some ⟨p, 0, none⟩)] w fun e w' => e = .returned (.int .i64 xs.length) ∧ w = w' := by
  obtain ⟨c, hc⟩ := h.x.inp
  exact IHeld_any p ap false P xs.length c w hc.2.1
theorem Duo_ended (h : Duo w b p q ap aq P Q xs ys) : Calls Try.prog 36 #[.pointer (some ⟨p, 0, none⟩)] w fun e w' => e = .returned (.bool false) ∧ w = w' := by
  obtain ⟨c, hc⟩ := h.x.inp
  exact IEnded_any p ap false P xs.length c w hc.2.1
end
end Go.Proofs.Ytfklhppfehkfaaa
