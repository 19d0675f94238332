import Derived.Test.YtfklhppfehkfaaaFrame
import Derived.Deep.Slices
namespace Go.Proofs.Ytfklhppfehkfaaa
open Go.ChangeShapes Go.WideShapes Go.ChangeAt Go.RowKit Go.Deep

theorem addr_plain (b off j : Nat) : (⟨b, off, none⟩ : Addr).add j = ⟨b, off + j, none⟩ := by
  unfold Addr.add; by_cases h : j = 0 <;> simp [h]
theorem flat_get {α : Type} {cells : α → List Value} {k : Nat} (hk : ∀ a, (cells a).length = k) : ∀ (L : List α) (i j : Nat), j < k → (L.flatMap cells)[i * k + j]? = (L[i]?).bind fun a => (cells a)[j]? := by
  intro L
  induction L with
  | nil => intro i j _; simp
  | cons a L ih =>
    intro i j hj
    rw [List.flatMap_cons]
    cases i with
    | zero => rw [Nat.zero_mul, Nat.zero_add, List.getElem?_append_left (by rw [hk]; exact hj)]; simp
    | succ i =>
      rw [Nat.add_mul, Nat.one_mul, List.getElem?_append_right (by rw [hk]; omega), hk]
      rw [show i * k + k + j - k = i * k + j by omega, ih i j hj]
      simp
theorem flat_length {α : Type} {cells : α → List Value} {k : Nat} (hk : ∀ a, (cells a).length = k) (L : List α) : (L.flatMap cells).length = L.length * k := by
  induction L with
  | nil => simp
  | cons a L ih => rw [List.flatMap_cons, List.length_append, hk, ih, List.length_cons, Nat.add_mul]; omega
theorem Row.flat {α : Type} {cells : α → List Value} {k : Nat} (hk : ∀ a, (cells a).length = k) {w : World} {B : Nat} {A : Option Addr} {L : List α} (h : Row w B A (L.flatMap cells)) (hk0 : 0 < k) (hL : 0 < L.length) :
    ∃ b off, A = some ⟨b, off, none⟩ ∧ b < B ∧ ∀ i a j u, L[i]? = some a → (cells a)[j]? = some u → w.cell? ⟨b, off + i * k + j, none⟩ = some u := by
  obtain ⟨b, off, e, hb, hc⟩ := h (by rw [flat_length hk]; exact Nat.mul_pos hL hk0)
  refine ⟨b, off, e, hb, fun i a j u hi hj => ?_⟩
  rw [Nat.add_assoc]
  refine hc _ u ?_
  have hjk : j < k := by
    rcases Nat.lt_or_ge j (cells a).length with h | h
    · rwa [hk] at h
    · rw [List.getElem?_eq_none h] at hj; cases hj
  rw [flat_get hk L i j hjk, hi]
  exact hj

section
variable {H : Type} {enc : TypeId × Value → H} {P : Program} {w : World} {base : Nat} {spare : Nat → Bool} {held : Bool}
/-- a slice that came in, read as a list -/
theorem open_view {α : Type} [Inhabited α] (cells : α → List Value) (ok : α → Prop) (k : Nat) (hk : ∀ a, (cells a).length = k) (hk0 : 0 < k) {t e : TypeId} (ht : P.underlying t = some (.slice e)) (hc : P.cellsOf e = k)
    (elem : ∀ n cs' x, DataW.trod enc P w base spare held n e cs' = some x → ∃ a, cs' = cells a ∧ ok a)
    {fuel : Nat} {v : Value} {x : DataW H × List MemPlace} (h : DataW.trod enc P w base spare held fuel t [v] = some x) :
    ∃ (A : Option Addr) (len cap : Nat) (L : List α), v = .slice A len cap ∧ len = L.length ∧ len ≤ cap ∧ cap ≤ maxLen ∧ Row w w.heap.size A (L.flatMap cells) ∧ ∀ a ∈ L, ok a := by
  rcases open_slice ht h with ⟨h0, _⟩ | ⟨a, len, cap, m, n, D, Pl, hv, hb, hl, hm, hmm, _, hx⟩
  · injection h0 with h0
    exact ⟨none, 0, 0, [], h0, rfl, Nat.le_refl _, by decide, fun h => by simp at h, fun a ha => by simp at ha⟩
  · injection hv with hv
    have hlm : len ≤ m := by rw [hmm]; split <;> omega
    obtain ⟨f, hf⟩ := choose_lt (n := len) (p := fun i (a' : α) => w.cells? base (a.add (i * k)) k = some (cells a') ∧ ok a') (fun i hi => by
      obtain ⟨cs', h1, h2⟩ := hx i (by omega)
      obtain ⟨a', rfl, h3⟩ := elem _ _ _ h2
      rw [hc] at h1
      exact ⟨a', h1, h3⟩)
    refine ⟨some a, len, cap, (List.range len).map f, hv, by simp, hl, hm, ?_, fun y hy => ?_⟩
    · intro h0
      rw [flat_length hk] at h0
      have hlen : 0 < len := by
        rcases Nat.eq_zero_or_pos len with h | h
        · subst h; simp at h0
        · exact h
      have hcell : ∀ i j, i < len → j < k → w.cell? ((a.add (i * k)).add j) = (cells (f i))[j]? := fun i j hi hj => (World.cells?_some (hf i hi).1).2.2 j hj
      obtain ⟨b, off, spot⟩ := a
      have h00 := hcell 0 0 hlen hk0
      rw [Nat.zero_mul] at h00
      have hz : ((⟨b, off, spot⟩ : Addr).add 0).add 0 = ⟨b, off, spot⟩ := by simp [Addr.add]
      rw [hz, List.getElem?_eq_getElem (by rw [hk]; exact hk0)] at h00
      have hspot : spot = none := World.cell?_spot h00
      subst hspot
      refine ⟨b, off, rfl, World.block_lt_of_cell? w _ h00, fun q u hu => ?_⟩
      have hq : q < len * k := by
        rcases Nat.lt_or_ge q (((List.range len).map f).flatMap cells).length with h | h
        · rw [flat_length hk] at h; simpa using h
        · rw [List.getElem?_eq_none h] at hu; cases hu
      have hqi : q / k < len := Nat.div_lt_of_lt_mul (by rw [Nat.mul_comm]; exact hq)
      have hqj : q % k < k := Nat.mod_lt _ hk0
      have hqe : q = q / k * k + q % k := by rw [Nat.mul_comm]; exact (Nat.div_add_mod q k).symm
      rw [hqe, flat_get hk _ _ _ hqj] at hu
      simp only [List.getElem?_map, List.getElem?_range hqi, Option.map_some, Option.bind_some] at hu
      have := hcell (q / k) (q % k) hqi hqj
      rw [hu, add_add] at this
      rw [addr_plain, ← hqe] at this
      exact this
    · obtain ⟨i, hi, rfl⟩ := List.mem_map.1 hy
      exact (hf i (by simpa using hi)).2

/-- a field of one cell of a struct that came in -/
theorem fld {n : Nat} {fs : Array Field} {xs : List (DataW H × List MemPlace)} {cs : List Value} (hxl : xs.length = fs.size)
    (hf : ∀ (i : Nat) (f : Field), fs[i]? = some f → DataW.trod enc P w base spare held n f.type ((cs.drop f.offset).take (P.cellsOf f.type)) = xs[i]?)
    (i T o : Nat) (hi : (fs[i]?).map (fun f => (f.type, f.offset)) = some (T, o)) (hc : P.cellsOf T = 1) (v : Value) (hv : cs[o]? = some v) : ∃ y, DataW.trod enc P w base spare held n T [v] = some y := by
  rw [Option.map_eq_some_iff] at hi
  obtain ⟨f, hfi, he⟩ := hi
  injection he with h1 h2
  have h3 := hf i f hfi
  rw [h1, h2, hc] at h3
  have ho : o < cs.length := by
    rcases Nat.lt_or_ge o cs.length with h | h
    · exact h
    · rw [List.getElem?_eq_none h] at hv; cases hv
  have h4 : (cs.drop o).take 1 = [v] := by
    rw [List.drop_eq_getElem_cons ho]
    rw [List.getElem?_eq_getElem ho] at hv
    injection hv with hv
    simp [hv]
  rw [h4] at h3
  have hix : i < xs.length := by
    rw [hxl]
    rcases Nat.lt_or_ge i fs.size with h | h
    · exact h
    · rw [Array.getElem?_eq_none h] at hfi; cases hfi
  exact ⟨xs[i], by rw [h3, List.getElem?_eq_getElem hix]⟩

/-- a slice of integers inside data that came in -/
def IntsIn (w : World) (k : IntKind) (A : Option Addr) (len cap : Nat) (zs : List Int) : Prop :=
  len = zs.length ∧ len ≤ cap ∧ cap ≤ maxLen ∧ Row w w.heap.size A (zs.map (Value.int k)) ∧ ∀ z ∈ zs, (Lit.int k z).wf = true
theorem open_ints_in {t e : TypeId} {k : IntKind} (ht : P.underlying t = some (.slice e)) (he : P.underlying e = some (.int k)) (hc : P.cellsOf e = 1) {fuel : Nat} {v : Value} {x : DataW H × List MemPlace}
    (h : DataW.trod enc P w base spare held fuel t [v] = some x) : ∃ A len cap zs, v = .slice A len cap ∧ IntsIn w k A len cap zs := by
  obtain ⟨A, len, cap, L, hv, h1, h2, h3, h4, h5⟩ := open_view (α := Int) (fun z => [Value.int k z]) (fun z => (Lit.int k z).wf = true) 1 (fun _ => rfl) (by decide) ht hc
    (fun n cs' x h => by obtain ⟨z, h1, _, h2⟩ := DataW.trod_int he h; exact ⟨z, h1, h2⟩) h
  refine ⟨A, len, cap, L, hv, h1, h2, h3, ?_, h5⟩
  have e : L.flatMap (fun z => [Value.int k z]) = L.map (Value.int k) := by
    clear h1 h2 h3 h4 h5
    induction L with
    | nil => rfl
    | cons a L ih => simp [List.flatMap_cons, ih]
  rwa [e] at h4
end
end Go.Proofs.Ytfklhppfehkfaaa
