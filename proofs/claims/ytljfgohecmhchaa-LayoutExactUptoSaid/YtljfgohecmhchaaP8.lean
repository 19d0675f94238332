import Derived.Deep.Slices
import Derived.Test.YtljfgohecmhchaaRows
import Derived.ProofKit
import Derived.OpenShut
import Derived.JoinedCond
import Derived.Test.YtljfgohecmhchaaP7
set_option linter.all false
section
namespace Go.Proofs.Ytljfgohecmhchaa
open Go.ChangeShapes Go.WideShapes Go.ChangeAt Go.RowKit Go.Deep

theorem addr_plain (b off j : Nat) : (⟨b, off, none⟩ : Addr).add j = ⟨b, off + j, none⟩ := by
  unfold Addr.add; by_cases h : j = 0 <;> simp [h]
theorem flat_get {α : Type} {cells : α → List Value} {k : Nat} (hk : ∀ a, (cells a).length = k) : ∀ (L : List α) (i j : Nat), j < k → (L.flatMap cells)[i * k + j]? = (L[i]?).bind fun a => (cells a)[j]? := by
  intro L
  induction L with
  | nil => intro i j _; simp
  | cons a L ih =>
    intro i j hj
    rw [List.flatMap_cons]
    cases i with
    | zero => rw [Nat.zero_mul, Nat.zero_add, List.getElem?_append_left (by rw [hk]; exact hj)]; simp
    | succ i =>
      rw [Nat.add_mul, Nat.one_mul, List.getElem?_append_right (by rw [hk]; omega), hk]
      rw [show i * k + k + j - k = i * k + j by omega, ih i j hj]
      simp
theorem flat_length {α : Type} {cells : α → List Value} {k : Nat} (hk : ∀ a, (cells a).length = k) (L : List α) : (L.flatMap cells).length = L.length * k := by
  induction L with
  | nil => simp
  | cons a L ih => rw [List.flatMap_cons, List.length_append, hk, ih, List.length_cons, Nat.add_mul]; omega
theorem Row.flat {α : Type} {cells : α → List Value} {k : Nat} (hk : ∀ a, (cells a).length = k) {w : World} {B : Nat} {A : Option Addr} {L : List α} (h : Row w B A (L.flatMap cells)) (hk0 : 0 < k) (hL : 0 < L.length) :
    ∃ b off, A = some ⟨b, off, none⟩ ∧ b < B ∧ ∀ i a j u, L[i]? = some a → (cells a)[j]? = some u → w.cell? ⟨b, off + i * k + j, none⟩ = some u := by
  obtain ⟨b, off, e, hb, hc⟩ := h (by rw [flat_length hk]; exact Nat.mul_pos hL hk0)
  refine ⟨b, off, e, hb, fun i a j u hi hj => ?_⟩
  rw [Nat.add_assoc]
  refine hc _ u ?_
  have hjk : j < k := by
    rcases Nat.lt_or_ge j (cells a).length with h | h
    · rwa [hk] at h
    · rw [List.getElem?_eq_none h] at hj; cases hj
  rw [flat_get hk L i j hjk, hi]
  exact hj

section
variable {H : Type} {enc : TypeId × Value → H} {P : Program} {w : World} {base : Nat} {spare : Nat → Bool} {held : Bool}
/-- a slice that came in, read as a list -/
theorem open_view {α : Type} [Inhabited α] (cells : α → List Value) (ok : α → Prop) (k : Nat) (hk : ∀ a, (cells a).length = k) (hk0 : 0 < k) {t e : TypeId} (ht : P.underlying t = some (.slice e)) (hc : P.cellsOf e = k)
    (elem : ∀ n cs' x, DataW.trod enc P w base spare held n e cs' = some x → ∃ a, cs' = cells a ∧ ok a)
    {fuel : Nat} {v : Value} {x : DataW H × List MemPlace} (h : DataW.trod enc P w base spare held fuel t [v] = some x) :
    ∃ (A : Option Addr) (len cap : Nat) (L : List α), v = .slice A len cap ∧ len = L.length ∧ len ≤ cap ∧ cap ≤ maxLen ∧ Row w w.heap.size A (L.flatMap cells) ∧ ∀ a ∈ L, ok a := by
  rcases open_slice ht h with ⟨h0, _⟩ | ⟨a, len, cap, m, n, D, Pl, hv, hb, hl, hm, hmm, _, hx⟩
  · injection h0 with h0
    exact ⟨none, 0, 0, [], h0, rfl, Nat.le_refl _, by decide, fun h => by simp at h, fun a ha => by simp at ha⟩
  · injection hv with hv
    have hlm : len ≤ m := by rw [hmm]; split <;> omega
    obtain ⟨f, hf⟩ := choose_lt (n := len) (p := fun i (a' : α) => w.cells? base (a.add (i * k)) k = some (cells a') ∧ ok a') (fun i hi => by
      obtain ⟨cs', h1, h2⟩ := hx i (by omega)
      obtain ⟨a', rfl, h3⟩ := elem _ _ _ h2
      rw [hc] at h1
      exact ⟨a', h1, h3⟩)
    refine ⟨some a, len, cap, (List.range len).map f, hv, by simp, hl, hm, ?_, fun y hy => ?_⟩
    · intro h0
      rw [flat_length hk] at h0
      have hlen : 0 < len := by
        rcases Nat.eq_zero_or_pos len with h | h
        · subst h; simp at h0
        · exact h
      have hcell : ∀ i j, i < len → j < k → w.cell? ((a.add (i * k)).add j) = (cells (f i))[j]? := fun i j hi hj => (World.cells?_some (hf i hi).1).2.2 j hj
      obtain ⟨b, off, spot⟩ := a
      have h00 := hcell 0 0 hlen hk0
      rw [Nat.zero_mul] at h00
      have hz : ((⟨b, off, spot⟩ : Addr).add 0).add 0 = ⟨b, off, spot⟩ := by simp [Addr.add]
      rw [hz, List.getElem?_eq_getElem (by rw [hk]; exact hk0)] at h00
      have hspot : spot = none := World.cell?_spot h00
      subst hspot
      refine ⟨b, off, rfl, World.block_lt_of_cell? w _ h00, fun q u hu => ?_⟩
      have hq : q < len * k := by
        rcases Nat.lt_or_ge q (((List.range len).map f).flatMap cells).length with h | h
        · rw [flat_length hk] at h; simpa using h
        · rw [List.getElem?_eq_none h] at hu; cases hu
      have hqi : q / k < len := Nat.div_lt_of_lt_mul (by rw [Nat.mul_comm]; exact hq)
      have hqj : q % k < k := Nat.mod_lt _ hk0
      have hqe : q = q / k * k + q % k := by rw [Nat.mul_comm]; exact (Nat.div_add_mod q k).symm
      rw [hqe, flat_get hk _ _ _ hqj] at hu
      simp only [List.getElem?_map, List.getElem?_range hqi, Option.map_some, Option.bind_some] at hu
      have := hcell (q / k) (q % k) hqi hqj
      rw [hu, add_add] at this
      rw [addr_plain, ← hqe] at this
      exact this
    · obtain ⟨i, hi, rfl⟩ := List.mem_map.1 hy
      exact (hf i (by simpa using hi)).2

/-- a field of one cell of a struct that came in -/
theorem fld {n : Nat} {fs : Array Field} {xs : List (DataW H × List MemPlace)} {cs : List Value} (hxl : xs.length = fs.size)
    (hf : ∀ (i : Nat) (f : Field), fs[i]? = some f → DataW.trod enc P w base spare held n f.type ((cs.drop f.offset).take (P.cellsOf f.type)) = xs[i]?)
    (i T o : Nat) (hi : (fs[i]?).map (fun f => (f.type, f.offset)) = some (T, o)) (hc : P.cellsOf T = 1) (v : Value) (hv : cs[o]? = some v) : ∃ y, DataW.trod enc P w base spare held n T [v] = some y := by
  rw [Option.map_eq_some_iff] at hi
  obtain ⟨f, hfi, he⟩ := hi
  injection he with h1 h2
  have h3 := hf i f hfi
  rw [h1, h2, hc] at h3
  have ho : o < cs.length := by
    rcases Nat.lt_or_ge o cs.length with h | h
    · exact h
    · rw [List.getElem?_eq_none h] at hv; cases hv
  have h4 : (cs.drop o).take 1 = [v] := by
    rw [List.drop_eq_getElem_cons ho]
    rw [List.getElem?_eq_getElem ho] at hv
    injection hv with hv
    simp [hv]
  rw [h4] at h3
  have hix : i < xs.length := by
    rw [hxl]
    rcases Nat.lt_or_ge i fs.size with h | h
    · exact h
    · rw [Array.getElem?_eq_none h] at hfi; cases hfi
  exact ⟨xs[i], by rw [h3, List.getElem?_eq_getElem hix]⟩

/-- a slice of integers inside data that came in -/
def IntsIn (w : World) (k : IntKind) (A : Option Addr) (len cap : Nat) (zs : List Int) : Prop :=
  len = zs.length ∧ len ≤ cap ∧ cap ≤ maxLen ∧ Row w w.heap.size A (zs.map (Value.int k)) ∧ ∀ z ∈ zs, (Lit.int k z).wf = true
theorem open_ints_in {t e : TypeId} {k : IntKind} (ht : P.underlying t = some (.slice e)) (he : P.underlying e = some (.int k)) (hc : P.cellsOf e = 1) {fuel : Nat} {v : Value} {x : DataW H × List MemPlace}
    (h : DataW.trod enc P w base spare held fuel t [v] = some x) : ∃ A len cap zs, v = .slice A len cap ∧ IntsIn w k A len cap zs := by
  obtain ⟨A, len, cap, L, hv, h1, h2, h3, h4, h5⟩ := open_view (α := Int) (fun z => [Value.int k z]) (fun z => (Lit.int k z).wf = true) 1 (fun _ => rfl) (by decide) ht hc
    (fun n cs' x h => by obtain ⟨z, h1, _, h2⟩ := DataW.trod_int he h; exact ⟨z, h1, h2⟩) h
  refine ⟨A, len, cap, L, hv, h1, h2, h3, ?_, h5⟩
  have e : L.flatMap (fun z => [Value.int k z]) = L.map (Value.int k) := by
    clear h1 h2 h3 h4 h5
    induction L with
    | nil => rfl
    | cons a L ih => simp [List.flatMap_cons, ih]
  rwa [e] at h4
end
end Go.Proofs.Ytljfgohecmhchaa
end
section
namespace Go.Proofs.Ytljfgohecmhchaa
open Go.RowKit

/-! From what came in to abstract values. -/
section
variable {P : Program} {w : World}
theorem PCall.row {f : Nat} {args : List AV} (h : PCall P f args (fun r => r = .v (.bool true))) (vs : Array Value) (hl : vs.size = args.length)
    (ha : ∀ (i : Nat) (x : AV) (v : Value), args[i]? = some x → vs[i]? = some v → AVR (fun b => b < w.heap.size) (fun _ => none) w x v) (hg : FOK (fun b => b < w.heap.size) w) :
    Calls P f vs w fun e w' => e = .returned (.bool true) ∧ Below w.heap.size w w' :=
  (h.2 w _ vs hg hl ha).mono fun e w' ⟨v, r, h1, h2, h3, h4⟩ => by
    subst h2
    cases h4 with
    | s h4 =>
    cases h4 with
    | v _ => exact ⟨h1, h3⟩

theorem args_nil : ∀ (i : Nat) (x : AV) (v : Value), ([] : List AV)[i]? = some x → ((#[] : Array Value))[i]? = some v → AVR (fun b => b < w.heap.size) (fun _ => none) w x v := fun i x v h => by simp at h
theorem args_ok {as' : List AV} {vs : List Value} (h : ∀ (i : Nat) (x : AV) (v : Value), as'[i]? = some x → vs[i]? = some v → AVR (fun b => b < w.heap.size) (fun _ => none) w x v) :
    ∀ (i : Nat) (x : AV) (v : Value), as'[i]? = some x → vs.toArray[i]? = some v → AVR (fun b => b < w.heap.size) (fun _ => none) w x v := fun i x v h1 h2 => h i x v h1 (by simpa using h2)
theorem args_cons {F : Nat → Prop} {a : AV} {u : Value} {as' : List AV} {vs : List Value} (h : AVR F (fun _ => none) w a u) (hr : ∀ (i : Nat) (x : AV) (v : Value), as'[i]? = some x → vs[i]? = some v → AVR F (fun _ => none) w x v) :
    ∀ (i : Nat) (x : AV) (v : Value), (a :: as')[i]? = some x → (u :: vs)[i]? = some v → AVR F (fun _ => none) w x v := fun i x v h1 h2 => by
  cases i with
  | zero => simp only [List.getElem?_cons_zero, Option.some.injEq] at h1 h2; subst h1; subst h2; exact h
  | succ i => exact hr i x v (by simpa using h1) (by simpa using h2)
theorem avr_int {F : Nat → Prop} {β : Nat → Option Nat} (k : IntKind) (z : Int) : AVR F β w (.v (.int k z)) (.int k z) := .s (.v rfl)
theorem avr_bool {F : Nat → Prop} {β : Nat → Option Nat} (b : Bool) : AVR F β w (.v (.bool b)) (.bool b) := .s (.v rfl)

/-- a slice read as a list -/
theorem svr_row {α : Type} (enc : α → List AV) (cells : α → List Value) (k : Nat) (hk : ∀ a, (cells a).length = k) (hke : ∀ a, (enc a).length = k) (hk0 : 0 < k) {F : Nat → Prop} (hF : ∀ b, b < w.heap.size → F b)
    {A : Option Addr} {len cap : Nat} {L : List α} (hl : len = L.length) (hlc : len ≤ cap) (hcm : cap ≤ maxLen) (hr : Row w w.heap.size A (L.flatMap cells))
    (hone : ∀ a ∈ L, ∀ (j : Nat) (v : Value), (cells a)[j]? = some v → v.oneCell' = true) (hs : ∀ a ∈ L, ∀ (j : Nat) (x : AV) (v : Value), (enc a)[j]? = some x → (cells a)[j]? = some v → SVR F w x v) :
    SVR F w (.lst k (L.map enc)) (.slice A len cap) := by
  refine .lst (fun i j => ((L[i]?).bind fun a => (cells a)[j]?).getD undef) (by rw [hl, List.length_map]) hlc hcm (fun cs hcs => ?_) (fun hn => ?_) (fun i j hi hj => ?_) (fun i j cs u hc hu => ?_)
  · obtain ⟨a, _, rfl⟩ := List.mem_map.1 hcs
    exact hke a
  · obtain ⟨b, off, hA, hb, hc⟩ := Row.flat hk hr hk0 (by omega)
    refine ⟨b, off, hA, hF b hb, fun i j hi hj => ?_⟩
    have hi' : i < L.length := by omega
    have h2 : j < (cells L[i]).length := by rw [hk]; exact hj
    rw [List.getElem?_eq_getElem hi', Option.bind_some, List.getElem?_eq_getElem h2, Option.getD_some, ← Nat.add_assoc]
    exact hc i _ j _ (List.getElem?_eq_getElem hi') (List.getElem?_eq_getElem h2)
  · have hi' : i < L.length := by omega
    have h2 : j < (cells L[i]).length := by rw [hk]; exact hj
    rw [List.getElem?_eq_getElem hi', Option.bind_some, List.getElem?_eq_getElem h2, Option.getD_some]
    exact hone _ (List.getElem_mem hi') j _ (List.getElem?_eq_getElem h2)
  · rw [List.getElem?_map] at hc
    cases hci : L[i]? with
    | none => rw [hci] at hc; cases hc
    | some a =>
      rw [hci] at hc
      injection hc with hc
      subst hc
      have hj : j < (cells a).length := by
        rw [hk, ← hke a]
        rcases Nat.lt_or_ge j (enc a).length with h | h
        · exact h
        · rw [List.getElem?_eq_none h] at hu; cases hu
      rw [Option.bind_some, List.getElem?_eq_getElem hj, Option.getD_some]
      exact hs a (List.mem_of_getElem? hci) j u _ hu (List.getElem?_eq_getElem hj)
theorem flat_one {α : Type} (f : α → Value) (L : List α) : L.flatMap (fun z => [f z]) = L.map f := by
  induction L with
  | nil => rfl
  | cons a L ih => simp [List.flatMap_cons, ih]
/-- a slice of integers that came in -/
theorem avr_ints {β : Nat → Option Nat} {k : IntKind} {a : Option Addr} {len cap : Nat} {zs : List Int} (h : IsRow k w a len cap zs) :
    AVR (fun b => b < w.heap.size) β w (.lst 1 ((zs.take len).map fun z => [.v (.int k z)])) (.slice a len cap) := by
  obtain ⟨h1, h2, h3, h4, _⟩ := h.row
  refine .s (svr_row (fun z => [.v (.int k z)]) (fun z => [.int k z]) 1 (fun _ => rfl) (fun _ => rfl) (by decide) (fun _ h => h) h2 h3 h4 (by rw [flat_one]; exact h1) (fun a _ j v hv => ?_) (fun a _ j x v hx hv => ?_))
  · cases j with
    | zero => simp at hv; subst hv; rfl
    | succ j => simp at hv
  · cases j with
    | zero => simp at hx hv; subst hx; subst hv; exact .v rfl
    | succ j => simp at hx
end
end Go.Proofs.Ytljfgohecmhchaa
end
section
namespace Go.Proofs.Ytljfgohecmhchaa.bulks
open Go.ChangeShapes Go.WideShapes Go.ChangeAt Go.RowKit

theorem one_le {H : Type} (d : DataW H) : 1 ≤ Rows.uptoBulk d := by
  cases d with
  | lit l => cases l <;> simp [Rows.uptoBulk]
  | nil => simp [Rows.uptoBulk]
  | ptr d => simp [Rows.uptoBulk]
  | slice elems spare => simp [Rows.uptoBulk]
  | agg parts => simp [Rows.uptoBulk]
  | iface t d => simp [Rows.uptoBulk]
  | map entries => simp [Rows.uptoBulk]
  | held h => simp [Rows.uptoBulk]
theorem part_le {H : Type} {d : DataW H} {l : List (DataW H)} (h : d ∈ l) : Rows.uptoBulk d ≤ Rows.uptoBulkAll l := by
  induction l with
  | nil => cases h
  | cons x r ih =>
    simp only [Rows.uptoBulkAll]
    cases List.mem_cons.1 h with
    | inl e => subst e; omega
    | inr e => have := ih e; omega
theorem length_le {H : Type} (l : List (DataW H)) : l.length ≤ Rows.uptoBulkAll l := by
  induction l with
  | nil => simp [Rows.uptoBulkAll]
  | cons x r ih => have := one_le x; simp only [Rows.uptoBulkAll, List.length_cons]; omega
theorem slice_le {H : Type} (elems spare : List (DataW H)) : elems.length + spare.length + 1 ≤ Rows.uptoBulk (.slice elems spare) := by
  have h1 := length_le elems
  have h2 := length_le spare
  simp only [Rows.uptoBulk]
  omega
theorem take_le {H : Type} {k : IntKind} {len cap : Nat} {zs : List Int} (hz : zs.length = cap) (hl : len ≤ cap) : len ≤ Rows.uptoBulk (H := H) (.slice (lits k (zs.take len)) (lits k (zs.drop len))) := by
  refine Nat.le_trans ?_ (slice_le _ _)
  simp [lits]
  omega
theorem bound {H : Type} {l : List (DataW H)} (hk : Rows.uptoSmall H l = true) : Rows.uptoBulkAll l ≤ 1048576 := of_decide_eq_true hk
end Go.Proofs.Ytljfgohecmhchaa.bulks
end
section
namespace Go.Proofs.Ytljfgohecmhchaa
open Go.ChangeShapes Go.WideShapes Go.ChangeAt Go.RowKit Go.Deep

/-! What came in, of any plain type, as abstract values; a law's frame for any plain parameters. -/

def tileB (P : Program) : List Field → Nat → Nat → Bool
  | [], o, n => o == n
  | f :: l, o, n => (f.offset == o) && tileB P l (o + P.cellsOf f.type) n
/-- types of integers, truth values, strings, slices and structs alone -/
def plainTy (P : Program) : Nat → TypeId → Bool
  | 0, _ => false
  | n + 1, t =>
    match P.underlying t with
    | some .bool | some .string => P.cellsOf t == 1
    | some (.int _) => P.cellsOf t == 1
    | some (.slice e) => P.cellsOf t == 1 && Nat.blt 0 (P.cellsOf e) && plainTy P n e
    | some (.struct fs) => tileB P fs.toList 0 (P.cellsOf t) && fs.toList.all fun f => plainTy P n f.type
    | _ => false
/-- what the cells of a value of a type are; no list, no string longer than B -/
def Typed (P : Program) (B : Nat) : Nat → TypeId → List AV → Prop
  | 0, _, _ => False
  | n + 1, t, us =>
    match P.underlying t with
    | some .bool => ∃ b, us = [.v (.bool b)]
    | some (.int k) => ∃ z, us = [.v (.int k z)] ∧ (Lit.int k z).wf = true
    | some .string => ∃ s : ByteArray, us = [.v (.string s)] ∧ s.size ≤ B
    | some (.slice e) => ∃ xs, us = [.lst (P.cellsOf e) xs] ∧ xs.length ≤ B ∧ ∀ cs ∈ xs, cs.length = P.cellsOf e ∧ Typed P B n e cs
    | some (.struct fs) => us.length = P.cellsOf t ∧ ∀ (i : Nat) (f : Field), fs[i]? = some f → Typed P B n f.type ((us.drop f.offset).take (P.cellsOf f.type))
    | _ => False
def TypedA (P : Program) (B n : Nat) (t : TypeId) (x : AV) : Prop :=
  match P.underlying t with
  | some (.struct _) => ∃ us, x = .agg us ∧ Typed P B n t us
  | _ => Typed P B n t [x]
def TypedL (P : Program) (B n : Nat) : List TypeId → List AV → Prop
  | [], [] => True
  | t :: ts, x :: xs => TypedA P B n t x ∧ TypedL P B n ts xs
  | _, _ => False

theorem bulk_slice {H : Type} {elems spare : List (DataW H)} {B : Nat} (h : Rows.uptoBulk (.slice elems spare) ≤ B) : elems.length ≤ B ∧ ∀ d ∈ elems, Rows.uptoBulk d ≤ B := by
  simp only [Rows.uptoBulk] at h
  have h1 := bulks.length_le elems
  exact ⟨by omega, fun d hd => by have := bulks.part_le hd; omega⟩
theorem bulk_agg {H : Type} {parts : List (DataW H)} {B : Nat} (h : Rows.uptoBulk (.agg parts) ≤ B) : ∀ d ∈ parts, Rows.uptoBulk d ≤ B := fun d hd => by
  simp only [Rows.uptoBulk] at h
  have := bulks.part_le hd; omega

section
variable {H : Type} {enc : TypeId × Value → H} {P : Program} {w : World} {base : Nat} {spare : Nat → Bool} {held : Bool}
theorem tile_cover : ∀ (l : List Field) (o n : Nat), tileB P l o n = true → ∀ (us : Nat → List AV), (∀ (i : Nat) (f : Field), l[i]? = some f → (us i).length = P.cellsOf f.type) →
    ∃ r : List AV, r.length = n - o ∧ o ≤ n ∧ (∀ (i : Nat) (f : Field), l[i]? = some f → o ≤ f.offset ∧ (r.drop (f.offset - o)).take (P.cellsOf f.type) = us i) ∧
      ∀ j, j < n - o → ∃ i f q, l[i]? = some f ∧ q < P.cellsOf f.type ∧ o + j = f.offset + q ∧ r[j]? = (us i)[q]? := by
  intro l
  induction l with
  | nil =>
    intro o n h us _
    simp only [tileB, beq_iff_eq] at h
    subst h
    exact ⟨[], by simp, Nat.le_refl _, fun i f h => by simp at h, fun j hj => by omega⟩
  | cons g l ih =>
    intro o n h us hus
    simp only [tileB, Bool.and_eq_true, beq_iff_eq] at h
    obtain ⟨rfl, h⟩ := h
    obtain ⟨r, h1, h2, h3, h4⟩ := ih _ _ h (fun i => us (i + 1)) fun i f hf => hus (i + 1) f (by simpa using hf)
    have hl0 := hus 0 g rfl
    refine ⟨us 0 ++ r, by rw [List.length_append]; omega, by omega, fun i f hf => ?_, fun j hj => ?_⟩
    · cases i with
      | zero =>
        simp only [List.getElem?_cons_zero, Option.some.injEq] at hf
        subst hf
        refine ⟨Nat.le_refl _, ?_⟩
        rw [Nat.sub_self, List.drop_zero, ← hl0, List.take_left]
      | succ i =>
        obtain ⟨g1, g2⟩ := h3 i f (by simpa using hf)
        refine ⟨by omega, ?_⟩
        rw [show f.offset - g.offset = (us 0).length + (f.offset - (g.offset + P.cellsOf g.type)) by omega, List.drop_append, List.drop_of_length_le (by omega), List.nil_append]
        rw [show (us 0).length + (f.offset - (g.offset + P.cellsOf g.type)) - (us 0).length = f.offset - (g.offset + P.cellsOf g.type) by omega]
        exact g2
    · rcases Nat.lt_or_ge j (us 0).length with hlt | hge
      · exact ⟨0, g, j, rfl, by omega, rfl, by rw [List.getElem?_append_left hlt]⟩
      · obtain ⟨i, f, q, g1, g2, g3, g4⟩ := h4 (j - (us 0).length) (by omega)
        exact ⟨i + 1, f, q, by simpa using g1, g2, by omega, by rw [List.getElem?_append_right hge]; exact g4⟩

theorem open_gen (B : Nat) : ∀ (n : Nat) (t : TypeId), plainTy P n t = true → ∀ (fuel : Nat) (cs : List Value) (x : DataW H × List MemPlace), DataW.trod enc P w base spare held fuel t cs = some x → (Rows.uptoBulk x.1 ≤ B ∨ maxLen ≤ B) →
    ∃ us : List AV, us.length = cs.length ∧ cs.length = P.cellsOf t ∧ (∀ (j : Nat) (u : AV) (v : Value), us[j]? = some u → cs[j]? = some v → SVR (fun b => b < w.heap.size) w u v) ∧ Typed P B n t us := by
  intro n
  induction n with
  | zero => intro t h; cases h
  | succ n ih =>
    intro t hp fuel cs x h hB
    have one : ∀ (u : AV) (v : Value), SVR (fun b => b < w.heap.size) w u v → ∀ (j : Nat) (u' : AV) (v' : Value), [u][j]? = some u' → [v][j]? = some v' → SVR (fun b => b < w.heap.size) w u' v' := fun u v hs j u' v' h1 h2 => by
      cases j with
      | zero => simp only [List.getElem?_cons_zero, Option.some.injEq] at h1 h2; subst h1; subst h2; exact hs
      | succ j => simp at h1
    unfold plainTy at hp
    split at hp
    · rename_i ht
      obtain ⟨b, rfl, rfl⟩ := DataW.trod_bool ht h
      simp only [beq_iff_eq] at hp
      exact ⟨[.v (.bool b)], rfl, hp.symm, one _ _ (.v rfl), by unfold Typed; rw [ht]; exact ⟨b, rfl⟩⟩
    · rename_i ht
      obtain ⟨s, rfl, rfl, hs⟩ := DataW.trod_string ht h
      simp only [beq_iff_eq] at hp
      have hsB : s.size ≤ B := by
        rcases hB with hB | hB
        · simp only [Rows.uptoBulk] at hB
          have h1 : s.data.toList.length = s.size := by rw [Array.length_toList]; rfl
          omega
        · exact Nat.le_trans hs hB
      refine ⟨[.v (.string s)], rfl, hp.symm, one _ _ (.v rfl), ?_⟩
      unfold Typed
      rw [ht]
      exact ⟨s, rfl, hsB⟩
    · rename_i k ht
      obtain ⟨z, rfl, rfl, hz⟩ := DataW.trod_int ht h
      simp only [beq_iff_eq] at hp
      exact ⟨[.v (.int k z)], rfl, hp.symm, one _ _ (.v rfl), by unfold Typed; rw [ht]; exact ⟨z, rfl, hz⟩⟩
    · rename_i e ht
      simp only [Bool.and_eq_true, beq_iff_eq] at hp
      obtain ⟨⟨hp1, hp2⟩, hp3⟩ := hp
      have hk0 : 0 < P.cellsOf e := Nat.le_of_ble_eq_true hp2
      rcases open_slice ht h with ⟨h0, _⟩ | ⟨a, len, cap, m, f', D, Pl, rfl, hb, hl, hm, hmm, hx0, hx⟩
      · subst h0
        refine ⟨[.lst (P.cellsOf e) []], rfl, hp1.symm, one _ _ (.lst (fun _ _ => .nilFunc) rfl (Nat.le_refl _) (by decide) (fun cs h => by cases h) (fun h => absurd h (Nat.lt_irrefl _)) (fun i j hi => absurd hi (Nat.not_lt_zero _)) (fun i j cs u h => by simp at h)), ?_⟩
        unfold Typed
        rw [ht]
        exact ⟨[], rfl, Nat.zero_le _, fun cs h => by cases h⟩
      · have hlm : len ≤ m := by rw [hmm]; split <;> omega
        have hBe : ∀ i, i < len → Rows.uptoBulk (D i) ≤ B ∨ maxLen ≤ B := fun i hi => by
          rcases hB with hB | hB
          · rw [hx0] at hB
            exact .inl ((bulk_slice hB).2 _ (List.mem_map.2 ⟨i, List.mem_range.2 hi, rfl⟩))
          · exact .inr hB
        have hBl : len ≤ B := by
          rcases hB with hB | hB
          · rw [hx0] at hB
            have := (bulk_slice hB).1
            simpa using this
          · omega
        obtain ⟨f, hf⟩ := choose_lt (n := len) (p := fun i (y : List AV × List Value) => w.cells? base (a.add (i * P.cellsOf e)) (P.cellsOf e) = some y.2 ∧ y.1.length = y.2.length ∧ y.2.length = P.cellsOf e ∧
            (∀ (j : Nat) (u : AV) (v : Value), y.1[j]? = some u → y.2[j]? = some v → SVR (fun b => b < w.heap.size) w u v) ∧ Typed P B n e y.1) (fun i hi => by
          obtain ⟨cs', h1, h2⟩ := hx i (by omega)
          obtain ⟨us, g1, g2, g3, g4⟩ := ih e hp3 _ _ _ h2 (hBe i hi)
          exact ⟨(us, cs'), h1, g1, g2, g3, g4⟩)
        refine ⟨[.lst (P.cellsOf e) ((List.range len).map fun i => (f i).1)], rfl, hp1.symm, one _ _ ?_, ?_⟩
        · refine .lst (fun i j => ((f i).2[j]?).getD undef) (by simp) hl hm (fun cs hcs => ?_) (fun hn => ?_) (fun i j hi hj => ?_) (fun i j cs u hc hu => ?_)
          · obtain ⟨i, hi, rfl⟩ := List.mem_map.1 hcs
            have := hf i (List.mem_range.1 hi)
            omega
          · have hcell : ∀ i j, i < len → j < P.cellsOf e → w.cell? ((a.add (i * P.cellsOf e)).add j) = (f i).2[j]? := fun i j hi hj => (World.cells?_some (hf i hi).1).2.2 j hj
            obtain ⟨b, off, spot⟩ := a
            have h00 := hcell 0 0 hn hk0
            rw [Nat.zero_mul] at h00
            have hz : ((⟨b, off, spot⟩ : Addr).add 0).add 0 = ⟨b, off, spot⟩ := by simp [Addr.add]
            rw [hz, List.getElem?_eq_getElem (by have := hf 0 hn; omega)] at h00
            have hspot : spot = none := World.cell?_spot h00
            subst hspot
            refine ⟨b, off, rfl, World.block_lt_of_cell? w _ h00, fun i j hi hj => ?_⟩
            have h5 := hcell i j hi hj
            rw [add_add, addr_plain] at h5
            rw [h5, List.getElem?_eq_getElem (by have := hf i hi; omega)]
            rfl
          · have h5 := hf i hi
            have hj1 : j < (f i).1.length := by omega
            have hj2 : j < (f i).2.length := by omega
            rw [List.getElem?_eq_getElem hj2, Option.getD_some]
            exact (h5.2.2.2.1 j _ _ (List.getElem?_eq_getElem hj1) (List.getElem?_eq_getElem hj2)).one
          · rw [List.getElem?_map] at hc
            rcases Nat.lt_or_ge i len with hi | hi
            · rw [List.getElem?_range hi] at hc
              simp only [Option.map_some, Option.some.injEq] at hc
              subst hc
              have h5 := hf i hi
              have hj1 : j < (f i).1.length := lt_of_get hu
              have hj2 : j < (f i).2.length := by omega
              rw [List.getElem?_eq_getElem hj2, Option.getD_some]
              exact h5.2.2.2.1 j _ _ hu (List.getElem?_eq_getElem hj2)
            · rw [List.getElem?_eq_none (by simpa using hi)] at hc; cases hc
        · unfold Typed
          rw [ht]
          refine ⟨_, rfl, by simpa using hBl, fun cs hcs => ?_⟩
          obtain ⟨i, hi, rfl⟩ := List.mem_map.1 hcs
          have := hf i (List.mem_range.1 hi)
          exact ⟨by omega, this.2.2.2.2⟩
    · rename_i fs ht
      simp only [Bool.and_eq_true, List.all_eq_true] at hp
      obtain ⟨hp1, hp2⟩ := hp
      obtain ⟨xs, n', rfl, hx0, hlen, hxl, hf⟩ := DataW.trod_struct ht h
      have hBe : ∀ (i : Nat) (y : DataW H × List MemPlace), xs[i]? = some y → Rows.uptoBulk y.1 ≤ B ∨ maxLen ≤ B := fun i y hy => by
        rcases hB with hB | hB
        · rw [hx0] at hB
          exact .inl (bulk_agg hB _ (List.mem_map.2 ⟨y, List.mem_of_getElem? hy, rfl⟩))
        · exact .inr hB
      obtain ⟨us, hus⟩ := choose_lt (n := fs.size) (p := fun i (u : List AV) => ∀ f, fs[i]? = some f → u.length = P.cellsOf f.type ∧ ((cs.drop f.offset).take (P.cellsOf f.type)).length = P.cellsOf f.type ∧
          (∀ (j : Nat) (a : AV) (v : Value), u[j]? = some a → ((cs.drop f.offset).take (P.cellsOf f.type))[j]? = some v → SVR (fun b => b < w.heap.size) w a v) ∧ Typed P B n f.type u) (fun i hi => by
        have hix : i < xs.length := by omega
        have hfi := hf i fs[i] (Array.getElem?_eq_getElem hi)
        rw [List.getElem?_eq_getElem hix] at hfi
        obtain ⟨u, g1, g2, g3, g4⟩ := ih (fs[i]).type (hp2 _ (by simp)) _ _ _ hfi (hBe i _ (List.getElem?_eq_getElem hix))
        refine ⟨u, fun f hf' => ?_⟩
        rw [Array.getElem?_eq_getElem hi] at hf'
        injection hf' with hf'
        subst hf'
        exact ⟨by omega, g2, g3, g4⟩)
      have lt_of : ∀ (i : Nat) (f : Field), fs[i]? = some f → i < fs.size := fun i f h => by
        rcases Nat.lt_or_ge i fs.size with h' | h'
        · exact h'
        · rw [Array.getElem?_eq_none h'] at h; cases h
      obtain ⟨r, r1, r2, r3, r4⟩ := tile_cover fs.toList 0 (P.cellsOf t) hp1 us fun i f hf' => by
        have hf'' : fs[i]? = some f := by simpa using hf'
        exact (hus i (lt_of i f hf'') f hf'').1
      refine ⟨r, by omega, hlen, fun j u v hu hv => ?_, ?_⟩
      · obtain ⟨i, f, q, g1, g2, g3, g4⟩ := r4 j (by have := lt_of_get hu; omega)
        have g1' : fs[i]? = some f := by simpa using g1
        rw [hu] at g4
        refine (hus i (lt_of i f g1') f g1').2.2.1 q u v g4.symm ?_
        rw [List.getElem?_take_of_lt g2, List.getElem?_drop, ← g3, Nat.zero_add]
        exact hv
      · unfold Typed
        rw [ht]
        refine ⟨by omega, fun i f hf' => ?_⟩
        have := (r3 i f (by simpa using hf')).2
        rw [Nat.sub_zero] at this
        rw [this]
        exact (hus i (lt_of i f hf') f hf').2.2.2
    · cases hp

theorem open_arg {B n : Nat} {t : TypeId} (hp : plainTy P n t = true) {v : Value} {d : DataW H} {p : List MemPlace} (h : DataW.Trod enc P w base spare held t v d p) {r : Reach} {b0 : Nat} (ho : Value.okWide P w r b0 t v) (hB : Rows.uptoBulk d ≤ B ∨ maxLen ≤ B) :
    ∃ x, AVR (fun b => b < w.heap.size) (fun _ => none) w x v ∧ TypedA P B n t x := by
  obtain ⟨fuel, hf⟩ := h
  obtain ⟨us, h1, h2, h3, h4⟩ := open_gen B n t hp fuel _ _ hf hB
  have leaf : v.cells = #[v] → (∀ fs, P.underlying t ≠ some (.struct fs)) → ∃ x, AVR (fun b => b < w.heap.size) (fun _ => none) w x v ∧ TypedA P B n t x := fun hv hns => by
    rw [hv] at h1 h3
    obtain ⟨u, rfl⟩ := List.length_eq_one_iff.1 (show us.length = 1 by simpa using h1)
    refine ⟨u, .s (h3 0 u v rfl rfl), ?_⟩
    unfold TypedA
    split
    · rename_i fs ht; exact absurd ht (hns fs)
    · exact h4
  have hp' := hp
  cases n with
  | zero => cases hp
  | succ n =>
  unfold plainTy at hp'
  split at hp'
  · rename_i ht
    obtain ⟨b, rfl⟩ := okWide_bool ht ho
    exact leaf rfl fun fs h => by rw [ht] at h; cases h
  · rename_i ht
    obtain ⟨b, rfl⟩ := okWide_string ht ho
    exact leaf rfl fun fs h => by rw [ht] at h; cases h
  · rename_i k ht
    obtain ⟨b, rfl⟩ := okWide_int ht ho
    exact leaf rfl fun fs h => by rw [ht] at h; cases h
  · rename_i e ht
    obtain ⟨a, l, c, rfl⟩ := okWide_slice ht ho
    exact leaf rfl fun fs h => by rw [ht] at h; cases h
  · rename_i fs ht
    obtain ⟨cs, rfl, hcs⟩ := okWide_struct ht ho
    have hc : (Value.agg cs).cells = cs := rfl
    rw [hc] at h1 h3
    refine ⟨.agg us, .agg (by simpa using h1.symm) (fun i u hu => ?_) (fun i c u hc hu => .s (h3 i c u hc (by simpa using hu))), ?_⟩
    · have hi : i < us.length := by
        rw [h1]
        have := lt_of_get (l := cs.toList) (i := i) (x := u) (by simpa using hu)
        exact this
      exact (h3 i _ u (List.getElem?_eq_getElem hi) (by simpa using hu)).one
    · unfold TypedA
      rw [ht]
      exact ⟨us, rfl, h4⟩
  · cases hp'

theorem open_args {B n : Nat} {r : Reach} {b0 : Nat} : ∀ (ts : List TypeId) (vs : List Value) (ds : List (DataW H)) (p : List MemPlace), DataW.TrodAll enc P w base spare held ts vs ds p → (∀ t ∈ ts, plainTy P n t = true) →
    (∀ (j : Nat) t v, ts[j]? = some t → vs[j]? = some v → Value.okWide P w r b0 t v) → (Rows.uptoBulkAll ds ≤ B ∨ maxLen ≤ B) →
    ds.length = ts.length ∧ vs.length = ts.length ∧ ∃ as' : List AV, as'.length = vs.length ∧ (∀ (i : Nat) (x : AV) (v : Value), as'[i]? = some x → vs[i]? = some v → AVR (fun b => b < w.heap.size) (fun _ => none) w x v) ∧ TypedL P B n ts as' := by
  intro ts
  induction ts with
  | nil =>
    intro vs ds p h _ _ _
    obtain ⟨rfl, rfl, rfl⟩ := trodAll_nil h
    exact ⟨rfl, rfl, [], rfl, fun i x v h => by simp at h, trivial⟩
  | cons t ts ih =>
    intro vs ds p h hp ho hB
    obtain ⟨v, vs', d, ds', p1, q, rfl, rfl, rfl, h1, h2⟩ := trodAll_cons h
    have hB1 : Rows.uptoBulk d ≤ B ∨ maxLen ≤ B := hB.imp (fun h => by simp only [Rows.uptoBulkAll] at h; omega) id
    have hB2 : Rows.uptoBulkAll ds' ≤ B ∨ maxLen ≤ B := hB.imp (fun h => by simp only [Rows.uptoBulkAll] at h; omega) id
    obtain ⟨x, g1, g2⟩ := open_arg (hp t (.head _)) h1 (ho 0 t v rfl rfl) hB1
    obtain ⟨e1, e2, as', g3, g4, g5⟩ := ih vs' ds' q h2 (fun t ht => hp t (.tail _ ht)) (fun j t v h1 h2 => ho (j + 1) t v (by simpa using h1) (by simpa using h2)) hB2
    refine ⟨by simp [e1], by simp [e2], x :: as', by simp [g3], fun i y u hy hu => ?_, g2, g5⟩
    cases i with
    | zero => simp only [List.getElem?_cons_zero, Option.some.injEq] at hy hu; subst hy; subst hu; exact g1
    | succ i => exact g4 i y u (by simpa using hy) (by simpa using hu)
end

theorem trodAll_stays {H : Type} {enc : TypeId × Value → H} {P : Program} (hl : laidOutB P = true) {W W' : World} (hb : Below W.heap.size W W') : ∀ (ts : List TypeId) (vs : List Value) (ds : List (DataW H)) (p : List MemPlace),
    (∀ t ∈ ts, P.readableRec t = true ∧ t < P.types.size) → DataW.TrodAll enc P W 0 (fun _ => true) true ts vs ds p → DataW.TrodAll enc P W' 0 (fun b => decide (b < W.heap.size)) true ts vs ds p := by
  intro ts
  induction ts with
  | nil =>
    intro vs ds p _ h
    obtain ⟨rfl, rfl, rfl⟩ := trodAll_nil h
    exact trodAll_mk0
  | cons t ts ih =>
    intro vs ds p hr h
    obtain ⟨v, vs', d, ds', p1, q, rfl, rfl, rfl, h1, h2⟩ := trodAll_cons h
    have hlt : ∀ x ∈ p1, x.block < W.heap.size := by obtain ⟨m, hm⟩ := h1; exact DataW.trod_lt m _ _ _ hm
    exact trodAll_cons_mk (Below.trod hl (hr t (.head _)).1 (hr t (.head _)).2 h1 hb hlt) (ih vs' ds' q (fun t ht => hr t (.tail _ ht)) h2)

/-- a law's contract, of inputs of bulk at most B -/
theorem law_contractF {P : Program} (hl : laidOutB P = true) {f : FuncId} {fn : Func} {spec : ChangeSpec} {tb B n : Nat} (hvars : spec.vars = []) (hres : fn.resultTypes = #[tb]) (htb : P.underlying tb = some .bool)
    (hfn : ∀ (H : Type) (ds : List (DataW H)), ds.length = fn.params.toList.length → spec.fn H ds = { results := [.lit (.bool true)], args := ds, vars := [] })
    (hplain : (fn.params.toList.all fun t => plainTy P n t && P.readableRec t && decide (t < P.types.size)) = true)
    (walk : ∀ as', TypedL P B n fn.params.toList as' → PCall P f as' (fun r => r = .v (.bool true)))
    (H : Type) (enc : TypeId × Value → H) (W : World) (base : Nat) (args : Array Value) (ds gs : List (DataW H)) (before : List MemPlace)
    (hval : ∀ (j : Nat) t v, fn.params[j]? = some t → args[j]? = some v → Value.okWide P W .any base t v)
    (hW : DataW.Whole enc P fn.params.toList spec.vars false W args.toList ds gs before) (hk : Rows.uptoBulkAll (ds ++ gs) ≤ B ∨ maxLen ≤ B) (hF : FOK (fun b => b < W.heap.size) W) :
    Calls P f args W fun e W' => ∃ v, e = .returned v ∧ spec.post enc P fn false true false false W args v W' := by
  have hW' := hW
  obtain ⟨p, q, hA, hV, rfl, hfz, hnd⟩ := hW
  rw [hvars] at hV
  obtain ⟨rfl, rfl⟩ := trodVars_none hV
  rw [List.append_nil] at hk
  simp only [List.all_eq_true, Bool.and_eq_true, decide_eq_true_eq] at hplain
  obtain ⟨e1, e2, as', g1, g2, g3⟩ := open_args _ _ _ _ hA (fun t ht => (hplain t ht).1.1) (fun j t v h1 h2 => hval j t v (by simpa using h1) (by simpa using h2)) hk
  refine (PCall.row (walk as' g3) args (by simpa using g1.symm) (fun i x v hx hv => g2 i x v hx (by simpa using hv)) hF).mono fun e W' ⟨he, bel⟩ => ?_
  subst he
  have hs : spec.fn H (ds ++ []) = { results := [.lit (.bool true)], args := ds, vars := [] } := by rw [List.append_nil]; exact hfn H ds e1
  refine ⟨_, rfl, ds, [], _, [], p, [], hW', ?_, ?_, ?_, bel.frame _, fun h => by cases h⟩
  · rw [hs, hres]
    exact trodAll_mk1 (shut_bool htb _)
  · rw [hs]
    exact trodAll_stays hl bel _ _ _ _ (fun t ht => ⟨(hplain t ht).1.2, (hplain t ht).2⟩) hA
  · rw [hs, hvars]; rfl
end Go.Proofs.Ytljfgohecmhchaa
end
section
namespace Go.Proofs.Ytljfgohecmhchaa
open Go.ChangeShapes Go.WideShapes Go.ChangeAt Go.RowKit
/-! What came in, as lists of plain Lean. -/
set_option maxRecDepth 100000
section
variable {P : Program} {B n : Nat} {t e : TypeId} {us : List AV}
theorem td_int {k : IntKind} (ht : P.underlying t = some (.int k)) (h : Typed P B (n + 1) t us) : ∃ z, us = [.v (.int k z)] ∧ (Lit.int k z).wf = true := by
  unfold Typed at h; rw [ht] at h; exact h
theorem td_bool (ht : P.underlying t = some .bool) (h : Typed P B (n + 1) t us) : ∃ b, us = [.v (.bool b)] := by
  unfold Typed at h; rw [ht] at h; exact h
theorem td_str (ht : P.underlying t = some .string) (h : Typed P B (n + 1) t us) : ∃ s : ByteArray, us = [.v (.string s)] ∧ s.size ≤ B := by
  unfold Typed at h; rw [ht] at h; exact h
theorem tl_cons {ts : List TypeId} {as' : List AV} (h : TypedL P B n (t :: ts) as') : ∃ x xs, as' = x :: xs ∧ TypedA P B n t x ∧ TypedL P B n ts xs := by
  cases as' with
  | nil => exact h.elim
  | cons x xs => exact ⟨x, xs, rfl, h.1, h.2⟩
theorem tl_nil {as' : List AV} (h : TypedL P B n [] as') : as' = [] := by
  cases as' with
  | nil => rfl
  | cons x xs => exact h.elim
theorem td_struct {fs : Array Field} {k : Nat} (ht : P.underlying t = some (.struct fs)) (hk : P.cellsOf t = k) (h : Typed P B (n + 1) t us) : us.length = k ∧ ∀ (i : Nat) (f : Field), fs[i]? = some f → Typed P B n f.type ((us.drop f.offset).take (P.cellsOf f.type)) := by
  unfold Typed at h; rw [ht, hk] at h; exact h
theorem td_argS {fs : Array Field} {x : AV} (ht : P.underlying t = some (.struct fs)) (h : TypedA P B n t x) : ∃ us, x = .agg us ∧ Typed P B n t us := by
  unfold TypedA at h; rw [ht] at h; exact h
theorem td_list {α : Type} {xs : List (List AV)} {enc : α → List AV} {p : α → Prop} (h : ∀ cs ∈ xs, ∃ a, cs = enc a ∧ p a) : ∃ l : List α, xs = l.map enc ∧ ∀ a ∈ l, p a := by
  induction xs with
  | nil => exact ⟨[], rfl, fun a h => by cases h⟩
  | cons x xs ih =>
    obtain ⟨a, rfl, ha⟩ := h x (.head _)
    obtain ⟨l, rfl, hl⟩ := ih fun cs hcs => h cs (.tail _ hcs)
    exact ⟨a :: l, rfl, fun b hb => by rcases List.mem_cons.1 hb with rfl | hb; (· exact ha); exact hl b hb⟩
theorem td_slice {α : Type} {enc : α → List AV} {p : α → Prop} {k : Nat} (ht : P.underlying t = some (.slice e)) (hk : P.cellsOf e = k) (h : Typed P B (n + 1) t us) (he : ∀ cs, Typed P B n e cs → ∃ a, cs = enc a ∧ p a) :
    ∃ l : List α, us = [.lst k (l.map enc)] ∧ l.length ≤ B ∧ ∀ a ∈ l, p a := by
  unfold Typed at h
  rw [ht] at h
  obtain ⟨xs, rfl, h1, h2⟩ := h
  obtain ⟨l, rfl, h3⟩ := td_list (enc := enc) (p := p) fun cs hcs => he cs (h2 cs hcs).2
  exact ⟨l, by rw [hk], by simpa using h1, h3⟩
theorem td_ints {k : IntKind} (ht : P.underlying t = some (.slice e)) (he : P.underlying e = some (.int k)) (hk : P.cellsOf e = 1) (h : Typed P B (n + 2) t us) :
    ∃ l : List Int, us = [.lst 1 (l.map fun z => [.v (.int k z)])] ∧ l.length ≤ B ∧ ∀ z ∈ l, (Lit.int k z).wf = true :=
  td_slice ht hk h fun cs hcs => by obtain ⟨z, h1, h2⟩ := td_int he hcs; exact ⟨z, h1, h2⟩
end
def PartOK (B : Nat) (p : PartM) : Prop := p.label.size ≤ B ∧ I64 p.tag ∧ I64 p.ty
def TypeOK (B : Nat) (t : TypeM) : Prop := I64 t.kind ∧ I64 t.n ∧ I64 t.elem ∧ t.parts.length ≤ B ∧ ∀ p ∈ t.parts, PartOK B p
def RootOK (B : Nat) (r : RootM) : Prop := r.name.size ≤ B ∧ I64 r.ty
theorem c_int : (Try.prog).cellsOf 3 = 1 := by kernel_rfl
theorem c_str : (Try.prog).cellsOf 9 = 1 := by kernel_rfl
theorem c_parts : (Try.prog).cellsOf 58 = 1 := by kernel_rfl
theorem c_part : (Try.prog).cellsOf 62 = 3 := by kernel_rfl
theorem c_type : (Try.prog).cellsOf 60 = 4 := by kernel_rfl
theorem c_root : (Try.prog).cellsOf 64 = 2 := by kernel_rfl
theorem c_types : (Try.prog).cellsOf 22 = 1 := by kernel_rfl
theorem c_roots : (Try.prog).cellsOf 23 = 1 := by kernel_rfl
theorem c_schema : (Try.prog).cellsOf 25 = 2 := by kernel_rfl
theorem td_part {B n : Nat} {us : List AV} (h : Typed Try.prog B (n + 2) 62 us) : ∃ p, us = encP p ∧ PartOK B p := by
  obtain ⟨hl, hf⟩ := td_struct Try.underlying62 c_part h
  have h0 : Typed Try.prog B _ 9 ((us.drop 0).take ((Try.prog).cellsOf 9)) := hf 0 _ rfl
  have h1 : Typed Try.prog B _ 3 ((us.drop 1).take ((Try.prog).cellsOf 3)) := hf 1 _ rfl
  have h2 : Typed Try.prog B _ 3 ((us.drop 2).take ((Try.prog).cellsOf 3)) := hf 2 _ rfl
  match us, hl, h0, h1, h2 with
  | [u0, u1, u2], _, h0, h1, h2 =>
  simp only [c_str, c_int, List.drop_zero, List.drop_succ_cons, List.take_succ_cons, List.take_zero] at h0 h1 h2
  obtain ⟨s, g1, g2⟩ := td_str Try.underlying9 h0
  obtain ⟨a, g3, g4⟩ := td_int Try.underlying3 h1
  obtain ⟨b, g5, g6⟩ := td_int Try.underlying3 h2
  injection g1 with g1; injection g3 with g3; injection g5 with g5
  subst g1; subst g3; subst g5
  exact ⟨⟨s, a, b⟩, rfl, g2, I64.of_wf g4, I64.of_wf g6⟩
theorem td_root {B n : Nat} {us : List AV} (h : Typed Try.prog B (n + 2) 64 us) : ∃ r, us = encR r ∧ RootOK B r := by
  obtain ⟨hl, hf⟩ := td_struct Try.underlying64 c_root h
  have h0 : Typed Try.prog B _ 9 ((us.drop 0).take ((Try.prog).cellsOf 9)) := hf 0 _ rfl
  have h1 : Typed Try.prog B _ 3 ((us.drop 1).take ((Try.prog).cellsOf 3)) := hf 1 _ rfl
  match us, hl, h0, h1 with
  | [u0, u1], _, h0, h1 =>
  simp only [c_str, c_int, List.drop_zero, List.drop_succ_cons, List.take_succ_cons, List.take_zero] at h0 h1
  obtain ⟨s, g1, g2⟩ := td_str Try.underlying9 h0
  obtain ⟨a, g3, g4⟩ := td_int Try.underlying3 h1
  injection g1 with g1; injection g3 with g3
  subst g1; subst g3
  exact ⟨⟨s, a⟩, rfl, g2, I64.of_wf g4⟩
theorem td_type {B n : Nat} {us : List AV} (h : Typed Try.prog B (n + 4) 60 us) : ∃ t, us = encT t ∧ TypeOK B t := by
  obtain ⟨hl, hf⟩ := td_struct Try.underlying60 c_type h
  have h0 : Typed Try.prog B _ 3 ((us.drop 0).take ((Try.prog).cellsOf 3)) := hf 0 _ rfl
  have h1 : Typed Try.prog B _ 3 ((us.drop 1).take ((Try.prog).cellsOf 3)) := hf 1 _ rfl
  have h2 : Typed Try.prog B _ 3 ((us.drop 2).take ((Try.prog).cellsOf 3)) := hf 2 _ rfl
  have h3 : Typed Try.prog B _ 58 ((us.drop 3).take ((Try.prog).cellsOf 58)) := hf 3 _ rfl
  match us, hl, h0, h1, h2, h3 with
  | [u0, u1, u2, u3], _, h0, h1, h2, h3 =>
  simp only [c_parts, c_int, List.drop_zero, List.drop_succ_cons, List.take_succ_cons, List.take_zero] at h0 h1 h2 h3
  obtain ⟨a, g1, g2⟩ := td_int Try.underlying3 h0
  obtain ⟨b, g3, g4⟩ := td_int Try.underlying3 h1
  obtain ⟨c, g5, g6⟩ := td_int Try.underlying3 h2
  obtain ⟨l, g7, g8, g9⟩ := td_slice Try.underlying58 c_part h3 (fun cs => td_part)
  injection g1 with g1; injection g3 with g3; injection g5 with g5; injection g7 with g7
  subst g1; subst g3; subst g5; subst g7
  exact ⟨⟨a, b, c, l⟩, rfl, I64.of_wf g2, I64.of_wf g4, I64.of_wf g6, g8, g9⟩
theorem td_schema {B n : Nat} {x : AV} (h : TypedA Try.prog B (n + 6) 25 x) : ∃ ts rs, x = vSch ts rs ∧ ts.length ≤ B ∧ rs.length ≤ B ∧ (∀ t ∈ ts, TypeOK B t) ∧ ∀ r ∈ rs, RootOK B r := by
  obtain ⟨us, rfl, h'⟩ := td_argS Try.underlying25 h
  obtain ⟨hl, hf⟩ := td_struct Try.underlying25 c_schema h'
  have h0 : Typed Try.prog B _ 22 ((us.drop 0).take ((Try.prog).cellsOf 22)) := hf 0 _ rfl
  have h1 : Typed Try.prog B _ 23 ((us.drop 1).take ((Try.prog).cellsOf 23)) := hf 1 _ rfl
  match us, hl, h0, h1 with
  | [u0, u1], _, h0, h1 =>
  simp only [c_types, c_roots, List.drop_zero, List.drop_succ_cons, List.take_succ_cons, List.take_zero] at h0 h1
  obtain ⟨ts, g1, g2, g3⟩ := td_slice Try.underlying22 c_type h0 (fun cs => td_type)
  obtain ⟨rs, g4, g5, g6⟩ := td_slice Try.underlying23 c_root h1 (fun cs => td_root)
  injection g1 with g1; injection g4 with g4
  subst g1; subst g4
  exact ⟨ts, rs, rfl, g2, g5, g3, g6⟩
/-- a list of integers as a parameter -/
theorem td_arg_ints {P : Program} {B n : Nat} {t e : TypeId} {x : AV} {k : IntKind} (ht : P.underlying t = some (.slice e)) (he : P.underlying e = some (.int k)) (hk : P.cellsOf e = 1) (h : TypedA P B (n + 2) t x) :
    ∃ l : List Int, x = .lst 1 (l.map fun z => [.v (.int k z)]) ∧ l.length ≤ B ∧ ∀ z ∈ l, (Lit.int k z).wf = true := by
  unfold TypedA at h
  rw [ht] at h
  obtain ⟨l, h1, h2, h3⟩ := td_ints ht he hk h
  injection h1 with h1
  exact ⟨l, h1, h2, h3⟩
theorem td_arg_int {P : Program} {B n : Nat} {t : TypeId} {x : AV} {k : IntKind} (ht : P.underlying t = some (.int k)) (h : TypedA P B (n + 1) t x) : ∃ z, x = .v (.int k z) ∧ (Lit.int k z).wf = true := by
  unfold TypedA at h
  rw [ht] at h
  obtain ⟨z, h1, h2⟩ := td_int ht h
  injection h1 with h1
  exact ⟨z, h1, h2⟩
end Go.Proofs.Ytljfgohecmhchaa
end
section
namespace Go.Proofs.Ytljfgohecmhchaa
open Go.RowKit
set_option maxRecDepth 100000
set_option maxHeartbeats 8000000
def ssum (l : List SlotM) : Int := l.foldl (fun a s => plusL [a, s.size]) 0
theorem ssum_succ {l : List SlotM} {k : Nat} (h : k < l.length) : ssum (l.take (k + 1)) = plusL [ssum (l.take k), l[k].size] := by
  rw [List.take_succ_eq_append_getElem h, ssum, List.foldl_append]; rfl
theorem plusL2 {a b : Int} (ha : 0 ≤ a ∧ a ≤ 4611686018427387904) (hb : 0 ≤ b ∧ b ≤ 4611686018427387904) : plusL [a, b] = min (a + b) 4611686018427387904 := by
  show addS (addS 0 a) b = _
  unfold addS sz
  omega
theorem ssum_bd : ∀ (l : List SlotM), 0 ≤ ssum l ∧ ssum l ≤ 4611686018427387904 := fun l => by
  rcases List.eq_nil_or_concat l with rfl | ⟨l', s, rfl⟩
  · exact ⟨by decide, by decide⟩
  · rw [ssum, List.concat_eq_append, List.foldl_append]; exact plusL_bd _
structure LayOK (kind : Int) (l : LayM) (x : ExtM) : Prop where
  len : l.slots.length ≤ 1000000000
  other : ¬ (kind = 8 ∨ kind = 4) → l.size = 0 ∧ l.slots.length ≤ 1
  at_ : kind = 8 ∨ kind = 4 → ∀ (k : Nat) (h : k < l.slots.length), l.slots[k].at_ = ssum (l.slots.take k)
  size : ∀ s ∈ l.slots, (s.var = true → s.size = 4) ∧ 1 ≤ s.size ∧ s.size ≤ 4611686018427387904
  sum : kind = 8 → ssum l.slots = l.size
  any : kind = 8 ∨ kind = 4 → (l.slots.any (·.var)) = !x.fixed
  fixed : kind = 8 ∨ kind = 4 → x.fixed = true → l.size = x.least ∧ l.size = x.most
theorem encLs_get {l : List LayM} {k : Nat} (h : k < l.length) : (encLs l)[k]? = some [vI l[k].size, .lst 3 (encSs l[k].slots)] := by simp [encLs, encL, h]
theorem encSs_get {l : List SlotM} {k : Nat} (h : k < l.length) : (encSs l)[k]? = some [vI l[k].at_, vB l[k].var, vI l[k].size] := by simp [encSs, encS, h]
end Go.Proofs.Ytljfgohecmhchaa
end
section
namespace Go.Proofs.Ytljfgohecmhchaa
open Go.RowKit
theorem exts_take {ts : List TypeM} : ∀ (m k : Nat), k ≤ m → m ≤ ts.length → exts (ts.take k) = (exts (ts.take m)).take k := by
  intro m
  induction m with
  | zero =>
    intro k hk _
    have : k = 0 := by omega
    subst this; rfl
  | succ m ih =>
    intro k hk hm
    rw [exts_succ (by omega)]
    have hl := exts_len ts m (by omega)
    rcases Nat.lt_or_ge k (m + 1) with h | h
    · rw [List.take_append_of_le_length (by omega)]; exact ih k (by omega) (by omega)
    · have : k = m + 1 := by omega
      subst this
      rw [exts_succ (show m < ts.length by omega)]
      exact (List.take_of_length_le (by rw [List.length_append, hl]; exact Nat.le_refl _)).symm
theorem exts_get {ts : List TypeM} {k : Nat} (h : k < ts.length) : (exts ts)[k]? = some (extM ts[k] (exts (ts.take k))) := by
  have h1 := exts_take (ts := ts) ts.length (k + 1) (by omega) (Nat.le_refl _)
  rw [take_len (Nat.le_refl _)] at h1
  have h2 : ((exts ts).take (k + 1))[k]? = (exts ts)[k]? := List.getElem?_take_of_lt (by omega)
  rw [← h2, ← h1, exts_succ h, List.getElem?_append_right (by rw [exts_len ts k (by omega)]; exact Nat.le_refl _), exts_len ts k (by omega), Nat.sub_self]; rfl
theorem atE_take {ts : List TypeM} {k : Nat} (hk : k ≤ ts.length) {i : Int} (h0 : 0 ≤ i) (h : i < k) : atE (exts (ts.take k)) i = atE (exts ts) i := by
  have h1 := exts_take (ts := ts) ts.length k hk (Nat.le_refl _)
  rw [take_len (Nat.le_refl _)] at h1
  rw [atE, atE, h1, List.getElem?_take_of_lt (by omega)]
/-- of fixed types -/
def FixP (e : ExtM) : Prop := e.fixed = true → e.least = e.most ∧ 1 ≤ e.most
theorem timesS_pos {a b : Int} (ha : 1 ≤ a) (hb : 1 ≤ b) : 1 ≤ timesS a b := by
  have h1 : 1 ≤ sz a := by unfold sz; omega
  have h2 : 1 ≤ sz b := by unfold sz; omega
  have := Int.mul_le_mul h1 h2 (by omega) (by omega)
  unfold timesS; omega
def strS (L : List ExtM) (x : ExtM) (p : PartM) : ExtM := ⟨x.fixed && (atE L p.ty).fixed, plusL [x.least, withinM (atE L p.ty).fixed (atE L p.ty).least], plusL [x.most, withinM (atE L p.ty).fixed (atE L p.ty).most], max x.depth (1 + (atE L p.ty).depth)⟩
theorem str_fold (L : List ExtM) (l : List PartM) (x : ExtM) : str L l x = l.foldl (strS L) x := rfl
/-- a struct's layout and its extent, part by part -/
structure LI (n : Nat) (l : LayM) (x : ExtM) : Prop where
  len : l.slots.length = n
  at_ : ∀ (k : Nat) (h : k < l.slots.length), l.slots[k].at_ = ssum (l.slots.take k)
  size : ∀ s ∈ l.slots, (s.var = true → s.size = 4) ∧ 1 ≤ s.size ∧ s.size ≤ 4611686018427387904
  sum : ssum l.slots = l.size
  any : (l.slots.any (·.var)) = !x.fixed
  fixed : x.fixed = true → l.size = x.least ∧ l.size = x.most ∧ (1 ≤ n → 1 ≤ l.size)
theorem slot_ok {e : ExtM} {a : Int} (h1 : extOK e) (h2 : FixP e) : ((slotOf e a).var = true → (slotOf e a).size = 4) ∧ 1 ≤ (slotOf e a).size ∧ (slotOf e a).size ≤ 4611686018427387904 := by
  obtain ⟨g1, g2, g3⟩ := h1
  unfold slotOf
  dsimp only
  cases hf : e.fixed with
  | true => have := h2 hf; simp; omega
  | false => simp
theorem LI.step {n : Nat} {l : LayM} {x : ExtM} (h : LI n l x) (L : List ExtM) (p : PartM) (h1 : extOK (atE L p.ty)) (h2 : FixP (atE L p.ty)) : LI (n + 1) (layAdd L l p) (strS L x p) := by
  unfold layAdd strS
  generalize atE L p.ty = e at h1 h2
  have hs := slot_ok (a := l.size) h1 h2
  have hb := ssum_bd l.slots
  rw [h.sum] at hb
  refine ⟨by simp [h.len], fun k hk => ?_, fun s hs' => ?_, ?_, ?_, fun hf => ?_⟩
  · simp only [List.length_append, List.length_singleton] at hk
    rcases Nat.lt_or_ge k l.slots.length with hlt | hge
    · dsimp only
      rw [List.getElem_append_left hlt, h.at_ k hlt, List.take_append_of_le_length (by omega)]
    · have hk' : k = l.slots.length := by omega
      subst hk'
      dsimp only
      rw [List.getElem_append_right (Nat.le_refl _), List.take_left, h.sum]
      simp [slotOf]
  · rcases List.mem_append.1 hs' with h' | h'
    · exact h.size s h'
    · rw [List.mem_singleton] at h'; subst h'; exact hs
  · dsimp only
    rw [ssum, List.foldl_append]
    show plusL [ssum l.slots, _] = _
    rw [h.sum]
  · dsimp only
    rw [List.any_append, h.any]
    simp [slotOf]
  · simp only [Bool.and_eq_true] at hf
    obtain ⟨f1, f2, f3⟩ := h.fixed hf.1
    obtain ⟨k1, k2⟩ := h2 hf.2
    obtain ⟨g1, g2, g3⟩ := h1
    have e1 : (slotOf e l.size).size = e.most := by simp [slotOf, hf.2]
    have e2 : withinM e.fixed e.least = e.most := by rw [withinM, if_pos hf.2, k1]
    have e3 : withinM e.fixed e.most = e.most := by rw [withinM, if_pos hf.2]
    dsimp only
    rw [e1, e2, e3, ← f1, ← f2, plusL2 hb g2]
    exact ⟨rfl, rfl, fun _ => by omega⟩
theorem LI.fold (L : List ExtM) (hL : ∀ i, extOK (atE L i) ∧ FixP (atE L i)) : ∀ (ps : List PartM) {n : Nat} {l : LayM} {x : ExtM}, LI n l x → LI (n + ps.length) (ps.foldl (layAdd L) l) (ps.foldl (strS L) x)
  | [], _, _, _, h => h
  | p :: ps, n, l, x, h => by
    have := LI.fold L hL ps (h.step L p (hL p.ty).1 (hL p.ty).2)
    rw [List.length_cons, show n + (ps.length + 1) = n + 1 + ps.length by omega]
    exact this
theorem LI.nil : LI 0 ⟨0, []⟩ ⟨true, 0, 0, 1⟩ := ⟨rfl, fun k h => by simp at h, fun s h => by simp at h, rfl, rfl, fun _ => ⟨rfl, rfl, fun h => by omega⟩⟩
theorem atE_P {Q : ExtM → Prop} {L : List ExtM} (h0 : Q ⟨false, 0, 0, 0⟩) (hL : ∀ e ∈ L, Q e) (i : Int) : Q (atE L i) := by
  unfold atE
  cases h : L[i.toNat]? with
  | none => exact h0
  | some e => exact hL e (List.mem_of_getElem? h)
theorem ext0_ok : extOK ⟨false, 0, 0, 0⟩ ∧ FixP ⟨false, 0, 0, 0⟩ := ⟨⟨by decide, by decide, by decide, by decide⟩, fun h => by cases h⟩
theorem rightOK_parts {t : TypeM} {k : Int} (h : rightOK t k = true) (hk : t.kind = 7 ∨ t.kind = 8) : 1 ≤ t.parts.length ∧ t.parts.length ≤ 64 := by
  rw [rightOK, Bool.and_eq_true] at h
  have h2 := h.2
  rw [if_neg (by omega), if_neg (by omega), if_pos (by omega)] at h2
  simp only [Bool.and_eq_true, partsOK, decide_eq_true_eq] at h2
  omega
theorem extM_fix {t : TypeM} {L : List ExtM} {k : Int} (hr : rightOK t k = true) (hL : ∀ e ∈ L, extOK e ∧ FixP e) : FixP (extM t L) := by
  have hA := atE_P ext0_ok hL
  intro hf
  unfold extM at hf ⊢
  split at hf
  · rename_i hk
    rw [if_pos hk]
    rw [rightOK, Bool.and_eq_true, numberOK, if_pos hk] at hr
    have := hr.1
    simp only [Bool.or_eq_true, decide_eq_true_eq] at this
    exact ⟨rfl, by simp only; omega⟩
  · rename_i k1
    rw [if_neg k1]
    split at hf
    · rename_i hk; rw [if_pos hk]; exact ⟨rfl, by decide⟩
    · rename_i k2
      rw [if_neg k2]
      split at hf
      · cases hf
      · rename_i k3
        rw [if_neg k3]
        split at hf
        · rename_i k4
          rw [if_pos k4]
          have hn : 1 ≤ t.n := by
            rw [rightOK, Bool.and_eq_true, numberOK, if_neg k1, if_pos (by omega)] at hr
            have := hr.1
            simp only [Bool.and_eq_true, decide_eq_true_eq] at this
            omega
          dsimp only at hf ⊢
          obtain ⟨g1, g2⟩ := (hA t.elem).2 hf
          rw [withinM, if_pos hf, withinM, if_pos hf, g1]
          exact ⟨rfl, timesS_pos hn g2⟩
        · rename_i k4
          rw [if_neg k4]
          split at hf
          · cases hf
          · rename_i k5
            rw [if_neg k5]
            split at hf
            · cases hf
            · rename_i k6
              rw [if_neg k6]
              split at hf
              · cases hf
              · rename_i k7
                rw [if_neg k7]
                rcases rightOK_kind hr with h | h | h
                · omega
                · omega
                · have hp := rightOK_parts hr h
                  have hli := LI.fold L hA t.parts LI.nil
                  rw [str_fold] at hf ⊢
                  obtain ⟨f1, f2, f3⟩ := hli.fixed hf
                  have := f3 (by omega)
                  exact ⟨by omega, by omega⟩
theorem exts_fix {ts : List TypeM} {rs : List RootM} (h : (checkF ts rs).1 = 0) (hts : ts.length ≤ 1000000000) : ∀ k, k ≤ ts.length → ∀ e ∈ exts (ts.take k), extOK e ∧ FixP e := by
  intro k
  induction k with
  | zero => intro _ e he; cases he
  | succ k ih =>
    intro hk e he
    have hlt : k < ts.length := by omega
    refine ⟨(exts_ok h hts (k + 1) hk e he).1, ?_⟩
    rw [exts_succ hlt] at he
    rcases List.mem_append.1 he with he | he
    · exact (ih (by omega) e he).2
    · rw [List.mem_singleton] at he
      subst he
      exact extM_fix (check_right h k hlt) (ih (by omega))
theorem foldl_congr {α β : Type} {f g : β → α → β} : ∀ (l : List α) (x : β), (∀ a ∈ l, ∀ b, f b a = g b a) → l.foldl f x = l.foldl g x
  | [], _, _ => rfl
  | a :: l, x, h => by
    rw [List.foldl_cons, List.foldl_cons, h a (.head _)]
    exact foldl_congr l _ fun b hb => h b (.tail _ hb)
theorem lay_ok {ts : List TypeM} {rs : List RootM} (h : (checkF ts rs).1 = 0) (hts : ts.length ≤ 1000000000) (i : Nat) (hi : i < ts.length) : LayOK ts[i].kind (layM ts[i] (exts ts)) ((exts ts).getD i ⟨false, 0, 0, 0⟩) := by
  have hall := exts_fix h hts ts.length (Nat.le_refl _)
  rw [take_len (Nat.le_refl _)] at hall
  have hA := atE_P ext0_ok hall
  have hr := check_right h i hi
  have hty := rightOK_ty hr
  rw [List.getD_eq_getElem?_getD, exts_get hi, Option.getD_some]
  generalize ts[i] = t at hr hty
  have hel : (t.kind = 4 ∨ t.kind = 5 ∨ t.kind = 6) → atE (exts (ts.take i)) t.elem = atE (exts ts) t.elem := fun hk => by
    have := hty.1 hk
    exact atE_take (by omega) this.1 this.2
  by_cases k8 : t.kind = 8
  · have hli := LI.fold (exts ts) hA t.parts LI.nil
    have hE : extM t (exts (ts.take i)) = t.parts.foldl (strS (exts ts)) ⟨true, 0, 0, 1⟩ := by
      rw [extM, if_neg (by omega), if_neg (by omega), if_neg (by omega), if_neg (by omega), if_neg (by omega), if_neg (by omega), if_neg (by omega), str_fold]
      refine foldl_congr _ _ fun p hp b => ?_
      have := hty.2 p hp
      unfold strS
      rw [atE_take (by omega) this.1 this.2]
    have hp := rightOK_parts hr (.inr k8)
    rw [hE, layM, if_pos k8]
    exact ⟨by have := hli.len; omega, fun hn => absurd (.inl k8) hn, fun _ => hli.at_, hli.size, fun _ => hli.sum, fun _ => hli.any, fun _ hf => ⟨(hli.fixed hf).1, (hli.fixed hf).2.1⟩⟩
  · by_cases k4 : t.kind = 4
    · rw [layM, if_neg k8, if_pos k4]
      have he := hel (.inl k4)
      have hE : extM t (exts (ts.take i)) = ⟨(atE (exts ts) t.elem).fixed, timesS t.n (withinM (atE (exts ts) t.elem).fixed (atE (exts ts) t.elem).least), timesS t.n (withinM (atE (exts ts) t.elem).fixed (atE (exts ts) t.elem).most), 1 + (atE (exts ts) t.elem).depth⟩ := by
        rw [extM, if_neg (by omega), if_neg (by omega), if_neg (by omega), if_pos k4, he]
      rw [hE]
      have hs := slot_ok (a := 0) (hA t.elem).1 (hA t.elem).2
      have hfx := (hA t.elem).2
      generalize atE (exts ts) t.elem = e at hs hfx
      refine ⟨by show 1 ≤ 1000000000; decide, fun hn => absurd (.inr k4) hn, fun _ k hk => ?_, fun s hs' => ?_, fun h8 => absurd h8 k8, fun _ => ?_, fun _ hf => ?_⟩
      · have : k = 0 := by simpa using hk
        subst this; rfl
      · rw [List.mem_singleton] at hs'; subst hs'; exact hs
      · simp [slotOf]
      · dsimp only at hf ⊢
        have g := hfx hf
        rw [withinM, if_pos hf, withinM, if_pos hf, g.1]
        simp [slotOf, hf]
    · by_cases k5 : t.kind = 5
      · rw [layM, if_neg k8, if_neg k4, if_pos k5]
        refine ⟨by show 1 ≤ _; omega, fun _ => ⟨rfl, Nat.le_refl _⟩, fun h => by omega, fun s hs' => ?_, fun h => by omega, fun h => by omega, fun h => by omega⟩
        rw [List.mem_singleton] at hs'; subst hs'
        exact slot_ok (hA t.elem).1 (hA t.elem).2
      · rw [layM, if_neg k8, if_neg k4, if_neg k5]
        exact ⟨Nat.zero_le _, fun _ => ⟨rfl, Nat.zero_le _⟩, fun h => by omega, fun s hs' => by simp at hs', fun h => by omega, fun h => by omega, fun h => by omega⟩
end Go.Proofs.Ytljfgohecmhchaa
end
section
namespace Go.Proofs.Ytljfgohecmhchaa
open Go.RowKit
/-! Sizes: what is greater of what is greater. -/
theorem plus2 {a b : Int} (ha : 0 ≤ a ∧ a ≤ 4611686018427387904) (hb : 0 ≤ b ∧ b ≤ 4611686018427387904) : plusL [a, b] = min (a + b) 4611686018427387904 := by
  simp only [plusL, List.foldl, addS, sz]; omega
theorem withinM_ge {f : Bool} {b : Int} (h : 0 ≤ b ∧ b ≤ 4611686018427387904) : b ≤ withinM f b := by
  unfold withinM
  split
  · exact Int.le_refl _
  · rw [plus2 (by omega) h]; omega
theorem withinM_mono {f : Bool} {a b : Int} (ha : 0 ≤ a ∧ a ≤ 4611686018427387904) (hb : 0 ≤ b ∧ b ≤ 4611686018427387904) (h : a ≤ b) : withinM f a ≤ withinM f b := by
  unfold withinM
  split
  · exact h
  · rw [plus2 (by omega) ha, plus2 (by omega) hb]; omega
theorem sz_mono {a b : Int} (h : a ≤ b) : sz a ≤ sz b := by unfold sz; omega
theorem timesS_mono {a b c d : Int} (h1 : a ≤ b) (h2 : c ≤ d) : timesS a c ≤ timesS b d := by
  have h : sz a * sz c ≤ sz b * sz d := Int.mul_le_mul (sz_mono h1) (sz_mono h2) (sz_lo c) (sz_lo b)
  unfold timesS; omega
def extG (e : ExtM) : Prop := 0 ≤ e.least ∧ e.least ≤ e.most ∧ e.most ≤ 4611686018427387904 ∧ 1 ≤ e.depth
theorem uni_good {L : List ExtM} : ∀ (l : List PartM) (x : Int × Int × Int), (∀ p ∈ l, extG (atE L p.ty)) → 0 ≤ x.1 ∧ x.1 ≤ 4611686018427387904 → 0 ≤ x.2.1 ∧ x.2.1 ≤ 4611686018427387904 →
    ((uni L l x).1 ≤ x.1 ∧ x.2.1 ≤ (uni L l x).2.1 ∧ x.2.2 ≤ (uni L l x).2.2 ∧ 0 ≤ (uni L l x).1 ∧ (uni L l x).2.1 ≤ 4611686018427387904) ∧ ∀ p ∈ l, (uni L l x).1 ≤ (atE L p.ty).least ∧ plusL [1, (atE L p.ty).most] ≤ (uni L l x).2.1 ∧ 1 + (atE L p.ty).depth ≤ (uni L l x).2.2
  | [], x, _, h1, h2 => ⟨⟨Int.le_refl _, Int.le_refl _, Int.le_refl _, h1.1, h2.2⟩, fun p hp => by cases hp⟩
  | q :: l, x, h, h1, h2 => by
    have hq := h q (.head _)
    have hpl := plusL_bd [1, (atE L q.ty).most]
    unfold extG at hq
    have ih := uni_good l (min x.1 (atE L q.ty).least, max x.2.1 (plusL [1, (atE L q.ty).most]), max x.2.2 (1 + (atE L q.ty).depth)) (fun p hp => h p (.tail _ hp)) ⟨by simp only; omega, by simp only; omega⟩ ⟨by simp only; omega, by simp only; omega⟩
    have hu : uni L (q :: l) x = uni L l (min x.1 (atE L q.ty).least, max x.2.1 (plusL [1, (atE L q.ty).most]), max x.2.2 (1 + (atE L q.ty).depth)) := rfl
    rw [hu]
    obtain ⟨⟨g1, g2, g3, g4, g5⟩, g6⟩ := ih
    simp only at g1 g2 g3
    refine ⟨⟨by omega, by omega, by omega, g4, g5⟩, fun p hp => ?_⟩
    rcases List.mem_cons.1 hp with rfl | hp
    · exact ⟨by omega, by omega, by omega⟩
    · exact g6 p hp
def stepS (L : List ExtM) (x : ExtM) (p : PartM) : ExtM := ⟨x.fixed && (atE L p.ty).fixed, plusL [x.least, withinM (atE L p.ty).fixed (atE L p.ty).least], plusL [x.most, withinM (atE L p.ty).fixed (atE L p.ty).most], max x.depth (1 + (atE L p.ty).depth)⟩
theorem str_snoc (L : List ExtM) (l : List PartM) (p : PartM) (x : ExtM) : str L (l ++ [p]) x = stepS L (str L l x) p := by
  rw [str, List.foldl_append]; rfl
theorem step_ge {L : List ExtM} {x : ExtM} {p : PartM} (h : extG (atE L p.ty)) (h1 : 0 ≤ x.least ∧ x.least ≤ x.most ∧ x.most ≤ 4611686018427387904) :
    (0 ≤ (stepS L x p).least ∧ (stepS L x p).least ≤ (stepS L x p).most ∧ (stepS L x p).most ≤ 4611686018427387904) ∧ x.least ≤ (stepS L x p).least ∧ x.most ≤ (stepS L x p).most ∧ x.depth ≤ (stepS L x p).depth ∧ ((stepS L x p).fixed = true → x.fixed = true) ∧
    (atE L p.ty).most ≤ (stepS L x p).most ∧ (atE L p.ty).depth < (stepS L x p).depth ∧ ((stepS L x p).fixed = true → (atE L p.ty).fixed = true) := by
  unfold extG at h
  have a1 := withinM_bd (f := (atE L p.ty).fixed) (b := (atE L p.ty).least) (by omega)
  have a2 := withinM_bd (f := (atE L p.ty).fixed) (b := (atE L p.ty).most) (by omega)
  have a3 := withinM_mono (f := (atE L p.ty).fixed) (a := (atE L p.ty).least) (b := (atE L p.ty).most) (by omega) (by omega) h.2.1
  have a4 := withinM_ge (f := (atE L p.ty).fixed) (b := (atE L p.ty).most) (by omega)
  have a5 := plus2 (a := x.least) (b := withinM (atE L p.ty).fixed (atE L p.ty).least) (by omega) a1
  have a6 := plus2 (a := x.most) (b := withinM (atE L p.ty).fixed (atE L p.ty).most) (by omega) a2
  simp only [stepS]
  rw [a5, a6]
  refine ⟨⟨by omega, by omega, by omega⟩, by omega, by omega, by omega, fun h => ?_, by omega, by omega, fun h => ?_⟩
  · rw [Bool.and_eq_true] at h; exact h.1
  · rw [Bool.and_eq_true] at h; exact h.2
theorem str_good {L : List ExtM} : ∀ (l : List PartM) (x : ExtM), (∀ p ∈ l, extG (atE L p.ty)) → 0 ≤ x.least ∧ x.least ≤ x.most ∧ x.most ≤ 4611686018427387904 →
    (0 ≤ (str L l x).least ∧ (str L l x).least ≤ (str L l x).most ∧ (str L l x).most ≤ 4611686018427387904) ∧ x.least ≤ (str L l x).least ∧ x.most ≤ (str L l x).most ∧ x.depth ≤ (str L l x).depth ∧ ((str L l x).fixed = true → x.fixed = true) ∧
    ∀ p ∈ l, (atE L p.ty).most ≤ (str L l x).most ∧ (atE L p.ty).depth < (str L l x).depth ∧ ((str L l x).fixed = true → (atE L p.ty).fixed = true)
  | [], x, _, h1 => ⟨h1, Int.le_refl _, Int.le_refl _, Int.le_refl _, id, fun p hp => by cases hp⟩
  | q :: l, x, h, h1 => by
    obtain ⟨s1, s2, s3, s4, s5, s6, s7, s8⟩ := step_ge (h q (.head _)) h1
    obtain ⟨g1, g2, g3, g4, g5, g6⟩ := str_good l (stepS L x q) (fun p hp => h p (.tail _ hp)) s1
    have hu : str L (q :: l) x = str L l (stepS L x q) := rfl
    rw [hu]
    refine ⟨g1, by omega, by omega, by omega, fun h => s5 (g5 h), fun p hp => ?_⟩
    rcases List.mem_cons.1 hp with rfl | hp
    · exact ⟨by omega, by omega, fun h => s8 (g5 h)⟩
    · exact g6 p hp
theorem extM_good {t : TypeM} {L : List ExtM} (hr : rightOK t L.length = true) (hL : ∀ e ∈ L, extG e) :
    extG (extM t L) ∧ ∀ p ∈ t.parts, (atE L p.ty).most ≤ (extM t L).most ∧ (atE L p.ty).depth < (extM t L).depth ∧ ((extM t L).fixed = true → (atE L p.ty).fixed = true) := by
  have hty := rightOK_ty hr
  have hat : ∀ i : Int, 0 ≤ i → i < L.length → extG (atE L i) := fun i h0 h1 => by
    have hlt : i.toNat < L.length := by omega
    rw [atE, List.getElem?_eq_getElem hlt]
    exact hL _ (List.getElem_mem hlt)
  have hpe : t.kind ≠ 7 → t.kind ≠ 8 → t.parts = [] := fun h7 h8 => by
    rw [rightOK, Bool.and_eq_true] at hr
    have := hr.2
    split at this
    · simp only [Bool.and_eq_true, decide_eq_true_eq] at this
      exact List.eq_nil_of_length_eq_zero (by omega)
    · split at this
      · simp only [Bool.and_eq_true, decide_eq_true_eq] at this
        exact List.eq_nil_of_length_eq_zero (by omega)
      · split at this
        · omega
        · cases this
  have hno : t.kind ≠ 7 → t.kind ≠ 8 → ∀ q : PartM → Prop, ∀ p ∈ t.parts, q p := fun h7 h8 q p hp => by rw [hpe h7 h8] at hp; cases hp
  rcases rightOK_kind hr with hk | hk | hk
  · rcases hk with hk | hk | hk
    · have := right_1 hr hk
      unfold extM
      rw [if_pos hk]
      exact ⟨⟨by simp only; omega, Int.le_refl _, by simp only; omega, by simp⟩, hno (by omega) (by omega) _⟩
    · unfold extM
      rw [if_neg (by omega), if_pos hk]
      exact ⟨⟨by decide, by decide, by decide, by decide⟩, hno (by omega) (by omega) _⟩
    · unfold extM
      rw [if_neg (by omega), if_neg (by omega), if_pos hk]
      exact ⟨⟨by decide, by decide, by decide, by decide⟩, hno (by omega) (by omega) _⟩
  · have hn := rightOK_n hr hk
    have he := hat t.elem (hty.1 hk).1 (hty.1 hk).2
    unfold extG at he
    rcases hk with hk | hk | hk
    · unfold extM
      rw [if_neg (by omega), if_neg (by omega), if_neg (by omega), if_pos hk]
      exact ⟨⟨(timesS_bd _ _).1, timesS_mono (Int.le_refl _) (withinM_mono (by omega) (by omega) he.2.1), (timesS_bd _ _).2, by simp only; omega⟩, hno (by omega) (by omega) _⟩
    · unfold extM
      rw [if_neg (by omega), if_neg (by omega), if_neg (by omega), if_neg (by omega), if_pos hk]
      exact ⟨⟨Int.le_refl _, (timesS_bd _ _).1, (timesS_bd _ _).2, by simp only; omega⟩, hno (by omega) (by omega) _⟩
    · unfold extM
      rw [if_neg (by omega), if_neg (by omega), if_neg (by omega), if_neg (by omega), if_neg (by omega), if_pos hk]
      have := plus2 (a := 1) (b := (atE L t.elem).most) (by omega) (by omega)
      exact ⟨⟨by simp only; omega, by simp only; omega, (plusL_bd _).2, by simp only; omega⟩, hno (by omega) (by omega) _⟩
  · have hp := right_parts hr hk
    have hps : ∀ p ∈ t.parts, extG (atE L p.ty) := fun p hp => hat _ (hty.2 p hp).1 (hty.2 p hp).2
    rcases hk with hk | hk
    · unfold extM
      rw [if_neg (by omega), if_neg (by omega), if_neg (by omega), if_neg (by omega), if_neg (by omega), if_neg (by omega), if_pos hk]
      obtain ⟨⟨g1, g2, g3, g4, g5⟩, g6⟩ := uni_good t.parts (4611686018427387904, 0, 1) hps (by decide) (by decide)
      simp only at g1 g2 g3 ⊢
      obtain ⟨q, hq⟩ : ∃ q, q ∈ t.parts := ⟨t.parts[0]'(by omega), List.getElem_mem _⟩
      have hq1 := g6 q hq
      have hq2 := hps q hq
      unfold extG at hq2
      have a1 := plus2 (a := 1) (b := (uni L t.parts (4611686018427387904, 0, 1)).1) (by omega) (by omega)
      have a2 := plus2 (a := 1) (b := (atE L q.ty).most) (by omega) (by omega)
      refine ⟨⟨(plusL_bd _).1, by simp only; omega, g5, by simp only; omega⟩, fun p hp => ?_⟩
      have hp1 := g6 p hp
      have hp2 := hps p hp
      unfold extG at hp2
      have a3 := plus2 (a := 1) (b := (atE L p.ty).most) (by omega) (by omega)
      exact ⟨by omega, by omega, fun h => by cases h⟩
    · unfold extM
      rw [if_neg (by omega), if_neg (by omega), if_neg (by omega), if_neg (by omega), if_neg (by omega), if_neg (by omega), if_neg (by omega)]
      obtain ⟨⟨g1, g2, g3⟩, _, _, g4, _, g6⟩ := str_good t.parts ⟨true, 0, 0, 1⟩ hps (by decide)
      exact ⟨⟨g1, g2, g3, g4⟩, g6⟩
/-- a greater number, a part more -/
theorem more_n {t : TypeM} {L : List ExtM} (hk : t.kind = 4 ∨ t.kind = 5) {n : Int} (hn : t.n ≤ n) :
    (extM t L).most ≤ (extM ⟨t.kind, n, t.elem, t.parts⟩ L).most ∧ (extM t L).least ≤ (extM ⟨t.kind, n, t.elem, t.parts⟩ L).least ∧ ((extM ⟨t.kind, n, t.elem, t.parts⟩ L).fixed = true → (extM t L).fixed = true) := by
  unfold extM
  rcases hk with hk | hk
  · simp only [hk]
    exact ⟨timesS_mono hn (Int.le_refl _), timesS_mono hn (Int.le_refl _), id⟩
  · simp only [hk]
    exact ⟨timesS_mono hn (Int.le_refl _), Int.le_refl _, id⟩
theorem more_p {t : TypeM} {L : List ExtM} (hk : t.kind = 8) {p : PartM} (hps : ∀ q ∈ t.parts, extG (atE L q.ty)) (hp : extG (atE L p.ty)) :
    (extM t L).most ≤ (extM ⟨t.kind, t.n, t.elem, t.parts ++ [p]⟩ L).most ∧ (extM t L).least ≤ (extM ⟨t.kind, t.n, t.elem, t.parts ++ [p]⟩ L).least ∧ ((extM ⟨t.kind, t.n, t.elem, t.parts ++ [p]⟩ L).fixed = true → (extM t L).fixed = true) := by
  have e1 : extM t L = str L t.parts ⟨true, 0, 0, 1⟩ := by unfold extM; simp only [hk]; rfl
  have e2 : extM ⟨t.kind, t.n, t.elem, t.parts ++ [p]⟩ L = stepS L (str L t.parts ⟨true, 0, 0, 1⟩) p := by unfold extM; simp only [hk]; exact str_snoc _ _ _ _
  rw [e1, e2]
  obtain ⟨g1, _⟩ := str_good t.parts ⟨true, 0, 0, 1⟩ hps (by decide)
  obtain ⟨_, s2, s3, _, s5, _⟩ := step_ge hp g1
  exact ⟨s3, s2, s5⟩
end Go.Proofs.Ytljfgohecmhchaa
end
section
namespace Go.Proofs.Ytljfgohecmhchaa
open Go.RowKit
theorem exts_take' (ts : List TypeM) : ∀ k, k ≤ ts.length → (exts ts).take k = exts (ts.take k) := by
  have h : ∀ (l m : List TypeM), ∃ r, exts (l ++ m) = exts l ++ r := by
    intro l m
    induction m generalizing l with
    | nil => exact ⟨[], by simp⟩
    | cons x m ih =>
      obtain ⟨r, hr⟩ := ih (l ++ [x])
      have h1 : exts (l ++ [x]) = exts l ++ [extM x (exts l)] := by rw [exts, List.foldl_append]; rfl
      exact ⟨extM x (exts l) :: r, by rw [show l ++ x :: m = (l ++ [x]) ++ m by simp, hr, h1]; simp⟩
  intro k hk
  obtain ⟨r, hr⟩ := h (ts.take k) (ts.drop k)
  rw [List.take_append_drop] at hr
  have hl := exts_len ts k hk
  rw [hr, List.take_append_of_le_length (by omega), List.take_of_length_le (by omega)]
theorem exts_length (ts : List TypeM) : (exts ts).length = ts.length := by
  have := exts_len ts ts.length (Nat.le_refl _)
  rwa [List.take_length] at this
theorem exts_at {ts : List TypeM} {k : Nat} (h : k < ts.length) : (exts ts)[k]'(by rw [exts_length]; exact h) = extM ts[k] (exts (ts.take k)) := by
  have h1 := exts_succ h
  have h2 := exts_take' ts (k + 1) h
  have hl := exts_len ts k (by omega)
  have h3 : (exts ts)[k]? = some (extM ts[k] (exts (ts.take k))) := by
    rw [← List.getElem?_take_of_lt (show k < k + 1 by omega), h2, h1, List.getElem?_append_right (by omega), hl]
    simp
  rw [List.getElem?_eq_getElem (by rw [exts_length]; exact h)] at h3
  exact Option.some.inj h3
theorem exts_good {ts : List TypeM} (hr : ∀ (k : Nat) (h : k < ts.length), rightOK ts[k] k = true) : ∀ k, k ≤ ts.length → ∀ e ∈ exts (ts.take k), extG e
  | 0, _ => fun e he => by cases he
  | k + 1, hk => fun e he => by
    have ih := exts_good hr k (by omega)
    rw [exts_succ (by omega)] at he
    rcases List.mem_append.1 he with he | he
    · exact ih e he
    · rw [List.mem_singleton] at he
      subst he
      exact (extM_good (by rw [exts_len ts k (by omega)]; exact hr k (by omega)) ih).1
theorem atE_front {ts : List TypeM} {k : Nat} (hk : k ≤ ts.length) {i : Int} (h0 : 0 ≤ i) (h1 : i < k) : atE (exts (ts.take k)) i = atE (exts ts) i := by
  rw [← exts_take' ts k hk, atE, atE, List.getElem?_take_of_lt (by omega)]
theorem atE_get {L : List ExtM} {i : Int} (h1 : i.toNat < L.length) : atE L i = L[i.toNat] := by
  rw [atE, List.getElem?_eq_getElem h1]; rfl
/-- what is said of each extent -/
theorem exts_said {ts : List TypeM} (hr : ∀ (k : Nat) (h : k < ts.length), rightOK ts[k] k = true) {k : Nat} (hk : k < ts.length) :
    extG ((exts ts)[k]'(by rw [exts_length]; exact hk)) ∧ ∀ p ∈ ts[k].parts, (0 ≤ p.ty ∧ p.ty < k) ∧ (atE (exts ts) p.ty).most ≤ ((exts ts)[k]'(by rw [exts_length]; exact hk)).most ∧
      (atE (exts ts) p.ty).depth < ((exts ts)[k]'(by rw [exts_length]; exact hk)).depth ∧ (((exts ts)[k]'(by rw [exts_length]; exact hk)).fixed = true → (atE (exts ts) p.ty).fixed = true) := by
  rw [exts_at hk]
  obtain ⟨g1, g2⟩ := extM_good (t := ts[k]) (L := exts (ts.take k)) (by rw [exts_len ts k (by omega)]; exact hr k hk) (exts_good hr k (by omega))
  refine ⟨g1, fun p hp => ?_⟩
  have ht := (rightOK_ty (hr k hk)).2 p hp
  rw [← atE_front (by omega : k ≤ ts.length) ht.1 ht.2]
  exact ⟨ht, g2 p hp⟩
theorem atE_nat {L : List ExtM} {k : Nat} (h : k < L.length) : atE L (k : Int) = L[k] := by
  rw [atE, Int.toNat_natCast, List.getElem?_eq_getElem h]; rfl
theorem exts_told {ts : List TypeM} (hr : ∀ (k : Nat) (h : k < ts.length), rightOK ts[k] k = true) {k : Nat} (hk : k < ts.length) :
    extG (atE (exts ts) k) ∧ ∀ p ∈ ts[k].parts, (0 ≤ p.ty ∧ p.ty < k) ∧ (atE (exts ts) p.ty).most ≤ (atE (exts ts) k).most ∧
      (atE (exts ts) p.ty).depth < (atE (exts ts) k).depth ∧ ((atE (exts ts) k).fixed = true → (atE (exts ts) p.ty).fixed = true) := by
  rw [atE_nat (by rw [exts_length]; exact hk)]; exact exts_said hr hk
theorem encEs_at {L : List ExtM} {k : Nat} (h : k < L.length) : (encEs L)[k]? = some [vB (atE L k).fixed, vI (atE L k).least, vI (atE L k).most, vI (atE L k).depth] := by
  rw [encEs_get h, atE_nat h]
theorem encEs_atI {L : List ExtM} {i : Int} (h0 : 0 ≤ i) (h : i < L.length) : (encEs L)[i.toNat]? = some [vB (atE L i).fixed, vI (atE L i).least, vI (atE L i).most, vI (atE L i).depth] := by
  rw [encEs_at (by omega), Int.toNat_of_nonneg h0]
theorem exts_set {ts : List TypeM} {k : Nat} (h : k < ts.length) (y : TypeM) : (exts (ts.set k y))[k]'(by rw [exts_length, List.length_set]; exact h) = extM y (exts (ts.take k)) := by
  rw [exts_at (by rw [List.length_set]; exact h), List.getElem_set_self, List.take_set_of_le (Nat.le_refl _)]
end Go.Proofs.Ytljfgohecmhchaa
end
section
namespace Go.Proofs.Ytljfgohecmhchaa
open Go.RowKit
set_option maxRecDepth 100000
set_option maxHeartbeats 4000000
theorem plus12_p (a b : Int) (ha : I64 a) (hb : I64 b) : PCall Try.prog 70 [.lst 1 [[vI a], [vI b]]] (fun x => x = vI (plusL [a, b])) :=
  plus1_p (zs := [a, b]) (fun z hz => by simp at hz; rcases hz with rfl | rfl <;> assumption)
theorem rplus_any (a b : Int) (ha : I64 a) (hb : I64 b) : PCall Try.prog 66 [vI a, vI b] (fun r => r = vI (plusL [a, b])) := by
  refine go_fn (tyOf_ok _) Try.func66 rfl rfl (by rw [Try.results66]) Try.ntmps66 rfl fun E => ?_
  (repeat' (first
    | exact trivial
    | (with_reducible first | refine awA ?_ | refine awB ?_ | refine awC ?_ | refine awD ?_ | refine awE ?_ | refine awF ?_ | refine awG ?_ | refine awH ?_ | refine awI ?_ | refine awJ ?_ | refine awK ?_ | refine awL ?_ | refine awM (by decide) ?_)
    | ((with_reducible first | refine awN (tyOf_ok _) [] ?_ | refine awO (tyOf_ok _) [] ?_ | refine awP (tyOf_ok _) [] ?_ | refine awQ ?_ | refine awR ?_ | refine awS ?_); intro r hr; simp only [go_sem, Nat.reduceBEq, Nat.reduceBneDiff, Nat.reduceLT, Nat.reduceLeDiff, Nat.reduceAdd, Nat.reduceMul, Nat.reduceSub, Nat.reduceEqDiff, reduceCtorEq] at hr; subst hr; (first | refine caA (fun _ => plus12_p a b ha hb) rfl ?_ ?_ ?_ | refine awV ?_ ?_ | refine awW ?_ ?_ | refine endK ?_ ?_ | (refine condK (fun h => ?_) (fun h => ?_) <;> (try simp only [go_sem, reduceCtorEq] at h) <;> (try (exfalso; omega))))) | fail)) <;> (try omega)
  exact rfl
theorem rtimes_any (a b : Int) (ha : I64 a) (hb : I64 b) : PCall Try.prog 65 [vI a, vI b] (fun r => r = vI (timesS a b)) := by
  refine go_fn (tyOf_ok _) Try.func65 rfl rfl (by rw [Try.results65]) Try.ntmps65 rfl fun E => ?_
  (repeat' (first
    | exact trivial
    | (with_reducible first | refine awA ?_ | refine awB ?_ | refine awC ?_ | refine awD ?_ | refine awE ?_ | refine awF ?_ | refine awG ?_ | refine awH ?_ | refine awI ?_ | refine awJ ?_ | refine awK ?_ | refine awL ?_ | refine awM (by decide) ?_)
    | ((with_reducible first | refine awN (tyOf_ok _) [] ?_ | refine awO (tyOf_ok _) [] ?_ | refine awP (tyOf_ok _) [] ?_ | refine awQ ?_ | refine awR ?_ | refine awS ?_); intro r hr; simp only [go_sem, Nat.reduceBEq, Nat.reduceBneDiff, Nat.reduceLT, Nat.reduceLeDiff, Nat.reduceAdd, Nat.reduceMul, Nat.reduceSub, Nat.reduceEqDiff, reduceCtorEq] at hr; subst hr; (first | refine caA (fun _ => times1_p ha hb) rfl ?_ ?_ ?_ | refine awV ?_ ?_ | refine awW ?_ ?_ | refine endK ?_ ?_ | (refine condK (fun h => ?_) (fun h => ?_) <;> (try simp only [go_sem, reduceCtorEq] at h) <;> (try (exfalso; omega))))) | fail)) <;> (try omega)
  exact rfl
theorem rpart_any (e : ExtM) (h1 : I64 e.least) (h2 : I64 e.most) : PCall Try.prog 64 [.agg [vB e.fixed, vI e.least, vI e.most, vI e.depth]] (fun r => r = .tup [vI (withinM e.fixed e.least), vI (withinM e.fixed e.most)]) := by
  have h4 : I64 4 := by unfold I64; omega
  refine go_fn (tyOf_ok _) Try.func64 rfl rfl (by rw [Try.results64]) Try.ntmps64 rfl fun E => ?_
  (repeat' (first
    | exact trivial
    | (with_reducible first | refine awA ?_ | refine awB ?_ | refine awC ?_ | refine awD ?_ | refine awE ?_ | refine awF ?_ | refine awG ?_ | refine awH ?_ | refine awI ?_ | refine awJ ?_ | refine awK ?_ | refine awL ?_ | refine awM (by decide) ?_)
    | (refine aw_draw (id := 2) (t := (.node [0, 1, 2, 3, 4, 5] [])) (drR [1] [] []) mixed (by kernel_rfl) (by kernel_rfl) (fun _ _ h => h) ?_)
    | (refine aw_draw (id := 3) (t := (.node [0, 1, 3, 4, 2, 5, 6, 7] [])) (drR [1] [] []) mixed (by kernel_rfl) (by kernel_rfl) (fun _ _ h => h) ?_)
    | (refine at_done (by simp only [List.filterMap_cons, List.filterMap_nil, List.getElem?_toArray, List.getElem?_cons_zero, List.getElem?_cons_succ]; exact rfl) ?_) | (refine at_alt (by simp only [List.filterMap_cons, List.filterMap_nil, List.getElem?_toArray, List.getElem?_cons_zero, List.getElem?_cons_succ]; exact rfl) ?_) | refine qalt_normal ?_ | refine ats_cons ?_ ?_ | exact ats_nil
    | ((with_reducible first | refine awN (tyOf_ok _) [] ?_ | refine awO (tyOf_ok _) [] ?_ | refine awP (tyOf_ok _) [] ?_ | refine awQ ?_ | refine awR ?_ | refine awS ?_); intro r hr; simp only [go_sem, Nat.reduceBEq, Nat.reduceBneDiff, Nat.reduceLT, Nat.reduceLeDiff, Nat.reduceAdd, Nat.reduceMul, Nat.reduceSub, Nat.reduceEqDiff, reduceCtorEq] at hr; subst hr; (first | refine caA (fun _ => rplus_any 4 _ h4 h1) rfl ?_ ?_ ?_ | refine caA (fun _ => rplus_any 4 _ h4 h2) rfl ?_ ?_ ?_ | refine awV ?_ ?_ | refine awW ?_ ?_ | refine endK ?_ ?_ | (refine condK (fun h => ?_) (fun h => ?_) <;> (try simp only [go_sem, reduceCtorEq] at h) <;> (try (exfalso; omega))))) | fail)) <;> (try omega)
  · rw [withinM, if_pos h, withinM, if_pos h]; exact rfl
  · rw [withinM, if_neg (by rw [h]; decide), withinM, if_neg (by rw [h]; decide)]; exact rfl
end Go.Proofs.Ytljfgohecmhchaa
end
section
namespace Go.Proofs.Ytljfgohecmhchaa
open Go.RowKit
set_option maxRecDepth 100000
set_option maxHeartbeats 8000000
/-! mortiseref10.leaf, one, Of: the same extents. -/
theorem rleaf_any (t : TypeM) (L : List ExtM) (hk : t.kind = 1 ∨ t.kind = 2 ∨ t.kind = 3) : PCall Try.prog 67 [.agg [vI t.kind, vI t.n, vI t.elem, .lst 3 (encPs t.parts)]] (fun r => r = vE (extM t L)) := by
  refine go_fn (tyOf_ok _) Try.func67 rfl rfl (by rw [Try.results67]) Try.ntmps67 rfl fun E => ?_
  rcases hk with h | h | h
  · have k1 : (t.kind = 1) = True := eq_true h
    generalize hE : extM t L = e
    unfold extM at hE
    rw [if_pos h] at hE
    subst hE
    (repeat' (first
    | exact trivial
    | (with_reducible first | refine awA ?_ | refine awB ?_ | refine awC ?_ | refine awD ?_ | refine awE ?_ | refine awF ?_ | refine awG ?_ | refine awH ?_ | refine awI ?_ | refine awJ ?_ | refine awK ?_ | refine awL ?_ | refine awM (by decide) ?_)
    | ((with_reducible first | refine awN (tyOf_ok _) [] ?_ | refine awO (tyOf_ok _) [] ?_ | refine awP (tyOf_ok _) [] ?_ | refine awQ ?_ | refine awR ?_ | refine awS ?_); intro r hr; simp only [go_sem, Nat.reduceBEq, Nat.reduceBneDiff, Nat.reduceLT, Nat.reduceLeDiff, Nat.reduceAdd, Nat.reduceMul, Nat.reduceSub, Nat.reduceEqDiff, reduceCtorEq, k1] at hr; subst hr; (first | refine awV ?_ ?_ | refine awW ?_ ?_ | refine endK ?_ ?_ | (refine condK (fun h => ?_) (fun h => ?_) <;> (try simp only [go_sem, reduceCtorEq] at h) <;> (try (exfalso; omega))))) | fail)) <;> (try omega)
    exact rfl
  · have k1 : (t.kind = 1) = False := eq_false (by omega)
    have k2 : (t.kind = 2) = True := eq_true h
    generalize hE : extM t L = e
    unfold extM at hE
    rw [if_neg (by omega), if_pos h] at hE
    subst hE
    (repeat' (first
    | exact trivial
    | (with_reducible first | refine awA ?_ | refine awB ?_ | refine awC ?_ | refine awD ?_ | refine awE ?_ | refine awF ?_ | refine awG ?_ | refine awH ?_ | refine awI ?_ | refine awJ ?_ | refine awK ?_ | refine awL ?_ | refine awM (by decide) ?_)
    | ((with_reducible first | refine awN (tyOf_ok _) [] ?_ | refine awO (tyOf_ok _) [] ?_ | refine awP (tyOf_ok _) [] ?_ | refine awQ ?_ | refine awR ?_ | refine awS ?_); intro r hr; simp only [go_sem, Nat.reduceBEq, Nat.reduceBneDiff, Nat.reduceLT, Nat.reduceLeDiff, Nat.reduceAdd, Nat.reduceMul, Nat.reduceSub, Nat.reduceEqDiff, reduceCtorEq, k1, k2] at hr; subst hr; (first | refine awV ?_ ?_ | refine awW ?_ ?_ | refine endK ?_ ?_ | (refine condK (fun h => ?_) (fun h => ?_) <;> (try simp only [go_sem, reduceCtorEq] at h) <;> (try (exfalso; omega))))) | fail)) <;> (try omega)
    exact rfl
  · have k1 : (t.kind = 1) = False := eq_false (by omega)
    have k2 : (t.kind = 2) = False := eq_false (by omega)
    generalize hE : extM t L = e
    unfold extM at hE
    rw [if_neg (by omega), if_neg (by omega), if_pos h] at hE
    subst hE
    (repeat' (first
    | exact trivial
    | (with_reducible first | refine awA ?_ | refine awB ?_ | refine awC ?_ | refine awD ?_ | refine awE ?_ | refine awF ?_ | refine awG ?_ | refine awH ?_ | refine awI ?_ | refine awJ ?_ | refine awK ?_ | refine awL ?_ | refine awM (by decide) ?_)
    | ((with_reducible first | refine awN (tyOf_ok _) [] ?_ | refine awO (tyOf_ok _) [] ?_ | refine awP (tyOf_ok _) [] ?_ | refine awQ ?_ | refine awR ?_ | refine awS ?_); intro r hr; simp only [go_sem, Nat.reduceBEq, Nat.reduceBneDiff, Nat.reduceLT, Nat.reduceLeDiff, Nat.reduceAdd, Nat.reduceMul, Nat.reduceSub, Nat.reduceEqDiff, reduceCtorEq, k1, k2] at hr; subst hr; (first | refine awV ?_ ?_ | refine awW ?_ ?_ | refine endK ?_ ?_ | (refine condK (fun h => ?_) (fun h => ?_) <;> (try simp only [go_sem, reduceCtorEq] at h) <;> (try (exfalso; omega))))) | fail)) <;> (try omega)
    exact rfl
def extD (e : ExtM) : Prop := extG e ∧ e.depth ≤ 1000000000000
theorem plus_max {a b : Int} (ha : 0 ≤ a ∧ a ≤ 4611686018427387904) (hb : 0 ≤ b ∧ b ≤ 4611686018427387904) : max (plusL [1, a]) (plusL [1, b]) = plusL [1, max a b] := by
  rw [plus2 (by omega) ha, plus2 (by omega) hb, plus2 (by omega) (by omega)]; omega
theorem rone_any (t : TypeM) (L : List ExtM) (hr : rightOK t L.length = true) (hL : ∀ e ∈ L, extD e) :
    PCall Try.prog 54 [.agg [vI t.kind, vI t.n, vI t.elem, .lst 3 (encPs t.parts)], .lst 4 (encEs L)] (fun r => r = vE (extM t L)) := by
  have hty := rightOK_ty hr
  have hat : ∀ i : Int, 0 ≤ i → i < L.length → extD (atE L i) := fun i h0 h1 => by
    rw [atE_get (by omega)]; exact hL _ (List.getElem_mem _)
  refine go_fn (tyOf_ok _) Try.func54 rfl rfl (by rw [Try.results54]) Try.ntmps54 rfl fun E => ?_
  rcases rightOK_kind hr with hk | hk | hk
  · have hlf := rleaf_any t L hk
    have k4 : (t.kind = 4) = False := eq_false (by omega)
    have k5 : (t.kind = 5) = False := eq_false (by omega)
    have k6 : (t.kind = 6) = False := eq_false (by omega)
    have k7 : (t.kind = 7) = False := eq_false (by omega)
    have k8 : (t.kind = 8) = False := eq_false (by omega)
    unfold vE at hlf ⊢
    (repeat' (first
    | exact trivial
    | (with_reducible first | refine awA ?_ | refine awB ?_ | refine awC ?_ | refine awD ?_ | refine awE ?_ | refine awF ?_ | refine awG ?_ | refine awH ?_ | refine awI ?_ | refine awJ ?_ | refine awK ?_ | refine awL ?_ | refine awM (by decide) ?_)
    | (refine aw_draw (id := 4) (t := (.node [0, 1, 2, 3, 4, 5, 6, 7, 8, 10, 11, 12, 14, 15, 16, 17, 18, 19, 20, 9, 13, 21, 22] [])) (drR [2] [35, 49] []) mixed (by kernel_rfl) (by kernel_rfl) (fun _ _ h => h) ?_)
    | (refine aw_draw (id := 7) (t := (.node [0, 1, 2, 4, 5, 6, 7, 8, 9, 10, 3, 11, 12] [])) (drR [2] [72] []) mixed (by kernel_rfl) (by kernel_rfl) (fun _ _ h => h) ?_)
    | (refine aw_draw (id := 9) (t := (.node [0, 1, 2, 3, 4, 5, 7, 8, 9, 10, 11, 12, 13, 6, 14, 15] [])) (drR [2] [82, 89] []) mixed (by kernel_rfl) (by kernel_rfl) (fun _ _ h => h) ?_)
    | (refine aw_draw (id := 17) (t := (.node [0, 1, 3, 4, 6, 7, 8, 2, 5, 9, 10] [])) (drR [9] [] []) mixed (by kernel_rfl) (by kernel_rfl) (fun _ _ h => h) ?_)
    | (refine aw_draw (id := 25) (t := (.node [0, 1, 2, 3, 4, 5, 6, 7, 8, 10, 11, 12, 14, 15, 16, 17, 18, 9, 13, 19, 20] [])) (drR [14] [169, 175, 179, 183] []) mixed (by kernel_rfl) (by kernel_rfl) (fun _ _ h => h) ?_)
    | (refine at_done (by simp only [List.filterMap_cons, List.filterMap_nil, List.getElem?_toArray, List.getElem?_cons_zero, List.getElem?_cons_succ]; exact rfl) ?_) | (refine at_alt (by simp only [List.filterMap_cons, List.filterMap_nil, List.getElem?_toArray, List.getElem?_cons_zero, List.getElem?_cons_succ]; exact rfl) ?_) | refine qalt_normal ?_ | refine ats_cons ?_ ?_ | exact ats_nil
    | ((with_reducible first | refine awN (tyOf_ok _) [] ?_ | refine awO (tyOf_ok _) [] ?_ | refine awP (tyOf_ok _) [] ?_ | refine awQ ?_ | refine awR ?_ | refine awS ?_); intro r hr; simp only [go_sem, Nat.reduceBEq, Nat.reduceBneDiff, Nat.reduceLT, Nat.reduceLeDiff, Nat.reduceAdd, Nat.reduceMul, Nat.reduceSub, Nat.reduceEqDiff, reduceCtorEq, k4, k5, k6, k7, k8] at hr; subst hr; (first | refine caA (fun _ => hlf) rfl ?_ ?_ ?_ | refine awV ?_ ?_ | refine awW ?_ ?_ | refine endK ?_ ?_ | (refine condK (fun h => ?_) (fun h => ?_) <;> (try simp only [go_sem, reduceCtorEq] at h) <;> (try (exfalso; omega))))) | fail)) <;> (try omega)
    exact rfl
  · have he := hty.1 hk
    have hn := rightOK_n hr hk
    have g1 := encEs_atI (L := L) he.1 he.2
    obtain ⟨hG, hD⟩ := hat _ he.1 he.2
    unfold extG at hG
    have hpt := rpart_any (atE L t.elem) (by unfold I64; omega) (by unfold I64; omega)
    have w1 := withinM_bd (f := (atE L t.elem).fixed) (b := (atE L t.elem).least) (by omega)
    have w2 := withinM_bd (f := (atE L t.elem).fixed) (b := (atE L t.elem).most) (by omega)
    have hd := wrap_i64 (n := 1 + (atE L t.elem).depth) (by omega)
    have t1 := rtimes_any t.n (withinM (atE L t.elem).fixed (atE L t.elem).least) (by unfold I64; omega) (by unfold I64; omega)
    have t2 := rtimes_any t.n (withinM (atE L t.elem).fixed (atE L t.elem).most) (by unfold I64; omega) (by unfold I64; omega)
    have p1 := rplus_any 1 (atE L t.elem).most (by decide) (by unfold I64; omega)
    rcases hk with h | h | h
    · have k4 : (t.kind = 4) = True := eq_true h
      generalize hE : extM t L = e
      unfold extM at hE
      rw [if_neg (by omega), if_neg (by omega), if_neg (by omega), if_pos h] at hE
      subst hE
      (repeat' (first
    | exact trivial
    | (with_reducible first | refine awA ?_ | refine awB ?_ | refine awC ?_ | refine awD ?_ | refine awE ?_ | refine awF ?_ | refine awG ?_ | refine awH ?_ | refine awI ?_ | refine awJ ?_ | refine awK ?_ | refine awL ?_ | refine awM (by decide) ?_)
    | (refine aw_draw (id := 4) (t := (.node [0, 1, 2, 3, 4, 5, 6, 7, 8, 10, 11, 12, 14, 15, 16, 17, 18, 19, 20, 9, 13, 21, 22] [])) (drR [2] [35, 49] []) mixed (by kernel_rfl) (by kernel_rfl) (fun _ _ h => h) ?_)
    | (refine aw_draw (id := 7) (t := (.node [0, 1, 2, 4, 5, 6, 7, 8, 9, 10, 3, 11, 12] [])) (drR [2] [72] []) mixed (by kernel_rfl) (by kernel_rfl) (fun _ _ h => h) ?_)
    | (refine aw_draw (id := 9) (t := (.node [0, 1, 2, 3, 4, 5, 7, 8, 9, 10, 11, 12, 13, 6, 14, 15] [])) (drR [2] [82, 89] []) mixed (by kernel_rfl) (by kernel_rfl) (fun _ _ h => h) ?_)
    | (refine aw_draw (id := 17) (t := (.node [0, 1, 3, 4, 6, 7, 8, 2, 5, 9, 10] [])) (drR [9] [] []) mixed (by kernel_rfl) (by kernel_rfl) (fun _ _ h => h) ?_)
    | (refine aw_draw (id := 25) (t := (.node [0, 1, 2, 3, 4, 5, 6, 7, 8, 10, 11, 12, 14, 15, 16, 17, 18, 9, 13, 19, 20] [])) (drR [14] [169, 175, 179, 183] []) mixed (by kernel_rfl) (by kernel_rfl) (fun _ _ h => h) ?_)
    | (refine at_done (by simp only [List.filterMap_cons, List.filterMap_nil, List.getElem?_toArray, List.getElem?_cons_zero, List.getElem?_cons_succ]; exact rfl) ?_) | (refine at_alt (by simp only [List.filterMap_cons, List.filterMap_nil, List.getElem?_toArray, List.getElem?_cons_zero, List.getElem?_cons_succ]; exact rfl) ?_) | refine qalt_normal ?_ | refine ats_cons ?_ ?_ | exact ats_nil
    | ((with_reducible first | refine awN (tyOf_ok _) [] ?_ | refine awO (tyOf_ok _) [] ?_ | refine awP (tyOf_ok _) [] ?_ | refine awQ ?_ | refine awR ?_ | refine awS ?_); intro r hr; simp only [go_sem, Nat.reduceBEq, Nat.reduceBneDiff, Nat.reduceLT, Nat.reduceLeDiff, Nat.reduceAdd, Nat.reduceMul, Nat.reduceSub, Nat.reduceEqDiff, reduceCtorEq, encEs_len, g1, k4, hd] at hr; subst hr; (first | refine caA (fun _ => hpt) rfl ?_ ?_ ?_ | refine caA (fun _ => t1) rfl ?_ ?_ ?_ | refine caA (fun _ => t2) rfl ?_ ?_ ?_ | refine awV ?_ ?_ | refine awW ?_ ?_ | refine endK ?_ ?_ | (refine condK (fun h => ?_) (fun h => ?_) <;> (try simp only [go_sem, reduceCtorEq] at h) <;> (try (exfalso; omega))))) | fail)) <;> (try omega)
      exact rfl
    · have k4 : (t.kind = 4) = False := eq_false (by omega)
      have k5 : (t.kind = 5) = True := eq_true h
      generalize hE : extM t L = e
      unfold extM at hE
      rw [if_neg (by omega), if_neg (by omega), if_neg (by omega), if_neg (by omega), if_pos h] at hE
      subst hE
      (repeat' (first
    | exact trivial
    | (with_reducible first | refine awA ?_ | refine awB ?_ | refine awC ?_ | refine awD ?_ | refine awE ?_ | refine awF ?_ | refine awG ?_ | refine awH ?_ | refine awI ?_ | refine awJ ?_ | refine awK ?_ | refine awL ?_ | refine awM (by decide) ?_)
    | (refine aw_draw (id := 4) (t := (.node [0, 1, 2, 3, 4, 5, 6, 7, 8, 10, 11, 12, 14, 15, 16, 17, 18, 19, 20, 9, 13, 21, 22] [])) (drR [2] [35, 49] []) mixed (by kernel_rfl) (by kernel_rfl) (fun _ _ h => h) ?_)
    | (refine aw_draw (id := 7) (t := (.node [0, 1, 2, 4, 5, 6, 7, 8, 9, 10, 3, 11, 12] [])) (drR [2] [72] []) mixed (by kernel_rfl) (by kernel_rfl) (fun _ _ h => h) ?_)
    | (refine aw_draw (id := 9) (t := (.node [0, 1, 2, 3, 4, 5, 7, 8, 9, 10, 11, 12, 13, 6, 14, 15] [])) (drR [2] [82, 89] []) mixed (by kernel_rfl) (by kernel_rfl) (fun _ _ h => h) ?_)
    | (refine aw_draw (id := 17) (t := (.node [0, 1, 3, 4, 6, 7, 8, 2, 5, 9, 10] [])) (drR [9] [] []) mixed (by kernel_rfl) (by kernel_rfl) (fun _ _ h => h) ?_)
    | (refine aw_draw (id := 25) (t := (.node [0, 1, 2, 3, 4, 5, 6, 7, 8, 10, 11, 12, 14, 15, 16, 17, 18, 9, 13, 19, 20] [])) (drR [14] [169, 175, 179, 183] []) mixed (by kernel_rfl) (by kernel_rfl) (fun _ _ h => h) ?_)
    | (refine at_done (by simp only [List.filterMap_cons, List.filterMap_nil, List.getElem?_toArray, List.getElem?_cons_zero, List.getElem?_cons_succ]; exact rfl) ?_) | (refine at_alt (by simp only [List.filterMap_cons, List.filterMap_nil, List.getElem?_toArray, List.getElem?_cons_zero, List.getElem?_cons_succ]; exact rfl) ?_) | refine qalt_normal ?_ | refine ats_cons ?_ ?_ | exact ats_nil
    | ((with_reducible first | refine awN (tyOf_ok _) [] ?_ | refine awO (tyOf_ok _) [] ?_ | refine awP (tyOf_ok _) [] ?_ | refine awQ ?_ | refine awR ?_ | refine awS ?_); intro r hr; simp only [go_sem, Nat.reduceBEq, Nat.reduceBneDiff, Nat.reduceLT, Nat.reduceLeDiff, Nat.reduceAdd, Nat.reduceMul, Nat.reduceSub, Nat.reduceEqDiff, reduceCtorEq, encEs_len, g1, k4, k5, hd] at hr; subst hr; (first | refine caA (fun _ => hpt) rfl ?_ ?_ ?_ | refine caA (fun _ => t2) rfl ?_ ?_ ?_ | refine awV ?_ ?_ | refine awW ?_ ?_ | refine endK ?_ ?_ | (refine condK (fun h => ?_) (fun h => ?_) <;> (try simp only [go_sem, reduceCtorEq] at h) <;> (try (exfalso; omega))))) | fail)) <;> (try omega)
      exact rfl
    · have k4 : (t.kind = 4) = False := eq_false (by omega)
      have k5 : (t.kind = 5) = False := eq_false (by omega)
      have k6 : (t.kind = 6) = True := eq_true h
      generalize hE : extM t L = e
      unfold extM at hE
      rw [if_neg (by omega), if_neg (by omega), if_neg (by omega), if_neg (by omega), if_neg (by omega), if_pos h] at hE
      subst hE
      (repeat' (first
    | exact trivial
    | (with_reducible first | refine awA ?_ | refine awB ?_ | refine awC ?_ | refine awD ?_ | refine awE ?_ | refine awF ?_ | refine awG ?_ | refine awH ?_ | refine awI ?_ | refine awJ ?_ | refine awK ?_ | refine awL ?_ | refine awM (by decide) ?_)
    | (refine aw_draw (id := 4) (t := (.node [0, 1, 2, 3, 4, 5, 6, 7, 8, 10, 11, 12, 14, 15, 16, 17, 18, 19, 20, 9, 13, 21, 22] [])) (drR [2] [35, 49] []) mixed (by kernel_rfl) (by kernel_rfl) (fun _ _ h => h) ?_)
    | (refine aw_draw (id := 7) (t := (.node [0, 1, 2, 4, 5, 6, 7, 8, 9, 10, 3, 11, 12] [])) (drR [2] [72] []) mixed (by kernel_rfl) (by kernel_rfl) (fun _ _ h => h) ?_)
    | (refine aw_draw (id := 9) (t := (.node [0, 1, 2, 3, 4, 5, 7, 8, 9, 10, 11, 12, 13, 6, 14, 15] [])) (drR [2] [82, 89] []) mixed (by kernel_rfl) (by kernel_rfl) (fun _ _ h => h) ?_)
    | (refine aw_draw (id := 17) (t := (.node [0, 1, 3, 4, 6, 7, 8, 2, 5, 9, 10] [])) (drR [9] [] []) mixed (by kernel_rfl) (by kernel_rfl) (fun _ _ h => h) ?_)
    | (refine aw_draw (id := 25) (t := (.node [0, 1, 2, 3, 4, 5, 6, 7, 8, 10, 11, 12, 14, 15, 16, 17, 18, 9, 13, 19, 20] [])) (drR [14] [169, 175, 179, 183] []) mixed (by kernel_rfl) (by kernel_rfl) (fun _ _ h => h) ?_)
    | (refine at_done (by simp only [List.filterMap_cons, List.filterMap_nil, List.getElem?_toArray, List.getElem?_cons_zero, List.getElem?_cons_succ]; exact rfl) ?_) | (refine at_alt (by simp only [List.filterMap_cons, List.filterMap_nil, List.getElem?_toArray, List.getElem?_cons_zero, List.getElem?_cons_succ]; exact rfl) ?_) | refine qalt_normal ?_ | refine ats_cons ?_ ?_ | exact ats_nil
    | ((with_reducible first | refine awN (tyOf_ok _) [] ?_ | refine awO (tyOf_ok _) [] ?_ | refine awP (tyOf_ok _) [] ?_ | refine awQ ?_ | refine awR ?_ | refine awS ?_); intro r hr; simp only [go_sem, Nat.reduceBEq, Nat.reduceBneDiff, Nat.reduceLT, Nat.reduceLeDiff, Nat.reduceAdd, Nat.reduceMul, Nat.reduceSub, Nat.reduceEqDiff, reduceCtorEq, encEs_len, g1, k4, k5, k6, hd] at hr; subst hr; (first | refine caA (fun _ => p1) rfl ?_ ?_ ?_ | refine awV ?_ ?_ | refine awW ?_ ?_ | refine endK ?_ ?_ | (refine condK (fun h => ?_) (fun h => ?_) <;> (try simp only [go_sem, reduceCtorEq] at h) <;> (try (exfalso; omega))))) | fail)) <;> (try omega)
      exact rfl
  · have hpp := right_parts hr hk
    have hps : ∀ p ∈ t.parts, (0 ≤ p.ty ∧ p.ty < L.length) ∧ extD (atE L p.ty) := fun p hp => ⟨hty.2 p hp, hat _ (hty.2 p hp).1 (hty.2 p hp).2⟩
    have k4 : (t.kind = 4) = False := eq_false (by omega)
    have k5 : (t.kind = 5) = False := eq_false (by omega)
    have k6 : (t.kind = 6) = False := eq_false (by omega)
    rcases hk with h | h
    · have k7 : (t.kind = 7) = True := eq_true h
      have hx : extM t L = ⟨false, plusL [1, (uni L t.parts (4611686018427387904, 0, 1)).1], (uni L t.parts (4611686018427387904, 0, 1)).2.1, (uni L t.parts (4611686018427387904, 0, 1)).2.2⟩ := by
        unfold extM; rw [if_neg (by omega), if_neg (by omega), if_neg (by omega), if_neg (by omega), if_neg (by omega), if_neg (by omega), if_pos h]
      rw [hx]
      have hl0 : 0 < t.parts.length := by omega
      have g0 := encPs_get hl0
      obtain ⟨⟨q0, q1⟩, ⟨qG, qD⟩⟩ := hps _ (List.getElem_mem hl0)
      have g1 := encEs_atI (L := L) q0 q1
      unfold extG at qG
      (repeat' (first
    | exact trivial
    | (with_reducible first | refine awA ?_ | refine awB ?_ | refine awC ?_ | refine awD ?_ | refine awE ?_ | refine awF ?_ | refine awG ?_ | refine awH ?_ | refine awI ?_ | refine awJ ?_ | refine awK ?_ | refine awL ?_ | refine awM (by decide) ?_)
    | (refine aw_draw (id := 4) (t := (.node [0, 1, 2, 3, 4, 5, 6, 7, 8, 10, 11, 12, 14, 15, 16, 17, 18, 19, 20, 9, 13, 21, 22] [])) (drR [2] [35, 49] []) mixed (by kernel_rfl) (by kernel_rfl) (fun _ _ h => h) ?_)
    | (refine aw_draw (id := 7) (t := (.node [0, 1, 2, 4, 5, 6, 7, 8, 9, 10, 3, 11, 12] [])) (drR [2] [72] []) mixed (by kernel_rfl) (by kernel_rfl) (fun _ _ h => h) ?_)
    | (refine aw_draw (id := 9) (t := (.node [0, 1, 2, 3, 4, 5, 7, 8, 9, 10, 11, 12, 13, 6, 14, 15] [])) (drR [2] [82, 89] []) mixed (by kernel_rfl) (by kernel_rfl) (fun _ _ h => h) ?_)
    | (refine aw_draw (id := 17) (t := (.node [0, 1, 3, 4, 6, 7, 8, 2, 5, 9, 10] [])) (drR [9] [] []) mixed (by kernel_rfl) (by kernel_rfl) (fun _ _ h => h) ?_)
    | (refine aw_draw (id := 25) (t := (.node [0, 1, 2, 3, 4, 5, 6, 7, 8, 10, 11, 12, 14, 15, 16, 17, 18, 9, 13, 19, 20] [])) (drR [14] [169, 175, 179, 183] []) mixed (by kernel_rfl) (by kernel_rfl) (fun _ _ h => h) ?_)
    | (refine at_done (by simp only [List.filterMap_cons, List.filterMap_nil, List.getElem?_toArray, List.getElem?_cons_zero, List.getElem?_cons_succ]; exact rfl) ?_) | (refine at_alt (by simp only [List.filterMap_cons, List.filterMap_nil, List.getElem?_toArray, List.getElem?_cons_zero, List.getElem?_cons_succ]; exact rfl) ?_) | refine qalt_normal ?_ | refine ats_cons ?_ ?_ | exact ats_nil
    | ((with_reducible first | refine awN (tyOf_ok _) [] ?_ | refine awO (tyOf_ok _) [] ?_ | refine awP (tyOf_ok _) [] ?_ | refine awQ ?_ | refine awR ?_ | refine awS ?_); intro r hr; simp only [go_sem, Nat.reduceBEq, Nat.reduceBneDiff, Nat.reduceLT, Nat.reduceLeDiff, Nat.reduceAdd, Nat.reduceMul, Nat.reduceSub, Nat.reduceEqDiff, reduceCtorEq, encEs_len, encPs_len, g0, g1, k4, k5, k6, k7, Int.toNat_zero] at hr; subst hr; (first | refine awV ?_ ?_ | refine awW ?_ ?_ | refine endK ?_ ?_ | (refine condK (fun h => ?_) (fun h => ?_) <;> (try simp only [go_sem, reduceCtorEq] at h) <;> (try (exfalso; omega))))) | fail)) <;> (try omega)
      refine go_loop [1, 2, 4, 9, 10] [2, 4, 9] (fun q : Nat × ExtM => ⟨[(1, true, .lst 4 (encEs L)), (2, true, .ptr 1 2 0 0), (4, true, .ptr 1 4 0 0), (9, true, .ptr 1 9 0 0), (10, true, vI q.1)],
          [(2, .var [vI t.kind, vI t.n, vI t.elem, .lst 3 (encPs t.parts)]), (4, .var [vB false, vI 0, vI 0, vI 0]), (9, .var [vB q.2.fixed, vI q.2.least, vI q.2.most, vI q.2.depth])]⟩)
        (fun q => q.1 ≤ t.parts.length ∧ uni L (t.parts.take q.1) (4611686018427387904, 0, 1) = (q.2.least, plusL [1, q.2.most], 1 + q.2.depth) ∧ (0 ≤ q.2.least ∧ q.2.least ≤ 4611686018427387904) ∧ (0 ≤ q.2.most ∧ q.2.most ≤ 4611686018427387904) ∧ 0 ≤ q.2.depth ∧ q.2.depth ≤ 1000000000000)
        (fun q => t.parts.length - q.1) (1, atE L t.parts[0].ty) (by simp only [go_sem, Nat.reduceBEq, Nat.reduceBneDiff, Nat.reduceLT, Nat.reduceLeDiff, Nat.reduceAdd, Nat.reduceMul, Nat.reduceSub, Nat.reduceEqDiff, reduceCtorEq] <;> exact rfl) ⟨hl0, ?_, by simp only; omega, by simp only; omega, by simp only; omega, by simp only; omega⟩ ?_
      · rw [List.take_succ_eq_append_getElem hl0, List.take_zero, List.nil_append]
        show ((min (4611686018427387904 : Int) (atE L t.parts[0].ty).least, max (0 : Int) (plusL [1, (atE L t.parts[0].ty).most]), max (1 : Int) (1 + (atE L t.parts[0].ty).depth)) : Int × Int × Int) = _
        have hb := plusL_bd [1, (atE L t.parts[0].ty).most]
        rw [Int.max_eq_right hb.1, Int.max_eq_right (by omega), Int.min_eq_right (by omega)]
        rfl
      intro ⟨k, e⟩ ⟨hk, hu, hl, hm, hd0, hd1⟩
      simp only at hk hu hl hm hd0 hd1
      have hwk := wrap_i64 (n := (k : Int) + 1) (by omega)
      by_cases hlt : k < t.parts.length
      · have f1 : ((k : Int) < t.parts.length) = True := eq_true (by omega)
        have g3 := encPs_get hlt
        obtain ⟨⟨r0, r1⟩, ⟨rG, rD⟩⟩ := hps _ (List.getElem_mem hlt)
        have g4 := encEs_atI (L := L) r0 r1
        unfold extG at rG
        have hnx : uni L (t.parts.take (k + 1)) (4611686018427387904, 0, 1) = (min e.least (atE L t.parts[k].ty).least, plusL [1, max e.most (atE L t.parts[k].ty).most], 1 + max e.depth (atE L t.parts[k].ty).depth) := by
          rw [List.take_succ_eq_append_getElem hlt, uni, List.foldl_append]
          have hu' : (t.parts.take k).foldl (fun x p => (min x.1 (atE L p.ty).least, max x.2.1 (plusL [1, (atE L p.ty).most]), max x.2.2 (1 + (atE L p.ty).depth))) (4611686018427387904, 0, 1) = (e.least, plusL [1, e.most], 1 + e.depth) := hu
          rw [hu']
          show (min e.least (atE L t.parts[k].ty).least, max (plusL [1, e.most]) (plusL [1, (atE L t.parts[k].ty).most]), max (1 + e.depth) (1 + (atE L t.parts[k].ty).depth)) = _
          rw [plus_max hm (by omega)]
          congr 2
          omega
        generalize t.parts[k] = p at *
        (repeat' (first
    | exact trivial
    | (with_reducible first | refine awA ?_ | refine awB ?_ | refine awC ?_ | refine awD ?_ | refine awE ?_ | refine awF ?_ | refine awG ?_ | refine awH ?_ | refine awI ?_ | refine awJ ?_ | refine awK ?_ | refine awL ?_ | refine awM (by decide) ?_)
    | (refine aw_draw (id := 4) (t := (.node [0, 1, 2, 3, 4, 5, 6, 7, 8, 10, 11, 12, 14, 15, 16, 17, 18, 19, 20, 9, 13, 21, 22] [])) (drR [2] [35, 49] []) mixed (by kernel_rfl) (by kernel_rfl) (fun _ _ h => h) ?_)
    | (refine aw_draw (id := 7) (t := (.node [0, 1, 2, 4, 5, 6, 7, 8, 9, 10, 3, 11, 12] [])) (drR [2] [72] []) mixed (by kernel_rfl) (by kernel_rfl) (fun _ _ h => h) ?_)
    | (refine aw_draw (id := 9) (t := (.node [0, 1, 2, 3, 4, 5, 7, 8, 9, 10, 11, 12, 13, 6, 14, 15] [])) (drR [2] [82, 89] []) mixed (by kernel_rfl) (by kernel_rfl) (fun _ _ h => h) ?_)
    | (refine aw_draw (id := 17) (t := (.node [0, 1, 3, 4, 6, 7, 8, 2, 5, 9, 10] [])) (drR [9] [] []) mixed (by kernel_rfl) (by kernel_rfl) (fun _ _ h => h) ?_)
    | (refine aw_draw (id := 25) (t := (.node [0, 1, 2, 3, 4, 5, 6, 7, 8, 10, 11, 12, 14, 15, 16, 17, 18, 9, 13, 19, 20] [])) (drR [14] [169, 175, 179, 183] []) mixed (by kernel_rfl) (by kernel_rfl) (fun _ _ h => h) ?_)
    | (refine at_done (by simp only [List.filterMap_cons, List.filterMap_nil, List.getElem?_toArray, List.getElem?_cons_zero, List.getElem?_cons_succ]; exact rfl) ?_) | (refine at_alt (by simp only [List.filterMap_cons, List.filterMap_nil, List.getElem?_toArray, List.getElem?_cons_zero, List.getElem?_cons_succ]; exact rfl) ?_) | refine qalt_normal ?_ | refine ats_cons ?_ ?_ | exact ats_nil
    | ((with_reducible first | refine awN (tyOf_ok _) [] ?_ | refine awO (tyOf_ok _) [] ?_ | refine awP (tyOf_ok _) [] ?_ | refine awQ ?_ | refine awR ?_ | refine awS ?_); intro r hr; simp only [go_sem, Nat.reduceBEq, Nat.reduceBneDiff, Nat.reduceLT, Nat.reduceLeDiff, Nat.reduceAdd, Nat.reduceMul, Nat.reduceSub, Nat.reduceEqDiff, reduceCtorEq, encEs_len, encPs_len, hwk, f1, g3, g4] at hr; subst hr; (first | refine awV ?_ ?_ | refine awW ?_ ?_ | refine endK ?_ ?_ | (refine condK (fun h => ?_) (fun h => ?_) <;> (try simp only [go_sem, reduceCtorEq] at h) <;> (try (exfalso; omega))))) | fail)) <;> (try omega)
        exact ⟨(k + 1, ⟨false, min e.least (atE L p.ty).least, max e.most (atE L p.ty).most, max e.depth (atE L p.ty).depth⟩), by simp only [go_sem, Nat.reduceBEq, Nat.reduceBneDiff, Nat.reduceLT, Nat.reduceLeDiff, Nat.reduceAdd, Nat.reduceMul, Nat.reduceSub, Nat.reduceEqDiff, reduceCtorEq] <;> exact rfl, ⟨hlt, hnx, by simp only; omega, by simp only; omega, by simp only; omega, by simp only; omega⟩, by simp only; omega⟩
      · have f1 : ((k : Int) < t.parts.length) = False := eq_false (by omega)
        rw [take_len (by omega)] at hu
        rw [hu]
        have p1 := rplus_any 1 e.least (by decide) (by unfold I64; omega)
        have p2 := rplus_any 1 e.most (by decide) (by unfold I64; omega)
        have hwd := wrap_i64 (n := 1 + e.depth) (by omega)
        (repeat' (first
    | exact trivial
    | (with_reducible first | refine awA ?_ | refine awB ?_ | refine awC ?_ | refine awD ?_ | refine awE ?_ | refine awF ?_ | refine awG ?_ | refine awH ?_ | refine awI ?_ | refine awJ ?_ | refine awK ?_ | refine awL ?_ | refine awM (by decide) ?_)
    | (refine aw_draw (id := 4) (t := (.node [0, 1, 2, 3, 4, 5, 6, 7, 8, 10, 11, 12, 14, 15, 16, 17, 18, 19, 20, 9, 13, 21, 22] [])) (drR [2] [35, 49] []) mixed (by kernel_rfl) (by kernel_rfl) (fun _ _ h => h) ?_)
    | (refine aw_draw (id := 7) (t := (.node [0, 1, 2, 4, 5, 6, 7, 8, 9, 10, 3, 11, 12] [])) (drR [2] [72] []) mixed (by kernel_rfl) (by kernel_rfl) (fun _ _ h => h) ?_)
    | (refine aw_draw (id := 9) (t := (.node [0, 1, 2, 3, 4, 5, 7, 8, 9, 10, 11, 12, 13, 6, 14, 15] [])) (drR [2] [82, 89] []) mixed (by kernel_rfl) (by kernel_rfl) (fun _ _ h => h) ?_)
    | (refine aw_draw (id := 17) (t := (.node [0, 1, 3, 4, 6, 7, 8, 2, 5, 9, 10] [])) (drR [9] [] []) mixed (by kernel_rfl) (by kernel_rfl) (fun _ _ h => h) ?_)
    | (refine aw_draw (id := 25) (t := (.node [0, 1, 2, 3, 4, 5, 6, 7, 8, 10, 11, 12, 14, 15, 16, 17, 18, 9, 13, 19, 20] [])) (drR [14] [169, 175, 179, 183] []) mixed (by kernel_rfl) (by kernel_rfl) (fun _ _ h => h) ?_)
    | (refine at_done (by simp only [List.filterMap_cons, List.filterMap_nil, List.getElem?_toArray, List.getElem?_cons_zero, List.getElem?_cons_succ]; exact rfl) ?_) | (refine at_alt (by simp only [List.filterMap_cons, List.filterMap_nil, List.getElem?_toArray, List.getElem?_cons_zero, List.getElem?_cons_succ]; exact rfl) ?_) | refine qalt_normal ?_ | refine ats_cons ?_ ?_ | exact ats_nil
    | ((with_reducible first | refine awN (tyOf_ok _) [] ?_ | refine awO (tyOf_ok _) [] ?_ | refine awP (tyOf_ok _) [] ?_ | refine awQ ?_ | refine awR ?_ | refine awS ?_); intro r hr; simp only [go_sem, Nat.reduceBEq, Nat.reduceBneDiff, Nat.reduceLT, Nat.reduceLeDiff, Nat.reduceAdd, Nat.reduceMul, Nat.reduceSub, Nat.reduceEqDiff, reduceCtorEq, encPs_len, f1, hwd] at hr; subst hr; (first | refine caA (fun _ => p1) rfl ?_ ?_ ?_ | refine caA (fun _ => p2) rfl ?_ ?_ ?_ | refine awV ?_ ?_ | refine awW ?_ ?_ | refine endK ?_ ?_ | (refine condK (fun h => ?_) (fun h => ?_) <;> (try simp only [go_sem, reduceCtorEq] at h) <;> (try (exfalso; omega))))) | fail)) <;> (try omega)
        exact rfl
    · have k7 : (t.kind = 7) = False := eq_false (by omega)
      have k8 : (t.kind = 8) = True := eq_true h
      have hx : extM t L = str L t.parts ⟨true, 0, 0, 1⟩ := by
        unfold extM; rw [if_neg (by omega), if_neg (by omega), if_neg (by omega), if_neg (by omega), if_neg (by omega), if_neg (by omega), if_neg (by omega)]
      rw [hx]
      (repeat' (first
    | exact trivial
    | (with_reducible first | refine awA ?_ | refine awB ?_ | refine awC ?_ | refine awD ?_ | refine awE ?_ | refine awF ?_ | refine awG ?_ | refine awH ?_ | refine awI ?_ | refine awJ ?_ | refine awK ?_ | refine awL ?_ | refine awM (by decide) ?_)
    | (refine aw_draw (id := 4) (t := (.node [0, 1, 2, 3, 4, 5, 6, 7, 8, 10, 11, 12, 14, 15, 16, 17, 18, 19, 20, 9, 13, 21, 22] [])) (drR [2] [35, 49] []) mixed (by kernel_rfl) (by kernel_rfl) (fun _ _ h => h) ?_)
    | (refine aw_draw (id := 7) (t := (.node [0, 1, 2, 4, 5, 6, 7, 8, 9, 10, 3, 11, 12] [])) (drR [2] [72] []) mixed (by kernel_rfl) (by kernel_rfl) (fun _ _ h => h) ?_)
    | (refine aw_draw (id := 9) (t := (.node [0, 1, 2, 3, 4, 5, 7, 8, 9, 10, 11, 12, 13, 6, 14, 15] [])) (drR [2] [82, 89] []) mixed (by kernel_rfl) (by kernel_rfl) (fun _ _ h => h) ?_)
    | (refine aw_draw (id := 17) (t := (.node [0, 1, 3, 4, 6, 7, 8, 2, 5, 9, 10] [])) (drR [9] [] []) mixed (by kernel_rfl) (by kernel_rfl) (fun _ _ h => h) ?_)
    | (refine aw_draw (id := 25) (t := (.node [0, 1, 2, 3, 4, 5, 6, 7, 8, 10, 11, 12, 14, 15, 16, 17, 18, 9, 13, 19, 20] [])) (drR [14] [169, 175, 179, 183] []) mixed (by kernel_rfl) (by kernel_rfl) (fun _ _ h => h) ?_)
    | (refine at_done (by simp only [List.filterMap_cons, List.filterMap_nil, List.getElem?_toArray, List.getElem?_cons_zero, List.getElem?_cons_succ]; exact rfl) ?_) | (refine at_alt (by simp only [List.filterMap_cons, List.filterMap_nil, List.getElem?_toArray, List.getElem?_cons_zero, List.getElem?_cons_succ]; exact rfl) ?_) | refine qalt_normal ?_ | refine ats_cons ?_ ?_ | exact ats_nil
    | ((with_reducible first | refine awN (tyOf_ok _) [] ?_ | refine awO (tyOf_ok _) [] ?_ | refine awP (tyOf_ok _) [] ?_ | refine awQ ?_ | refine awR ?_ | refine awS ?_); intro r hr; simp only [go_sem, Nat.reduceBEq, Nat.reduceBneDiff, Nat.reduceLT, Nat.reduceLeDiff, Nat.reduceAdd, Nat.reduceMul, Nat.reduceSub, Nat.reduceEqDiff, reduceCtorEq, encEs_len, encPs_len, k4, k5, k6, k7, k8] at hr; subst hr; (first | refine awV ?_ ?_ | refine awW ?_ ?_ | refine endK ?_ ?_ | (refine condK (fun h => ?_) (fun h => ?_) <;> (try simp only [go_sem, reduceCtorEq] at h) <;> (try (exfalso; omega))))) | fail)) <;> (try omega)
      refine go_loop [1, 2, 4, 12, 13] [2, 4, 12] (fun q : Nat × ExtM => ⟨[(1, true, .lst 4 (encEs L)), (2, true, .ptr 1 2 0 0), (4, true, .ptr 1 4 0 0), (12, true, .ptr 1 12 0 0), (13, true, vI q.1)],
          [(2, .var [vI t.kind, vI t.n, vI t.elem, .lst 3 (encPs t.parts)]), (4, .var [vB false, vI 0, vI 0, vI 0]), (12, .var [vB q.2.fixed, vI q.2.least, vI q.2.most, vI q.2.depth])]⟩)
        (fun q => q.1 ≤ t.parts.length ∧ str L (t.parts.take q.1) ⟨true, 0, 0, 1⟩ = ⟨q.2.fixed, q.2.least, q.2.most, q.2.depth + 1⟩ ∧ (0 ≤ q.2.least ∧ q.2.least ≤ 4611686018427387904) ∧ (0 ≤ q.2.most ∧ q.2.most ≤ 4611686018427387904) ∧ 0 ≤ q.2.depth ∧ q.2.depth ≤ 1000000000000)
        (fun q => t.parts.length - q.1) (0, ⟨true, 0, 0, 0⟩) (by simp only [go_sem, Nat.reduceBEq, Nat.reduceBneDiff, Nat.reduceLT, Nat.reduceLeDiff, Nat.reduceAdd, Nat.reduceMul, Nat.reduceSub, Nat.reduceEqDiff, reduceCtorEq] <;> exact rfl) ⟨Nat.zero_le _, rfl, by decide, by decide, by decide, by decide⟩ ?_
      intro ⟨k, e⟩ ⟨hk, hu, hl, hm, hd0, hd1⟩
      simp only at hk hu hl hm hd0 hd1
      have hwk := wrap_i64 (n := (k : Int) + 1) (by omega)
      by_cases hlt : k < t.parts.length
      · have f1 : ((k : Int) < t.parts.length) = True := eq_true (by omega)
        have g3 := encPs_get hlt
        obtain ⟨⟨r0, r1⟩, ⟨rG, rD⟩⟩ := hps _ (List.getElem_mem hlt)
        have g4 := encEs_atI (L := L) r0 r1
        unfold extG at rG
        have hnx : str L (t.parts.take (k + 1)) ⟨true, 0, 0, 1⟩ = ⟨e.fixed && (atE L t.parts[k].ty).fixed, plusL [e.least, withinM (atE L t.parts[k].ty).fixed (atE L t.parts[k].ty).least], plusL [e.most, withinM (atE L t.parts[k].ty).fixed (atE L t.parts[k].ty).most], max e.depth (atE L t.parts[k].ty).depth + 1⟩ := by
          rw [List.take_succ_eq_append_getElem hlt, str_snoc, hu, stepS]
          simp only [ExtM.mk.injEq, true_and]
          omega
        generalize t.parts[k] = p at *
        have hpt := rpart_any (atE L p.ty) (by unfold I64; omega) (by unfold I64; omega)
        have w1 := withinM_bd (f := (atE L p.ty).fixed) (b := (atE L p.ty).least) (by omega)
        have w2 := withinM_bd (f := (atE L p.ty).fixed) (b := (atE L p.ty).most) (by omega)
        have p1 := rplus_any e.least (withinM (atE L p.ty).fixed (atE L p.ty).least) (by unfold I64; omega) (by unfold I64; omega)
        have p2 := rplus_any e.most (withinM (atE L p.ty).fixed (atE L p.ty).most) (by unfold I64; omega) (by unfold I64; omega)
        (repeat' (first
    | exact trivial
    | (with_reducible first | refine awA ?_ | refine awB ?_ | refine awC ?_ | refine awD ?_ | refine awE ?_ | refine awF ?_ | refine awG ?_ | refine awH ?_ | refine awI ?_ | refine awJ ?_ | refine awK ?_ | refine awL ?_ | refine awM (by decide) ?_)
    | (refine aw_draw (id := 4) (t := (.node [0, 1, 2, 3, 4, 5, 6, 7, 8, 10, 11, 12, 14, 15, 16, 17, 18, 19, 20, 9, 13, 21, 22] [])) (drR [2] [35, 49] []) mixed (by kernel_rfl) (by kernel_rfl) (fun _ _ h => h) ?_)
    | (refine aw_draw (id := 7) (t := (.node [0, 1, 2, 4, 5, 6, 7, 8, 9, 10, 3, 11, 12] [])) (drR [2] [72] []) mixed (by kernel_rfl) (by kernel_rfl) (fun _ _ h => h) ?_)
    | (refine aw_draw (id := 9) (t := (.node [0, 1, 2, 3, 4, 5, 7, 8, 9, 10, 11, 12, 13, 6, 14, 15] [])) (drR [2] [82, 89] []) mixed (by kernel_rfl) (by kernel_rfl) (fun _ _ h => h) ?_)
    | (refine aw_draw (id := 17) (t := (.node [0, 1, 3, 4, 6, 7, 8, 2, 5, 9, 10] [])) (drR [9] [] []) mixed (by kernel_rfl) (by kernel_rfl) (fun _ _ h => h) ?_)
    | (refine aw_draw (id := 25) (t := (.node [0, 1, 2, 3, 4, 5, 6, 7, 8, 10, 11, 12, 14, 15, 16, 17, 18, 9, 13, 19, 20] [])) (drR [14] [169, 175, 179, 183] []) mixed (by kernel_rfl) (by kernel_rfl) (fun _ _ h => h) ?_)
    | (refine at_done (by simp only [List.filterMap_cons, List.filterMap_nil, List.getElem?_toArray, List.getElem?_cons_zero, List.getElem?_cons_succ]; exact rfl) ?_) | (refine at_alt (by simp only [List.filterMap_cons, List.filterMap_nil, List.getElem?_toArray, List.getElem?_cons_zero, List.getElem?_cons_succ]; exact rfl) ?_) | refine qalt_normal ?_ | refine ats_cons ?_ ?_ | exact ats_nil
    | ((with_reducible first | refine awN (tyOf_ok _) [] ?_ | refine awO (tyOf_ok _) [] ?_ | refine awP (tyOf_ok _) [] ?_ | refine awQ ?_ | refine awR ?_ | refine awS ?_); intro r hr; simp only [go_sem, Nat.reduceBEq, Nat.reduceBneDiff, Nat.reduceLT, Nat.reduceLeDiff, Nat.reduceAdd, Nat.reduceMul, Nat.reduceSub, Nat.reduceEqDiff, reduceCtorEq, encEs_len, encPs_len, hwk, f1, g3, g4] at hr; subst hr; (first | refine caA (fun _ => hpt) rfl ?_ ?_ ?_ | refine caA (fun _ => p1) rfl ?_ ?_ ?_ | refine caA (fun _ => p2) rfl ?_ ?_ ?_ | refine awV ?_ ?_ | refine awW ?_ ?_ | refine endK ?_ ?_ | (refine condK (fun h => ?_) (fun h => ?_) <;> (try simp only [go_sem, reduceCtorEq] at h) <;> (try (exfalso; omega))))) | fail)) <;> (try omega)
        all_goals first | exact ⟨(k + 1, ⟨e.fixed && (atE L p.ty).fixed, plusL [e.least, withinM (atE L p.ty).fixed (atE L p.ty).least], plusL [e.most, withinM (atE L p.ty).fixed (atE L p.ty).most], max e.depth (atE L p.ty).depth⟩), by simp only [go_sem, Nat.reduceBEq, Nat.reduceBneDiff, Nat.reduceLT, Nat.reduceLeDiff, Nat.reduceAdd, Nat.reduceMul, Nat.reduceSub, Nat.reduceEqDiff, reduceCtorEq] <;> exact rfl, ⟨hlt, hnx, plusL_bd _, plusL_bd _, by simp only; omega, by simp only; omega⟩, by simp only; omega⟩
      · have f1 : ((k : Int) < t.parts.length) = False := eq_false (by omega)
        rw [take_len (by omega)] at hu
        rw [hu]
        have hwd := wrap_i64 (n := e.depth + 1) (by omega)
        (repeat' (first
    | exact trivial
    | (with_reducible first | refine awA ?_ | refine awB ?_ | refine awC ?_ | refine awD ?_ | refine awE ?_ | refine awF ?_ | refine awG ?_ | refine awH ?_ | refine awI ?_ | refine awJ ?_ | refine awK ?_ | refine awL ?_ | refine awM (by decide) ?_)
    | (refine aw_draw (id := 4) (t := (.node [0, 1, 2, 3, 4, 5, 6, 7, 8, 10, 11, 12, 14, 15, 16, 17, 18, 19, 20, 9, 13, 21, 22] [])) (drR [2] [35, 49] []) mixed (by kernel_rfl) (by kernel_rfl) (fun _ _ h => h) ?_)
    | (refine aw_draw (id := 7) (t := (.node [0, 1, 2, 4, 5, 6, 7, 8, 9, 10, 3, 11, 12] [])) (drR [2] [72] []) mixed (by kernel_rfl) (by kernel_rfl) (fun _ _ h => h) ?_)
    | (refine aw_draw (id := 9) (t := (.node [0, 1, 2, 3, 4, 5, 7, 8, 9, 10, 11, 12, 13, 6, 14, 15] [])) (drR [2] [82, 89] []) mixed (by kernel_rfl) (by kernel_rfl) (fun _ _ h => h) ?_)
    | (refine aw_draw (id := 17) (t := (.node [0, 1, 3, 4, 6, 7, 8, 2, 5, 9, 10] [])) (drR [9] [] []) mixed (by kernel_rfl) (by kernel_rfl) (fun _ _ h => h) ?_)
    | (refine aw_draw (id := 25) (t := (.node [0, 1, 2, 3, 4, 5, 6, 7, 8, 10, 11, 12, 14, 15, 16, 17, 18, 9, 13, 19, 20] [])) (drR [14] [169, 175, 179, 183] []) mixed (by kernel_rfl) (by kernel_rfl) (fun _ _ h => h) ?_)
    | (refine at_done (by simp only [List.filterMap_cons, List.filterMap_nil, List.getElem?_toArray, List.getElem?_cons_zero, List.getElem?_cons_succ]; exact rfl) ?_) | (refine at_alt (by simp only [List.filterMap_cons, List.filterMap_nil, List.getElem?_toArray, List.getElem?_cons_zero, List.getElem?_cons_succ]; exact rfl) ?_) | refine qalt_normal ?_ | refine ats_cons ?_ ?_ | exact ats_nil
    | ((with_reducible first | refine awN (tyOf_ok _) [] ?_ | refine awO (tyOf_ok _) [] ?_ | refine awP (tyOf_ok _) [] ?_ | refine awQ ?_ | refine awR ?_ | refine awS ?_); intro r hr; simp only [go_sem, Nat.reduceBEq, Nat.reduceBneDiff, Nat.reduceLT, Nat.reduceLeDiff, Nat.reduceAdd, Nat.reduceMul, Nat.reduceSub, Nat.reduceEqDiff, reduceCtorEq, encPs_len, f1, hwd] at hr; subst hr; (first | refine awV ?_ ?_ | refine awW ?_ ?_ | refine endK ?_ ?_ | (refine condK (fun h => ?_) (fun h => ?_) <;> (try simp only [go_sem, reduceCtorEq] at h) <;> (try (exfalso; omega))))) | fail)) <;> (try omega)
        exact rfl
end Go.Proofs.Ytljfgohecmhchaa
end
