import Derived.Test.YtfklhppfehkfaaaProg
import Derived.WalkKit
import Derived.WalkSpells
import Derived.WalkLawsBesides
import Derived.Lib.Hide
import Derived.Deep.LoopGhost
import Derived.Deep.QuietTactic
import Derived.BigQuiet
namespace Go.Proofs.Ytfklhppfehkfaaa
open Go.RowKit

theorem ret_int {k : IntKind} {a b : Int} (h : a = b) : Ending.returned (.int k a) = .returned (.int k b) := by rw [h]
theorem ret_bool {a b : Bool} (h : a = b) : Ending.returned (.bool a) = .returned (.bool b) := by rw [h]

/-- the bounds of a Go int -/
def I64 (n : Int) : Prop := -9223372036854775808 ≤ n ∧ n ≤ 9223372036854775807
def U64 (n : Int) : Prop := 0 ≤ n ∧ n ≤ 18446744073709551615
def U8 (n : Int) : Prop := 0 ≤ n ∧ n ≤ 255

/-- a slice's cells, one cell an element: where there is one, they lie in a row below block B -/
def Row (w : World) (B : Nat) (A : Option Addr) (xs : List Value) : Prop :=
  0 < xs.length → ∃ b off, A = some ⟨b, off, none⟩ ∧ b < B ∧ ∀ k u, xs[k]? = some u → w.cell? ⟨b, off + k, none⟩ = some u

section
variable {w w' : World} {B B' : Nat} {A : Option Addr} {xs : List Value}
theorem Row.keep (h : Row w B A xs) (hk : ∀ p : Addr, p.block < B → w'.cell? p = w.cell? p) : Row w' B A xs := fun hn => by
  obtain ⟨b, off, e, hb, hc⟩ := h hn
  exact ⟨b, off, e, hb, fun k u hu => (hk _ hb).trans (hc k u hu)⟩
theorem Row.more (h : Row w B A xs) (hB : B ≤ B') : Row w B' A xs := fun hn => by
  obtain ⟨b, off, e, hb, hc⟩ := h hn
  exact ⟨b, off, e, by omega, hc⟩
theorem Row.below (h : Row w B A xs) (hb : Below B w w') : Row w' B A xs := h.keep fun _ hp => hb.cell hp
theorem Row.drew (h : Row w B A xs) : Row w.drew B A xs := h
theorem Row.drewN (h : Row w B A xs) (k : Nat) : Row (w.drewN k) B A xs := h
theorem Row.alloc (h : Row w B A xs) (hB : B ≤ w.heap.size) (o : Obj) : Row (w.alloc o) B A xs := h.keep fun p hp => World.cell?_alloc_lt w o p (by omega)
theorem Row.setCell (h : Row w B A xs) {p : Addr} (hB : B ≤ p.block) (u : Value) : Row (w.setCell p u) B A xs :=
  h.keep fun q hq => World.cell?_setCell_other w p q u (fun e => by subst e; omega)
theorem Row.ints {k : IntKind} {zs : List Int} (h : Row w B A (zs.map (Value.int k))) (hn : 0 < zs.length) :
    ∃ b off, A = some ⟨b, off, none⟩ ∧ b < B ∧ ∀ j, j < zs.length → w.cell? ⟨b, off + j, none⟩ = some (.int k (zs.getD j 0)) := by
  obtain ⟨b, off, e, hb, hc⟩ := h (by simpa using hn)
  refine ⟨b, off, e, hb, fun j hj => hc j _ ?_⟩
  rw [List.getElem?_map, List.getElem?_eq_getElem hj]
  simp [List.getD_eq_getElem?_getD, List.getElem?_eq_getElem hj]
end

theorem take_snoc_getD {zs : List Int} {k : Nat} (h : k < zs.length) : zs.take (k + 1) = zs.take k ++ [zs.getD k 0] := by
  rw [List.take_succ_eq_append_getElem h]; simp [List.getD_eq_getElem?_getD, List.getElem?_eq_getElem h]
theorem getD_mem {zs : List Int} {k : Nat} (h : k < zs.length) : zs.getD k 0 ∈ zs := by
  simp [List.getD_eq_getElem?_getD, List.getElem?_eq_getElem h]

/-- block g is just the cells cs of element type t, none frozen -/
def Blk (w : World) (g : Nat) (t : TypeId) (cs : List Value) : Prop := w.heap[g]? = some (.cells cs.toArray t (0, 0))
section
variable {w w' : World} {g : Nat} {t : TypeId} {cs : List Value}
theorem Blk.lt (h : Blk w g t cs) : g < w.heap.size := by
  rcases Nat.lt_or_ge g w.heap.size with hlt | hge
  · exact hlt
  · unfold Blk at h; rw [Array.getElem?_eq_none hge] at h; cases h
theorem Blk.cell (h : Blk w g t cs) (i : Nat) : w.cell? ⟨g, i, none⟩ = cs[i]? := by
  rw [cell_of_row w g i cs.toArray t (0, 0) h]; simp
theorem Blk.frozen (h : Blk w g t cs) (i : Nat) : w.frozen? ⟨g, i, none⟩ = false := by
  unfold Blk at h
  simp [World.frozen?, h]
theorem Blk.new (w : World) (t : TypeId) (cs : List Value) : Blk (w.alloc (.cells cs.toArray t)) w.heap.size t cs := heap_alloc_new w _
theorem Blk.drew (h : Blk w g t cs) : Blk w.drew g t cs := h
theorem Blk.drewN (h : Blk w g t cs) (n : Nat) : Blk (w.drewN n) g t cs := h
theorem Blk.alloc (h : Blk w g t cs) (o : Obj) : Blk (w.alloc o) g t cs := (Below.heap_alloc w o g h.lt).trans h
theorem Blk.set_ (h : Blk w g t cs) (i : Nat) (u : Value) : Blk (w.setCell ⟨g, i, none⟩ u) g t (cs.set i u) := by
  unfold Blk at h ⊢
  simp [World.setCell, Array.getElem?_modify, h]
theorem Blk.far (h : Blk w g t cs) {p : Addr} (hp : g ≠ p.block) (u : Value) : Blk (w.setCell p u) g t cs := (Below.heap_setCell w p u g hp).trans h
theorem Blk.below {B : Nat} (h : Blk w g t cs) (hb : Below B w w') (hg : g < B) : Blk w' g t cs := (hb.block g hg).trans h
theorem Blk.grown {row : Option Nat} (h : Blk w g t cs) (hb : w.grownBy w' row) (hg : some g ≠ row) : Blk w' g t cs := (hb.block g h.lt hg).trans h
end

/-- the cells from o on in block b are written over, one after the other -/
def setRow (w : World) (b o : Nat) : List Value → World
  | [] => w
  | v :: vs => setRow (w.setCell ⟨b, o, none⟩ v) b (o + 1) vs
theorem setRow_snoc (b : Nat) (vs : List Value) (v : Value) : ∀ (w : World) (o : Nat), setRow w b o (vs ++ [v]) = (setRow w b o vs).setCell ⟨b, o + vs.length, none⟩ v := by
  induction vs with
  | nil => intro w o; rfl
  | cons x xs ih => intro w o; simp only [List.cons_append, setRow, ih, List.length_cons]; rw [show o + 1 + xs.length = o + (xs.length + 1) by omega]
theorem setRow_size (b : Nat) (vs : List Value) : ∀ (w : World) (o : Nat), (setRow w b o vs).heap.size = w.heap.size := by
  induction vs with
  | nil => intro w o; rfl
  | cons x xs ih => intro w o; simp only [setRow, ih]; simp
theorem setRow_below {b B : Nat} (hB : B ≤ b) (vs : List Value) : ∀ (w : World) (o : Nat), Below B w (setRow w b o vs) := by
  induction vs with
  | nil => intro w o; exact Below.refl _ _
  | cons x xs ih => intro w o; exact ((Below.refl B w).setCell hB x).trans (ih _ _)
/-- what a list holds once the places from o on are written over -/
def putAt {α : Type} (cs : List α) (o : Nat) : List α → List α
  | [] => cs
  | v :: vs => putAt (cs.set o v) (o + 1) vs
theorem putAt_length {α : Type} (vs : List α) : ∀ (cs : List α) (o : Nat), (putAt cs o vs).length = cs.length := by
  induction vs with
  | nil => intro cs o; rfl
  | cons x xs ih => intro cs o; simp [putAt, ih]
theorem putAt_get {α : Type} (vs : List α) : ∀ (cs : List α) (o k : Nat), o + vs.length ≤ cs.length → (putAt cs o vs)[k]? = if o ≤ k ∧ k < o + vs.length then vs[k - o]? else cs[k]? := by
  induction vs with
  | nil => intro cs o k _; simp [putAt]; intro h1 h2; omega
  | cons x xs ih =>
    intro cs o k h
    simp only [List.length_cons] at h
    rw [putAt, ih _ _ _ (by simp; omega)]
    by_cases h1 : k = o
    · subst h1; rw [if_neg (by omega), if_pos (by simp), List.getElem?_set_self (by omega)]; simp
    · by_cases h2 : o + 1 ≤ k ∧ k < o + 1 + xs.length
      · rw [if_pos h2, if_pos (by simp only [List.length_cons]; omega)]
        rw [show k - o = (k - (o + 1)) + 1 by omega, List.getElem?_cons_succ]
      · rw [if_neg h2, if_neg (by simp only [List.length_cons]; omega), List.getElem?_set_ne (by omega)]
theorem putAt_map {α β : Type} (f : α → β) (vs : List α) : ∀ (cs : List α) (o : Nat), (putAt cs o vs).map f = putAt (cs.map f) o (vs.map f) := by
  induction vs with
  | nil => intro cs o; rfl
  | cons x xs ih => intro cs o; simp only [putAt, List.map_cons, ih, List.map_set]
theorem putAt_take {α : Type} (vs : List α) : ∀ (cs : List α) (o n : Nat), (putAt cs o vs).take n = putAt (cs.take n) o vs := by
  induction vs with
  | nil => intro cs o n; rfl
  | cons x xs ih => intro cs o n; simp only [putAt, ih, List.take_set]
theorem putAt_append {α : Type} (vs : List α) : ∀ (cs ds : List α) (o : Nat), o + vs.length ≤ cs.length → putAt (cs ++ ds) o vs = putAt cs o vs ++ ds := by
  induction vs with
  | nil => intro cs ds o _; rfl
  | cons x xs ih => intro cs ds o h; simp only [List.length_cons] at h; rw [putAt, putAt, List.set_append_left _ _ (by omega), ih _ _ _ (by simp; omega)]
theorem putAt_mem {α : Type} (vs : List α) : ∀ (cs : List α) (o : Nat) (z : α), z ∈ putAt cs o vs → z ∈ cs ∨ z ∈ vs := by
  induction vs with
  | nil => intro cs o z h; exact .inl h
  | cons x xs ih =>
    intro cs o z h
    rcases ih _ _ _ h with h | h
    · rcases List.mem_or_eq_of_mem_set h with h | h
      · exact .inl h
      · exact .inr (by simp [h])
    · exact .inr (by simp [h])
theorem Blk.setRow {g : Nat} {t : TypeId} (vs : List Value) : ∀ {w : World} {cs : List Value} (_ : Blk w g t cs) (o : Nat), Blk (setRow w g o vs) g t (putAt cs o vs) := by
  induction vs with
  | nil => intro w cs h o; exact h
  | cons x xs ih => intro w cs h o; exact ih (h.set_ o x) (o + 1)
theorem Blk.setRow_far {g b : Nat} {t : TypeId} (hne : g ≠ b) (vs : List Value) : ∀ {w : World} {cs : List Value} (_ : Blk w g t cs) (o : Nat), Blk (Proofs.Ytfklhppfehkfaaa.setRow w b o vs) g t cs := by
  induction vs with
  | nil => intro w cs h o; exact h
  | cons x xs ih => intro w cs h o; exact ih (h.far (p := ⟨b, o, none⟩) hne x) (o + 1)
theorem setRow_cell_other {b : Nat} (vs : List Value) : ∀ (w : World) (o : Nat) (p : Addr), (p.block ≠ b ∨ p.off < o ∨ o + vs.length ≤ p.off) → (setRow w b o vs).cell? p = w.cell? p := by
  induction vs with
  | nil => intro w o p _; rfl
  | cons x xs ih =>
    intro w o p h
    simp only [List.length_cons] at h
    rw [setRow, ih _ _ _ (by omega)]
    exact World.cell?_setCell_other w _ p x (fun e => by subst e; simp at h; omega)
theorem setRow_frozen {b : Nat} (vs : List Value) : ∀ (w : World) (o : Nat) (p : Addr), (setRow w b o vs).frozen? p = w.frozen? p := by
  induction vs with
  | nil => intro w o p; rfl
  | cons x xs ih => intro w o p; rw [setRow, ih]; simp

theorem Row.conv {P : Program} {w : World} {B : Nat} {A : Option Addr} {zs : List Int} (h : Row w B A (zs.map (Value.int .u8))) (src e dst : TypeId) (hs : P.underlying src = some (.slice e)) (he : P.underlying e = some (.int .u8))
    (hd : P.underlying dst = some .string) (n c : Nat) (hn : n = zs.length) : (convert src dst (.slice A n c)).run P w = .ok (.string (strOfNums zs)) w := by
  subst hn
  rcases Nat.eq_zero_or_pos zs.length with h0 | h0
  · have hz : zs = [] := List.eq_nil_of_length_eq_zero h0
    subst hz
    rw [List.length_nil, run_convert_bytes_string w src dst e _ 0 c hs he hd]
    rcases A with _ | a
    · simp [Conv.bytesToString]; rfl
    · have hl : (loadCells a 0).run P w = .ok #[] w := by
        have := run_loadCells_list (P := P) w a [] (fun j v hj => by simp at hj)
        simpa using this
      rw [run_bytesToString w _ 0 c [] hl]; rfl
  · obtain ⟨b, off, rfl, _, hc⟩ := h.ints h0
    exact run_convert_bytes_arg w src e hs he b off _ c zs rfl hc dst hd
def bytesL (xs : List Int) : List UInt8 := xs.map fun n => UInt8.ofNat n.toNat
theorem strOfNums_toList (xs : List Int) : (strOfNums xs).toList = bytesL xs := by rw [ByteArray.toList_eq]; rfl
theorem bytesL_inj {xs ys : List Int} (hx : ∀ z ∈ xs, U8 z) (hy : ∀ z ∈ ys, U8 z) (h1 : bytesL xs = bytesL ys) : xs = ys := by
  unfold bytesL at h1
  induction xs generalizing ys with
  | nil => cases ys with
    | nil => rfl
    | cons y ys => simp at h1
  | cons x xs ih =>
    cases ys with
    | nil => simp at h1
    | cons y ys =>
      simp only [List.map_cons, List.cons.injEq] at h1
      have a := hx x (by simp)
      have b := hy y (by simp)
      unfold U8 at a b
      have e := congrArg UInt8.toNat h1.1
      rw [UInt8.toNat_ofNat', UInt8.toNat_ofNat'] at e
      rw [ih (fun z hz => hx z (by simp [hz])) (fun z hz => hy z (by simp [hz])) h1.2]
      congr 1
      omega
theorem str_beq {xs ys : List Int} (hx : ∀ z ∈ xs, U8 z) (hy : ∀ z ∈ ys, U8 z) : ((strOfNums xs).toList == (strOfNums ys).toList) = decide (xs = ys) := by
  rw [strOfNums_toList, strOfNums_toList]
  by_cases h : xs = ys
  · subst h; simp
  · rw [decide_eq_false h, beq_eq_false_iff_ne]; exact fun e => h (bytesL_inj hx hy e)

theorem Row.take {w : World} {B : Nat} {A : Option Addr} {zs : List Int} {kd : IntKind} (h : Row w B A (zs.map (Value.int kd))) (k : Nat) : Row w B A ((zs.take k).map (Value.int kd)) := fun hn => by
  obtain ⟨b, off, e, hb, hc⟩ := h (by simp at hn ⊢; omega)
  refine ⟨b, off, e, hb, fun j u hu => hc j u ?_⟩
  rw [List.map_take, List.getElem?_take] at hu
  split at hu
  · exact hu
  · cases hu
theorem Row.drop {w : World} {B : Nat} {A : Option Addr} {xs : List Value} (h : Row w B A xs) (k c : Nat) (hc : xs.length ≤ c) : Row w B (if c = k then A else A.map (·.add k)) (xs.drop k) := fun hn => by
  rw [List.length_drop] at hn
  obtain ⟨b, off, rfl, hb, hcell⟩ := h (by omega)
  rw [if_neg (by omega)]
  refine ⟨b, off + k, ?_, hb, fun j u hu => ?_⟩
  · simp only [Option.map_some, Addr.add]; split <;> simp_all
  · rw [Nat.add_assoc]; exact hcell _ u (by rw [← hu, List.getElem?_drop])
theorem Blk.row {w : World} {b : Nat} {t : TypeId} {cs : List Value} (h : Blk w b t cs) : Row w (b + 1) (some ⟨b, 0, none⟩) cs :=
  fun _ => ⟨b, 0, rfl, by omega, fun k u hu => by rw [Nat.zero_add, h.cell]; exact hu⟩
theorem Row.of_own {w : World} {base : Nat} {e : TypeId} {v : Value} {n : Nat} {xs : List Value} (h : w.ownsRow base e 1 v n xs) : ∃ A c, v = .slice A n c ∧ n ≤ c ∧ c ≤ maxLen ∧ xs.length = n ∧ Row w w.heap.size A xs := by
  have hl : xs.length = n := by have := h.1; omega
  rcases h.2 with ⟨rfl, rfl⟩ | ⟨g, cap, cur, rfl, _, hg, h1, h2, hcs, hp⟩
  · exact ⟨none, 0, rfl, Nat.le_refl _, by decide, hl, fun h0 => by simp_all⟩
  · refine ⟨_, _, rfl, h1, h2, hl, fun hn => ⟨g, 0, rfl, (Array.getElem?_eq_some_iff.1 hg).1, fun k u hu => ?_⟩⟩
    rw [Nat.zero_add, cell_of_row w g k cur e (0, 0) hg]
    have hk : k < xs.length := by
      rcases Nat.lt_or_ge k xs.length with h | h
      · exact h
      · rw [List.getElem?_eq_none h] at hu; cases hu
    rw [← hp, List.getElem?_take_of_lt (by omega)] at hu
    simpa using hu


end Go.Proofs.Ytfklhppfehkfaaa
