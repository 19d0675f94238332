import Derived.Test.YtfgacgpicfknpaaP12
set_option linter.all false
section
namespace Go.Proofs.Ytfgacgpicfknpaa
open Go.ChangeShapes Go.WideShapes Go.ChangeAt Go.RowKit
/-! What came in, as lists of plain Lean. -/
set_option maxRecDepth 100000
section
variable {P : Program} {B n : Nat} {t e : TypeId} {us : List AV}
theorem td_int {k : IntKind} (ht : P.underlying t = some (.int k)) (h : Typed P B (n + 1) t us) : ∃ z, us = [.v (.int k z)] ∧ (Lit.int k z).wf = true := by
  unfold Typed at h; rw [ht] at h; exact h
theorem td_bool (ht : P.underlying t = some .bool) (h : Typed P B (n + 1) t us) : ∃ b, us = [.v (.bool b)] := by
  unfold Typed at h; rw [ht] at h; exact h
theorem td_str (ht : P.underlying t = some .string) (h : Typed P B (n + 1) t us) : ∃ s : ByteArray, us = [.v (.string s)] ∧ s.size ≤ B := by
  unfold Typed at h; rw [ht] at h; exact h
theorem tl_cons {ts : List TypeId} {as' : List AV} (h : TypedL P B n (t :: ts) as') : ∃ x xs, as' = x :: xs ∧ TypedA P B n t x ∧ TypedL P B n ts xs := by
  cases as' with
  | nil => exact h.elim
  | cons x xs => exact ⟨x, xs, rfl, h.1, h.2⟩
theorem tl_nil {as' : List AV} (h : TypedL P B n [] as') : as' = [] := by
  cases as' with
  | nil => rfl
  | cons x xs => exact h.elim
theorem td_struct {fs : Array Field} {k : Nat} (ht : P.underlying t = some (.struct fs)) (hk : P.cellsOf t = k) (h : Typed P B (n + 1) t us) : us.length = k ∧ ∀ (i : Nat) (f : Field), fs[i]? = some f → Typed P B n f.type ((us.drop f.offset).take (P.cellsOf f.type)) := by
  unfold Typed at h; rw [ht, hk] at h; exact h
theorem td_argS {fs : Array Field} {x : AV} (ht : P.underlying t = some (.struct fs)) (h : TypedA P B n t x) : ∃ us, x = .agg us ∧ Typed P B n t us := by
  unfold TypedA at h; rw [ht] at h; exact h
theorem td_list {α : Type} {xs : List (List AV)} {enc : α → List AV} {p : α → Prop} (h : ∀ cs ∈ xs, ∃ a, cs = enc a ∧ p a) : ∃ l : List α, xs = l.map enc ∧ ∀ a ∈ l, p a := by
  induction xs with
  | nil => exact ⟨[], rfl, fun a h => by cases h⟩
  | cons x xs ih =>
    obtain ⟨a, rfl, ha⟩ := h x (.head _)
    obtain ⟨l, rfl, hl⟩ := ih fun cs hcs => h cs (.tail _ hcs)
    exact ⟨a :: l, rfl, fun b hb => by rcases List.mem_cons.1 hb with rfl | hb; (· exact ha); exact hl b hb⟩
theorem td_slice {α : Type} {enc : α → List AV} {p : α → Prop} {k : Nat} (ht : P.underlying t = some (.slice e)) (hk : P.cellsOf e = k) (h : Typed P B (n + 1) t us) (he : ∀ cs, Typed P B n e cs → ∃ a, cs = enc a ∧ p a) :
    ∃ l : List α, us = [.lst k (l.map enc)] ∧ l.length ≤ B ∧ ∀ a ∈ l, p a := by
  unfold Typed at h
  rw [ht] at h
  obtain ⟨xs, rfl, h1, h2⟩ := h
  obtain ⟨l, rfl, h3⟩ := td_list (enc := enc) (p := p) fun cs hcs => he cs (h2 cs hcs).2
  exact ⟨l, by rw [hk], by simpa using h1, h3⟩
theorem td_ints {k : IntKind} (ht : P.underlying t = some (.slice e)) (he : P.underlying e = some (.int k)) (hk : P.cellsOf e = 1) (h : Typed P B (n + 2) t us) :
    ∃ l : List Int, us = [.lst 1 (l.map fun z => [.v (.int k z)])] ∧ l.length ≤ B ∧ ∀ z ∈ l, (Lit.int k z).wf = true :=
  td_slice ht hk h fun cs hcs => by obtain ⟨z, h1, h2⟩ := td_int he hcs; exact ⟨z, h1, h2⟩
end
def PartOK (B : Nat) (p : PartM) : Prop := p.label.size ≤ B ∧ I64 p.tag ∧ I64 p.ty
def TypeOK (B : Nat) (t : TypeM) : Prop := I64 t.kind ∧ I64 t.n ∧ I64 t.elem ∧ t.parts.length ≤ B ∧ ∀ p ∈ t.parts, PartOK B p
def RootOK (B : Nat) (r : RootM) : Prop := r.name.size ≤ B ∧ I64 r.ty
theorem c_int : (Try.prog).cellsOf 3 = 1 := by kernel_rfl
theorem c_str : (Try.prog).cellsOf 9 = 1 := by kernel_rfl
theorem c_parts : (Try.prog).cellsOf 53 = 1 := by kernel_rfl
theorem c_part : (Try.prog).cellsOf 81 = 3 := by kernel_rfl
theorem c_type : (Try.prog).cellsOf 55 = 4 := by kernel_rfl
theorem c_root : (Try.prog).cellsOf 90 = 2 := by kernel_rfl
theorem c_types : (Try.prog).cellsOf 22 = 1 := by kernel_rfl
theorem c_roots : (Try.prog).cellsOf 23 = 1 := by kernel_rfl
theorem c_schema : (Try.prog).cellsOf 25 = 2 := by kernel_rfl
theorem td_part {B n : Nat} {us : List AV} (h : Typed Try.prog B (n + 2) 81 us) : ∃ p, us = encP p ∧ PartOK B p := by
  obtain ⟨hl, hf⟩ := td_struct Try.underlying81 c_part h
  have h0 : Typed Try.prog B _ 9 ((us.drop 0).take ((Try.prog).cellsOf 9)) := hf 0 _ rfl
  have h1 : Typed Try.prog B _ 3 ((us.drop 1).take ((Try.prog).cellsOf 3)) := hf 1 _ rfl
  have h2 : Typed Try.prog B _ 3 ((us.drop 2).take ((Try.prog).cellsOf 3)) := hf 2 _ rfl
  match us, hl, h0, h1, h2 with
  | [u0, u1, u2], _, h0, h1, h2 =>
  simp only [c_str, c_int, List.drop_zero, List.drop_succ_cons, List.take_succ_cons, List.take_zero] at h0 h1 h2
  obtain ⟨s, g1, g2⟩ := td_str Try.underlying9 h0
  obtain ⟨a, g3, g4⟩ := td_int Try.underlying3 h1
  obtain ⟨b, g5, g6⟩ := td_int Try.underlying3 h2
  injection g1 with g1; injection g3 with g3; injection g5 with g5
  subst g1; subst g3; subst g5
  exact ⟨⟨s, a, b⟩, rfl, g2, I64.of_wf g4, I64.of_wf g6⟩
theorem td_root {B n : Nat} {us : List AV} (h : Typed Try.prog B (n + 2) 90 us) : ∃ r, us = encR r ∧ RootOK B r := by
  obtain ⟨hl, hf⟩ := td_struct Try.underlying90 c_root h
  have h0 : Typed Try.prog B _ 9 ((us.drop 0).take ((Try.prog).cellsOf 9)) := hf 0 _ rfl
  have h1 : Typed Try.prog B _ 3 ((us.drop 1).take ((Try.prog).cellsOf 3)) := hf 1 _ rfl
  match us, hl, h0, h1 with
  | [u0, u1], _, h0, h1 =>
  simp only [c_str, c_int, List.drop_zero, List.drop_succ_cons, List.take_succ_cons, List.take_zero] at h0 h1
  obtain ⟨s, g1, g2⟩ := td_str Try.underlying9 h0
  obtain ⟨a, g3, g4⟩ := td_int Try.underlying3 h1
  injection g1 with g1; injection g3 with g3
  subst g1; subst g3
  exact ⟨⟨s, a⟩, rfl, g2, I64.of_wf g4⟩
theorem td_type {B n : Nat} {us : List AV} (h : Typed Try.prog B (n + 4) 55 us) : ∃ t, us = encT t ∧ TypeOK B t := by
  obtain ⟨hl, hf⟩ := td_struct Try.underlying55 c_type h
  have h0 : Typed Try.prog B _ 3 ((us.drop 0).take ((Try.prog).cellsOf 3)) := hf 0 _ rfl
  have h1 : Typed Try.prog B _ 3 ((us.drop 1).take ((Try.prog).cellsOf 3)) := hf 1 _ rfl
  have h2 : Typed Try.prog B _ 3 ((us.drop 2).take ((Try.prog).cellsOf 3)) := hf 2 _ rfl
  have h3 : Typed Try.prog B _ 53 ((us.drop 3).take ((Try.prog).cellsOf 53)) := hf 3 _ rfl
  match us, hl, h0, h1, h2, h3 with
  | [u0, u1, u2, u3], _, h0, h1, h2, h3 =>
  simp only [c_parts, c_int, List.drop_zero, List.drop_succ_cons, List.take_succ_cons, List.take_zero] at h0 h1 h2 h3
  obtain ⟨a, g1, g2⟩ := td_int Try.underlying3 h0
  obtain ⟨b, g3, g4⟩ := td_int Try.underlying3 h1
  obtain ⟨c, g5, g6⟩ := td_int Try.underlying3 h2
  obtain ⟨l, g7, g8, g9⟩ := td_slice Try.underlying53 c_part h3 (fun cs => td_part)
  injection g1 with g1; injection g3 with g3; injection g5 with g5; injection g7 with g7
  subst g1; subst g3; subst g5; subst g7
  exact ⟨⟨a, b, c, l⟩, rfl, I64.of_wf g2, I64.of_wf g4, I64.of_wf g6, g8, g9⟩
theorem td_schema {B n : Nat} {x : AV} (h : TypedA Try.prog B (n + 6) 25 x) : ∃ ts rs, x = vSch ts rs ∧ ts.length ≤ B ∧ rs.length ≤ B ∧ (∀ t ∈ ts, TypeOK B t) ∧ ∀ r ∈ rs, RootOK B r := by
  obtain ⟨us, rfl, h'⟩ := td_argS Try.underlying25 h
  obtain ⟨hl, hf⟩ := td_struct Try.underlying25 c_schema h'
  have h0 : Typed Try.prog B _ 22 ((us.drop 0).take ((Try.prog).cellsOf 22)) := hf 0 _ rfl
  have h1 : Typed Try.prog B _ 23 ((us.drop 1).take ((Try.prog).cellsOf 23)) := hf 1 _ rfl
  match us, hl, h0, h1 with
  | [u0, u1], _, h0, h1 =>
  simp only [c_types, c_roots, List.drop_zero, List.drop_succ_cons, List.take_succ_cons, List.take_zero] at h0 h1
  obtain ⟨ts, g1, g2, g3⟩ := td_slice Try.underlying22 c_type h0 (fun cs => td_type)
  obtain ⟨rs, g4, g5, g6⟩ := td_slice Try.underlying23 c_root h1 (fun cs => td_root)
  injection g1 with g1; injection g4 with g4
  subst g1; subst g4
  exact ⟨ts, rs, rfl, g2, g5, g3, g6⟩
/-- a list of integers as a parameter -/
theorem td_arg_ints {P : Program} {B n : Nat} {t e : TypeId} {x : AV} {k : IntKind} (ht : P.underlying t = some (.slice e)) (he : P.underlying e = some (.int k)) (hk : P.cellsOf e = 1) (h : TypedA P B (n + 2) t x) :
    ∃ l : List Int, x = .lst 1 (l.map fun z => [.v (.int k z)]) ∧ l.length ≤ B ∧ ∀ z ∈ l, (Lit.int k z).wf = true := by
  unfold TypedA at h
  rw [ht] at h
  obtain ⟨l, h1, h2, h3⟩ := td_ints ht he hk h
  injection h1 with h1
  exact ⟨l, h1, h2, h3⟩
theorem td_arg_int {P : Program} {B n : Nat} {t : TypeId} {x : AV} {k : IntKind} (ht : P.underlying t = some (.int k)) (h : TypedA P B (n + 1) t x) : ∃ z, x = .v (.int k z) ∧ (Lit.int k z).wf = true := by
  unfold TypedA at h
  rw [ht] at h
  obtain ⟨z, h1, h2⟩ := td_int ht h
  injection h1 with h1
  exact ⟨z, h1, h2⟩
end Go.Proofs.Ytfgacgpicfknpaa
end
