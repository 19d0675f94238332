/-
  Every input of CursorExact: the call returns true, and what was handed in reads as it did.
-/
import Derived.Test.YtopcfnlcapibgaaP14
set_option linter.all false
namespace Go.Proofs.Ytopcfnlcapibgaa.cursorExact
open Go.ChangeShapes Go.WideShapes Go.ChangeAt Go.RowKit
set_option maxRecDepth 100000

theorem c_int : (Try.prog).cellsOf 3 = 1 := by kernel_rfl
theorem c_bool : (Try.prog).cellsOf 4 = 1 := by kernel_rfl
theorem c_u64 : (Try.prog).cellsOf 27 = 1 := by kernel_rfl
theorem c_u8 : (Try.prog).cellsOf 5 = 1 := by kernel_rfl
theorem c_bytes : (Try.prog).cellsOf 28 = 1 := by kernel_rfl
theorem c_op : (Try.prog).cellsOf 30 = 6 := by kernel_rfl
def encO (o : OpM) : List AV := [vI o.kind, vB o.which, vI o.n, vI o.width, .v (.int .u64 o.v), .lst 1 (encB o.b)]
theorem td_op {B n : Nat} {us : List AV} (h : Typed Try.prog B (n + 3) 30 us) : ∃ o : OpM, us = encO o ∧ o.ok := by
  obtain ⟨hl, hf⟩ := td_struct Try.underlying30 c_op h
  have h0 : Typed Try.prog B _ 3 ((us.drop 0).take ((Try.prog).cellsOf 3)) := hf 0 _ rfl
  have h1 : Typed Try.prog B _ 4 ((us.drop 1).take ((Try.prog).cellsOf 4)) := hf 1 _ rfl
  have h2 : Typed Try.prog B _ 3 ((us.drop 2).take ((Try.prog).cellsOf 3)) := hf 2 _ rfl
  have h3 : Typed Try.prog B _ 3 ((us.drop 3).take ((Try.prog).cellsOf 3)) := hf 3 _ rfl
  have h4 : Typed Try.prog B _ 27 ((us.drop 4).take ((Try.prog).cellsOf 27)) := hf 4 _ rfl
  have h5 : Typed Try.prog B _ 28 ((us.drop 5).take ((Try.prog).cellsOf 28)) := hf 5 _ rfl
  match us, hl, h0, h1, h2, h3, h4, h5 with
  | [u0, u1, u2, u3, u4, u5], _, h0, h1, h2, h3, h4, h5 =>
  simp only [c_bytes, c_int, c_bool, c_u64, List.drop_zero, List.drop_succ_cons, List.take_succ_cons, List.take_zero] at h0 h1 h2 h3 h4 h5
  obtain ⟨a0, g0, w0⟩ := td_int Try.underlying3 h0
  obtain ⟨a1, g1⟩ := td_bool Try.underlying4 h1
  obtain ⟨a2, g2, w2⟩ := td_int Try.underlying3 h2
  obtain ⟨a3, g3, w3⟩ := td_int Try.underlying3 h3
  obtain ⟨a4, g4, w4⟩ := td_int Try.underlying27 h4
  obtain ⟨l, g5, _, _⟩ := td_ints Try.underlying28 Try.underlying5 c_u8 h5
  injection g0 with g0; injection g1 with g1; injection g2 with g2; injection g3 with g3; injection g4 with g4; injection g5 with g5
  subst g0; subst g1; subst g2; subst g3; subst g4; subst g5
  exact ⟨⟨a0, a1, a2, a3, a4, l⟩, rfl, I64.of_wf w2, I64.of_wf w3, bounds_u64 w4⟩
theorem td_ops {B n : Nat} {x : AV} (h : TypedA Try.prog B (n + 4) 22 x) : ∃ l : List OpM, x = .lst 6 (encOs l) ∧ ∀ o ∈ l, o.ok := by
  unfold TypedA at h
  rw [Try.underlying22] at h
  obtain ⟨l, g1, _, g3⟩ := td_slice Try.underlying22 c_op h (fun cs => td_op)
  injection g1 with g1
  exact ⟨l, g1, g3⟩

theorem walk : ∀ as', TypedL Try.prog maxLen 8 Try.f3.params.toList as' → PCall Try.prog 3 as' (fun r => r = .v (.bool true)) := by
  intro as' h
  rw [Try.params3] at h
  obtain ⟨x0, xs0, rfl, h0, g0⟩ := tl_cons h
  obtain rfl := tl_nil g0
  obtain ⟨l, rfl, hl⟩ := td_ops (n := 4) h0
  exact (cursorExact_any l hl).toP trivial

theorem lifted (os : Os) (started : os.Started) (H : Type) (enc : TypeId × Value → H) :
    ReturnsInHanded {} Try.checked os 3 .any (Rows.cursorExactSpec.pre6 enc Try.prog Try.f3 Rows.cursorExactRow.domain false) (Rows.cursorExactSpec.post enc Try.prog Try.f3 false true false false) := by
  refine returnsInHanded_of_change (C := Try.checked) own started (by kernel_rfl) Try.func3
    (ChangeSpec.witness6 (enc := enc) (C := Try.checked) false ⟨#[], #[.slice none 0 0], []⟩ 8 (by kernel_rfl) (by kernel_rfl) (by kernel_rfl) (by kernel_rfl)) ?_
  intro W base args ds gs before hval hW _ _
  refine law_contractF (hF := fok_top W) (n := 8) (B := maxLen) laidOut (tb := 4) rfl (by kernel_rfl) Try.underlying4 (fun H ds hl => ?_) (by kernel_rfl) walk H enc W base args ds gs before hval hW (.inr (Nat.le_refl _))
  rw [Try.params3] at hl
  match ds, hl with
  | [_], _ => rfl

theorem proved : Rows.CursorExactSaid :=
  OpenClaim.holds_of_wide 3 Try.f3 rfl rfl rfl rfl rfl rfl rfl ⟨rfl, rfl, rfl, rfl, rfl⟩ rfl rfl rfl rfl rfl (by kernel_rfl) Try.func3 (by kernel_rfl)
    (of_decide_eq_true (by kernel_rfl)) (by unfold Func.isWrapper; first | (rw [if_pos (by decide +kernel)]; kernel_rfl) | (rw [if_neg (by decide +kernel)]; exact ⟨rfl, rfl⟩))
    (fun os started H enc _ => lifted os started H enc)
#print axioms proved
end Go.Proofs.Ytopcfnlcapibgaa.cursorExact
