/-
  Every input of LayoutOffsets of bulk at most 1048576: the call returns true, and what was handed in reads as it did.
-/
import Derived.Test.YtfgacgpicfknpaaP11
set_option linter.all false
namespace Go.Proofs.Ytfgacgpicfknpaa.layoutOffsets
open Go.ChangeShapes Go.WideShapes Go.ChangeAt Go.RowKit
set_option maxRecDepth 100000

theorem walk : ∀ as', TypedL Try.prog 1048576 8 Try.f4.params.toList as' → PCall Try.prog 4 as' (fun r => r = .v (.bool true)) := by
  intro as' h
  rw [Try.params4] at h
  obtain ⟨x0, xs0, rfl, h0, g0⟩ := tl_cons h
  obtain ⟨x1, xs1, rfl, h1, g1⟩ := tl_cons g0
  obtain ⟨x2, xs2, rfl, h2, g2⟩ := tl_cons g1
  obtain rfl := tl_nil g2
  obtain ⟨z0, rfl, w0⟩ := td_arg_int (n := 7) Try.underlying3 h0
  obtain ⟨l1, rfl, b1, w1⟩ := td_arg_ints (n := 6) Try.underlying39 Try.underlying3 c_int h1
  obtain ⟨z2, rfl, w2⟩ := td_arg_int (n := 7) Try.underlying3 h2
  exact layOffsets_any z0 (I64.of_wf w0) l1 b1 (fun z hz => I64.of_wf (w1 z hz)) z2 (I64.of_wf w2)

theorem lifted (os : Os) (started : os.Started) (H : Type) (enc : TypeId × Value → H) (F : Stop.Interp) :
    ReturnsInHanded {} Try.checked os 4 .any ((Rows.OpenSpec.upto Rows.layoutOffsetsSpec).pre6 enc Try.prog Try.f4 Rows.layoutOffsetsUptoRow.domain false) (((Rows.OpenSpec.upto Rows.layoutOffsetsSpec).at F).post enc Try.prog Try.f4 false true false false) := by
  refine returnsInHanded_of_cond (C := Try.checked) (s := Rows.OpenSpec.upto Rows.layoutOffsetsSpec) (k := Rows.uptoSmall) rfl own started (by kernel_rfl) Try.func4
    (OpenSpec.witness (enc := enc) (C := Try.checked) (s := Rows.OpenSpec.upto Rows.layoutOffsetsSpec) (k := Rows.uptoSmall) rfl false ⟨#[], #[.int .i64 0, .slice none 0 0, .int .i64 0], []⟩ 8 (by kernel_rfl) (by kernel_rfl) (by kernel_rfl)
      (x := ([.lit (.int .i64 0), .nil, .lit (.int .i64 0)], [], [])) (by kernel_rfl) rfl (by kernel_rfl)) ?_
  intro W base args ds gs before hval hW _ hk _
  refine law_contract (n := 8) laidOut (tb := 4) rfl (by kernel_rfl) Try.underlying4 (fun H ds hl => ?_) (by kernel_rfl) walk H enc W base args ds gs before hval hW (.inl (bulks.bound hk))
  rw [Try.params4] at hl
  match ds, hl with
  | [_, _, _], _ => rfl

theorem proved : Rows.LayoutOffsetsUptoSaid :=
  OpenClaim.holds_of_cond 4 Try.f4 rfl rfl rfl rfl rfl rfl rfl ⟨rfl, rfl, rfl, rfl, rfl⟩ rfl rfl rfl rfl rfl (by kernel_rfl) Try.func4 (by kernel_rfl)
    (of_decide_eq_true (by kernel_rfl)) (by unfold Func.isWrapper; first | (rw [if_pos (by decide +kernel)]; kernel_rfl) | (rw [if_neg (by decide +kernel)]; exact ⟨rfl, rfl⟩))
    (fun os started H enc _ F => lifted os started H enc F)
#print axioms proved
end Go.Proofs.Ytfgacgpicfknpaa.layoutOffsets
