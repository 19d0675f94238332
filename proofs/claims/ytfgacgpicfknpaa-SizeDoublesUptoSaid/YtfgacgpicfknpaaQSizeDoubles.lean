/-
  Every input of SizeDoubles of bulk at most 1048576: the call returns true, and what was handed in reads as it did.
-/
import Derived.Test.YtfgacgpicfknpaaP12
set_option linter.all false
namespace Go.Proofs.Ytfgacgpicfknpaa.sizeDoubles
open Go.ChangeShapes Go.WideShapes Go.ChangeAt Go.RowKit
set_option maxRecDepth 100000

theorem walk : ∀ as', TypedL Try.prog 1048576 8 Try.f11.params.toList as' → PCall Try.prog 11 as' (fun r => r = .v (.bool true)) := by
  intro as' h
  rw [Try.params11] at h
  obtain ⟨x0, xs0, rfl, h0, g0⟩ := tl_cons h
  obtain rfl := tl_nil g0
  obtain ⟨z0, rfl, w0⟩ := td_arg_int (n := 7) Try.underlying3 h0
  exact sizeDoubles_any z0 (I64.of_wf w0)

theorem lifted (os : Os) (started : os.Started) (H : Type) (enc : TypeId × Value → H) (F : Stop.Interp) :
    ReturnsInHanded {} Try.checked os 11 .any ((Rows.OpenSpec.upto Rows.sizeDoublesSpec).pre6 enc Try.prog Try.f11 Rows.sizeDoublesUptoRow.domain false) (((Rows.OpenSpec.upto Rows.sizeDoublesSpec).at F).post enc Try.prog Try.f11 false true false false) := by
  refine returnsInHanded_of_cond (C := Try.checked) (s := Rows.OpenSpec.upto Rows.sizeDoublesSpec) (k := Rows.uptoSmall) rfl own started (by kernel_rfl) Try.func11
    (OpenSpec.witness (enc := enc) (C := Try.checked) (s := Rows.OpenSpec.upto Rows.sizeDoublesSpec) (k := Rows.uptoSmall) rfl false ⟨#[], #[.int .i64 0], []⟩ 8 (by kernel_rfl) (by kernel_rfl) (by kernel_rfl)
      (x := ([.lit (.int .i64 0)], [], [])) (by kernel_rfl) rfl (by kernel_rfl)) ?_
  intro W base args ds gs before hval hW _ hk _
  refine law_contract (n := 8) laidOut (tb := 4) rfl (by kernel_rfl) Try.underlying4 (fun H ds hl => ?_) (by kernel_rfl) walk H enc W base args ds gs before hval hW (.inl (bulks.bound hk))
  rw [Try.params11] at hl
  match ds, hl with
  | [_], _ => rfl

theorem proved : Rows.SizeDoublesUptoSaid :=
  OpenClaim.holds_of_cond 11 Try.f11 rfl rfl rfl rfl rfl rfl rfl ⟨rfl, rfl, rfl, rfl, rfl⟩ rfl rfl rfl rfl rfl (by kernel_rfl) Try.func11 (by kernel_rfl)
    (of_decide_eq_true (by kernel_rfl)) (by unfold Func.isWrapper; first | (rw [if_pos (by decide +kernel)]; kernel_rfl) | (rw [if_neg (by decide +kernel)]; exact ⟨rfl, rfl⟩))
    (fun os started H enc _ F => lifted os started H enc F)
#print axioms proved
end Go.Proofs.Ytfgacgpicfknpaa.sizeDoubles
