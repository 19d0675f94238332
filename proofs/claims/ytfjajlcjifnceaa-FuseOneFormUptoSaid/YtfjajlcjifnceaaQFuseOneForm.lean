/-
  Every input of FuseOneForm of bulk at most 1048576: the call returns true, and what was handed in reads as it did.
-/
import Derived.Test.YtfjajlcjifnceaaP13
set_option linter.all false
namespace Go.Proofs.Ytfjajlcjifnceaa.fuseOneForm
open Go.ChangeShapes Go.WideShapes Go.ChangeAt Go.RowKit
set_option maxRecDepth 100000

theorem walk : ∀ as', qE Try.prog 1048576 8 Try.f4.params.toList as' → zN Try.prog 4 as' (fun r => r = .v (.bool true)) := by
  intro as' h
  rw [Try.params4] at h
  obtain ⟨x0, xs0, rfl, h0, g0⟩ := Kr h
  obtain rfl := zaC g0
  obtain ⟨e0, C0, N0, rfl, b0, c0⟩ := Ks (n := 2) h0
  exact kB e0 C0 N0 (by omega) (by omega)

theorem lifted (os : Os) (started : os.Started) (H : Type) (enc : TypeId × Value → H) (F : Stop.Interp) :
    ReturnsInHanded {} Try.checked os 4 .any ((Rows.OpenSpec.upto Rows.fuseOneFormSpec).pre6 enc Try.prog Try.f4 Rows.fuseOneFormUptoRow.domain false) (((Rows.OpenSpec.upto Rows.fuseOneFormSpec).at F).post enc Try.prog Try.f4 false true false false) := by
  refine returnsInHanded_of_cond (C := Try.checked) (s := Rows.OpenSpec.upto Rows.fuseOneFormSpec) (k := Rows.uptoSmall) rfl own started (by kernel_rfl) Try.func4
    (OpenSpec.witness (enc := enc) (C := Try.checked) (s := Rows.OpenSpec.upto Rows.fuseOneFormSpec) (k := Rows.uptoSmall) rfl false ⟨#[], #[.agg #[.bool false, .slice none 0 0, .slice none 0 0]], []⟩ 8 (by kernel_rfl) (by kernel_rfl) (by kernel_rfl)
      (x := ([.agg [.lit (.bool false), .nil, .nil]], [], [])) (by kernel_rfl) rfl (by kernel_rfl)) ?_
  intro W base args ds gs before hval hW _ hk _
  refine uT (hF := Qs W) (n := 8) UT (tb := 4) rfl (by kernel_rfl) Try.underlying4 (fun H ds hl => ?_) (by kernel_rfl) walk H enc W base args ds gs before hval hW (.inl (bulks.bound hk))
  rw [Try.params4] at hl
  match ds, hl with
  | [_], _ => rfl

theorem proved : Rows.FuseOneFormUptoSaid :=
  OpenClaim.holds_of_cond 4 Try.f4 rfl rfl rfl rfl rfl rfl rfl ⟨rfl, rfl, rfl, rfl, rfl⟩ rfl rfl rfl rfl rfl (by kernel_rfl) Try.func4 (by kernel_rfl)
    (of_decide_eq_true (by kernel_rfl)) (by unfold Func.isWrapper; first | (rw [if_pos (by decide +kernel)]; kernel_rfl) | (rw [if_neg (by decide +kernel)]; exact ⟨rfl, rfl⟩))
    (fun os started H enc _ F => lifted os started H enc F)
#print axioms proved
end Go.Proofs.Ytfjajlcjifnceaa.fuseOneForm

