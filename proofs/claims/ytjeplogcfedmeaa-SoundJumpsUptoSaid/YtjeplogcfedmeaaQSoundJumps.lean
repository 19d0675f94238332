/-
  Every input of SoundJumps of bulk at most 1048576: the call returns true, and what was handed in reads as it did.
-/
import Derived.Test.YtjeplogcfedmeaaP13
set_option linter.all false
namespace Go.Proofs.Ytjeplogcfedmeaa.soundJumps
open Go.ChangeShapes Go.WideShapes Go.ChangeAt Go.RowKit
set_option maxRecDepth 100000

theorem walk : ∀ as', TypedL Try.prog 1048576 8 Try.f3.params.toList as' → PCall Try.prog 3 as' (fun r => r = .v (.bool true)) := by
  intro as' h
  rw [Try.params3] at h
  obtain ⟨x0, xs0, rfl, h0, g0⟩ := tl_cons h
  obtain ⟨x1, xs1, rfl, h1, g1⟩ := tl_cons g0
  obtain rfl := tl_nil g1
  obtain ⟨e0, C0, N0, rfl, b0, c0⟩ := td_prog (n := 2) h0
  obtain ⟨z1, rfl, w1⟩ := td_arg_int (n := 7) Try.underlying3 h1
  exact soundJumps_any e0 C0 N0 (by omega) (by omega) z1 (I64.of_wf w1)

theorem lifted (os : Os) (started : os.Started) (H : Type) (enc : TypeId × Value → H) (F : Stop.Interp) :
    ReturnsInHanded {} Try.checked os 3 .any ((Rows.OpenSpec.upto Rows.soundJumpsSpec).pre6 enc Try.prog Try.f3 Rows.soundJumpsUptoRow.domain false) (((Rows.OpenSpec.upto Rows.soundJumpsSpec).at F).post enc Try.prog Try.f3 false true false false) := by
  refine returnsInHanded_of_cond (C := Try.checked) (s := Rows.OpenSpec.upto Rows.soundJumpsSpec) (k := Rows.uptoSmall) rfl own started (by kernel_rfl) Try.func3
    (OpenSpec.witness (enc := enc) (C := Try.checked) (s := Rows.OpenSpec.upto Rows.soundJumpsSpec) (k := Rows.uptoSmall) rfl false ⟨#[], #[.agg #[.bool false, .slice none 0 0, .slice none 0 0], .int .i64 0], []⟩ 8 (by kernel_rfl) (by kernel_rfl) (by kernel_rfl)
      (x := ([.agg [.lit (.bool false), .nil, .nil], .lit (.int .i64 0)], [], [])) (by kernel_rfl) rfl (by kernel_rfl)) ?_
  intro W base args ds gs before hval hW _ hk _
  refine law_contractF (hF := fok_top W) (n := 8) laidOut (tb := 4) rfl (by kernel_rfl) Try.underlying4 (fun H ds hl => ?_) (by kernel_rfl) walk H enc W base args ds gs before hval hW (.inl (bulks.bound hk))
  rw [Try.params3] at hl
  match ds, hl with
  | [_, _], _ => rfl

theorem proved : Rows.SoundJumpsUptoSaid :=
  OpenClaim.holds_of_cond 3 Try.f3 rfl rfl rfl rfl rfl rfl rfl ⟨rfl, rfl, rfl, rfl, rfl⟩ rfl rfl rfl rfl rfl (by kernel_rfl) Try.func3 (by kernel_rfl)
    (of_decide_eq_true (by kernel_rfl)) (by unfold Func.isWrapper; first | (rw [if_pos (by decide +kernel)]; kernel_rfl) | (rw [if_neg (by decide +kernel)]; exact ⟨rfl, rfl⟩))
    (fun os started H enc _ F => lifted os started H enc F)
#print axioms proved
end Go.Proofs.Ytjeplogcfedmeaa.soundJumps

