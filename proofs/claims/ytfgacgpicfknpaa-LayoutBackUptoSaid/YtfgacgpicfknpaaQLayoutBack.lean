/-
  Every input of LayoutBack of bulk at most 1048576: the call returns true, and what was handed in reads as it did.
-/
import Derived.Test.YtfgacgpicfknpaaP10
set_option linter.all false
namespace Go.Proofs.Ytfgacgpicfknpaa.layoutBack
open Go.ChangeShapes Go.WideShapes Go.ChangeAt Go.RowKit
set_option maxRecDepth 100000

theorem walk : ∀ as', TypedL Try.prog 1048576 8 Try.f5.params.toList as' → PCall Try.prog 5 as' (fun r => r = .v (.bool true)) := by
  intro as' h
  rw [Try.params5] at h
  obtain ⟨x0, xs0, rfl, h0, g0⟩ := tl_cons h
  obtain ⟨x1, xs1, rfl, h1, g1⟩ := tl_cons g0
  obtain ⟨x2, xs2, rfl, h2, g2⟩ := tl_cons g1
  obtain ⟨x3, xs3, rfl, h3, g3⟩ := tl_cons g2
  obtain rfl := tl_nil g3
  obtain ⟨z0, rfl, w0⟩ := td_arg_int (n := 7) Try.underlying3 h0
  obtain ⟨l1, rfl, b1, w1⟩ := td_arg_ints (n := 6) Try.underlying39 Try.underlying3 c_int h1
  obtain ⟨l2, rfl, b2, w2⟩ := td_arg_ints (n := 6) Try.underlying39 Try.underlying3 c_int h2
  obtain ⟨z3, rfl, w3⟩ := td_arg_int (n := 7) Try.underlying3 h3
  exact layBack_any z0 (I64.of_wf w0) l1 b1 (fun z hz => I64.of_wf (w1 z hz)) l2 b2 (fun z hz => I64.of_wf (w2 z hz)) z3 (I64.of_wf w3)

theorem lifted (os : Os) (started : os.Started) (H : Type) (enc : TypeId × Value → H) (F : Stop.Interp) :
    ReturnsInHanded {} Try.checked os 5 .any ((Rows.OpenSpec.upto Rows.layoutBackSpec).pre6 enc Try.prog Try.f5 Rows.layoutBackUptoRow.domain false) (((Rows.OpenSpec.upto Rows.layoutBackSpec).at F).post enc Try.prog Try.f5 false true false false) := by
  refine returnsInHanded_of_cond (C := Try.checked) (s := Rows.OpenSpec.upto Rows.layoutBackSpec) (k := Rows.uptoSmall) rfl own started (by kernel_rfl) Try.func5
    (OpenSpec.witness (enc := enc) (C := Try.checked) (s := Rows.OpenSpec.upto Rows.layoutBackSpec) (k := Rows.uptoSmall) rfl false ⟨#[], #[.int .i64 0, .slice none 0 0, .slice none 0 0, .int .i64 0], []⟩ 8 (by kernel_rfl) (by kernel_rfl) (by kernel_rfl)
      (x := ([.lit (.int .i64 0), .nil, .nil, .lit (.int .i64 0)], [], [])) (by kernel_rfl) rfl (by kernel_rfl)) ?_
  intro W base args ds gs before hval hW _ hk _
  refine law_contract (n := 8) laidOut (tb := 4) rfl (by kernel_rfl) Try.underlying4 (fun H ds hl => ?_) (by kernel_rfl) walk H enc W base args ds gs before hval hW (.inl (bulks.bound hk))
  rw [Try.params5] at hl
  match ds, hl with
  | [_, _, _, _], _ => rfl

theorem proved : Rows.LayoutBackUptoSaid :=
  OpenClaim.holds_of_cond 5 Try.f5 rfl rfl rfl rfl rfl rfl rfl ⟨rfl, rfl, rfl, rfl, rfl⟩ rfl rfl rfl rfl rfl (by kernel_rfl) Try.func5 (by kernel_rfl)
    (of_decide_eq_true (by kernel_rfl)) (by unfold Func.isWrapper; first | (rw [if_pos (by decide +kernel)]; kernel_rfl) | (rw [if_neg (by decide +kernel)]; exact ⟨rfl, rfl⟩))
    (fun os started H enc _ F => lifted os started H enc F)
#print axioms proved
end Go.Proofs.Ytfgacgpicfknpaa.layoutBack
