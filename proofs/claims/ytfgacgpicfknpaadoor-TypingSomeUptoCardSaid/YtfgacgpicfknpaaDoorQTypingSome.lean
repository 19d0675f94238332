/-
  Every input of TypingSome of bulk at most 1048576: the call returns true, and what was handed in reads as it did.
-/
import Derived.Test.YtfgacgpicfknpaaDoorCards
import Derived.Test.YtfgacgpicfknpaaDoorTie
import Derived.Test.YtfgacgpicfknpaaDoorP12
set_option linter.all false
namespace Go.Proofs.YtfgacgpicfknpaaDoor.typingSome
open Go.ChangeShapes Go.WideShapes Go.ChangeAt Go.RowKit
set_option maxRecDepth 100000

theorem walk : ∀ as', TypedL Tryd.prog 1048576 8 Tryd.f4.params.toList as' → PCall Tryd.prog 4 as' (fun r => r = .v (.bool true)) := by
  intro as' h
  rw [Tryd.params4] at h
  obtain ⟨x0, xs0, rfl, h0, g0⟩ := tl_cons h
  obtain ⟨x1, xs1, rfl, h1, g1⟩ := tl_cons g0
  obtain ⟨x2, xs2, rfl, h2, g2⟩ := tl_cons g1
  obtain rfl := tl_nil g2
  obtain ⟨ts0, rs0, rfl, b0, c0, d0, e0⟩ := td_schema (n := 2) h0
  obtain ⟨z1, rfl, w1⟩ := td_arg_int (n := 7) Tryd.underlying3 h1
  obtain ⟨l2, rfl, b2, w2⟩ := td_arg_ints (n := 6) Tryd.underlying29 Tryd.underlying3 c_int h2
  exact some11_any ts0 rs0 b0 c0 (fun t ht => Nat.le_trans (d0 t ht).2.2.2.1 (by decide)) (fun t ht p hp => ((d0 t ht).2.2.2.2 p hp).2.1) z1 (I64.of_wf w1) l2 b2

theorem laid_met (os : Os) : laidMet Tryd.prog Rows.typingSomeUptoRow.laid ((laidWorld os).forCall (fun _ _ => 0) ⟨#[], #[.agg #[.slice none 0 0, .slice none 0 0], .int .i64 0, .slice none 0 0], []⟩).memory :=
  laidMet_of_run' 8 (by kernel_rfl) (by kernel_rfl)
theorem reads (os : Os) {H : Type} (enc : TypeId × Value → H) : ∃ places, DataW.whole enc Tryd.prog ((laidWorld os).forCall (fun _ _ => 0) ⟨#[], #[.agg #[.slice none 0 0, .slice none 0 0], .int .i64 0, .slice none 0 0], []⟩).memory Tryd.f4.params.toList Rows.typingSomeSpec.vars false (#[.agg #[.slice none 0 0, .slice none 0 0], .int .i64 0, .slice none 0 0] : Array Value).toList 8 = some ([.agg [.nil, .nil], .lit (.int .i64 0), .nil], [], places) :=
  ⟨[], by kernel_rfl⟩
theorem lifted (os : Os) (started : os.Started) (H : Type) (enc : TypeId × Value → H) (F : Stop.Interp) :
    ReturnsInHanded {} Tryd.checked os 4 .any ((Rows.OpenSpec.upto Rows.typingSomeSpec).preRow enc Tryd.prog Tryd.f4 Rows.typingSomeUptoRow.domain false Rows.typingSomeUptoRow.laid) (((Rows.OpenSpec.upto Rows.typingSomeSpec).at F).post enc Tryd.prog Tryd.f4 false true false false) := by
  obtain ⟨places, hx⟩ := reads os enc
  refine returnsInHanded_of_row (C := Tryd.checked) (s := Rows.OpenSpec.upto Rows.typingSomeSpec) own started (by kernel_rfl) Tryd.func4
    (witness_row_at (enc := enc) (C := Tryd.checked) false (laidWorld os) #[.agg #[.slice none 0 0, .slice none 0 0], .int .i64 0, .slice none 0 0] rfl (by kernel_rfl) (by kernel_rfl) (by kernel_rfl)
      (OpenSpec.preRow_of_cond 8 hx (by kernel_rfl) (fun k hk => by cases hk; kernel_rfl) (by kernel_rfl) (laid_met os))) ?_
  intro W base args ds gs before hval hW _ hcond _ hL _ _
  refine law_contractF (hF := fok_laid hL) (n := 8) laidOut (tb := 4) rfl (by kernel_rfl) Tryd.underlying4 (fun H ds hl => ?_) (by kernel_rfl) walk H enc W base args ds gs before hval hW (.inl (bulks.bound (hcond _ rfl)))
  rw [Tryd.params4] at hl
  match ds, hl with
  | [_, _, _], _ => rfl

theorem said : Rows.TypingSomeUptoSaid :=
  OpenClaim.holds_of_cond 4 Tryd.f4 rfl rfl rfl rfl rfl rfl rfl ⟨rfl, rfl, rfl, rfl, rfl⟩ rfl rfl rfl rfl rfl (by kernel_rfl) Tryd.func4 (by kernel_rfl)
    (of_decide_eq_true (by kernel_rfl)) (by unfold Func.isWrapper; first | (rw [if_pos (by decide +kernel)]; kernel_rfl) | (rw [if_neg (by decide +kernel)]; exact ⟨rfl, rfl⟩))
    (fun os started H enc _ F => by rw [OpenClaim.pre_eq_preRow]; exact lifted os started H enc F)
theorem plain (f : FuncId) (fn : Func) (hf : Tryd.pinned.checked.prog.funcNamed "mortise/mortiselaw11.TypingSome" = some f) (hfn : Tryd.pinned.checked.prog.funcs[f]? = some fn) :
    false = Tryd.pinned.checked.prog.looks [] ∧ ∀ (j : Nat) t, fn.params[j]? = some t → Tryd.pinned.checked.prog.wantsStandIn t = false := by
  obtain rfl : f = 4 := Option.some.inj ((show Tryd.prog.funcNamed "mortise/mortiselaw11.TypingSome" = some 4 by kernel_rfl).symm.trans hf) |>.symm
  obtain rfl : fn = Tryd.f4 := (Option.some.inj (Tryd.func4.symm.trans hfn)).symm
  refine ⟨by kernel_rfl, fun j t ht => ?_⟩
  rw [Tryd.params4] at ht
  have hm := Array.mem_of_getElem? ht
  simp only [List.mem_toArray, List.mem_cons, List.not_mem_nil, or_false] at hm
  have hd : (List.all [25, 3, 29] fun t => !Tryd.prog.wantsStandIn t) = true := by kernel_rfl
  have h2 := List.all_eq_true.1 hd t (by simp only [List.mem_cons, List.not_mem_nil, or_false]; first | exact hm | omega)
  exact (show Tryd.prog.wantsStandIn t = false by simpa using h2)
theorem proved : Rows.TypingSomeUptoCardSaid :=
  Claim7.holds_tied_plain_at .later [] _ _ _ _ said (fun _ h => by cases h) (by kernel_rfl) (fun _ h => by cases h) typingSomeUpto_row_tie rfl ⟨rfl, rfl⟩ (by kernel_rfl) rfl plain (by kernel_rfl)
#print axioms proved
end Go.Proofs.YtfgacgpicfknpaaDoor.typingSome
