/-
  Every input of CursorCap: the call returns true, and what was handed in reads as it did.
-/
import Derived.Test.YtfklhppfehkfaaaView
import Derived.Test.YtfklhppfehkfaaaCur5
namespace Go.Proofs.Ytfklhppfehkfaaa.cursorCap
open Go.ChangeShapes Go.WideShapes Go.ChangeAt Go.RowKit
set_option linter.unusedVariables false

section
variable {H : Type} {enc : TypeId × Value → H} {w : World} {base : Nat} {spare : Nat → Bool} {held : Bool}
theorem c5' : Try.prog.cellsOf 5 = 1 := by kernel_rfl
theorem c25' : Try.prog.cellsOf 25 = 1 := by kernel_rfl
theorem open_part (n : Nat) (cs' : List Value) (x : DataW H × List MemPlace) (h : DataW.trod enc Try.prog w base spare held n 25 cs' = some x) : ∃ a : PartV, cs' = a.cells ∧ a.ok w := by
  have hl : ∃ v, cs' = [v] := by
    rcases DataW.trod_slice Try.underlying25 h with ⟨h0, _⟩ | ⟨a, len, cap, elems, rest, m, _, h0, _⟩
    · exact ⟨_, h0⟩
    · exact ⟨_, h0⟩
  obtain ⟨v, rfl⟩ := hl
  obtain ⟨A1, l1, p1, zs1, rfl, w1⟩ := open_ints_in Try.underlying25 Try.underlying5 c5' h
  exact ⟨⟨A1, l1, p1, zs1⟩, rfl, w1⟩
end

def Parts (w : World) (A : Option Addr) (len cap : Nat) (L : List PartV) : Prop := len = L.length ∧ len ≤ cap ∧ cap ≤ maxLen ∧ Row w w.heap.size A (L.flatMap PartV.cells) ∧ ∀ o ∈ L, o.ok w
set_option maxRecDepth 100000 in
theorem open_parts {H : Type} {enc : TypeId × Value → H} {w : World} {base : Nat} {spare : Nat → Bool} {held : Bool} {fuel : Nat} {A : Option Addr} {len cap : Nat} {x : DataW H × List MemPlace}
    (h : DataW.trod enc Try.prog w base spare held fuel 57 (Value.slice A len cap).cells.toList = some x) : ∃ L, Parts w A len cap L := by
  obtain ⟨A', len', cap', L, hv, h1, h2, h3, h4, h5⟩ := open_view (v := .slice A len cap) PartV.cells (PartV.ok w) 1 (fun _ => rfl) (by decide) Try.underlying57 c25' (fun n cs' x h => open_part n cs' x h) (by simpa [Value.cells] using h)
  injection hv with e1 e2 e3
  subst e1; subst e2; subst e3
  exact ⟨L, h1, h2, h3, h4, h5⟩
theorem walk (a0 : Int) (A : Option Addr) (n c : Nat) (L : List PartV) (a2 a3 : Int) (w : World) (w0 : (Lit.int .i64 a0).wf = true) (h : Parts w A n c L) (w2 : (Lit.int .i64 a2).wf = true) (w3 : (Lit.int .u64 a3).wf = true) :
    Calls Try.prog 8 #[.int .i64 a0, .slice A n c, .int .i64 a2, .int .u64 a3] w fun e w' => e = .returned (.bool true) ∧ Below w.heap.size w w' :=
  CursorCap_any a0 A n c L a2 a3 w (I64.of_wf w0) h.2.2.2.1 h.1 h.2.1 h.2.2.1 h.2.2.2.2 (I64.of_wf w2) (U64.of_wf w3)

set_option maxRecDepth 100000 in
theorem lifted (os : Os) (started : os.Started) (H : Type) (enc : TypeId × Value → H) :
    ReturnsInHanded {} Try.checked os 8 .any (Rows.cursorCapSpec.pre6 enc Try.prog Try.f8 Rows.cursorCapRow.domain false) (Rows.cursorCapSpec.post enc Try.prog Try.f8 false true false false) := by
  refine returnsInHanded_of_change (C := Try.checked) own started (by kernel_rfl) Try.func8
    (ChangeSpec.witness6 (enc := enc) (C := Try.checked) false ⟨#[], #[.int .i64 0, .slice none 0 0, .int .i64 0, .int .u64 0], []⟩ 8 (by kernel_rfl) (by kernel_rfl) (by kernel_rfl) (by kernel_rfl)) ?_
  intro W base args ds gs before hval0 hW hcnd _
  have hval : ∀ (j : Nat) t v, Try.f8.params[j]? = some t → args[j]? = some v → Value.okWide Try.prog W .any base t v := hval0
  have hW' := hW
  obtain ⟨p, q, hA0, hV, rfl, hfz, hnd⟩ := hW
  have hA : DataW.TrodAll enc Try.prog W 0 (fun _ => true) true Try.f8.params.toList args.toList ds p := hA0
  rw [Try.params8] at hA hval
  obtain ⟨v0, vs0, d0, ds0, p0, q0, hargs, rfl, rfl, h0, r0⟩ := trodAll_cons hA
  obtain ⟨v1, vs1, d1, ds1, p1, q1, rfl, rfl, rfl, h1, r1⟩ := trodAll_cons r0
  obtain ⟨v2, vs2, d2, ds2, p2, q2, rfl, rfl, rfl, h2, r2⟩ := trodAll_cons r1
  obtain ⟨v3, vs3, d3, ds3, p3, q3, rfl, rfl, rfl, h3, r3⟩ := trodAll_cons r2
  obtain ⟨rfl, rfl, rfl⟩ := trodAll_nil r3
  obtain rfl : args = #[v0, v1, v2, v3] := by cases args; simp_all
  obtain ⟨rfl, rfl⟩ := trodVars_none hV
  obtain ⟨a0, rfl, rfl, rfl, w0⟩ := open_int Try.underlying3 (hval 0 3 v0 rfl rfl) h0
  obtain ⟨a1, len1, cap1, rfl⟩ := okWide_slice Try.underlying57 (hval 1 57 v1 rfl rfl)
  have k1 := h1
  have lt1 : ∀ x ∈ p1, x.block < W.heap.size := by obtain ⟨m, hm⟩ := k1; exact DataW.trod_lt m _ _ _ hm
  obtain ⟨z1, w1⟩ : ∃ L, Parts W a1 len1 cap1 L := by
    obtain ⟨fuel, hf⟩ := h1
    exact open_parts hf
  obtain ⟨a2, rfl, rfl, rfl, w2⟩ := open_int Try.underlying3 (hval 2 3 v2 rfl rfl) h2
  obtain ⟨a3, rfl, rfl, rfl, w3⟩ := open_int Try.underlying26 (hval 3 26 v3 rfl rfl) h3
  clear hA0 hval0
  refine (walk a0 a1 len1 cap1 z1 a2 a3 W w0 w1 w2 w3).mono fun e W' ⟨he, bel⟩ => ?_
  subst he
  exact ⟨_, rfl, _, _, _, [], _, [], hW', trodAll_mk1 (shut_bool Try.underlying4 _), (trodAll_cons_mk (shut_int Try.underlying3 w0) (trodAll_cons_mk (Below.trod laidOut (by kernel_rfl) (of_decide_eq_true (by kernel_rfl)) k1 bel lt1) (trodAll_cons_mk (shut_int Try.underlying3 w2) (trodAll_cons_mk (shut_int Try.underlying26 w3) trodAll_mk0)))), rfl, bel.frame _, fun h => by cases h⟩

theorem over : Rows.cursorCapRow.holds Try.pinned (OpenSpec.ofChange Rows.cursorCapSpec) :=
  OpenClaim.holds_of_wide 8 Try.f8 rfl rfl rfl rfl rfl rfl rfl ⟨rfl, rfl, rfl, rfl, rfl⟩ rfl rfl rfl rfl rfl (by kernel_rfl) Try.func8 (by kernel_rfl)
    (of_decide_eq_true (by kernel_rfl)) (by unfold Func.isWrapper; first | (rw [if_pos (by decide +kernel)]; kernel_rfl) | (rw [if_neg (by decide +kernel)]; exact ⟨rfl, rfl⟩))
    (fun os started H enc _ => lifted os started H enc)

theorem proved : Rows.CursorCapSaid := over
#print axioms proved
