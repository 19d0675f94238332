/-
  No cell of these rows narrows 'for every input' (looked for: loops, veiled, ifaces, maps, wideKeys, modest, calm, conditions, laid).
  DERIVED. THE GIVEN ROWS OF THIS SEAT. 10 by the template 'for every input the law returns true; each argument reads behind the call as it read before'; 0 by the template 'total and deterministic' (their statements: YtfklhppfehkfaaaTotals.lean).
  GIVEN WITH THE SEED: the statements are not yours to turn. If you find one false, say at which input.
  Laid BY PROGRAM, IN A SANDBOX (cutbox-rows.mjs): the forced cells as the released guide's own fill.sh prints them over the translation 20f1389f153ea9a6… (all of the seat's roots in one cut). By AI agents, Wed Nov 11 2026. No macro, syntax, notation, axiom, sorry.
-/
import Derived.Test.YtfklhppfehkfaaaChecked
import GoSem.Claim
import GoSem.ClaimJoined
import GoSem.ClaimMapViews
import Derived.JoinedTies
import Derived.KernelRfl
namespace Go.Proofs.Ytfklhppfehkfaaa
/- THE CELL 'sum', in the pinned program and in every row, IS THE sha256 OF THE DUMP (.gsa) THAT YtfklhppfehkfaaaProg.lean LOADS. Nothing in Lean hashes anything: it is a label: what it is worth is what the hold of that sum in a sandbox is worth. -/
noncomputable def Try.pinned : Pinned := { name := "ytfklhppfehkfaaa", sum := "20f1389f153ea9a6a97428b0ee0d8f82990a53efa6aa8bfb154c82635b2c61e6", checked := Try.checked }
namespace Rows
def none {H : Type} : Left H := { results := [], args := [] }

/-- 'mortiselaw01.LeExact': WHATEVER THE INPUT: true; the input reads as it did. -/
def leExactSpec : ChangeSpec := { name := "leExact", fn := fun _ => fun
  | [d] => { results := [.lit (.bool true)], args := [d] }
  | _ => none }
def leExactRow : OpenClaim := { program := "ytfklhppfehkfaaa", sum := "20f1389f153ea9a6a97428b0ee0d8f82990a53efa6aa8bfb154c82635b2c61e6", func := "mortise/mortiselaw01.LeExact", spec := "leExact", apart := false }
def LeExactSaid : Prop := leExactRow.holds Try.pinned (OpenSpec.ofChange leExactSpec)

/-- ITS FALSE NEIGHBOUR: 'it returns false'. Refute it at one input. -/
def leExactWrong : ChangeSpec := { name := "leExact", fn := fun _ => fun
  | [d] => { results := [.lit (.bool false)], args := [d] }
  | _ => none }
def LeExactWrongFalsely : Prop := leExactRow.holds Try.pinned (OpenSpec.ofChange leExactWrong)

/-- 'mortiselaw01.LeBack': WHATEVER THE INPUT: true; the input reads as it did. -/
def leBackSpec : ChangeSpec := { name := "leBack", fn := fun _ => fun
  | [d1, d2, d3, d4, d5] => { results := [.lit (.bool true)], args := [d1, d2, d3, d4, d5] }
  | _ => none }
def leBackRow : OpenClaim := { program := "ytfklhppfehkfaaa", sum := "20f1389f153ea9a6a97428b0ee0d8f82990a53efa6aa8bfb154c82635b2c61e6", func := "mortise/mortiselaw01.LeBack", spec := "leBack", apart := false }
def LeBackSaid : Prop := leBackRow.holds Try.pinned (OpenSpec.ofChange leBackSpec)

/-- ITS FALSE NEIGHBOUR: 'it returns false'. Refute it at one input. -/
def leBackWrong : ChangeSpec := { name := "leBack", fn := fun _ => fun
  | [d1, d2, d3, d4, d5] => { results := [.lit (.bool false)], args := [d1, d2, d3, d4, d5] }
  | _ => none }
def LeBackWrongFalsely : Prop := leBackRow.holds Try.pinned (OpenSpec.ofChange leBackWrong)

/-- 'mortiselaw01.LeSizes': WHATEVER THE INPUT: true; the input reads as it did. -/
def leSizesSpec : ChangeSpec := { name := "leSizes", fn := fun _ => fun
  | [d1, d2, d3, d4, d5] => { results := [.lit (.bool true)], args := [d1, d2, d3, d4, d5] }
  | _ => none }
def leSizesRow : OpenClaim := { program := "ytfklhppfehkfaaa", sum := "20f1389f153ea9a6a97428b0ee0d8f82990a53efa6aa8bfb154c82635b2c61e6", func := "mortise/mortiselaw01.LeSizes", spec := "leSizes", apart := false }
def LeSizesSaid : Prop := leSizesRow.holds Try.pinned (OpenSpec.ofChange leSizesSpec)

/-- ITS FALSE NEIGHBOUR: 'it returns false'. Refute it at one input. -/
def leSizesWrong : ChangeSpec := { name := "leSizes", fn := fun _ => fun
  | [d1, d2, d3, d4, d5] => { results := [.lit (.bool false)], args := [d1, d2, d3, d4, d5] }
  | _ => none }
def LeSizesWrongFalsely : Prop := leSizesRow.holds Try.pinned (OpenSpec.ofChange leSizesWrong)

/-- 'mortiselaw03.CursorExact': WHATEVER THE INPUT: true; the input reads as it did. -/
def cursorExactSpec : ChangeSpec := { name := "cursorExact", fn := fun _ => fun
  | [d] => { results := [.lit (.bool true)], args := [d] }
  | _ => none }
def cursorExactRow : OpenClaim := { program := "ytfklhppfehkfaaa", sum := "20f1389f153ea9a6a97428b0ee0d8f82990a53efa6aa8bfb154c82635b2c61e6", func := "mortise/mortiselaw03.CursorExact", spec := "cursorExact", apart := false }
def CursorExactSaid : Prop := cursorExactRow.holds Try.pinned (OpenSpec.ofChange cursorExactSpec)

/-- ITS FALSE NEIGHBOUR: 'it returns false'. Refute it at one input. -/
def cursorExactWrong : ChangeSpec := { name := "cursorExact", fn := fun _ => fun
  | [d] => { results := [.lit (.bool false)], args := [d] }
  | _ => none }
def CursorExactWrongFalsely : Prop := cursorExactRow.holds Try.pinned (OpenSpec.ofChange cursorExactWrong)

/-- 'mortiselaw03.CursorCuts': WHATEVER THE INPUT: true; the input reads as it did. -/
def cursorCutsSpec : ChangeSpec := { name := "cursorCuts", fn := fun _ => fun
  | [d1, d2, d3, d4, d5] => { results := [.lit (.bool true)], args := [d1, d2, d3, d4, d5] }
  | _ => none }
def cursorCutsRow : OpenClaim := { program := "ytfklhppfehkfaaa", sum := "20f1389f153ea9a6a97428b0ee0d8f82990a53efa6aa8bfb154c82635b2c61e6", func := "mortise/mortiselaw03.CursorCuts", spec := "cursorCuts", apart := false }
def CursorCutsSaid : Prop := cursorCutsRow.holds Try.pinned (OpenSpec.ofChange cursorCutsSpec)

/-- ITS FALSE NEIGHBOUR: 'it returns false'. Refute it at one input. -/
def cursorCutsWrong : ChangeSpec := { name := "cursorCuts", fn := fun _ => fun
  | [d1, d2, d3, d4, d5] => { results := [.lit (.bool false)], args := [d1, d2, d3, d4, d5] }
  | _ => none }
def CursorCutsWrongFalsely : Prop := cursorCutsRow.holds Try.pinned (OpenSpec.ofChange cursorCutsWrong)

/-- 'mortiselaw03.CursorCap': WHATEVER THE INPUT: true; the input reads as it did. -/
def cursorCapSpec : ChangeSpec := { name := "cursorCap", fn := fun _ => fun
  | [d1, d2, d3, d4] => { results := [.lit (.bool true)], args := [d1, d2, d3, d4] }
  | _ => none }
def cursorCapRow : OpenClaim := { program := "ytfklhppfehkfaaa", sum := "20f1389f153ea9a6a97428b0ee0d8f82990a53efa6aa8bfb154c82635b2c61e6", func := "mortise/mortiselaw03.CursorCap", spec := "cursorCap", apart := false }
def CursorCapSaid : Prop := cursorCapRow.holds Try.pinned (OpenSpec.ofChange cursorCapSpec)

/-- ITS FALSE NEIGHBOUR: 'it returns false'. Refute it at one input. -/
def cursorCapWrong : ChangeSpec := { name := "cursorCap", fn := fun _ => fun
  | [d1, d2, d3, d4] => { results := [.lit (.bool false)], args := [d1, d2, d3, d4] }
  | _ => none }
def CursorCapWrongFalsely : Prop := cursorCapRow.holds Try.pinned (OpenSpec.ofChange cursorCapWrong)

/-- 'mortiselaw13.LayoutExact': WHATEVER THE INPUT: true; the input reads as it did. -/
def layoutExactSpec : ChangeSpec := { name := "layoutExact", fn := fun _ => fun
  | [d] => { results := [.lit (.bool true)], args := [d] }
  | _ => none }
def layoutExactRow : OpenClaim := { program := "ytfklhppfehkfaaa", sum := "20f1389f153ea9a6a97428b0ee0d8f82990a53efa6aa8bfb154c82635b2c61e6", func := "mortise/mortiselaw13.LayoutExact", spec := "layoutExact", unfollowed := true, recurses := true, apart := false }
def LayoutExactSaid : Prop := layoutExactRow.holds Try.pinned (OpenSpec.ofChange layoutExactSpec)

/-- ITS FALSE NEIGHBOUR: 'it returns false'. Refute it at one input. -/
def layoutExactWrong : ChangeSpec := { name := "layoutExact", fn := fun _ => fun
  | [d] => { results := [.lit (.bool false)], args := [d] }
  | _ => none }
def LayoutExactWrongFalsely : Prop := layoutExactRow.holds Try.pinned (OpenSpec.ofChange layoutExactWrong)

/-- 'mortiselaw13.LayoutOffsets': WHATEVER THE INPUT: true; the input reads as it did. -/
def layoutOffsetsSpec : ChangeSpec := { name := "layoutOffsets", fn := fun _ => fun
  | [d1, d2, d3] => { results := [.lit (.bool true)], args := [d1, d2, d3] }
  | _ => none }
def layoutOffsetsRow : OpenClaim := { program := "ytfklhppfehkfaaa", sum := "20f1389f153ea9a6a97428b0ee0d8f82990a53efa6aa8bfb154c82635b2c61e6", func := "mortise/mortiselaw13.LayoutOffsets", spec := "layoutOffsets", unfollowed := true, recurses := true, apart := false }
def LayoutOffsetsSaid : Prop := layoutOffsetsRow.holds Try.pinned (OpenSpec.ofChange layoutOffsetsSpec)

/-- ITS FALSE NEIGHBOUR: 'it returns false'. Refute it at one input. -/
def layoutOffsetsWrong : ChangeSpec := { name := "layoutOffsets", fn := fun _ => fun
  | [d1, d2, d3] => { results := [.lit (.bool false)], args := [d1, d2, d3] }
  | _ => none }
def LayoutOffsetsWrongFalsely : Prop := layoutOffsetsRow.holds Try.pinned (OpenSpec.ofChange layoutOffsetsWrong)

/-- 'mortiselaw13.LayoutBack': WHATEVER THE INPUT: true; the input reads as it did. -/
def layoutBackSpec : ChangeSpec := { name := "layoutBack", fn := fun _ => fun
  | [d1, d2, d3, d4] => { results := [.lit (.bool true)], args := [d1, d2, d3, d4] }
  | _ => none }
def layoutBackRow : OpenClaim := { program := "ytfklhppfehkfaaa", sum := "20f1389f153ea9a6a97428b0ee0d8f82990a53efa6aa8bfb154c82635b2c61e6", func := "mortise/mortiselaw13.LayoutBack", spec := "layoutBack", unfollowed := true, recurses := true, apart := false }
def LayoutBackSaid : Prop := layoutBackRow.holds Try.pinned (OpenSpec.ofChange layoutBackSpec)

/-- ITS FALSE NEIGHBOUR: 'it returns false'. Refute it at one input. -/
def layoutBackWrong : ChangeSpec := { name := "layoutBack", fn := fun _ => fun
  | [d1, d2, d3, d4] => { results := [.lit (.bool false)], args := [d1, d2, d3, d4] }
  | _ => none }
def LayoutBackWrongFalsely : Prop := layoutBackRow.holds Try.pinned (OpenSpec.ofChange layoutBackWrong)

/-- 'mortiselaw13.LayoutFixed': WHATEVER THE INPUT: true; the input reads as it did. -/
def layoutFixedSpec : ChangeSpec := { name := "layoutFixed", fn := fun _ => fun
  | [d] => { results := [.lit (.bool true)], args := [d] }
  | _ => none }
def layoutFixedRow : OpenClaim := { program := "ytfklhppfehkfaaa", sum := "20f1389f153ea9a6a97428b0ee0d8f82990a53efa6aa8bfb154c82635b2c61e6", func := "mortise/mortiselaw13.LayoutFixed", spec := "layoutFixed", unfollowed := true, recurses := true, apart := false }
def LayoutFixedSaid : Prop := layoutFixedRow.holds Try.pinned (OpenSpec.ofChange layoutFixedSpec)

/-- ITS FALSE NEIGHBOUR: 'it returns false'. Refute it at one input. -/
def layoutFixedWrong : ChangeSpec := { name := "layoutFixed", fn := fun _ => fun
  | [d] => { results := [.lit (.bool false)], args := [d] }
  | _ => none }
def LayoutFixedWrongFalsely : Prop := layoutFixedRow.holds Try.pinned (OpenSpec.ofChange layoutFixedWrong)

/- THE SECOND FORM. 'bulk': how many values and letters a reading holds, each counted each time it is reached (what is shared counts as often as it is met; a slice's spare places count too). A statement '..UptoSaid' is the law's where the arguments, and the package variables that the reading takes, are together of bulk at most 1048576: NARROWER than '..Said'. Prove '..Said' where nothing that the law and all that it calls make is longer than what came in: it says more and counts as full. Else prove '..UptoSaid'. A law counts once. -/
mutual
def uptoBulk {H : Type} : DataW H → Nat
  | .lit (.string bytes) => bytes.length + 1
  | .lit _ => 1
  | .nil => 1
  | .ptr d => uptoBulk d + 1
  | .slice elems spare => uptoBulkAll elems + uptoBulkAll spare + 1
  | .agg parts => uptoBulkAll parts + 1
  | .iface _ d => uptoBulk d + 1
  | .map entries => uptoBulkEntries entries + 1
  | .held _ => 1
def uptoBulkAll {H : Type} : List (DataW H) → Nat
  | [] => 0
  | d :: r => uptoBulk d + uptoBulkAll r
def uptoBulkEntries {H : Type} : List (Lit × DataW H) → Nat
  | [] => 0
  | x :: r => uptoBulkEntry x + uptoBulkEntries r
def uptoBulkEntry {H : Type} : Lit × DataW H → Nat
  | (.string bytes, d) => bytes.length + uptoBulk d + 1
  | (_, d) => uptoBulk d + 1
 end
def uptoSmall : (H : Type) → List (DataW H) → Bool := fun _ ds => decide (uptoBulkAll ds ≤ 1048576)
def OpenSpec.upto (s : _root_.Go.ChangeSpec) : _root_.Go.OpenSpec := { _root_.Go.OpenSpec.ofChange s with cond := some uptoSmall }

/-- 'mortiselaw01.LeExact', WHERE WHAT IT READS IS OF BULK AT MOST 1048576: true; the input reads as it did. -/
def leExactUptoRow : OpenClaim := { program := "ytfklhppfehkfaaa", sum := "20f1389f153ea9a6a97428b0ee0d8f82990a53efa6aa8bfb154c82635b2c61e6", func := "mortise/mortiselaw01.LeExact", spec := "leExact", apart := false, narrowed := true }
def LeExactUptoSaid : Prop := leExactUptoRow.holds Try.pinned (OpenSpec.upto leExactSpec)

/-- 'mortiselaw01.LeBack', WHERE WHAT IT READS IS OF BULK AT MOST 1048576: true; the input reads as it did. -/
def leBackUptoRow : OpenClaim := { program := "ytfklhppfehkfaaa", sum := "20f1389f153ea9a6a97428b0ee0d8f82990a53efa6aa8bfb154c82635b2c61e6", func := "mortise/mortiselaw01.LeBack", spec := "leBack", apart := false, narrowed := true }
def LeBackUptoSaid : Prop := leBackUptoRow.holds Try.pinned (OpenSpec.upto leBackSpec)

/-- 'mortiselaw01.LeSizes', WHERE WHAT IT READS IS OF BULK AT MOST 1048576: true; the input reads as it did. -/
def leSizesUptoRow : OpenClaim := { program := "ytfklhppfehkfaaa", sum := "20f1389f153ea9a6a97428b0ee0d8f82990a53efa6aa8bfb154c82635b2c61e6", func := "mortise/mortiselaw01.LeSizes", spec := "leSizes", apart := false, narrowed := true }
def LeSizesUptoSaid : Prop := leSizesUptoRow.holds Try.pinned (OpenSpec.upto leSizesSpec)

/-- 'mortiselaw03.CursorExact', WHERE WHAT IT READS IS OF BULK AT MOST 1048576: true; the input reads as it did. -/
def cursorExactUptoRow : OpenClaim := { program := "ytfklhppfehkfaaa", sum := "20f1389f153ea9a6a97428b0ee0d8f82990a53efa6aa8bfb154c82635b2c61e6", func := "mortise/mortiselaw03.CursorExact", spec := "cursorExact", apart := false, narrowed := true }
def CursorExactUptoSaid : Prop := cursorExactUptoRow.holds Try.pinned (OpenSpec.upto cursorExactSpec)

/-- 'mortiselaw03.CursorCuts', WHERE WHAT IT READS IS OF BULK AT MOST 1048576: true; the input reads as it did. -/
def cursorCutsUptoRow : OpenClaim := { program := "ytfklhppfehkfaaa", sum := "20f1389f153ea9a6a97428b0ee0d8f82990a53efa6aa8bfb154c82635b2c61e6", func := "mortise/mortiselaw03.CursorCuts", spec := "cursorCuts", apart := false, narrowed := true }
def CursorCutsUptoSaid : Prop := cursorCutsUptoRow.holds Try.pinned (OpenSpec.upto cursorCutsSpec)

/-- 'mortiselaw03.CursorCap', WHERE WHAT IT READS IS OF BULK AT MOST 1048576: true; the input reads as it did. -/
def cursorCapUptoRow : OpenClaim := { program := "ytfklhppfehkfaaa", sum := "20f1389f153ea9a6a97428b0ee0d8f82990a53efa6aa8bfb154c82635b2c61e6", func := "mortise/mortiselaw03.CursorCap", spec := "cursorCap", apart := false, narrowed := true }
def CursorCapUptoSaid : Prop := cursorCapUptoRow.holds Try.pinned (OpenSpec.upto cursorCapSpec)

/-- 'mortiselaw13.LayoutExact', WHERE WHAT IT READS IS OF BULK AT MOST 1048576: true; the input reads as it did. -/
def layoutExactUptoRow : OpenClaim := { program := "ytfklhppfehkfaaa", sum := "20f1389f153ea9a6a97428b0ee0d8f82990a53efa6aa8bfb154c82635b2c61e6", func := "mortise/mortiselaw13.LayoutExact", spec := "layoutExact", unfollowed := true, recurses := true, apart := false, narrowed := true }
def LayoutExactUptoSaid : Prop := layoutExactUptoRow.holds Try.pinned (OpenSpec.upto layoutExactSpec)

/-- 'mortiselaw13.LayoutOffsets', WHERE WHAT IT READS IS OF BULK AT MOST 1048576: true; the input reads as it did. -/
def layoutOffsetsUptoRow : OpenClaim := { program := "ytfklhppfehkfaaa", sum := "20f1389f153ea9a6a97428b0ee0d8f82990a53efa6aa8bfb154c82635b2c61e6", func := "mortise/mortiselaw13.LayoutOffsets", spec := "layoutOffsets", unfollowed := true, recurses := true, apart := false, narrowed := true }
def LayoutOffsetsUptoSaid : Prop := layoutOffsetsUptoRow.holds Try.pinned (OpenSpec.upto layoutOffsetsSpec)

/-- 'mortiselaw13.LayoutBack', WHERE WHAT IT READS IS OF BULK AT MOST 1048576: true; the input reads as it did. -/
def layoutBackUptoRow : OpenClaim := { program := "ytfklhppfehkfaaa", sum := "20f1389f153ea9a6a97428b0ee0d8f82990a53efa6aa8bfb154c82635b2c61e6", func := "mortise/mortiselaw13.LayoutBack", spec := "layoutBack", unfollowed := true, recurses := true, apart := false, narrowed := true }
def LayoutBackUptoSaid : Prop := layoutBackUptoRow.holds Try.pinned (OpenSpec.upto layoutBackSpec)

/-- 'mortiselaw13.LayoutFixed', WHERE WHAT IT READS IS OF BULK AT MOST 1048576: true; the input reads as it did. -/
def layoutFixedUptoRow : OpenClaim := { program := "ytfklhppfehkfaaa", sum := "20f1389f153ea9a6a97428b0ee0d8f82990a53efa6aa8bfb154c82635b2c61e6", func := "mortise/mortiselaw13.LayoutFixed", spec := "layoutFixed", unfollowed := true, recurses := true, apart := false, narrowed := true }
def LayoutFixedUptoSaid : Prop := layoutFixedUptoRow.holds Try.pinned (OpenSpec.upto layoutFixedSpec)

end Rows
end Go.Proofs.Ytfklhppfehkfaaa
