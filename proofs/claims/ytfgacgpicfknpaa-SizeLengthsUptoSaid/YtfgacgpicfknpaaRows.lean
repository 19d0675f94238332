/-
  No cell of these rows narrows 'for every input' (looked for: loops, veiled, ifaces, maps, wideKeys, modest, calm, conditions, laid).
  DERIVED. THE GIVEN ROWS OF THIS SEAT. 9 by the template 'for every input the law returns true; each argument reads behind the call as it read before'; 0 by the template 'total and deterministic' (their statements: YtfgacgpicfknpaaTotals.lean).
  GIVEN WITH THE SEED: the statements are not yours to turn. If you find one false, say at which input.
  Laid BY PROGRAM, IN A SANDBOX (cutbox-rows.mjs): the forced cells as the released guide's own fill.sh prints them over the translation 26427c0d6f148738… (all of the seat's roots in one cut). By AI agents, Wed Nov 11 2026. No macro, syntax, notation, axiom, sorry.
-/
import Derived.Test.YtfgacgpicfknpaaChecked
import GoSem.Claim
import GoSem.ClaimJoined
import GoSem.ClaimMapViews
import Derived.JoinedTies
import Derived.KernelRfl
namespace Go.Proofs.Ytfgacgpicfknpaa
/- THE CELL 'sum', in the pinned program and in every row, IS THE sha256 OF THE DUMP (.gsa) THAT YtfgacgpicfknpaaProg.lean LOADS. Nothing in Lean hashes anything: it is a label: what it is worth is what the hold of that sum in a sandbox is worth. -/
noncomputable def Try.pinned : Pinned := { name := "ytfgacgpicfknpaa", sum := "26427c0d6f148738a92d8c5d3fab558a30cd7b61dcb4391a1562b0c6475378b5", checked := Try.checked }
namespace Rows
def none {H : Type} : Left H := { results := [], args := [] }

/-- 'mortiselaw13.LayoutExact': WHATEVER THE INPUT: true; the input reads as it did. -/
def layoutExactSpec : ChangeSpec := { name := "layoutExact", fn := fun _ => fun
  | [d] => { results := [.lit (.bool true)], args := [d] }
  | _ => none }
def layoutExactRow : OpenClaim := { program := "ytfgacgpicfknpaa", sum := "26427c0d6f148738a92d8c5d3fab558a30cd7b61dcb4391a1562b0c6475378b5", func := "mortise/mortiselaw13.LayoutExact", spec := "layoutExact", unfollowed := true, recurses := true, apart := false }
def LayoutExactSaid : Prop := layoutExactRow.holds Try.pinned (OpenSpec.ofChange layoutExactSpec)

/-- ITS FALSE NEIGHBOUR: 'it returns false'. Refute it at one input. -/
def layoutExactWrong : ChangeSpec := { name := "layoutExact", fn := fun _ => fun
  | [d] => { results := [.lit (.bool false)], args := [d] }
  | _ => none }
def LayoutExactWrongFalsely : Prop := layoutExactRow.holds Try.pinned (OpenSpec.ofChange layoutExactWrong)

/-- 'mortiselaw13.LayoutOffsets': WHATEVER THE INPUT: true; the input reads as it did. -/
def layoutOffsetsSpec : ChangeSpec := { name := "layoutOffsets", fn := fun _ => fun
  | [d1, d2, d3] => { results := [.lit (.bool true)], args := [d1, d2, d3] }
  | _ => none }
def layoutOffsetsRow : OpenClaim := { program := "ytfgacgpicfknpaa", sum := "26427c0d6f148738a92d8c5d3fab558a30cd7b61dcb4391a1562b0c6475378b5", func := "mortise/mortiselaw13.LayoutOffsets", spec := "layoutOffsets", unfollowed := true, recurses := true, apart := false }
def LayoutOffsetsSaid : Prop := layoutOffsetsRow.holds Try.pinned (OpenSpec.ofChange layoutOffsetsSpec)

/-- ITS FALSE NEIGHBOUR: 'it returns false'. Refute it at one input. -/
def layoutOffsetsWrong : ChangeSpec := { name := "layoutOffsets", fn := fun _ => fun
  | [d1, d2, d3] => { results := [.lit (.bool false)], args := [d1, d2, d3] }
  | _ => none }
def LayoutOffsetsWrongFalsely : Prop := layoutOffsetsRow.holds Try.pinned (OpenSpec.ofChange layoutOffsetsWrong)

/-- 'mortiselaw13.LayoutBack': WHATEVER THE INPUT: true; the input reads as it did. -/
def layoutBackSpec : ChangeSpec := { name := "layoutBack", fn := fun _ => fun
  | [d1, d2, d3, d4] => { results := [.lit (.bool true)], args := [d1, d2, d3, d4] }
  | _ => none }
def layoutBackRow : OpenClaim := { program := "ytfgacgpicfknpaa", sum := "26427c0d6f148738a92d8c5d3fab558a30cd7b61dcb4391a1562b0c6475378b5", func := "mortise/mortiselaw13.LayoutBack", spec := "layoutBack", unfollowed := true, recurses := true, apart := false }
def LayoutBackSaid : Prop := layoutBackRow.holds Try.pinned (OpenSpec.ofChange layoutBackSpec)

/-- ITS FALSE NEIGHBOUR: 'it returns false'. Refute it at one input. -/
def layoutBackWrong : ChangeSpec := { name := "layoutBack", fn := fun _ => fun
  | [d1, d2, d3, d4] => { results := [.lit (.bool false)], args := [d1, d2, d3, d4] }
  | _ => none }
def LayoutBackWrongFalsely : Prop := layoutBackRow.holds Try.pinned (OpenSpec.ofChange layoutBackWrong)

/-- 'mortiselaw13.LayoutFixed': WHATEVER THE INPUT: true; the input reads as it did. -/
def layoutFixedSpec : ChangeSpec := { name := "layoutFixed", fn := fun _ => fun
  | [d] => { results := [.lit (.bool true)], args := [d] }
  | _ => none }
def layoutFixedRow : OpenClaim := { program := "ytfgacgpicfknpaa", sum := "26427c0d6f148738a92d8c5d3fab558a30cd7b61dcb4391a1562b0c6475378b5", func := "mortise/mortiselaw13.LayoutFixed", spec := "layoutFixed", unfollowed := true, recurses := true, apart := false }
def LayoutFixedSaid : Prop := layoutFixedRow.holds Try.pinned (OpenSpec.ofChange layoutFixedSpec)

/-- ITS FALSE NEIGHBOUR: 'it returns false'. Refute it at one input. -/
def layoutFixedWrong : ChangeSpec := { name := "layoutFixed", fn := fun _ => fun
  | [d] => { results := [.lit (.bool false)], args := [d] }
  | _ => none }
def LayoutFixedWrongFalsely : Prop := layoutFixedRow.holds Try.pinned (OpenSpec.ofChange layoutFixedWrong)

/-- 'mortiselaw10.SizeExact': WHATEVER THE INPUT: true; the input reads as it did. -/
def sizeExactSpec : ChangeSpec := { name := "sizeExact", fn := fun _ => fun
  | [d1, d2, d3] => { results := [.lit (.bool true)], args := [d1, d2, d3] }
  | _ => none }
def sizeExactRow : OpenClaim := { program := "ytfgacgpicfknpaa", sum := "26427c0d6f148738a92d8c5d3fab558a30cd7b61dcb4391a1562b0c6475378b5", func := "mortise/mortiselaw10.SizeExact", spec := "sizeExact", unfollowed := true, recurses := true, apart := false }
def SizeExactSaid : Prop := sizeExactRow.holds Try.pinned (OpenSpec.ofChange sizeExactSpec)

/-- ITS FALSE NEIGHBOUR: 'it returns false'. Refute it at one input. -/
def sizeExactWrong : ChangeSpec := { name := "sizeExact", fn := fun _ => fun
  | [d1, d2, d3] => { results := [.lit (.bool false)], args := [d1, d2, d3] }
  | _ => none }
def SizeExactWrongFalsely : Prop := sizeExactRow.holds Try.pinned (OpenSpec.ofChange sizeExactWrong)

/-- 'mortiselaw10.SizeLengths': WHATEVER THE INPUT: true; the input reads as it did. -/
def sizeLengthsSpec : ChangeSpec := { name := "sizeLengths", fn := fun _ => fun
  | [d1, d2, d3] => { results := [.lit (.bool true)], args := [d1, d2, d3] }
  | _ => none }
def sizeLengthsRow : OpenClaim := { program := "ytfgacgpicfknpaa", sum := "26427c0d6f148738a92d8c5d3fab558a30cd7b61dcb4391a1562b0c6475378b5", func := "mortise/mortiselaw10.SizeLengths", spec := "sizeLengths", unfollowed := true, recurses := true, apart := false }
def SizeLengthsSaid : Prop := sizeLengthsRow.holds Try.pinned (OpenSpec.ofChange sizeLengthsSpec)

/-- ITS FALSE NEIGHBOUR: 'it returns false'. Refute it at one input. -/
def sizeLengthsWrong : ChangeSpec := { name := "sizeLengths", fn := fun _ => fun
  | [d1, d2, d3] => { results := [.lit (.bool false)], args := [d1, d2, d3] }
  | _ => none }
def SizeLengthsWrongFalsely : Prop := sizeLengthsRow.holds Try.pinned (OpenSpec.ofChange sizeLengthsWrong)

/-- 'mortiselaw10.SizeBetween': WHATEVER THE INPUT: true; the input reads as it did. -/
def sizeBetweenSpec : ChangeSpec := { name := "sizeBetween", fn := fun _ => fun
  | [d1, d2, d3] => { results := [.lit (.bool true)], args := [d1, d2, d3] }
  | _ => none }
def sizeBetweenRow : OpenClaim := { program := "ytfgacgpicfknpaa", sum := "26427c0d6f148738a92d8c5d3fab558a30cd7b61dcb4391a1562b0c6475378b5", func := "mortise/mortiselaw10.SizeBetween", spec := "sizeBetween", unfollowed := true, recurses := true, apart := false }
def SizeBetweenSaid : Prop := sizeBetweenRow.holds Try.pinned (OpenSpec.ofChange sizeBetweenSpec)

/-- ITS FALSE NEIGHBOUR: 'it returns false'. Refute it at one input. -/
def sizeBetweenWrong : ChangeSpec := { name := "sizeBetween", fn := fun _ => fun
  | [d1, d2, d3] => { results := [.lit (.bool false)], args := [d1, d2, d3] }
  | _ => none }
def SizeBetweenWrongFalsely : Prop := sizeBetweenRow.holds Try.pinned (OpenSpec.ofChange sizeBetweenWrong)

/-- 'mortiselaw10.SizeBounds': WHATEVER THE INPUT: true; the input reads as it did. -/
def sizeBoundsSpec : ChangeSpec := { name := "sizeBounds", fn := fun _ => fun
  | [d1, d2, d3] => { results := [.lit (.bool true)], args := [d1, d2, d3] }
  | _ => none }
def sizeBoundsRow : OpenClaim := { program := "ytfgacgpicfknpaa", sum := "26427c0d6f148738a92d8c5d3fab558a30cd7b61dcb4391a1562b0c6475378b5", func := "mortise/mortiselaw10.SizeBounds", spec := "sizeBounds", unfollowed := true, recurses := true, apart := false }
def SizeBoundsSaid : Prop := sizeBoundsRow.holds Try.pinned (OpenSpec.ofChange sizeBoundsSpec)

/-- ITS FALSE NEIGHBOUR: 'it returns false'. Refute it at one input. -/
def sizeBoundsWrong : ChangeSpec := { name := "sizeBounds", fn := fun _ => fun
  | [d1, d2, d3] => { results := [.lit (.bool false)], args := [d1, d2, d3] }
  | _ => none }
def SizeBoundsWrongFalsely : Prop := sizeBoundsRow.holds Try.pinned (OpenSpec.ofChange sizeBoundsWrong)

/-- 'mortiselaw10.SizeDoubles': WHATEVER THE INPUT: true; the input reads as it did. -/
def sizeDoublesSpec : ChangeSpec := { name := "sizeDoubles", fn := fun _ => fun
  | [d] => { results := [.lit (.bool true)], args := [d] }
  | _ => none }
def sizeDoublesRow : OpenClaim := { program := "ytfgacgpicfknpaa", sum := "26427c0d6f148738a92d8c5d3fab558a30cd7b61dcb4391a1562b0c6475378b5", func := "mortise/mortiselaw10.SizeDoubles", spec := "sizeDoubles", unfollowed := true, recurses := true, apart := false }
def SizeDoublesSaid : Prop := sizeDoublesRow.holds Try.pinned (OpenSpec.ofChange sizeDoublesSpec)

/-- ITS FALSE NEIGHBOUR: 'it returns false'. Refute it at one input. -/
def sizeDoublesWrong : ChangeSpec := { name := "sizeDoubles", fn := fun _ => fun
  | [d] => { results := [.lit (.bool false)], args := [d] }
  | _ => none }
def SizeDoublesWrongFalsely : Prop := sizeDoublesRow.holds Try.pinned (OpenSpec.ofChange sizeDoublesWrong)

/- THE SECOND FORM. 'bulk': how many values and letters a reading holds, each counted each time it is reached (what is shared counts as often as it is met; a slice's spare places count too). A statement '..UptoSaid' is the law's where the arguments, and the package variables that the reading takes, are together of bulk at most 1048576: NARROWER than '..Said'. Prove '..Said' where nothing that the law and all that it calls make is longer than what came in: it says more and counts as full. Else prove '..UptoSaid'. A law counts once. -/
mutual
def uptoBulk {H : Type} : DataW H → Nat
  | .lit (.string bytes) => bytes.length + 1
  | .lit _ => 1
  | .nil => 1
  | .ptr d => uptoBulk d + 1
  | .slice elems spare => uptoBulkAll elems + uptoBulkAll spare + 1
  | .agg parts => uptoBulkAll parts + 1
  | .iface _ d => uptoBulk d + 1
  | .map entries => uptoBulkEntries entries + 1
  | .held _ => 1
def uptoBulkAll {H : Type} : List (DataW H) → Nat
  | [] => 0
  | d :: r => uptoBulk d + uptoBulkAll r
def uptoBulkEntries {H : Type} : List (Lit × DataW H) → Nat
  | [] => 0
  | x :: r => uptoBulkEntry x + uptoBulkEntries r
def uptoBulkEntry {H : Type} : Lit × DataW H → Nat
  | (.string bytes, d) => bytes.length + uptoBulk d + 1
  | (_, d) => uptoBulk d + 1
 end
def uptoSmall : (H : Type) → List (DataW H) → Bool := fun _ ds => decide (uptoBulkAll ds ≤ 1048576)
def OpenSpec.upto (s : _root_.Go.ChangeSpec) : _root_.Go.OpenSpec := { _root_.Go.OpenSpec.ofChange s with cond := some uptoSmall }

/-- 'mortiselaw13.LayoutExact', WHERE WHAT IT READS IS OF BULK AT MOST 1048576: true; the input reads as it did. -/
def layoutExactUptoRow : OpenClaim := { program := "ytfgacgpicfknpaa", sum := "26427c0d6f148738a92d8c5d3fab558a30cd7b61dcb4391a1562b0c6475378b5", func := "mortise/mortiselaw13.LayoutExact", spec := "layoutExact", unfollowed := true, recurses := true, apart := false, narrowed := true }
def LayoutExactUptoSaid : Prop := layoutExactUptoRow.holds Try.pinned (OpenSpec.upto layoutExactSpec)

/-- 'mortiselaw13.LayoutOffsets', WHERE WHAT IT READS IS OF BULK AT MOST 1048576: true; the input reads as it did. -/
def layoutOffsetsUptoRow : OpenClaim := { program := "ytfgacgpicfknpaa", sum := "26427c0d6f148738a92d8c5d3fab558a30cd7b61dcb4391a1562b0c6475378b5", func := "mortise/mortiselaw13.LayoutOffsets", spec := "layoutOffsets", unfollowed := true, recurses := true, apart := false, narrowed := true }
def LayoutOffsetsUptoSaid : Prop := layoutOffsetsUptoRow.holds Try.pinned (OpenSpec.upto layoutOffsetsSpec)

/-- 'mortiselaw13.LayoutBack', WHERE WHAT IT READS IS OF BULK AT MOST 1048576: true; the input reads as it did. -/
def layoutBackUptoRow : OpenClaim := { program := "ytfgacgpicfknpaa", sum := "26427c0d6f148738a92d8c5d3fab558a30cd7b61dcb4391a1562b0c6475378b5", func := "mortise/mortiselaw13.LayoutBack", spec := "layoutBack", unfollowed := true, recurses := true, apart := false, narrowed := true }
def LayoutBackUptoSaid : Prop := layoutBackUptoRow.holds Try.pinned (OpenSpec.upto layoutBackSpec)

/-- 'mortiselaw13.LayoutFixed', WHERE WHAT IT READS IS OF BULK AT MOST 1048576: true; the input reads as it did. -/
def layoutFixedUptoRow : OpenClaim := { program := "ytfgacgpicfknpaa", sum := "26427c0d6f148738a92d8c5d3fab558a30cd7b61dcb4391a1562b0c6475378b5", func := "mortise/mortiselaw13.LayoutFixed", spec := "layoutFixed", unfollowed := true, recurses := true, apart := false, narrowed := true }
def LayoutFixedUptoSaid : Prop := layoutFixedUptoRow.holds Try.pinned (OpenSpec.upto layoutFixedSpec)

/-- 'mortiselaw10.SizeExact', WHERE WHAT IT READS IS OF BULK AT MOST 1048576: true; the input reads as it did. -/
def sizeExactUptoRow : OpenClaim := { program := "ytfgacgpicfknpaa", sum := "26427c0d6f148738a92d8c5d3fab558a30cd7b61dcb4391a1562b0c6475378b5", func := "mortise/mortiselaw10.SizeExact", spec := "sizeExact", unfollowed := true, recurses := true, apart := false, narrowed := true }
def SizeExactUptoSaid : Prop := sizeExactUptoRow.holds Try.pinned (OpenSpec.upto sizeExactSpec)

/-- 'mortiselaw10.SizeLengths', WHERE WHAT IT READS IS OF BULK AT MOST 1048576: true; the input reads as it did. -/
def sizeLengthsUptoRow : OpenClaim := { program := "ytfgacgpicfknpaa", sum := "26427c0d6f148738a92d8c5d3fab558a30cd7b61dcb4391a1562b0c6475378b5", func := "mortise/mortiselaw10.SizeLengths", spec := "sizeLengths", unfollowed := true, recurses := true, apart := false, narrowed := true }
def SizeLengthsUptoSaid : Prop := sizeLengthsUptoRow.holds Try.pinned (OpenSpec.upto sizeLengthsSpec)

/-- 'mortiselaw10.SizeBetween', WHERE WHAT IT READS IS OF BULK AT MOST 1048576: true; the input reads as it did. -/
def sizeBetweenUptoRow : OpenClaim := { program := "ytfgacgpicfknpaa", sum := "26427c0d6f148738a92d8c5d3fab558a30cd7b61dcb4391a1562b0c6475378b5", func := "mortise/mortiselaw10.SizeBetween", spec := "sizeBetween", unfollowed := true, recurses := true, apart := false, narrowed := true }
def SizeBetweenUptoSaid : Prop := sizeBetweenUptoRow.holds Try.pinned (OpenSpec.upto sizeBetweenSpec)

/-- 'mortiselaw10.SizeBounds', WHERE WHAT IT READS IS OF BULK AT MOST 1048576: true; the input reads as it did. -/
def sizeBoundsUptoRow : OpenClaim := { program := "ytfgacgpicfknpaa", sum := "26427c0d6f148738a92d8c5d3fab558a30cd7b61dcb4391a1562b0c6475378b5", func := "mortise/mortiselaw10.SizeBounds", spec := "sizeBounds", unfollowed := true, recurses := true, apart := false, narrowed := true }
def SizeBoundsUptoSaid : Prop := sizeBoundsUptoRow.holds Try.pinned (OpenSpec.upto sizeBoundsSpec)

/-- 'mortiselaw10.SizeDoubles', WHERE WHAT IT READS IS OF BULK AT MOST 1048576: true; the input reads as it did. -/
def sizeDoublesUptoRow : OpenClaim := { program := "ytfgacgpicfknpaa", sum := "26427c0d6f148738a92d8c5d3fab558a30cd7b61dcb4391a1562b0c6475378b5", func := "mortise/mortiselaw10.SizeDoubles", spec := "sizeDoubles", unfollowed := true, recurses := true, apart := false, narrowed := true }
def SizeDoublesUptoSaid : Prop := sizeDoublesUptoRow.holds Try.pinned (OpenSpec.upto sizeDoublesSpec)

end Rows
end Go.Proofs.Ytfgacgpicfknpaa
