/-
  No cell of these rows narrows 'for every input' (looked for: loops, veiled, ifaces, maps, wideKeys, modest, calm, conditions, laid).
  DERIVED. THE GIVEN ROWS OF THIS SEAT. 3 by the template 'for every input the law returns true; each argument reads behind the call as it read before'; 0 by the template 'total and deterministic' (their statements: YtljfgohecmhchaaTotals.lean).
  GIVEN WITH THE SEED: the statements are not yours to turn. If you find one false, say at which input.
  Laid BY PROGRAM, IN A SANDBOX (cutbox-rows.mjs): the forced cells as the released guide's own fill.sh prints them over the translation 7a6c9703e3f5c4f5… (all of the seat's roots in one cut). By AI agents, Wed Nov 11 2026. No macro, syntax, notation, axiom, sorry.
-/
import Derived.Test.YtljfgohecmhchaaChecked
import GoSem.Claim
import GoSem.ClaimJoined
import GoSem.ClaimMapViews
import Derived.JoinedTies
import Derived.KernelRfl
namespace Go.Proofs.Ytljfgohecmhchaa
/- THE CELL 'sum', in the pinned program and in every row, IS THE sha256 OF THE DUMP (.gsa) THAT YtljfgohecmhchaaProg.lean LOADS. Nothing in Lean hashes anything: it is a label: what it is worth is what the hold of that sum in a sandbox is worth. -/
noncomputable def Try.pinned : Pinned := { name := "ytljfgohecmhchaa", sum := "7a6c9703e3f5c4f5f82ea70701417952b9a3154cf3ed2165914638dc40fd985d", checked := Try.checked }
namespace Rows
def none {H : Type} : Left H := { results := [], args := [] }

/-- 'mortiselaw16.LowerFront': WHATEVER THE INPUT: true; the input reads as it did. -/
def lowerFrontSpec : ChangeSpec := { name := "lowerFront", fn := fun _ => fun
  | [d1, d2] => { results := [.lit (.bool true)], args := [d1, d2] }
  | _ => none }
def lowerFrontRow : OpenClaim := { program := "ytljfgohecmhchaa", sum := "7a6c9703e3f5c4f5f82ea70701417952b9a3154cf3ed2165914638dc40fd985d", func := "mortise/mortiselaw16.LowerFront", spec := "lowerFront", unfollowed := true, recurses := true, apart := false }
def LowerFrontSaid : Prop := lowerFrontRow.holds Try.pinned (OpenSpec.ofChange lowerFrontSpec)

/-- ITS FALSE NEIGHBOUR: 'it returns false'. Refute it at one input. -/
def lowerFrontWrong : ChangeSpec := { name := "lowerFront", fn := fun _ => fun
  | [d1, d2] => { results := [.lit (.bool false)], args := [d1, d2] }
  | _ => none }
def LowerFrontWrongFalsely : Prop := lowerFrontRow.holds Try.pinned (OpenSpec.ofChange lowerFrontWrong)

/-- 'mortiselaw16.LowerApart': WHATEVER THE INPUT: true; the input reads as it did. -/
def lowerApartSpec : ChangeSpec := { name := "lowerApart", fn := fun _ => fun
  | [d] => { results := [.lit (.bool true)], args := [d] }
  | _ => none }
def lowerApartRow : OpenClaim := { program := "ytljfgohecmhchaa", sum := "7a6c9703e3f5c4f5f82ea70701417952b9a3154cf3ed2165914638dc40fd985d", func := "mortise/mortiselaw16.LowerApart", spec := "lowerApart", unfollowed := true, recurses := true, apart := false }
def LowerApartSaid : Prop := lowerApartRow.holds Try.pinned (OpenSpec.ofChange lowerApartSpec)

/-- ITS FALSE NEIGHBOUR: 'it returns false'. Refute it at one input. -/
def lowerApartWrong : ChangeSpec := { name := "lowerApart", fn := fun _ => fun
  | [d] => { results := [.lit (.bool false)], args := [d] }
  | _ => none }
def LowerApartWrongFalsely : Prop := lowerApartRow.holds Try.pinned (OpenSpec.ofChange lowerApartWrong)

/-- 'mortiselaw13.LayoutExact': WHATEVER THE INPUT: true; the input reads as it did. -/
def layoutExactSpec : ChangeSpec := { name := "layoutExact", fn := fun _ => fun
  | [d] => { results := [.lit (.bool true)], args := [d] }
  | _ => none }
def layoutExactRow : OpenClaim := { program := "ytljfgohecmhchaa", sum := "7a6c9703e3f5c4f5f82ea70701417952b9a3154cf3ed2165914638dc40fd985d", func := "mortise/mortiselaw13.LayoutExact", spec := "layoutExact", unfollowed := true, recurses := true, apart := false }
def LayoutExactSaid : Prop := layoutExactRow.holds Try.pinned (OpenSpec.ofChange layoutExactSpec)

/-- ITS FALSE NEIGHBOUR: 'it returns false'. Refute it at one input. -/
def layoutExactWrong : ChangeSpec := { name := "layoutExact", fn := fun _ => fun
  | [d] => { results := [.lit (.bool false)], args := [d] }
  | _ => none }
def LayoutExactWrongFalsely : Prop := layoutExactRow.holds Try.pinned (OpenSpec.ofChange layoutExactWrong)

/- THE SECOND FORM. 'bulk': how many values and letters a reading holds, each counted each time it is reached (what is shared counts as often as it is met; a slice's spare places count too). A statement '..UptoSaid' is the law's where the arguments, and the package variables that the reading takes, are together of bulk at most 1048576: NARROWER than '..Said'. Prove '..Said' where nothing that the law and all that it calls make is longer than what came in: it says more and counts as full. Else prove '..UptoSaid'. A law counts once. -/
mutual
def uptoBulk {H : Type} : DataW H → Nat
  | .lit (.string bytes) => bytes.length + 1
  | .lit _ => 1
  | .nil => 1
  | .ptr d => uptoBulk d + 1
  | .slice elems spare => uptoBulkAll elems + uptoBulkAll spare + 1
  | .agg parts => uptoBulkAll parts + 1
  | .iface _ d => uptoBulk d + 1
  | .map entries => uptoBulkEntries entries + 1
  | .held _ => 1
def uptoBulkAll {H : Type} : List (DataW H) → Nat
  | [] => 0
  | d :: r => uptoBulk d + uptoBulkAll r
def uptoBulkEntries {H : Type} : List (Lit × DataW H) → Nat
  | [] => 0
  | x :: r => uptoBulkEntry x + uptoBulkEntries r
def uptoBulkEntry {H : Type} : Lit × DataW H → Nat
  | (.string bytes, d) => bytes.length + uptoBulk d + 1
  | (_, d) => uptoBulk d + 1
 end
def uptoSmall : (H : Type) → List (DataW H) → Bool := fun _ ds => decide (uptoBulkAll ds ≤ 1048576)
def OpenSpec.upto (s : _root_.Go.ChangeSpec) : _root_.Go.OpenSpec := { _root_.Go.OpenSpec.ofChange s with cond := some uptoSmall }

/-- 'mortiselaw16.LowerFront', WHERE WHAT IT READS IS OF BULK AT MOST 1048576: true; the input reads as it did. -/
def lowerFrontUptoRow : OpenClaim := { program := "ytljfgohecmhchaa", sum := "7a6c9703e3f5c4f5f82ea70701417952b9a3154cf3ed2165914638dc40fd985d", func := "mortise/mortiselaw16.LowerFront", spec := "lowerFront", unfollowed := true, recurses := true, apart := false, narrowed := true }
def LowerFrontUptoSaid : Prop := lowerFrontUptoRow.holds Try.pinned (OpenSpec.upto lowerFrontSpec)

/-- 'mortiselaw16.LowerApart', WHERE WHAT IT READS IS OF BULK AT MOST 1048576: true; the input reads as it did. -/
def lowerApartUptoRow : OpenClaim := { program := "ytljfgohecmhchaa", sum := "7a6c9703e3f5c4f5f82ea70701417952b9a3154cf3ed2165914638dc40fd985d", func := "mortise/mortiselaw16.LowerApart", spec := "lowerApart", unfollowed := true, recurses := true, apart := false, narrowed := true }
def LowerApartUptoSaid : Prop := lowerApartUptoRow.holds Try.pinned (OpenSpec.upto lowerApartSpec)

/-- 'mortiselaw13.LayoutExact', WHERE WHAT IT READS IS OF BULK AT MOST 1048576: true; the input reads as it did. -/
def layoutExactUptoRow : OpenClaim := { program := "ytljfgohecmhchaa", sum := "7a6c9703e3f5c4f5f82ea70701417952b9a3154cf3ed2165914638dc40fd985d", func := "mortise/mortiselaw13.LayoutExact", spec := "layoutExact", unfollowed := true, recurses := true, apart := false, narrowed := true }
def LayoutExactUptoSaid : Prop := layoutExactUptoRow.holds Try.pinned (OpenSpec.upto layoutExactSpec)

end Rows
end Go.Proofs.Ytljfgohecmhchaa
