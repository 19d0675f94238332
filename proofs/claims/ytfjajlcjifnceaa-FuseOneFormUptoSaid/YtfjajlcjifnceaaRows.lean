/-
  No cell of these rows narrows 'for every input' (looked for: loops, veiled, ifaces, maps, wideKeys, modest, calm, conditions, laid).
  DERIVED. THE GIVEN ROWS OF THIS SEAT. 3 by the template 'for every input the law returns true; each argument reads behind the call as it read before'; 0 by the template 'total and deterministic' (their statements: YtfjajlcjifnceaaTotals.lean).
  GIVEN WITH THE SEED: the statements are not yours to turn. If you find one false, say at which input.
  Laid BY PROGRAM, IN A SANDBOX (cutbox-rows.mjs): the forced cells as the released guide's own fill.sh prints them over the translation 075acedf68d16540… (all of the seat's roots in one cut). By AI agents, Wed Nov 11 2026. No macro, syntax, notation, axiom, sorry.
-/
import Derived.Test.YtfjajlcjifnceaaChecked
import GoSem.Claim
import GoSem.ClaimJoined
import GoSem.ClaimMapViews
import Derived.JoinedTies
import Derived.KernelRfl
namespace Go.Proofs.Ytfjajlcjifnceaa
/- THE CELL 'sum', in the pinned program and in every row, IS THE sha256 OF THE DUMP (.gsa) THAT YtfjajlcjifnceaaProg.lean LOADS. Nothing in Lean hashes anything: it is a label: what it is worth is what the hold of that sum in a sandbox is worth. -/
noncomputable def Try.pinned : Pinned := { name := "ytfjajlcjifnceaa", sum := "075acedf68d165404b1237f4a1ff053e5672a1cac2af8f42881c1cc9418d6cd4", checked := Try.checked }
namespace Rows
def none {H : Type} : Left H := { results := [], args := [] }

/-- 'mortiselaw19.FuseSound': WHATEVER THE INPUT: true; the input reads as it did. -/
def fuseSoundSpec : ChangeSpec := { name := "fuseSound", fn := fun _ => fun
  | [d] => { results := [.lit (.bool true)], args := [d] }
  | _ => none }
def fuseSoundRow : OpenClaim := { program := "ytfjajlcjifnceaa", sum := "075acedf68d165404b1237f4a1ff053e5672a1cac2af8f42881c1cc9418d6cd4", func := "mortise/mortiselaw19.FuseSound", spec := "fuseSound", inPlace := ["maps.clone"], unfollowed := true, recurses := true, apart := false }
def FuseSoundSaid : Prop := fuseSoundRow.holds Try.pinned (OpenSpec.ofChange fuseSoundSpec)

/-- ITS FALSE NEIGHBOUR: 'it returns false'. Refute it at one input. -/
def fuseSoundWrong : ChangeSpec := { name := "fuseSound", fn := fun _ => fun
  | [d] => { results := [.lit (.bool false)], args := [d] }
  | _ => none }
def FuseSoundWrongFalsely : Prop := fuseSoundRow.holds Try.pinned (OpenSpec.ofChange fuseSoundWrong)

/-- 'mortiselaw19.FuseOneForm': WHATEVER THE INPUT: true; the input reads as it did. -/
def fuseOneFormSpec : ChangeSpec := { name := "fuseOneForm", fn := fun _ => fun
  | [d] => { results := [.lit (.bool true)], args := [d] }
  | _ => none }
def fuseOneFormRow : OpenClaim := { program := "ytfjajlcjifnceaa", sum := "075acedf68d165404b1237f4a1ff053e5672a1cac2af8f42881c1cc9418d6cd4", func := "mortise/mortiselaw19.FuseOneForm", spec := "fuseOneForm", inPlace := ["maps.clone"], unfollowed := true, recurses := true, apart := false }
def FuseOneFormSaid : Prop := fuseOneFormRow.holds Try.pinned (OpenSpec.ofChange fuseOneFormSpec)

/-- ITS FALSE NEIGHBOUR: 'it returns false'. Refute it at one input. -/
def fuseOneFormWrong : ChangeSpec := { name := "fuseOneForm", fn := fun _ => fun
  | [d] => { results := [.lit (.bool false)], args := [d] }
  | _ => none }
def FuseOneFormWrongFalsely : Prop := fuseOneFormRow.holds Try.pinned (OpenSpec.ofChange fuseOneFormWrong)

/-- 'mortiselaw19.FuseOwn': WHATEVER THE INPUT: true; the input reads as it did. -/
def fuseOwnSpec : ChangeSpec := { name := "fuseOwn", fn := fun _ => fun
  | [d1, d2] => { results := [.lit (.bool true)], args := [d1, d2] }
  | _ => none }
def fuseOwnRow : OpenClaim := { program := "ytfjajlcjifnceaa", sum := "075acedf68d165404b1237f4a1ff053e5672a1cac2af8f42881c1cc9418d6cd4", func := "mortise/mortiselaw19.FuseOwn", spec := "fuseOwn", inPlace := ["maps.clone"], unfollowed := true, recurses := true, apart := false }
def FuseOwnSaid : Prop := fuseOwnRow.holds Try.pinned (OpenSpec.ofChange fuseOwnSpec)

/-- ITS FALSE NEIGHBOUR: 'it returns false'. Refute it at one input. -/
def fuseOwnWrong : ChangeSpec := { name := "fuseOwn", fn := fun _ => fun
  | [d1, d2] => { results := [.lit (.bool false)], args := [d1, d2] }
  | _ => none }
def FuseOwnWrongFalsely : Prop := fuseOwnRow.holds Try.pinned (OpenSpec.ofChange fuseOwnWrong)

/- THE SECOND FORM. 'bulk': how many values and letters a reading holds, each counted each time it is reached (what is shared counts as often as it is met; a slice's spare places count too). A statement '..UptoSaid' is the law's where the arguments, and the package variables that the reading takes, are together of bulk at most 1048576: NARROWER than '..Said'. Prove '..Said' where nothing that the law and all that it calls make is longer than what came in: it says more and counts as full. Else prove '..UptoSaid'. A law counts once. -/
mutual
def uptoBulk {H : Type} : DataW H → Nat
  | .lit (.string bytes) => bytes.length + 1
  | .lit _ => 1
  | .nil => 1
  | .ptr d => uptoBulk d + 1
  | .slice elems spare => uptoBulkAll elems + uptoBulkAll spare + 1
  | .agg parts => uptoBulkAll parts + 1
  | .iface _ d => uptoBulk d + 1
  | .map entries => uptoBulkEntries entries + 1
  | .held _ => 1
def uptoBulkAll {H : Type} : List (DataW H) → Nat
  | [] => 0
  | d :: r => uptoBulk d + uptoBulkAll r
def uptoBulkEntries {H : Type} : List (Lit × DataW H) → Nat
  | [] => 0
  | x :: r => uptoBulkEntry x + uptoBulkEntries r
def uptoBulkEntry {H : Type} : Lit × DataW H → Nat
  | (.string bytes, d) => bytes.length + uptoBulk d + 1
  | (_, d) => uptoBulk d + 1
 end
def uptoSmall : (H : Type) → List (DataW H) → Bool := fun _ ds => decide (uptoBulkAll ds ≤ 1048576)
def OpenSpec.upto (s : _root_.Go.ChangeSpec) : _root_.Go.OpenSpec := { _root_.Go.OpenSpec.ofChange s with cond := some uptoSmall }

/-- 'mortiselaw19.FuseSound', WHERE WHAT IT READS IS OF BULK AT MOST 1048576: true; the input reads as it did. -/
def fuseSoundUptoRow : OpenClaim := { program := "ytfjajlcjifnceaa", sum := "075acedf68d165404b1237f4a1ff053e5672a1cac2af8f42881c1cc9418d6cd4", func := "mortise/mortiselaw19.FuseSound", spec := "fuseSound", inPlace := ["maps.clone"], unfollowed := true, recurses := true, apart := false, narrowed := true }
def FuseSoundUptoSaid : Prop := fuseSoundUptoRow.holds Try.pinned (OpenSpec.upto fuseSoundSpec)

/-- 'mortiselaw19.FuseOneForm', WHERE WHAT IT READS IS OF BULK AT MOST 1048576: true; the input reads as it did. -/
def fuseOneFormUptoRow : OpenClaim := { program := "ytfjajlcjifnceaa", sum := "075acedf68d165404b1237f4a1ff053e5672a1cac2af8f42881c1cc9418d6cd4", func := "mortise/mortiselaw19.FuseOneForm", spec := "fuseOneForm", inPlace := ["maps.clone"], unfollowed := true, recurses := true, apart := false, narrowed := true }
def FuseOneFormUptoSaid : Prop := fuseOneFormUptoRow.holds Try.pinned (OpenSpec.upto fuseOneFormSpec)

/-- 'mortiselaw19.FuseOwn', WHERE WHAT IT READS IS OF BULK AT MOST 1048576: true; the input reads as it did. -/
def fuseOwnUptoRow : OpenClaim := { program := "ytfjajlcjifnceaa", sum := "075acedf68d165404b1237f4a1ff053e5672a1cac2af8f42881c1cc9418d6cd4", func := "mortise/mortiselaw19.FuseOwn", spec := "fuseOwn", inPlace := ["maps.clone"], unfollowed := true, recurses := true, apart := false, narrowed := true }
def FuseOwnUptoSaid : Prop := fuseOwnUptoRow.holds Try.pinned (OpenSpec.upto fuseOwnSpec)

end Rows
end Go.Proofs.Ytfjajlcjifnceaa
