/-
  No cell of these rows narrows 'for every input' (looked for: loops, veiled, ifaces, maps, wideKeys, modest, calm, conditions, laid).
  DERIVED. THE GIVEN ROWS OF THIS SEAT. 5 by the template 'for every input the law returns true; each argument reads behind the call as it read before'; 0 by the template 'total and deterministic' (their statements: YtjeplogcfedmeaaTotals.lean).
  GIVEN WITH THE SEED: the statements are not yours to turn. If you find one false, say at which input.
  Laid BY PROGRAM, IN A SANDBOX (cutbox-rows.mjs): the forced cells as the released guide's own fill.sh prints them over the translation 5f3d8ec03c0f2061… (all of the seat's roots in one cut). By AI agents, Wed Nov 11 2026. No macro, syntax, notation, axiom, sorry.
-/
import Derived.Test.YtjeplogcfedmeaaChecked
import GoSem.Claim
import GoSem.ClaimJoined
import GoSem.ClaimMapViews
import Derived.JoinedTies
import Derived.KernelRfl
namespace Go.Proofs.Ytjeplogcfedmeaa
/- THE CELL 'sum', in the pinned program and in every row, IS THE sha256 OF THE DUMP (.gsa) THAT YtjeplogcfedmeaaProg.lean LOADS. Nothing in Lean hashes anything: it is a label: what it is worth is what the hold of that sum in a sandbox is worth. -/
noncomputable def Try.pinned : Pinned := { name := "ytjeplogcfedmeaa", sum := "5f3d8ec03c0f20611e701f64a6793a7b00d1d1dff35467747a673ded86242552", checked := Try.checked }
namespace Rows
def none {H : Type} : Left H := { results := [], args := [] }

/-- 'mortiselaw15.SoundJumps': WHATEVER THE INPUT: true; the input reads as it did. -/
def soundJumpsSpec : ChangeSpec := { name := "soundJumps", fn := fun _ => fun
  | [d1, d2] => { results := [.lit (.bool true)], args := [d1, d2] }
  | _ => none }
def soundJumpsRow : OpenClaim := { program := "ytjeplogcfedmeaa", sum := "5f3d8ec03c0f20611e701f64a6793a7b00d1d1dff35467747a673ded86242552", func := "mortise/mortiselaw15.SoundJumps", spec := "soundJumps", inPlace := ["maps.clone"], unfollowed := true, recurses := true, apart := false }
def SoundJumpsSaid : Prop := soundJumpsRow.holds Try.pinned (OpenSpec.ofChange soundJumpsSpec)

/-- ITS FALSE NEIGHBOUR: 'it returns false'. Refute it at one input. -/
def soundJumpsWrong : ChangeSpec := { name := "soundJumps", fn := fun _ => fun
  | [d1, d2] => { results := [.lit (.bool false)], args := [d1, d2] }
  | _ => none }
def SoundJumpsWrongFalsely : Prop := soundJumpsRow.holds Try.pinned (OpenSpec.ofChange soundJumpsWrong)

/-- 'mortiselaw15.SoundDead': WHATEVER THE INPUT: true; the input reads as it did. -/
def soundDeadSpec : ChangeSpec := { name := "soundDead", fn := fun _ => fun
  | [d1, d2] => { results := [.lit (.bool true)], args := [d1, d2] }
  | _ => none }
def soundDeadRow : OpenClaim := { program := "ytjeplogcfedmeaa", sum := "5f3d8ec03c0f20611e701f64a6793a7b00d1d1dff35467747a673ded86242552", func := "mortise/mortiselaw15.SoundDead", spec := "soundDead", inPlace := ["maps.clone"], unfollowed := true, recurses := true, apart := false }
def SoundDeadSaid : Prop := soundDeadRow.holds Try.pinned (OpenSpec.ofChange soundDeadSpec)

/-- ITS FALSE NEIGHBOUR: 'it returns false'. Refute it at one input. -/
def soundDeadWrong : ChangeSpec := { name := "soundDead", fn := fun _ => fun
  | [d1, d2] => { results := [.lit (.bool false)], args := [d1, d2] }
  | _ => none }
def SoundDeadWrongFalsely : Prop := soundDeadRow.holds Try.pinned (OpenSpec.ofChange soundDeadWrong)

/-- 'mortiselaw15.SoundFewer': WHATEVER THE INPUT: true; the input reads as it did. -/
def soundFewerSpec : ChangeSpec := { name := "soundFewer", fn := fun _ => fun
  | [d1, d2] => { results := [.lit (.bool true)], args := [d1, d2] }
  | _ => none }
def soundFewerRow : OpenClaim := { program := "ytjeplogcfedmeaa", sum := "5f3d8ec03c0f20611e701f64a6793a7b00d1d1dff35467747a673ded86242552", func := "mortise/mortiselaw15.SoundFewer", spec := "soundFewer", inPlace := ["maps.clone"], unfollowed := true, recurses := true, apart := false }
def SoundFewerSaid : Prop := soundFewerRow.holds Try.pinned (OpenSpec.ofChange soundFewerSpec)

/-- ITS FALSE NEIGHBOUR: 'it returns false'. Refute it at one input. -/
def soundFewerWrong : ChangeSpec := { name := "soundFewer", fn := fun _ => fun
  | [d1, d2] => { results := [.lit (.bool false)], args := [d1, d2] }
  | _ => none }
def SoundFewerWrongFalsely : Prop := soundFewerRow.holds Try.pinned (OpenSpec.ofChange soundFewerWrong)

/-- 'mortiselaw15.SoundEnds': WHATEVER THE INPUT: true; the input reads as it did. -/
def soundEndsSpec : ChangeSpec := { name := "soundEnds", fn := fun _ => fun
  | [d] => { results := [.lit (.bool true)], args := [d] }
  | _ => none }
def soundEndsRow : OpenClaim := { program := "ytjeplogcfedmeaa", sum := "5f3d8ec03c0f20611e701f64a6793a7b00d1d1dff35467747a673ded86242552", func := "mortise/mortiselaw15.SoundEnds", spec := "soundEnds", inPlace := ["maps.clone"], unfollowed := true, recurses := true, apart := false }
def SoundEndsSaid : Prop := soundEndsRow.holds Try.pinned (OpenSpec.ofChange soundEndsSpec)

/-- ITS FALSE NEIGHBOUR: 'it returns false'. Refute it at one input. -/
def soundEndsWrong : ChangeSpec := { name := "soundEnds", fn := fun _ => fun
  | [d] => { results := [.lit (.bool false)], args := [d] }
  | _ => none }
def SoundEndsWrongFalsely : Prop := soundEndsRow.holds Try.pinned (OpenSpec.ofChange soundEndsWrong)

/-- 'mortiselaw15.SoundOwn': WHATEVER THE INPUT: true; the input reads as it did. -/
def soundOwnSpec : ChangeSpec := { name := "soundOwn", fn := fun _ => fun
  | [d1, d2] => { results := [.lit (.bool true)], args := [d1, d2] }
  | _ => none }
def soundOwnRow : OpenClaim := { program := "ytjeplogcfedmeaa", sum := "5f3d8ec03c0f20611e701f64a6793a7b00d1d1dff35467747a673ded86242552", func := "mortise/mortiselaw15.SoundOwn", spec := "soundOwn", inPlace := ["maps.clone"], unfollowed := true, recurses := true, apart := false }
def SoundOwnSaid : Prop := soundOwnRow.holds Try.pinned (OpenSpec.ofChange soundOwnSpec)

/-- ITS FALSE NEIGHBOUR: 'it returns false'. Refute it at one input. -/
def soundOwnWrong : ChangeSpec := { name := "soundOwn", fn := fun _ => fun
  | [d1, d2] => { results := [.lit (.bool false)], args := [d1, d2] }
  | _ => none }
def SoundOwnWrongFalsely : Prop := soundOwnRow.holds Try.pinned (OpenSpec.ofChange soundOwnWrong)

/- THE SECOND FORM. 'bulk': how many values and letters a reading holds, each counted each time it is reached (what is shared counts as often as it is met; a slice's spare places count too). A statement '..UptoSaid' is the law's where the arguments, and the package variables that the reading takes, are together of bulk at most 1048576: NARROWER than '..Said'. Prove '..Said' where nothing that the law and all that it calls make is longer than what came in: it says more and counts as full. Else prove '..UptoSaid'. A law counts once. -/
mutual
def uptoBulk {H : Type} : DataW H → Nat
  | .lit (.string bytes) => bytes.length + 1
  | .lit _ => 1
  | .nil => 1
  | .ptr d => uptoBulk d + 1
  | .slice elems spare => uptoBulkAll elems + uptoBulkAll spare + 1
  | .agg parts => uptoBulkAll parts + 1
  | .iface _ d => uptoBulk d + 1
  | .map entries => uptoBulkEntries entries + 1
  | .held _ => 1
def uptoBulkAll {H : Type} : List (DataW H) → Nat
  | [] => 0
  | d :: r => uptoBulk d + uptoBulkAll r
def uptoBulkEntries {H : Type} : List (Lit × DataW H) → Nat
  | [] => 0
  | x :: r => uptoBulkEntry x + uptoBulkEntries r
def uptoBulkEntry {H : Type} : Lit × DataW H → Nat
  | (.string bytes, d) => bytes.length + uptoBulk d + 1
  | (_, d) => uptoBulk d + 1
 end
def uptoSmall : (H : Type) → List (DataW H) → Bool := fun _ ds => decide (uptoBulkAll ds ≤ 1048576)
def OpenSpec.upto (s : _root_.Go.ChangeSpec) : _root_.Go.OpenSpec := { _root_.Go.OpenSpec.ofChange s with cond := some uptoSmall }

/-- 'mortiselaw15.SoundJumps', WHERE WHAT IT READS IS OF BULK AT MOST 1048576: true; the input reads as it did. -/
def soundJumpsUptoRow : OpenClaim := { program := "ytjeplogcfedmeaa", sum := "5f3d8ec03c0f20611e701f64a6793a7b00d1d1dff35467747a673ded86242552", func := "mortise/mortiselaw15.SoundJumps", spec := "soundJumps", inPlace := ["maps.clone"], unfollowed := true, recurses := true, apart := false, narrowed := true }
def SoundJumpsUptoSaid : Prop := soundJumpsUptoRow.holds Try.pinned (OpenSpec.upto soundJumpsSpec)

/-- 'mortiselaw15.SoundDead', WHERE WHAT IT READS IS OF BULK AT MOST 1048576: true; the input reads as it did. -/
def soundDeadUptoRow : OpenClaim := { program := "ytjeplogcfedmeaa", sum := "5f3d8ec03c0f20611e701f64a6793a7b00d1d1dff35467747a673ded86242552", func := "mortise/mortiselaw15.SoundDead", spec := "soundDead", inPlace := ["maps.clone"], unfollowed := true, recurses := true, apart := false, narrowed := true }
def SoundDeadUptoSaid : Prop := soundDeadUptoRow.holds Try.pinned (OpenSpec.upto soundDeadSpec)

/-- 'mortiselaw15.SoundFewer', WHERE WHAT IT READS IS OF BULK AT MOST 1048576: true; the input reads as it did. -/
def soundFewerUptoRow : OpenClaim := { program := "ytjeplogcfedmeaa", sum := "5f3d8ec03c0f20611e701f64a6793a7b00d1d1dff35467747a673ded86242552", func := "mortise/mortiselaw15.SoundFewer", spec := "soundFewer", inPlace := ["maps.clone"], unfollowed := true, recurses := true, apart := false, narrowed := true }
def SoundFewerUptoSaid : Prop := soundFewerUptoRow.holds Try.pinned (OpenSpec.upto soundFewerSpec)

/-- 'mortiselaw15.SoundEnds', WHERE WHAT IT READS IS OF BULK AT MOST 1048576: true; the input reads as it did. -/
def soundEndsUptoRow : OpenClaim := { program := "ytjeplogcfedmeaa", sum := "5f3d8ec03c0f20611e701f64a6793a7b00d1d1dff35467747a673ded86242552", func := "mortise/mortiselaw15.SoundEnds", spec := "soundEnds", inPlace := ["maps.clone"], unfollowed := true, recurses := true, apart := false, narrowed := true }
def SoundEndsUptoSaid : Prop := soundEndsUptoRow.holds Try.pinned (OpenSpec.upto soundEndsSpec)

/-- 'mortiselaw15.SoundOwn', WHERE WHAT IT READS IS OF BULK AT MOST 1048576: true; the input reads as it did. -/
def soundOwnUptoRow : OpenClaim := { program := "ytjeplogcfedmeaa", sum := "5f3d8ec03c0f20611e701f64a6793a7b00d1d1dff35467747a673ded86242552", func := "mortise/mortiselaw15.SoundOwn", spec := "soundOwn", inPlace := ["maps.clone"], unfollowed := true, recurses := true, apart := false, narrowed := true }
def SoundOwnUptoSaid : Prop := soundOwnUptoRow.holds Try.pinned (OpenSpec.upto soundOwnSpec)

end Rows
end Go.Proofs.Ytjeplogcfedmeaa
