/-
  NARROWER THAN 'FOR EVERY INPUT', by the rows' own cells (each row's printed sentence says how): TypingExact: laid · TypingSome: laid · TypingMakes: laid · TypingKids: laid · TypingFirst: laid.
  DERIVED. THE GIVEN ROWS OF THIS SEAT. 5 by the template 'for every input the law returns true; each argument reads behind the call as it read before'; 0 by the template 'total and deterministic' (their statements: YtfgacgpicfknpaaDoorTotals.lean).
  GIVEN WITH THE SEED: the statements are not yours to turn. If you find one false, say at which input.
  Laid BY PROGRAM, IN A SANDBOX (cutbox-rows.mjs): the forced cells as the released guide's own fill.sh prints them over the translation 9bcfea3754a6758e… (all of the seat's roots in one cut). By AI agents, Wed Nov 11 2026. No macro, syntax, notation, axiom, sorry.
-/
import Derived.Test.YtfgacgpicfknpaaDoorChecked
import GoSem.Claim
import GoSem.ClaimJoined
import GoSem.ClaimMapViews
import Derived.JoinedTies
import Derived.KernelRfl
namespace Go.Proofs.YtfgacgpicfknpaaDoor
/- THE CELL 'sum', in the pinned program and in every row, IS THE sha256 OF THE DUMP (.gsa) THAT YtfgacgpicfknpaaDoorProg.lean LOADS. Nothing in Lean hashes anything: it is a label: what it is worth is what the hold of that sum in a sandbox is worth. -/
noncomputable def Tryd.pinned : Pinned := { name := "ytfgacgpicfknpaadoor", sum := "9bcfea3754a6758ed040114b665be6a815f7e8284e017b1ecd1851793421f20c", checked := Tryd.checked }
namespace Rows
def none {H : Type} : Left H := { results := [], args := [] }

/- WHAT THE LISTED PACKAGE-LEVEL VARIABLES READ AS WHEN THE CALL BEGINS. Each datum BY PROGRAM (the guide's laid-datum.mjs) off the statement by which the dump's own 'gosem.cut.vars' lays the variable. In a bare row this is a premise. The card (YtfgacgpicfknpaaDoorCards.lean) ties it to the program's text. -/
def laid_mortise_typing_kinds {H : Type} : DataW H := .agg [.lit (.int .i64 0), .lit (.int .i64 1), .lit (.int .i64 2), .lit (.int .i64 1), .lit (.int .i64 3), .lit (.int .i64 3), .lit (.int .i64 5), .lit (.int .i64 6), .lit (.int .i64 4)]

/-- 'mortiselaw11.TypingExact': WHATEVER THE INPUT: true; the input reads as it did. -/
def typingExactSpec : ChangeSpec := { name := "typingExact", fn := fun _ => fun
  | [d1, d2, d3, d4] => { results := [.lit (.bool true)], args := [d1, d2, d3, d4] }
  | _ => none }
def typingExactRow : OpenClaim := { program := "ytfgacgpicfknpaadoor", sum := "9bcfea3754a6758ed040114b665be6a815f7e8284e017b1ecd1851793421f20c", func := "mortise/mortiselaw11.TypingExact", spec := "typingExact", unfollowed := true, recurses := true, named := ["mortise/typing.kinds"], apart := false, laid := [("mortise/typing.kinds", laid_mortise_typing_kinds)] }
def TypingExactSaid : Prop := typingExactRow.holds Tryd.pinned (OpenSpec.ofChange typingExactSpec)

/-- ITS FALSE NEIGHBOUR: 'it returns false'. Refute it at one input. -/
def typingExactWrong : ChangeSpec := { name := "typingExact", fn := fun _ => fun
  | [d1, d2, d3, d4] => { results := [.lit (.bool false)], args := [d1, d2, d3, d4] }
  | _ => none }
def TypingExactWrongFalsely : Prop := typingExactRow.holds Tryd.pinned (OpenSpec.ofChange typingExactWrong)

/-- 'mortiselaw11.TypingSome': WHATEVER THE INPUT: true; the input reads as it did. -/
def typingSomeSpec : ChangeSpec := { name := "typingSome", fn := fun _ => fun
  | [d1, d2, d3] => { results := [.lit (.bool true)], args := [d1, d2, d3] }
  | _ => none }
def typingSomeRow : OpenClaim := { program := "ytfgacgpicfknpaadoor", sum := "9bcfea3754a6758ed040114b665be6a815f7e8284e017b1ecd1851793421f20c", func := "mortise/mortiselaw11.TypingSome", spec := "typingSome", unfollowed := true, recurses := true, named := ["mortise/typing.kinds"], apart := false, laid := [("mortise/typing.kinds", laid_mortise_typing_kinds)] }
def TypingSomeSaid : Prop := typingSomeRow.holds Tryd.pinned (OpenSpec.ofChange typingSomeSpec)

/-- ITS FALSE NEIGHBOUR: 'it returns false'. Refute it at one input. -/
def typingSomeWrong : ChangeSpec := { name := "typingSome", fn := fun _ => fun
  | [d1, d2, d3] => { results := [.lit (.bool false)], args := [d1, d2, d3] }
  | _ => none }
def TypingSomeWrongFalsely : Prop := typingSomeRow.holds Tryd.pinned (OpenSpec.ofChange typingSomeWrong)

/-- 'mortiselaw11.TypingMakes': WHATEVER THE INPUT: true; the input reads as it did. -/
def typingMakesSpec : ChangeSpec := { name := "typingMakes", fn := fun _ => fun
  | [d1, d2, d3] => { results := [.lit (.bool true)], args := [d1, d2, d3] }
  | _ => none }
def typingMakesRow : OpenClaim := { program := "ytfgacgpicfknpaadoor", sum := "9bcfea3754a6758ed040114b665be6a815f7e8284e017b1ecd1851793421f20c", func := "mortise/mortiselaw11.TypingMakes", spec := "typingMakes", unfollowed := true, recurses := true, named := ["mortise/typing.kinds"], apart := false, laid := [("mortise/typing.kinds", laid_mortise_typing_kinds)] }
def TypingMakesSaid : Prop := typingMakesRow.holds Tryd.pinned (OpenSpec.ofChange typingMakesSpec)

/-- ITS FALSE NEIGHBOUR: 'it returns false'. Refute it at one input. -/
def typingMakesWrong : ChangeSpec := { name := "typingMakes", fn := fun _ => fun
  | [d1, d2, d3] => { results := [.lit (.bool false)], args := [d1, d2, d3] }
  | _ => none }
def TypingMakesWrongFalsely : Prop := typingMakesRow.holds Tryd.pinned (OpenSpec.ofChange typingMakesWrong)

/-- 'mortiselaw11.TypingKids': WHATEVER THE INPUT: true; the input reads as it did. -/
def typingKidsSpec : ChangeSpec := { name := "typingKids", fn := fun _ => fun
  | [d1, d2, d3, d4, d5] => { results := [.lit (.bool true)], args := [d1, d2, d3, d4, d5] }
  | _ => none }
def typingKidsRow : OpenClaim := { program := "ytfgacgpicfknpaadoor", sum := "9bcfea3754a6758ed040114b665be6a815f7e8284e017b1ecd1851793421f20c", func := "mortise/mortiselaw11.TypingKids", spec := "typingKids", unfollowed := true, recurses := true, named := ["mortise/typing.kinds"], apart := false, laid := [("mortise/typing.kinds", laid_mortise_typing_kinds)] }
def TypingKidsSaid : Prop := typingKidsRow.holds Tryd.pinned (OpenSpec.ofChange typingKidsSpec)

/-- ITS FALSE NEIGHBOUR: 'it returns false'. Refute it at one input. -/
def typingKidsWrong : ChangeSpec := { name := "typingKids", fn := fun _ => fun
  | [d1, d2, d3, d4, d5] => { results := [.lit (.bool false)], args := [d1, d2, d3, d4, d5] }
  | _ => none }
def TypingKidsWrongFalsely : Prop := typingKidsRow.holds Tryd.pinned (OpenSpec.ofChange typingKidsWrong)

/-- 'mortiselaw11.TypingFirst': WHATEVER THE INPUT: true; the input reads as it did. -/
def typingFirstSpec : ChangeSpec := { name := "typingFirst", fn := fun _ => fun
  | [d1, d2, d3, d4, d5, d6] => { results := [.lit (.bool true)], args := [d1, d2, d3, d4, d5, d6] }
  | _ => none }
def typingFirstRow : OpenClaim := { program := "ytfgacgpicfknpaadoor", sum := "9bcfea3754a6758ed040114b665be6a815f7e8284e017b1ecd1851793421f20c", func := "mortise/mortiselaw11.TypingFirst", spec := "typingFirst", unfollowed := true, recurses := true, named := ["mortise/typing.kinds"], apart := false, laid := [("mortise/typing.kinds", laid_mortise_typing_kinds)] }
def TypingFirstSaid : Prop := typingFirstRow.holds Tryd.pinned (OpenSpec.ofChange typingFirstSpec)

/-- ITS FALSE NEIGHBOUR: 'it returns false'. Refute it at one input. -/
def typingFirstWrong : ChangeSpec := { name := "typingFirst", fn := fun _ => fun
  | [d1, d2, d3, d4, d5, d6] => { results := [.lit (.bool false)], args := [d1, d2, d3, d4, d5, d6] }
  | _ => none }
def TypingFirstWrongFalsely : Prop := typingFirstRow.holds Tryd.pinned (OpenSpec.ofChange typingFirstWrong)

/- THE SECOND FORM. 'bulk': how many values and letters a reading holds, each counted each time it is reached (what is shared counts as often as it is met; a slice's spare places count too). A statement '..UptoSaid' is the law's where the arguments, and the package variables that the reading takes, are together of bulk at most 1048576: NARROWER than '..Said'. Prove '..Said' where nothing that the law and all that it calls make is longer than what came in: it says more and counts as full. Else prove '..UptoSaid'. A law counts once. -/
mutual
def uptoBulk {H : Type} : DataW H → Nat
  | .lit (.string bytes) => bytes.length + 1
  | .lit _ => 1
  | .nil => 1
  | .ptr d => uptoBulk d + 1
  | .slice elems spare => uptoBulkAll elems + uptoBulkAll spare + 1
  | .agg parts => uptoBulkAll parts + 1
  | .iface _ d => uptoBulk d + 1
  | .map entries => uptoBulkEntries entries + 1
  | .held _ => 1
def uptoBulkAll {H : Type} : List (DataW H) → Nat
  | [] => 0
  | d :: r => uptoBulk d + uptoBulkAll r
def uptoBulkEntries {H : Type} : List (Lit × DataW H) → Nat
  | [] => 0
  | x :: r => uptoBulkEntry x + uptoBulkEntries r
def uptoBulkEntry {H : Type} : Lit × DataW H → Nat
  | (.string bytes, d) => bytes.length + uptoBulk d + 1
  | (_, d) => uptoBulk d + 1
 end
def uptoSmall : (H : Type) → List (DataW H) → Bool := fun _ ds => decide (uptoBulkAll ds ≤ 1048576)
def OpenSpec.upto (s : _root_.Go.ChangeSpec) : _root_.Go.OpenSpec := { _root_.Go.OpenSpec.ofChange s with cond := some uptoSmall }

/-- 'mortiselaw11.TypingExact', WHERE WHAT IT READS IS OF BULK AT MOST 1048576: true; the input reads as it did. -/
def typingExactUptoRow : OpenClaim := { program := "ytfgacgpicfknpaadoor", sum := "9bcfea3754a6758ed040114b665be6a815f7e8284e017b1ecd1851793421f20c", func := "mortise/mortiselaw11.TypingExact", spec := "typingExact", unfollowed := true, recurses := true, named := ["mortise/typing.kinds"], apart := false, laid := [("mortise/typing.kinds", laid_mortise_typing_kinds)], narrowed := true }
def TypingExactUptoSaid : Prop := typingExactUptoRow.holds Tryd.pinned (OpenSpec.upto typingExactSpec)

/-- 'mortiselaw11.TypingSome', WHERE WHAT IT READS IS OF BULK AT MOST 1048576: true; the input reads as it did. -/
def typingSomeUptoRow : OpenClaim := { program := "ytfgacgpicfknpaadoor", sum := "9bcfea3754a6758ed040114b665be6a815f7e8284e017b1ecd1851793421f20c", func := "mortise/mortiselaw11.TypingSome", spec := "typingSome", unfollowed := true, recurses := true, named := ["mortise/typing.kinds"], apart := false, laid := [("mortise/typing.kinds", laid_mortise_typing_kinds)], narrowed := true }
def TypingSomeUptoSaid : Prop := typingSomeUptoRow.holds Tryd.pinned (OpenSpec.upto typingSomeSpec)

/-- 'mortiselaw11.TypingMakes', WHERE WHAT IT READS IS OF BULK AT MOST 1048576: true; the input reads as it did. -/
def typingMakesUptoRow : OpenClaim := { program := "ytfgacgpicfknpaadoor", sum := "9bcfea3754a6758ed040114b665be6a815f7e8284e017b1ecd1851793421f20c", func := "mortise/mortiselaw11.TypingMakes", spec := "typingMakes", unfollowed := true, recurses := true, named := ["mortise/typing.kinds"], apart := false, laid := [("mortise/typing.kinds", laid_mortise_typing_kinds)], narrowed := true }
def TypingMakesUptoSaid : Prop := typingMakesUptoRow.holds Tryd.pinned (OpenSpec.upto typingMakesSpec)

/-- 'mortiselaw11.TypingKids', WHERE WHAT IT READS IS OF BULK AT MOST 1048576: true; the input reads as it did. -/
def typingKidsUptoRow : OpenClaim := { program := "ytfgacgpicfknpaadoor", sum := "9bcfea3754a6758ed040114b665be6a815f7e8284e017b1ecd1851793421f20c", func := "mortise/mortiselaw11.TypingKids", spec := "typingKids", unfollowed := true, recurses := true, named := ["mortise/typing.kinds"], apart := false, laid := [("mortise/typing.kinds", laid_mortise_typing_kinds)], narrowed := true }
def TypingKidsUptoSaid : Prop := typingKidsUptoRow.holds Tryd.pinned (OpenSpec.upto typingKidsSpec)

/-- 'mortiselaw11.TypingFirst', WHERE WHAT IT READS IS OF BULK AT MOST 1048576: true; the input reads as it did. -/
def typingFirstUptoRow : OpenClaim := { program := "ytfgacgpicfknpaadoor", sum := "9bcfea3754a6758ed040114b665be6a815f7e8284e017b1ecd1851793421f20c", func := "mortise/mortiselaw11.TypingFirst", spec := "typingFirst", unfollowed := true, recurses := true, named := ["mortise/typing.kinds"], apart := false, laid := [("mortise/typing.kinds", laid_mortise_typing_kinds)], narrowed := true }
def TypingFirstUptoSaid : Prop := typingFirstUptoRow.holds Tryd.pinned (OpenSpec.upto typingFirstSpec)

end Rows
end Go.Proofs.YtfgacgpicfknpaaDoor
