/-
  DERIVED. GIVEN WITH THE SEED: THE CARDS: each row of YtfgacgpicfknpaaDoorRows.lean that lists a variable, with what it lists TIED to the program's text (the seventh form; the later family's looks); each row that meets fmt, with fmt's text TOLD by the authors' own Lean function (tested against real Go, not proved from fmt's source: count such statements apart). THE CARD IS WHAT COUNTS. Prove the row's statement (the work); the ties are given (YtfgacgpicfknpaaDoorTie.lean); close each card by the builder's one call (the guide's Derived/Test/ToyasCard.lean, 'card_holds'). Laid BY PROGRAM, IN A SANDBOX (cutbox-door.mjs). By AI agents, Wed Nov 11 2026. No macro, syntax, notation, axiom, sorry.
-/
import Derived.Test.YtfgacgpicfknpaaDoorRows
import GoSem.ClaimSeven
namespace Go.Proofs.YtfgacgpicfknpaaDoor
namespace Rows

/-- THE TIED CARD OF 'mortiselaw11.TypingExact'. -/
def typingExactCard : Claim7 := { stood := { row := typingExactRow, standIns := [], harness := (true, "297aa9903fd1b0af17d2b5e85c06dbe958f57ad8173bfa3bee0c60395e1cb5ab"), looks := false }, kinds := [], alts := [], laidByText := true, laidKinds := [.data], laidTests := true, laidLooks := .later }
def TypingExactCardSaid : Prop := Claim7.holds Tryd.pinned (.plain (OpenSpec.ofChange typingExactSpec)) typingExactCard

/-- THE TIED CARD OF 'mortiselaw11.TypingSome'. -/
def typingSomeCard : Claim7 := { stood := { row := typingSomeRow, standIns := [], harness := (true, "297aa9903fd1b0af17d2b5e85c06dbe958f57ad8173bfa3bee0c60395e1cb5ab"), looks := false }, kinds := [], alts := [], laidByText := true, laidKinds := [.data], laidTests := true, laidLooks := .later }
def TypingSomeCardSaid : Prop := Claim7.holds Tryd.pinned (.plain (OpenSpec.ofChange typingSomeSpec)) typingSomeCard

/-- THE TIED CARD OF 'mortiselaw11.TypingMakes'. -/
def typingMakesCard : Claim7 := { stood := { row := typingMakesRow, standIns := [], harness := (true, "297aa9903fd1b0af17d2b5e85c06dbe958f57ad8173bfa3bee0c60395e1cb5ab"), looks := false }, kinds := [], alts := [], laidByText := true, laidKinds := [.data], laidTests := true, laidLooks := .later }
def TypingMakesCardSaid : Prop := Claim7.holds Tryd.pinned (.plain (OpenSpec.ofChange typingMakesSpec)) typingMakesCard

/-- THE TIED CARD OF 'mortiselaw11.TypingKids'. -/
def typingKidsCard : Claim7 := { stood := { row := typingKidsRow, standIns := [], harness := (true, "297aa9903fd1b0af17d2b5e85c06dbe958f57ad8173bfa3bee0c60395e1cb5ab"), looks := false }, kinds := [], alts := [], laidByText := true, laidKinds := [.data], laidTests := true, laidLooks := .later }
def TypingKidsCardSaid : Prop := Claim7.holds Tryd.pinned (.plain (OpenSpec.ofChange typingKidsSpec)) typingKidsCard

/-- THE TIED CARD OF 'mortiselaw11.TypingFirst'. -/
def typingFirstCard : Claim7 := { stood := { row := typingFirstRow, standIns := [], harness := (true, "297aa9903fd1b0af17d2b5e85c06dbe958f57ad8173bfa3bee0c60395e1cb5ab"), looks := false }, kinds := [], alts := [], laidByText := true, laidKinds := [.data], laidTests := true, laidLooks := .later }
def TypingFirstCardSaid : Prop := Claim7.holds Tryd.pinned (.plain (OpenSpec.ofChange typingFirstSpec)) typingFirstCard

/-- THE SECOND FORM's CARD OF 'mortiselaw11.TypingExact'. -/
def typingExactUptoCard : Claim7 := { stood := { row := typingExactUptoRow, standIns := [], harness := (true, "297aa9903fd1b0af17d2b5e85c06dbe958f57ad8173bfa3bee0c60395e1cb5ab"), looks := false }, kinds := [], alts := [], laidByText := true, laidKinds := [.data], laidTests := true, laidLooks := .later }
def TypingExactUptoCardSaid : Prop := Claim7.holds Tryd.pinned (.plain (OpenSpec.upto typingExactSpec)) typingExactUptoCard

/-- THE SECOND FORM's CARD OF 'mortiselaw11.TypingSome'. -/
def typingSomeUptoCard : Claim7 := { stood := { row := typingSomeUptoRow, standIns := [], harness := (true, "297aa9903fd1b0af17d2b5e85c06dbe958f57ad8173bfa3bee0c60395e1cb5ab"), looks := false }, kinds := [], alts := [], laidByText := true, laidKinds := [.data], laidTests := true, laidLooks := .later }
def TypingSomeUptoCardSaid : Prop := Claim7.holds Tryd.pinned (.plain (OpenSpec.upto typingSomeSpec)) typingSomeUptoCard

/-- THE SECOND FORM's CARD OF 'mortiselaw11.TypingMakes'. -/
def typingMakesUptoCard : Claim7 := { stood := { row := typingMakesUptoRow, standIns := [], harness := (true, "297aa9903fd1b0af17d2b5e85c06dbe958f57ad8173bfa3bee0c60395e1cb5ab"), looks := false }, kinds := [], alts := [], laidByText := true, laidKinds := [.data], laidTests := true, laidLooks := .later }
def TypingMakesUptoCardSaid : Prop := Claim7.holds Tryd.pinned (.plain (OpenSpec.upto typingMakesSpec)) typingMakesUptoCard

/-- THE SECOND FORM's CARD OF 'mortiselaw11.TypingKids'. -/
def typingKidsUptoCard : Claim7 := { stood := { row := typingKidsUptoRow, standIns := [], harness := (true, "297aa9903fd1b0af17d2b5e85c06dbe958f57ad8173bfa3bee0c60395e1cb5ab"), looks := false }, kinds := [], alts := [], laidByText := true, laidKinds := [.data], laidTests := true, laidLooks := .later }
def TypingKidsUptoCardSaid : Prop := Claim7.holds Tryd.pinned (.plain (OpenSpec.upto typingKidsSpec)) typingKidsUptoCard

/-- THE SECOND FORM's CARD OF 'mortiselaw11.TypingFirst'. -/
def typingFirstUptoCard : Claim7 := { stood := { row := typingFirstUptoRow, standIns := [], harness := (true, "297aa9903fd1b0af17d2b5e85c06dbe958f57ad8173bfa3bee0c60395e1cb5ab"), looks := false }, kinds := [], alts := [], laidByText := true, laidKinds := [.data], laidTests := true, laidLooks := .later }
def TypingFirstUptoCardSaid : Prop := Claim7.holds Tryd.pinned (.plain (OpenSpec.upto typingFirstSpec)) typingFirstUptoCard
end Rows
end Go.Proofs.YtfgacgpicfknpaaDoor
