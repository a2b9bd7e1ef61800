/-
  DERIVED. GIVEN WITH THE SEED: THE CARDS: each row of YtclnccgiicgooaaGreatDoorRows.lean that lists a variable, with what it lists TIED to the program's text (the seventh form; the later family's looks); each row that meets fmt, with fmt's text TOLD by the authors' own Lean function (tested against real Go, not proved from fmt's source: count such statements apart). THE CARD IS WHAT COUNTS. Prove the row's statement (the work); the ties are given (YtclnccgiicgooaaGreatDoorTie.lean); close each card by the builder's one call (the guide's Derived/Test/ToyasCard.lean, 'card_holds'). Laid BY PROGRAM, IN A SANDBOX (cutbox-door.mjs). By AI agents, Wed Nov 11 2026. No macro, syntax, notation, axiom, sorry.
-/
import Derived.Test.YtclnccgiicgooaaGreatDoorRows
import GoSem.ClaimSeven
namespace Go.Proofs.YtclnccgiicgooaaGreatDoor
namespace Rows

/-- THE TIED CARD OF 'redactorlaw20.CycleNil'. -/
def cycleNilCard : Claim7 := { stood := { row := cycleNilRow, standIns := [], harness := (true, "4306db747d5f7c3de49512b907ab788bfb340c0d4cc6d6ee951ca255fa5b50b1"), looks := false }, kinds := [], alts := [], laidByText := true, laidKinds := [.data, .data, .data, .data, .pinned], laidTests := true, laidLooks := .later }
def CycleNilCardSaid : Prop := Claim7.holds Tryz.pinned (.plain (OpenSpec.ofChange cycleNilSpec)) cycleNilCard

/-- THE TIED CARD OF 'redactorlaw21.SedNothing'. -/
def sedNothingCard : Claim7 := { stood := { row := sedNothingRow, standIns := [], harness := (true, "4306db747d5f7c3de49512b907ab788bfb340c0d4cc6d6ee951ca255fa5b50b1"), looks := false }, kinds := [], alts := [], laidByText := true, laidKinds := [.data, .data, .data, .data, .pinned], laidTests := true, laidLooks := .later }
def SedNothingCardSaid : Prop := Claim7.holds Tryz.pinned (.plain (OpenSpec.ofChange sedNothingSpec)) sedNothingCard

/-- THE TIED CARD OF 'redactorlaw21.SedReverses'. -/
def sedReversesCard : Claim7 := { stood := { row := sedReversesRow, standIns := [], harness := (true, "4306db747d5f7c3de49512b907ab788bfb340c0d4cc6d6ee951ca255fa5b50b1"), looks := false }, kinds := [], alts := [], laidByText := true, laidKinds := [.data, .data, .data, .data, .pinned], laidTests := true, laidLooks := .later }
def SedReversesCardSaid : Prop := Claim7.holds Tryz.pinned (.plain (OpenSpec.ofChange sedReversesSpec)) sedReversesCard

/-- THE TIED CARD OF 'redactorlaw21.SedJoins'. -/
def sedJoinsCard : Claim7 := { stood := { row := sedJoinsRow, standIns := [], harness := (true, "4306db747d5f7c3de49512b907ab788bfb340c0d4cc6d6ee951ca255fa5b50b1"), looks := false }, kinds := [], alts := [], laidByText := true, laidKinds := [.data, .data, .data, .data, .pinned], laidTests := true, laidLooks := .later }
def SedJoinsCardSaid : Prop := Claim7.holds Tryz.pinned (.plain (OpenSpec.ofChange sedJoinsSpec)) sedJoinsCard

/-- THE TIED CARD OF 'redactorlaw21.SedNumbers'. -/
def sedNumbersCard : Claim7 := { stood := { row := sedNumbersRow, standIns := [], harness := (true, "4306db747d5f7c3de49512b907ab788bfb340c0d4cc6d6ee951ca255fa5b50b1"), looks := false }, kinds := [], alts := [], laidByText := true, laidKinds := [.data, .data, .data, .data, .pinned], laidTests := true, laidLooks := .later }
def SedNumbersCardSaid : Prop := Claim7.holds Tryz.pinned (.plain (OpenSpec.ofChange sedNumbersSpec)) sedNumbersCard

/-- THE SECOND FORM's CARD OF 'redactorlaw20.CycleNil'. -/
def cycleNilUptoCard : Claim7 := { stood := { row := cycleNilUptoRow, standIns := [], harness := (true, "4306db747d5f7c3de49512b907ab788bfb340c0d4cc6d6ee951ca255fa5b50b1"), looks := false }, kinds := [], alts := [], laidByText := true, laidKinds := [.data, .data, .data, .data, .pinned], laidTests := true, laidLooks := .later }
def CycleNilUptoCardSaid : Prop := Claim7.holds Tryz.pinned (.plain (OpenSpec.upto cycleNilSpec)) cycleNilUptoCard

/-- THE SECOND FORM's CARD OF 'redactorlaw21.SedNothing'. -/
def sedNothingUptoCard : Claim7 := { stood := { row := sedNothingUptoRow, standIns := [], harness := (true, "4306db747d5f7c3de49512b907ab788bfb340c0d4cc6d6ee951ca255fa5b50b1"), looks := false }, kinds := [], alts := [], laidByText := true, laidKinds := [.data, .data, .data, .data, .pinned], laidTests := true, laidLooks := .later }
def SedNothingUptoCardSaid : Prop := Claim7.holds Tryz.pinned (.plain (OpenSpec.upto sedNothingSpec)) sedNothingUptoCard

/-- THE SECOND FORM's CARD OF 'redactorlaw21.SedReverses'. -/
def sedReversesUptoCard : Claim7 := { stood := { row := sedReversesUptoRow, standIns := [], harness := (true, "4306db747d5f7c3de49512b907ab788bfb340c0d4cc6d6ee951ca255fa5b50b1"), looks := false }, kinds := [], alts := [], laidByText := true, laidKinds := [.data, .data, .data, .data, .pinned], laidTests := true, laidLooks := .later }
def SedReversesUptoCardSaid : Prop := Claim7.holds Tryz.pinned (.plain (OpenSpec.upto sedReversesSpec)) sedReversesUptoCard

/-- THE SECOND FORM's CARD OF 'redactorlaw21.SedJoins'. -/
def sedJoinsUptoCard : Claim7 := { stood := { row := sedJoinsUptoRow, standIns := [], harness := (true, "4306db747d5f7c3de49512b907ab788bfb340c0d4cc6d6ee951ca255fa5b50b1"), looks := false }, kinds := [], alts := [], laidByText := true, laidKinds := [.data, .data, .data, .data, .pinned], laidTests := true, laidLooks := .later }
def SedJoinsUptoCardSaid : Prop := Claim7.holds Tryz.pinned (.plain (OpenSpec.upto sedJoinsSpec)) sedJoinsUptoCard

/-- THE SECOND FORM's CARD OF 'redactorlaw21.SedNumbers'. -/
def sedNumbersUptoCard : Claim7 := { stood := { row := sedNumbersUptoRow, standIns := [], harness := (true, "4306db747d5f7c3de49512b907ab788bfb340c0d4cc6d6ee951ca255fa5b50b1"), looks := false }, kinds := [], alts := [], laidByText := true, laidKinds := [.data, .data, .data, .data, .pinned], laidTests := true, laidLooks := .later }
def SedNumbersUptoCardSaid : Prop := Claim7.holds Tryz.pinned (.plain (OpenSpec.upto sedNumbersSpec)) sedNumbersUptoCard
end Rows
end Go.Proofs.YtclnccgiicgooaaGreatDoor
