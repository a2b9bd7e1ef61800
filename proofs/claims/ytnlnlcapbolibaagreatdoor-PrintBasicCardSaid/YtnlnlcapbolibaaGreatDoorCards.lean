/-
  DERIVED. GIVEN WITH THE SEED: THE CARDS: each row of YtnlnlcapbolibaaGreatDoorRows.lean that lists a variable, with what it lists TIED to the program's text (the seventh form; the later family's looks); each row that meets fmt, with fmt's text TOLD by the authors' own Lean function (tested against real Go, not proved from fmt's source: count such statements apart). THE CARD IS WHAT COUNTS. Prove the row's statement (the work); the ties are given (YtnlnlcapbolibaaGreatDoorTie.lean); close each card by the builder's one call (the guide's Derived/Test/ToyasCard.lean, 'card_holds'). Laid BY PROGRAM, IN A SANDBOX (cutbox-door.mjs). By AI agents, Wed Nov 11 2026. No macro, syntax, notation, axiom, sorry.
-/
import Derived.Test.YtnlnlcapbolibaaGreatDoorRows
import GoSem.ClaimSeven
namespace Go.Proofs.YtnlnlcapbolibaaGreatDoor
namespace Rows

/-- THE TIED CARD OF 'redactorlaw11.PrintBasic'. -/
def printBasicCard : Claim7 := { stood := { row := printBasicRow, standIns := [], harness := (true, "bab73b0657ae9444cb1d4ba13d34ee6bc50bfd2613ec24c5a6fc637187fb0bb8"), looks := false }, kinds := [], alts := [], laidByText := true, laidKinds := [.data, .data, .data, .data, .pinned], laidTests := true, laidLooks := .later }
def PrintBasicCardSaid : Prop := Claim7.holds Tryz.pinned (.plain (OpenSpec.ofChange printBasicSpec)) printBasicCard

/-- THE TIED CARD OF 'redactorlaw11.PrintBack'. -/
def printBackCard : Claim7 := { stood := { row := printBackRow, standIns := [], harness := (true, "bab73b0657ae9444cb1d4ba13d34ee6bc50bfd2613ec24c5a6fc637187fb0bb8"), looks := false }, kinds := [], alts := [], laidByText := true, laidKinds := [.data, .data, .data, .data, .pinned], laidTests := true, laidLooks := .later }
def PrintBackCardSaid : Prop := Claim7.holds Tryz.pinned (.plain (OpenSpec.ofChange printBackSpec)) printBackCard

/-- THE SECOND FORM's CARD OF 'redactorlaw11.PrintBasic'. -/
def printBasicUptoCard : Claim7 := { stood := { row := printBasicUptoRow, standIns := [], harness := (true, "bab73b0657ae9444cb1d4ba13d34ee6bc50bfd2613ec24c5a6fc637187fb0bb8"), looks := false }, kinds := [], alts := [], laidByText := true, laidKinds := [.data, .data, .data, .data, .pinned], laidTests := true, laidLooks := .later }
def PrintBasicUptoCardSaid : Prop := Claim7.holds Tryz.pinned (.plain (OpenSpec.upto printBasicSpec)) printBasicUptoCard

/-- THE SECOND FORM's CARD OF 'redactorlaw11.PrintBack'. -/
def printBackUptoCard : Claim7 := { stood := { row := printBackUptoRow, standIns := [], harness := (true, "bab73b0657ae9444cb1d4ba13d34ee6bc50bfd2613ec24c5a6fc637187fb0bb8"), looks := false }, kinds := [], alts := [], laidByText := true, laidKinds := [.data, .data, .data, .data, .pinned], laidTests := true, laidLooks := .later }
def PrintBackUptoCardSaid : Prop := Claim7.holds Tryz.pinned (.plain (OpenSpec.upto printBackSpec)) printBackUptoCard
end Rows
end Go.Proofs.YtnlnlcapbolibaaGreatDoor
