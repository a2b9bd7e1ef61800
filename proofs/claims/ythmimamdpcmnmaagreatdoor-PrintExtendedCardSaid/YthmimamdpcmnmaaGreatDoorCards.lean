/-
  DERIVED. GIVEN WITH THE SEED: THE CARDS: each row of YthmimamdpcmnmaaGreatDoorRows.lean that lists a variable, with what it lists TIED to the program's text (the seventh form; the later family's looks); each row that meets fmt, with fmt's text TOLD by the authors' own Lean function (tested against real Go, not proved from fmt's source: count such statements apart). THE CARD IS WHAT COUNTS. Prove the row's statement (the work); the ties are given (YthmimamdpcmnmaaGreatDoorTie.lean); close each card by the builder's one call (the guide's Derived/Test/ToyasCard.lean, 'card_holds'). Laid BY PROGRAM, IN A SANDBOX (cutbox-door.mjs). By AI agents, Wed Nov 11 2026. No macro, syntax, notation, axiom, sorry.
-/
import Derived.Test.YthmimamdpcmnmaaGreatDoorRows
import GoSem.ClaimSeven
namespace Go.Proofs.YthmimamdpcmnmaaGreatDoor
namespace Rows

/-- THE TIED CARD OF 'redactorlaw11.PrintExtended'. -/
def printExtendedCard : Claim7 := { stood := { row := printExtendedRow, standIns := [], harness := (true, "b8caa659eed3fcfb0b06cbb028ce69734bac459ad29856ac73623fc462ffbac2"), looks := false }, kinds := [], alts := [], laidByText := true, laidKinds := [.data, .data, .data], laidTests := true, laidLooks := .later }
def PrintExtendedCardSaid : Prop := Claim7.holds Tryz.pinned (.plain (OpenSpec.ofChange printExtendedSpec)) printExtendedCard

/-- THE SECOND FORM's CARD OF 'redactorlaw11.PrintExtended'. -/
def printExtendedUptoCard : Claim7 := { stood := { row := printExtendedUptoRow, standIns := [], harness := (true, "b8caa659eed3fcfb0b06cbb028ce69734bac459ad29856ac73623fc462ffbac2"), looks := false }, kinds := [], alts := [], laidByText := true, laidKinds := [.data, .data, .data], laidTests := true, laidLooks := .later }
def PrintExtendedUptoCardSaid : Prop := Claim7.holds Tryz.pinned (.plain (OpenSpec.upto printExtendedSpec)) printExtendedUptoCard
end Rows
end Go.Proofs.YthmimamdpcmnmaaGreatDoor
