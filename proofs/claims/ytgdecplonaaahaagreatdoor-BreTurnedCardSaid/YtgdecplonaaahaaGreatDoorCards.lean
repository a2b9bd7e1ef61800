/-
  DERIVED. GIVEN WITH THE SEED: THE CARDS: each row of YtgdecplonaaahaaGreatDoorRows.lean that lists a variable, with what it lists TIED to the program's text (the seventh form; the later family's looks); each row that meets fmt, with fmt's text TOLD by the authors' own Lean function (tested against real Go, not proved from fmt's source: count such statements apart). THE CARD IS WHAT COUNTS. Prove the row's statement (the work); the ties are given (YtgdecplonaaahaaGreatDoorTie.lean); close each card by the builder's one call (the guide's Derived/Test/ToyasCard.lean, 'card_holds'). Laid BY PROGRAM, IN A SANDBOX (cutbox-door.mjs). By AI agents, Wed Nov 11 2026. No macro, syntax, notation, axiom, sorry.
-/
import Derived.Test.YtgdecplonaaahaaGreatDoorRows
import GoSem.ClaimSeven
namespace Go.Proofs.YtgdecplonaaahaaGreatDoor
namespace Rows

/-- THE TIED CARD OF 'redactorlaw09.BreParses'. -/
def breParsesCard : Claim7 := { stood := { row := breParsesRow, standIns := [], harness := (true, "88b86d44fa7203562e6638fbe0dc9ff6a2cff013dfc0972460b03ac9a8454ed1"), looks := false }, kinds := [], alts := [], laidByText := true, laidKinds := [.data, .pinned], laidTests := true, laidLooks := .later }
def BreParsesCardSaid : Prop := Claim7.holds Tryz.pinned (.plain (OpenSpec.ofChange breParsesSpec)) breParsesCard

/-- THE TIED CARD OF 'redactorlaw09.BreTurned'. -/
def breTurnedCard : Claim7 := { stood := { row := breTurnedRow, standIns := [], harness := (true, "88b86d44fa7203562e6638fbe0dc9ff6a2cff013dfc0972460b03ac9a8454ed1"), looks := false }, kinds := [], alts := [], laidByText := true, laidKinds := [.data, .pinned], laidTests := true, laidLooks := .later }
def BreTurnedCardSaid : Prop := Claim7.holds Tryz.pinned (.plain (OpenSpec.ofChange breTurnedSpec)) breTurnedCard

/-- THE SECOND FORM's CARD OF 'redactorlaw09.BreParses'. -/
def breParsesUptoCard : Claim7 := { stood := { row := breParsesUptoRow, standIns := [], harness := (true, "88b86d44fa7203562e6638fbe0dc9ff6a2cff013dfc0972460b03ac9a8454ed1"), looks := false }, kinds := [], alts := [], laidByText := true, laidKinds := [.data, .pinned], laidTests := true, laidLooks := .later }
def BreParsesUptoCardSaid : Prop := Claim7.holds Tryz.pinned (.plain (OpenSpec.upto breParsesSpec)) breParsesUptoCard

/-- THE SECOND FORM's CARD OF 'redactorlaw09.BreTurned'. -/
def breTurnedUptoCard : Claim7 := { stood := { row := breTurnedUptoRow, standIns := [], harness := (true, "88b86d44fa7203562e6638fbe0dc9ff6a2cff013dfc0972460b03ac9a8454ed1"), looks := false }, kinds := [], alts := [], laidByText := true, laidKinds := [.data, .pinned], laidTests := true, laidLooks := .later }
def BreTurnedUptoCardSaid : Prop := Claim7.holds Tryz.pinned (.plain (OpenSpec.upto breTurnedSpec)) breTurnedUptoCard
end Rows
end Go.Proofs.YtgdecplonaaahaaGreatDoor
