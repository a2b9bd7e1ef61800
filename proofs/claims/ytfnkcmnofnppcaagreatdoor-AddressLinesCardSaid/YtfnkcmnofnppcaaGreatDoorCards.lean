/-
  DERIVED. GIVEN WITH THE SEED: THE CARDS: each row of YtfnkcmnofnppcaaGreatDoorRows.lean that lists a variable, with what it lists TIED to the program's text (the seventh form; the later family's looks); each row that meets fmt, with fmt's text TOLD by the authors' own Lean function (tested against real Go, not proved from fmt's source: count such statements apart). THE CARD IS WHAT COUNTS. Prove the row's statement (the work); the ties are given (YtfnkcmnofnppcaaGreatDoorTie.lean); close each card by the builder's one call (the guide's Derived/Test/ToyasCard.lean, 'card_holds'). Laid BY PROGRAM, IN A SANDBOX (cutbox-door.mjs). By AI agents, Wed Nov 11 2026. No macro, syntax, notation, axiom, sorry.
-/
import Derived.Test.YtfnkcmnofnppcaaGreatDoorRows
import GoSem.ClaimSeven
namespace Go.Proofs.YtfnkcmnofnppcaaGreatDoor
namespace Rows

/-- THE TIED CARD OF 'redactorlaw14.AddressLines'. -/
def addressLinesCard : Claim7 := { stood := { row := addressLinesRow, standIns := [], harness := (true, "7f18a60ee428d85f4cf3b367609fabe0f4f8a6a4906e67028f15e5d729a28915"), looks := false }, kinds := [], alts := [], laidByText := true, laidKinds := [.data, .pinned], laidTests := true, laidLooks := .later }
def AddressLinesCardSaid : Prop := Claim7.holds Tryz.pinned (.plain (OpenSpec.ofChange addressLinesSpec)) addressLinesCard

/-- THE SECOND FORM's CARD OF 'redactorlaw14.AddressLines'. -/
def addressLinesUptoCard : Claim7 := { stood := { row := addressLinesUptoRow, standIns := [], harness := (true, "7f18a60ee428d85f4cf3b367609fabe0f4f8a6a4906e67028f15e5d729a28915"), looks := false }, kinds := [], alts := [], laidByText := true, laidKinds := [.data, .pinned], laidTests := true, laidLooks := .later }
def AddressLinesUptoCardSaid : Prop := Claim7.holds Tryz.pinned (.plain (OpenSpec.upto addressLinesSpec)) addressLinesUptoCard
end Rows
end Go.Proofs.YtfnkcmnofnppcaaGreatDoor
