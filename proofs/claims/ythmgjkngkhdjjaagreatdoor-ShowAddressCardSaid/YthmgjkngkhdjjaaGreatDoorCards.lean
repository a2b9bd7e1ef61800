/-
  DERIVED. GIVEN WITH THE SEED: THE CARDS: each row of YthmgjkngkhdjjaaGreatDoorRows.lean that lists a variable, with what it lists TIED to the program's text (the seventh form; the later family's looks); each row that meets fmt, with fmt's text TOLD by the authors' own Lean function (tested against real Go, not proved from fmt's source: count such statements apart). THE CARD IS WHAT COUNTS. Prove the row's statement (the work); the ties are given (YthmgjkngkhdjjaaGreatDoorTie.lean); close each card by the builder's one call (the guide's Derived/Test/ToyasCard.lean, 'card_holds'). Laid BY PROGRAM, IN A SANDBOX (cutbox-door.mjs). By AI agents, Wed Nov 11 2026. No macro, syntax, notation, axiom, sorry.
-/
import Derived.Test.YthmgjkngkhdjjaaGreatDoorRows
import GoSem.ClaimSeven
namespace Go.Proofs.YthmgjkngkhdjjaaGreatDoor
namespace Rows

/-- THE TIED CARD OF 'redactorlaw17.ShowAddress'. -/
def showAddressCard : Claim7 := { stood := { row := showAddressRow, standIns := [], harness := (true, "8b45b31e1d5145f4aadd22df989294a103a58f44b6b5c62f7c6f8c8796820184"), looks := false }, kinds := [], alts := [], laidByText := true, laidKinds := [.data, .data, .data, .data, .pinned], laidTests := true, laidLooks := .later }
def ShowAddressCardSaid : Prop := Claim7.holds Tryz.pinned (.plain (OpenSpec.ofChange showAddressSpec)) showAddressCard

/-- THE SECOND FORM's CARD OF 'redactorlaw17.ShowAddress'. -/
def showAddressUptoCard : Claim7 := { stood := { row := showAddressUptoRow, standIns := [], harness := (true, "8b45b31e1d5145f4aadd22df989294a103a58f44b6b5c62f7c6f8c8796820184"), looks := false }, kinds := [], alts := [], laidByText := true, laidKinds := [.data, .data, .data, .data, .pinned], laidTests := true, laidLooks := .later }
def ShowAddressUptoCardSaid : Prop := Claim7.holds Tryz.pinned (.plain (OpenSpec.upto showAddressSpec)) showAddressUptoCard
end Rows
end Go.Proofs.YthmgjkngkhdjjaaGreatDoor
