/-
  DERIVED. GIVEN WITH THE SEED: THE CARDS: each row of YtliekadkahdghaaGreatDoorRows.lean that lists a variable, with what it lists TIED to the program's text (the seventh form; the later family's looks); each row that meets fmt, with fmt's text TOLD by the authors' own Lean function (tested against real Go, not proved from fmt's source: count such statements apart). THE CARD IS WHAT COUNTS. Prove the row's statement (the work); the ties are given (YtliekadkahdghaaGreatDoorTie.lean); close each card by the builder's one call (the guide's Derived/Test/ToyasCard.lean, 'card_holds'). Laid BY PROGRAM, IN A SANDBOX (cutbox-door.mjs). By AI agents, Wed Nov 11 2026. No macro, syntax, notation, axiom, sorry.
-/
import Derived.Test.YtliekadkahdghaaGreatDoorRows
import GoSem.ClaimSeven
namespace Go.Proofs.YtliekadkahdghaaGreatDoor
namespace Rows

/-- THE TIED CARD OF 'redactorlaw14.AddressEqual'. -/
def addressEqualCard : Claim7 := { stood := { row := addressEqualRow, standIns := [], harness := (true, "be240d919f7c9bede77a0fff0cff5c82d96a1fbd9ec95081e8d94365caedeee3"), looks := false }, kinds := [], alts := [], laidByText := true, laidKinds := [.data, .pinned], laidTests := true, laidLooks := .later }
def AddressEqualCardSaid : Prop := Claim7.holds Tryz.pinned (.plain (OpenSpec.ofChange addressEqualSpec)) addressEqualCard

/-- THE TIED CARD OF 'redactorlaw14.AddressForms'. -/
def addressFormsCard : Claim7 := { stood := { row := addressFormsRow, standIns := [], harness := (true, "be240d919f7c9bede77a0fff0cff5c82d96a1fbd9ec95081e8d94365caedeee3"), looks := false }, kinds := [], alts := [], laidByText := true, laidKinds := [.data, .pinned], laidTests := true, laidLooks := .later }
def AddressFormsCardSaid : Prop := Claim7.holds Tryz.pinned (.plain (OpenSpec.ofChange addressFormsSpec)) addressFormsCard

/-- THE SECOND FORM's CARD OF 'redactorlaw14.AddressEqual'. -/
def addressEqualUptoCard : Claim7 := { stood := { row := addressEqualUptoRow, standIns := [], harness := (true, "be240d919f7c9bede77a0fff0cff5c82d96a1fbd9ec95081e8d94365caedeee3"), looks := false }, kinds := [], alts := [], laidByText := true, laidKinds := [.data, .pinned], laidTests := true, laidLooks := .later }
def AddressEqualUptoCardSaid : Prop := Claim7.holds Tryz.pinned (.plain (OpenSpec.upto addressEqualSpec)) addressEqualUptoCard

/-- THE SECOND FORM's CARD OF 'redactorlaw14.AddressForms'. -/
def addressFormsUptoCard : Claim7 := { stood := { row := addressFormsUptoRow, standIns := [], harness := (true, "be240d919f7c9bede77a0fff0cff5c82d96a1fbd9ec95081e8d94365caedeee3"), looks := false }, kinds := [], alts := [], laidByText := true, laidKinds := [.data, .pinned], laidTests := true, laidLooks := .later }
def AddressFormsUptoCardSaid : Prop := Claim7.holds Tryz.pinned (.plain (OpenSpec.upto addressFormsSpec)) addressFormsUptoCard
end Rows
end Go.Proofs.YtliekadkahdghaaGreatDoor
