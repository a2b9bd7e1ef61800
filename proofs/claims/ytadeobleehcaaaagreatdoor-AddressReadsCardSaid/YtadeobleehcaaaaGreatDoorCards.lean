/-
  DERIVED. GIVEN WITH THE SEED: THE CARDS: each row of YtadeobleehcaaaaGreatDoorRows.lean that lists a variable, with what it lists TIED to the program's text (the seventh form; the later family's looks); each row that meets fmt, with fmt's text TOLD by the authors' own Lean function (tested against real Go, not proved from fmt's source: count such statements apart). THE CARD IS WHAT COUNTS. Prove the row's statement (the work); the ties are given (YtadeobleehcaaaaGreatDoorTie.lean); close each card by the builder's one call (the guide's Derived/Test/ToyasCard.lean, 'card_holds'). Laid BY PROGRAM, IN A SANDBOX (cutbox-door.mjs). By AI agents, Wed Nov 11 2026. No macro, syntax, notation, axiom, sorry.
-/
import Derived.Test.YtadeobleehcaaaaGreatDoorRows
import GoSem.ClaimSeven
namespace Go.Proofs.YtadeobleehcaaaaGreatDoor
namespace Rows

/-- THE TIED CARD OF 'redactorlaw14.AddressReads'. -/
def addressReadsCard : Claim7 := { stood := { row := addressReadsRow, standIns := [], harness := (true, "a58213aaf968d73e80e0712a285b43e204119fce0c049a7375a26afeba183cec"), looks := false }, kinds := [], alts := [], laidByText := true, laidKinds := [.data, .pinned], laidTests := true, laidLooks := .later }
def AddressReadsCardSaid : Prop := Claim7.holds Tryz.pinned (.plain (OpenSpec.ofChange addressReadsSpec)) addressReadsCard

/-- THE SECOND FORM's CARD OF 'redactorlaw14.AddressReads'. -/
def addressReadsUptoCard : Claim7 := { stood := { row := addressReadsUptoRow, standIns := [], harness := (true, "a58213aaf968d73e80e0712a285b43e204119fce0c049a7375a26afeba183cec"), looks := false }, kinds := [], alts := [], laidByText := true, laidKinds := [.data, .pinned], laidTests := true, laidLooks := .later }
def AddressReadsUptoCardSaid : Prop := Claim7.holds Tryz.pinned (.plain (OpenSpec.upto addressReadsSpec)) addressReadsUptoCard
end Rows
end Go.Proofs.YtadeobleehcaaaaGreatDoor
