/-
  DERIVED. GIVEN WITH THE SEED: THE CARDS: each row of YtklnfgmfcpcfcaaGreatDoorRows.lean that lists a variable, with what it lists TIED to the program's text (the seventh form; the later family's looks); each row that meets fmt, with fmt's text TOLD by the authors' own Lean function (tested against real Go, not proved from fmt's source: count such statements apart). THE CARD IS WHAT COUNTS. Prove the row's statement (the work); the ties are given (YtklnfgmfcpcfcaaGreatDoorTie.lean); close each card by the builder's one call (the guide's Derived/Test/ToyasCard.lean, 'card_holds'). Laid BY PROGRAM, IN A SANDBOX (cutbox-door.mjs). By AI agents, Wed Nov 11 2026. No macro, syntax, notation, axiom, sorry.
-/
import Derived.Test.YtklnfgmfcpcfcaaGreatDoorRows
import GoSem.ClaimSeven
namespace Go.Proofs.YtklnfgmfcpcfcaaGreatDoor
namespace Rows

/-- THE TIED CARD OF 'redactorlaw15.CommandParts'. -/
def commandPartsCard : Claim7 := { stood := { row := commandPartsRow, standIns := [], harness := (true, "36f44198ddaaa3ab1f3e9b8e641fa0884d95aa430ea1882bcbc08042be4c1c69"), looks := false }, kinds := [], alts := [], laidByText := true, laidKinds := [.data, .pinned], laidTests := true, laidLooks := .later }
def CommandPartsCardSaid : Prop := Claim7.holds Tryz.pinned (.plain (OpenSpec.ofChange commandPartsSpec)) commandPartsCard

/-- THE TIED CARD OF 'redactorlaw15.CommandEqual'. -/
def commandEqualCard : Claim7 := { stood := { row := commandEqualRow, standIns := [], harness := (true, "36f44198ddaaa3ab1f3e9b8e641fa0884d95aa430ea1882bcbc08042be4c1c69"), looks := false }, kinds := [], alts := [], laidByText := true, laidKinds := [.data, .pinned], laidTests := true, laidLooks := .later }
def CommandEqualCardSaid : Prop := Claim7.holds Tryz.pinned (.plain (OpenSpec.ofChange commandEqualSpec)) commandEqualCard

/-- THE TIED CARD OF 'redactorlaw15.CommandForms'. -/
def commandFormsCard : Claim7 := { stood := { row := commandFormsRow, standIns := [], harness := (true, "36f44198ddaaa3ab1f3e9b8e641fa0884d95aa430ea1882bcbc08042be4c1c69"), looks := false }, kinds := [], alts := [], laidByText := true, laidKinds := [.data, .pinned], laidTests := true, laidLooks := .later }
def CommandFormsCardSaid : Prop := Claim7.holds Tryz.pinned (.plain (OpenSpec.ofChange commandFormsSpec)) commandFormsCard

/-- THE SECOND FORM's CARD OF 'redactorlaw15.CommandParts'. -/
def commandPartsUptoCard : Claim7 := { stood := { row := commandPartsUptoRow, standIns := [], harness := (true, "36f44198ddaaa3ab1f3e9b8e641fa0884d95aa430ea1882bcbc08042be4c1c69"), looks := false }, kinds := [], alts := [], laidByText := true, laidKinds := [.data, .pinned], laidTests := true, laidLooks := .later }
def CommandPartsUptoCardSaid : Prop := Claim7.holds Tryz.pinned (.plain (OpenSpec.upto commandPartsSpec)) commandPartsUptoCard

/-- THE SECOND FORM's CARD OF 'redactorlaw15.CommandEqual'. -/
def commandEqualUptoCard : Claim7 := { stood := { row := commandEqualUptoRow, standIns := [], harness := (true, "36f44198ddaaa3ab1f3e9b8e641fa0884d95aa430ea1882bcbc08042be4c1c69"), looks := false }, kinds := [], alts := [], laidByText := true, laidKinds := [.data, .pinned], laidTests := true, laidLooks := .later }
def CommandEqualUptoCardSaid : Prop := Claim7.holds Tryz.pinned (.plain (OpenSpec.upto commandEqualSpec)) commandEqualUptoCard

/-- THE SECOND FORM's CARD OF 'redactorlaw15.CommandForms'. -/
def commandFormsUptoCard : Claim7 := { stood := { row := commandFormsUptoRow, standIns := [], harness := (true, "36f44198ddaaa3ab1f3e9b8e641fa0884d95aa430ea1882bcbc08042be4c1c69"), looks := false }, kinds := [], alts := [], laidByText := true, laidKinds := [.data, .pinned], laidTests := true, laidLooks := .later }
def CommandFormsUptoCardSaid : Prop := Claim7.holds Tryz.pinned (.plain (OpenSpec.upto commandFormsSpec)) commandFormsUptoCard
end Rows
end Go.Proofs.YtklnfgmfcpcfcaaGreatDoor
