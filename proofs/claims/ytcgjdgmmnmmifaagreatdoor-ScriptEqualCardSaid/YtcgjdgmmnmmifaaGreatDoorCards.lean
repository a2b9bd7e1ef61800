/-
  DERIVED. GIVEN WITH THE SEED: THE CARDS: each row of YtcgjdgmmnmmifaaGreatDoorRows.lean that lists a variable, with what it lists TIED to the program's text (the seventh form; the later family's looks); each row that meets fmt, with fmt's text TOLD by the authors' own Lean function (tested against real Go, not proved from fmt's source: count such statements apart). THE CARD IS WHAT COUNTS. Prove the row's statement (the work); the ties are given (YtcgjdgmmnmmifaaGreatDoorTie.lean); close each card by the builder's one call (the guide's Derived/Test/ToyasCard.lean, 'card_holds'). Laid BY PROGRAM, IN A SANDBOX (cutbox-door.mjs). By AI agents, Wed Nov 11 2026. No macro, syntax, notation, axiom, sorry.
-/
import Derived.Test.YtcgjdgmmnmmifaaGreatDoorRows
import GoSem.ClaimSeven
namespace Go.Proofs.YtcgjdgmmnmmifaaGreatDoor
namespace Rows

/-- THE TIED CARD OF 'redactorlaw16.ScriptNests'. -/
def scriptNestsCard : Claim7 := { stood := { row := scriptNestsRow, standIns := [], harness := (true, "6ffc969b5ba0a86f4eeed9d91f347b5c862308c0c36feb7d8f9b2109a060de6b"), looks := false }, kinds := [], alts := [], laidByText := true, laidKinds := [.data, .pinned], laidTests := true, laidLooks := .later }
def ScriptNestsCardSaid : Prop := Claim7.holds Tryz.pinned (.plain (OpenSpec.ofChange scriptNestsSpec)) scriptNestsCard

/-- THE TIED CARD OF 'redactorlaw16.ScriptBranches'. -/
def scriptBranchesCard : Claim7 := { stood := { row := scriptBranchesRow, standIns := [], harness := (true, "6ffc969b5ba0a86f4eeed9d91f347b5c862308c0c36feb7d8f9b2109a060de6b"), looks := false }, kinds := [], alts := [], laidByText := true, laidKinds := [.data, .pinned], laidTests := true, laidLooks := .later }
def ScriptBranchesCardSaid : Prop := Claim7.holds Tryz.pinned (.plain (OpenSpec.ofChange scriptBranchesSpec)) scriptBranchesCard

/-- THE TIED CARD OF 'redactorlaw16.ScriptEqual'. -/
def scriptEqualCard : Claim7 := { stood := { row := scriptEqualRow, standIns := [], harness := (true, "6ffc969b5ba0a86f4eeed9d91f347b5c862308c0c36feb7d8f9b2109a060de6b"), looks := false }, kinds := [], alts := [], laidByText := true, laidKinds := [.data, .pinned], laidTests := true, laidLooks := .later }
def ScriptEqualCardSaid : Prop := Claim7.holds Tryz.pinned (.plain (OpenSpec.ofChange scriptEqualSpec)) scriptEqualCard

/-- THE SECOND FORM's CARD OF 'redactorlaw16.ScriptNests'. -/
def scriptNestsUptoCard : Claim7 := { stood := { row := scriptNestsUptoRow, standIns := [], harness := (true, "6ffc969b5ba0a86f4eeed9d91f347b5c862308c0c36feb7d8f9b2109a060de6b"), looks := false }, kinds := [], alts := [], laidByText := true, laidKinds := [.data, .pinned], laidTests := true, laidLooks := .later }
def ScriptNestsUptoCardSaid : Prop := Claim7.holds Tryz.pinned (.plain (OpenSpec.upto scriptNestsSpec)) scriptNestsUptoCard

/-- THE SECOND FORM's CARD OF 'redactorlaw16.ScriptBranches'. -/
def scriptBranchesUptoCard : Claim7 := { stood := { row := scriptBranchesUptoRow, standIns := [], harness := (true, "6ffc969b5ba0a86f4eeed9d91f347b5c862308c0c36feb7d8f9b2109a060de6b"), looks := false }, kinds := [], alts := [], laidByText := true, laidKinds := [.data, .pinned], laidTests := true, laidLooks := .later }
def ScriptBranchesUptoCardSaid : Prop := Claim7.holds Tryz.pinned (.plain (OpenSpec.upto scriptBranchesSpec)) scriptBranchesUptoCard

/-- THE SECOND FORM's CARD OF 'redactorlaw16.ScriptEqual'. -/
def scriptEqualUptoCard : Claim7 := { stood := { row := scriptEqualUptoRow, standIns := [], harness := (true, "6ffc969b5ba0a86f4eeed9d91f347b5c862308c0c36feb7d8f9b2109a060de6b"), looks := false }, kinds := [], alts := [], laidByText := true, laidKinds := [.data, .pinned], laidTests := true, laidLooks := .later }
def ScriptEqualUptoCardSaid : Prop := Claim7.holds Tryz.pinned (.plain (OpenSpec.upto scriptEqualSpec)) scriptEqualUptoCard
end Rows
end Go.Proofs.YtcgjdgmmnmmifaaGreatDoor
