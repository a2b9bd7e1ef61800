/-
  DERIVED. GIVEN WITH THE SEED: THE CARDS: each row of YtgdecplonaaahaaDoorRows.lean that lists a variable, with what it lists TIED to the program's text (the seventh form; the later family's looks); each row that meets fmt, with fmt's text TOLD by the authors' own Lean function (tested against real Go, not proved from fmt's source: count such statements apart). THE CARD IS WHAT COUNTS. Prove the row's statement (the work); the ties are given (YtgdecplonaaahaaDoorTie.lean); close each card by the builder's one call (the guide's Derived/Test/ToyasCard.lean, 'card_holds'). Laid BY PROGRAM, IN A SANDBOX (cutbox-door.mjs). By AI agents, Wed Nov 11 2026. No macro, syntax, notation, axiom, sorry.
-/
import Derived.Test.YtgdecplonaaahaaDoorRows
import GoSem.ClaimSeven
namespace Go.Proofs.YtgdecplonaaahaaDoor
namespace Rows

/-- THE TIED CARD OF 'redactorlaw09.BreGroups'. -/
def breGroupsCard : Claim7 := { stood := { row := breGroupsRow, standIns := [], harness := (true, "0c3275cd083a4ee26c9be33d67344d6a2bf295b371932290cc38d11ebd9bcc47"), looks := false }, kinds := [], alts := [], laidByText := true, laidKinds := [.data, .pinned], laidTests := true, laidLooks := .later }
def BreGroupsCardSaid : Prop := Claim7.holds Tryd.pinned (.plain (OpenSpec.ofChange breGroupsSpec)) breGroupsCard

/-- THE SECOND FORM's CARD OF 'redactorlaw09.BreGroups'. -/
def breGroupsUptoCard : Claim7 := { stood := { row := breGroupsUptoRow, standIns := [], harness := (true, "0c3275cd083a4ee26c9be33d67344d6a2bf295b371932290cc38d11ebd9bcc47"), looks := false }, kinds := [], alts := [], laidByText := true, laidKinds := [.data, .pinned], laidTests := true, laidLooks := .later }
def BreGroupsUptoCardSaid : Prop := Claim7.holds Tryd.pinned (.plain (OpenSpec.upto breGroupsSpec)) breGroupsUptoCard
end Rows
end Go.Proofs.YtgdecplonaaahaaDoor
