/- Walks: what the functions compute. -/
import Derived.Test.YtgdecplonaaahaaDoorE12
set_option linter.unusedVariables false
set_option linter.unusedSimpArgs false
/- The same node, as the other side has it; alike. -/
namespace Go.Proofs.Tryd.E
open Go.Mv
set_option maxHeartbeats 4000000
set_option maxRecDepth 20000
@[go_sem] theorem bslF_eq (P : Program) (t : TypeId) (n : Nat) (ps : List (Nat × MV)) : bslF P t n ps = (slc P t).bind fun x => if ps.length = n ∧ n * x.2.1 ≤ 65536 ∧ 0 < x.2.1 then (sliceParts x.2.1 0 ps).map fun xs => .sl .no xs else none := by
  unfold bslF
  cases slc P t <;> rfl
theorem own_cells {s : Sto} {d : Nat} {v : MV} {acc : List Nd} (h : Own s d v acc) : v.cells = some [v] := by
  rcases h with ⟨rfl, rfl⟩ | ⟨c, rfl, _, _⟩ <;> rfl
theorem own_frz {s σ : Sto} {d d' : Nat} {v : MV} {acc : List Nd} (h : Own s d v acc) : v.frz σ d' = some (.sl .no (encs acc)) := by
  rcases h with ⟨rfl, rfl⟩ | ⟨c, rfl, _, _⟩ <;> rfl
theorem own_set {s : Sto} {d : Nat} {v : MV} {acc : List Nd} (h : Own s d v acc) (l : Mv.Loc) (cs : List MV) : Own (s.set l cs) d v acc := own_mono h (fun _ _ => rfl) (Nat.le_refl _)
theorem bne_self_i (x : Int) : (x != x) = false := by simp
end Go.Proofs.Tryd.E
