/- The evaluator without memory: a part of its proof. -/
import Derived.Test.YtadeobleehcaaaaGreatDoorMvD
set_option linter.unusedVariables false
set_option linter.unusedSimpArgs false
/- A lower limit: what was evaluated stays so. What is evaluated over a closed store. -/
namespace Go.Mv
variable {C : Cfg} {lim lim' d : Nat}
def Lm (c : Call) : Prop := ∀ lim lim' d f args σ r, lim' ≤ lim → c lim d f args σ = some r → c lim' d f args σ = some r
def tells (r : Option (MV × Sto)) : Option Bool := match r with | some (.bool b, _) => some b | _ => none
end Go.Mv
