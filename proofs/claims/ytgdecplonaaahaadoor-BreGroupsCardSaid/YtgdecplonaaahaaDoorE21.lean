/- Walks: what the functions compute. -/
import Derived.Test.YtgdecplonaaahaaDoorE20
set_option linter.unusedVariables false
set_option linter.unusedSimpArgs false
/- A bracket, of the other side. -/
namespace Go.Proofs.Tryd.E
open Go.Mv
set_option maxHeartbeats 4000000
set_option maxRecDepth 20000
structure P59 (s : List UInt8) (d c0 : Nat) (σ : Sto) (nt first : Bool) (n : Nat) (acc : List Int) (a : Nat → MV) (s' : Sto) : Prop where
  a0 : a 0 = .str s
  a1 : a 1 = .int .i64 n
  a4 : a 4 = .ptr ⟨d, 4, c0⟩ 0
  a7 : a 7 = .bool nt
  a8 : a 8 = .ptr ⟨d, 8, c0 + 1⟩ 0
  a9 : a 9 = .bool first
  o4 : s'.ob ⟨d, 4, c0⟩ = some (encS z4)
  o8 : s'.ob ⟨d, 8, c0 + 1⟩ = some (encS acc)
  cut : s'.cut d = σ
  und : s'.Und (d + 1)
  ct : c0 + 1 + 1 ≤ s'.ct d
  al : acc.length = 4
end Go.Proofs.Tryd.E
