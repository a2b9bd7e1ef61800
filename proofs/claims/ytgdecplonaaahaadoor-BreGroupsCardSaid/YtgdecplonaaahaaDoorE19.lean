/- Walks: what the functions compute. -/
import Derived.Test.YtgdecplonaaahaaDoorE18
set_option linter.unusedVariables false
set_option linter.unusedSimpArgs false
/- A member, on the other side. -/
namespace Go.Proofs.Tryd.E
open Go.Mv
set_option maxHeartbeats 4000000
set_option maxRecDepth 20000
structure P69 (s : List UInt8) (n d c0 : Nat) (σ : Sto) (a : Nat → MV) (s' : Sto) : Prop where
  a0 : a 0 = .str s
  a1 : a 1 = .int .i64 n
  a4 : a 4 = .ptr ⟨d, 4, c0⟩ 0
  a7 : a 7 = .ptr ⟨d, 7, c0 + 1⟩ 0
  o4 : s'.ob ⟨d, 4, c0⟩ = some (encS z4)
  o7 : s'.ob ⟨d, 7, c0 + 1⟩ = some (encS z4)
  cut : s'.cut d = σ
  und : s'.Und (d + 1)
end Go.Proofs.Tryd.E
