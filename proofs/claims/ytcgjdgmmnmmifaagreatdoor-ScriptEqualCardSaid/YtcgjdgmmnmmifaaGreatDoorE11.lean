/- Walks: what the functions compute. -/
import Derived.Test.YtcgjdgmmnmmifaaGreatDoorE10
set_option linter.unusedVariables false
set_option linter.unusedSimpArgs false
/- Whether a node is formed: the other side's parts. -/
namespace Go.Proofs.Tryz.E
open Go.Mv
set_option maxHeartbeats 4000000
set_option maxRecDepth 20000
theorem plainB_kd (kd c s0 s1 s2 s3 n mn mx : Int) (l : List Nd) (h : kd < 1 ∨ 10 < kd) : plainB (.mk kd c s0 s1 s2 s3 n mn mx l) = false := by
  rw [plain_eq]
  rcases h with h | h
  · simp [h]
  · simp [h]
end Go.Proofs.Tryz.E
