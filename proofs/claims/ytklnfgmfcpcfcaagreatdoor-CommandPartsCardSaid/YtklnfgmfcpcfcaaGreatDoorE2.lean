/- Walks: what the functions compute. -/
import Derived.Test.YtklnfgmfcpcfcaaGreatDoorE1
set_option linter.unusedVariables false
set_option linter.unusedSimpArgs false
/- How many nodes; how deep. -/
namespace Go.Proofs.Tryz.E
open Go.Mv
@[go_sem] theorem mm_max2 (k : IntKind) (x y : Int) : mm true [.int k x, .int k y] = some (.int k (if y > x then y else x)) := by simp [mm, mmGo]
@[go_sem] theorem mm_min2 (k : IntKind) (x y : Int) : mm false [.int k x, .int k y] = some (.int k (if y < x then y else x)) := by simp [mm, mmGo]
mutual
def cnt : Nd → Int
  | .mk _ _ _ _ _ _ _ _ _ l => cnts 1 l
def cnts : Int → List Nd → Int
  | k, [] => k
  | k, x :: l => cnts (IntKind.i64.wrap (k + cnt x)) l
end
mutual
def dep : Nd → Int
  | .mk _ _ _ _ _ _ _ _ _ l => IntKind.i64.wrap (deps 0 l + 1)
def deps : Int → List Nd → Int
  | k, [] => k
  | k, x :: l => deps (if dep x > k then dep x else k) l
end
theorem cnts_at {l : List Nd} {i : Nat} (h : i < l.length) (m : Int) : cnts m (l.drop i) = cnts (IntKind.i64.wrap (m + cnt l[i])) (l.drop (i + 1)) := by rw [List.drop_eq_getElem_cons h, cnts]
theorem deps_at {l : List Nd} {i : Nat} (h : i < l.length) (m : Int) : deps m (l.drop i) = deps (if dep l[i] > m then dep l[i] else m) (l.drop (i + 1)) := by rw [List.drop_eq_getElem_cons h, deps]
theorem und_new {σ : Sto} {d : Nat} (h : σ.Und (d + 1)) (t c : Nat) (cs : List MV) : ((σ.set ⟨d, t, c⟩ cs).tick d).Und (d + 1) := und_tick (und_set h (Nat.lt_succ_self d) _) (Nat.lt_succ_self d)
set_option maxHeartbeats 2000000
end Go.Proofs.Tryz.E
