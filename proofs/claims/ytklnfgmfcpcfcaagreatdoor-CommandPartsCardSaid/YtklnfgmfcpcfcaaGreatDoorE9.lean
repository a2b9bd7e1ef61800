/- Walks: what the functions compute. -/
import Derived.Test.YtklnfgmfcpcfcaaGreatDoorE8
set_option linter.unusedVariables false
set_option linter.unusedSimpArgs false
/- Whether a node is formed: own, all. -/
namespace Go.Proofs.Tryz.E
open Go.Mv
set_option maxHeartbeats 4000000
set_option maxRecDepth 20000
def headE : Nd → Bool
  | .mk kd c s0 s1 s2 s3 n mn mx l => ((if kd = 1 then c else 0) == c && ((if kd = 3 then s0 else 0) == s0 && ((if kd = 3 then s1 else 0) == s1 && ((if kd = 3 then s2 else 0) == s2 && ((if kd = 3 then s3 else 0) == s3 &&
    ((if kd = 6 ∨ kd = 7 then n else 0) == n && ((if kd = 10 then mn else 0) == mn && (if kd = 10 then mx else 0) == mx)))))))
theorem headE_fold (kd c s0 s1 s2 s3 n mn mx : Int) (l : List Nd) : ((if kd = 1 then c else 0) == c && ((if kd = 3 then s0 else 0) == s0 && ((if kd = 3 then s1 else 0) == s1 && ((if kd = 3 then s2 else 0) == s2 && ((if kd = 3 then s3 else 0) == s3 &&
    ((if kd = 6 ∨ kd = 7 then n else 0) == n && ((if kd = 10 then mn else 0) == mn && (if kd = 10 then mx else 0) == mx))))))) = headE (.mk kd c s0 s1 s2 s3 n mn mx l) := rfl
theorem plain_eq (kd c s0 s1 s2 s3 n mn mx : Int) (l : List Nd) : plainB (.mk kd c s0 s1 s2 s3 n mn mx l) = (!decide (kd < 1) && !decide (10 < kd) && headE (.mk kd c s0 s1 s2 s3 n mn mx l) && !(decide (0 ≤ needK kd) && needK kd != l.length)) := by
  rw [Bool.eq_iff_iff]
  simp only [plainB, headE, needK, Bool.and_eq_true, Bool.not_eq_true', decide_eq_true_eq, decide_eq_false_iff_not, Bool.or_eq_true, beq_iff_eq, Bool.and_eq_false_iff, bne_eq_false_iff_eq]
  generalize l.length = k
  by_cases h1 : kd = 1
  · subst h1; simp; omega
  by_cases h3 : kd = 3
  · subst h3; simp; omega
  by_cases h6 : kd = 6
  · subst h6; simp; omega
  by_cases h7 : kd = 7
  · subst h7; simp; omega
  by_cases h8 : kd = 8
  · subst h8; simp; omega
  by_cases h9 : kd = 9
  · subst h9; simp; omega
  by_cases h10 : kd = 10
  · subst h10; simp; omega
  simp [h1, h3, h6, h7, h8, h9, h10]; omega
def notPlain (kd c s0 s1 s2 s3 n mn mx : Int) (l : List Nd) : Bool := if decide (kd < 1) = true then true else if decide (10 < kd) = true then true else if headE (.mk kd c s0 s1 s2 s3 n mn mx l) = false then true else if 0 ≤ needK kd then needK kd != l.length else false
theorem putC_head (x v : MV) (xs : List MV) : putC (x :: xs) [v] 0 = v :: xs := rfl
end Go.Proofs.Tryz.E
