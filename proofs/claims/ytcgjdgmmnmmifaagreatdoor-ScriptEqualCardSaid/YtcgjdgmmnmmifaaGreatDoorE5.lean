/- Walks: what the functions compute. -/
import Derived.Test.YtcgjdgmmnmmifaaGreatDoorE4
set_option linter.unusedVariables false
set_option linter.unusedSimpArgs false
/- Joined; one of; the same of the other side. -/
namespace Go.Proofs.Tryz.E
open Go.Mv
@[go_sem] theorem buildO_eq (P : Program) (t : TypeId) (ps : List (Nat × MV)) : buildO P t ps = (bldz P t).bind fun z => (fillC (places P t) z ps).map .agg := by
  unfold buildO
  cases bldz P t <;> rfl
@[go_sem] theorem fillC_nil (pl : Nat → Option (Nat × Nat)) (cs : List MV) : fillC pl cs [] = some cs := rfl
@[go_sem] theorem fillC_cons (pl : Nat → Option (Nat × Nat)) (cs : List MV) (i : Nat) (v : MV) (r : List (Nat × MV)) : fillC pl cs ((i, v) :: r) = (pl i).bind fun x => v.cells.bind fun new => if new.length = x.2 ∧ x.1 + x.2 ≤ cs.length then fillC pl (putC cs new x.1) r else none := by
  simp only [fillC]
  cases pl i with
  | none => rfl
  | some x => cases v.cells <;> rfl
@[go_sem] theorem frz_enc (σ : Sto) (d : Nat) (x : Nd) : (enc x).mapM (MV.frz σ d) = some (enc x) := by
  cases x
  simp only [enc, mapM_cons', mapM_nil', frz_int, frz_sl, Option.bind_some, Option.map_some]
def nd (k : Int) (l : List Nd) : Nd := .mk k 0 0 0 0 0 0 0 0 l
def joinF (f : List Nd) : Nd := match f with | [x] => x | _ => nd 8 f
def eitherF (f : List Nd) : Nd := match f with | [] => nd 8 [] | [x] => x | _ => nd 9 f
def joinN (l : List Nd) : Nd := joinF (flatL 8 l)
def eitherN (l : List Nd) : Nd := eitherF (flatL 9 l)
theorem joinF_ne {f : List Nd} (h : f.length ≠ 1) : joinF f = nd 8 f := by
  unfold joinF
  split
  · simp at h
  · rfl
theorem eitherF_ne {f : List Nd} (h0 : f.length ≠ 0) (h : f.length ≠ 1) : eitherF f = nd 9 f := by
  unfold eitherF
  split
  · simp at h0
  · simp at h
  · rfl
set_option maxHeartbeats 2000000
end Go.Proofs.Tryz.E
