/- Walks: what the functions compute. -/
import Derived.Test.YtclnccgiicgooaaGreatDoorE4
set_option linter.unusedVariables false
set_option linter.unusedSimpArgs false
/- Joined; one of; the same of the other side. -/
namespace Go.Proofs.Tryz.E
open Go.Mv
@[go_sem] theorem buildO_eq (P : Program) (t : TypeId) (ps : List (Nat × MV)) : buildO P t ps = (bldz P t).bind fun z => (fillC (places P t) z ps).map .agg := by
  unfold buildO
  cases bldz P t <;> rfl
@[go_sem] theorem fillC_nil (pl : Nat → Option (Nat × Nat)) (cs : List MV) : fillC pl cs [] = some cs := rfl
@[go_sem] theorem fillC_cons (pl : Nat → Option (Nat × Nat)) (cs : List MV) (i : Nat) (v : MV) (r : List (Nat × MV)) : fillC pl cs ((i, v) :: r) = (pl i).bind fun x => v.cells.bind fun new => if new.length = x.2 ∧ x.1 + x.2 ≤ cs.length then fillC pl (putC cs new x.1) r else none := by
  simp only [fillC]
  cases pl i with
  | none => rfl
  | some x => cases v.cells <;> rfl
@[go_sem] theorem frz_enc (σ : Sto) (d : Nat) (x : Nd) : (enc x).mapM (MV.frz σ d) = some (enc x) := by
  cases x
  simp only [enc, mapM_cons', mapM_nil', frz_int, frz_sl, Option.bind_some, Option.map_some]
def nd (k : Int) (l : List Nd) : Nd := .mk k 0 0 0 0 0 0 0 0 l
def joinF (f : List Nd) : Nd := match f with | [x] => x | _ => nd 8 f
def eitherF (f : List Nd) : Nd := match f with | [] => nd 8 [] | [x] => x | _ => nd 9 f
def joinN (l : List Nd) : Nd := joinF (flatL 8 l)
def eitherN (l : List Nd) : Nd := eitherF (flatL 9 l)
theorem joinF_ne {f : List Nd} (h : f.length ≠ 1) : joinF f = nd 8 f := by
  unfold joinF
  split
  · simp at h
  · rfl
theorem eitherF_ne {f : List Nd} (h0 : f.length ≠ 0) (h : f.length ≠ 1) : eitherF f = nd 9 f := by
  unfold eitherF
  split
  · simp at h0
  · simp at h
  · rfl
set_option maxHeartbeats 2000000
theorem w18 (xs : List Nd) (hsz : szs xs ≤ 1000000) (lim d : Nat) (σ : Sto) (hlim : lim ≤ d) (hu : σ.Und d) : Ret lim d 254 [.sl .no (encs xs)] σ (.agg (enc (joinN xs))) σ := by
  unfold Ret
  rw [WF_body (C := X) rfl Go.Proofs.Tryz.func254 rfl (by kernel_rfl)]
  simp only [go_sem, Nat.reduceLT, reduceIte, W_seq, WO_guard, Go.Proofs.Tryz.results254, Nat.reduceEqDiff, Nat.reduceAdd, reduceCtorEq]
  refine (w29 8 xs hsz lim (d + 1) _ (by omega) (und_new (und_succ hu) _ _ _)).wf ?_
  unfold joinN
  have hf := flatL_sz 8 xs
  generalize flatL 8 xs = f at hf
  simp only [go_sem, Nat.reduceLT, reduceIte, W_seq, WO_guard, encs_len, Nat.reduceEqDiff, Nat.reduceAdd, reduceCtorEq]
  by_cases h1 : f.length = 1
  · obtain ⟨x, rfl⟩ := List.length_eq_one_iff.1 h1
    simp only [go_sem, Nat.reduceLT, reduceIte, W_seq, WO_guard, encs, List.length_cons, List.length_nil, Nat.reduceEqDiff, Nat.reduceAdd, reduceCtorEq, Nat.reduceLeDiff, joinF, cut_und _ _ hu, Int.reduceLE, Int.reduceToNat, Int.natCast_one, beq_self_eq_true]
  · have e : ((f.length : Int) == 1) = false := by simp; omega
    simp only [go_sem, Nat.reduceLT, reduceIte, W_seq, WO_guard, e, Nat.reduceEqDiff, Nat.reduceAdd, reduceCtorEq, Nat.reduceLeDiff, joinF_ne h1, nd, enc, cut_und _ _ hu, Bool.false_eq_true]
theorem w17 (xs : List Nd) (hsz : szs xs ≤ 1000000) (lim d : Nat) (σ : Sto) (hlim : lim ≤ d) (hu : σ.Und d) : Ret lim d 257 [.sl .no (encs xs)] σ (.agg (enc (eitherN xs))) σ := by
  unfold Ret
  rw [WF_body (C := X) rfl Go.Proofs.Tryz.func257 rfl (by kernel_rfl)]
  simp only [go_sem, Nat.reduceLT, reduceIte, W_seq, WO_guard, Go.Proofs.Tryz.results257, Nat.reduceEqDiff, Nat.reduceAdd, reduceCtorEq]
  refine (w29 9 xs hsz lim (d + 1) _ (by omega) (und_new (und_succ hu) _ _ _)).wf ?_
  unfold eitherN
  have hf := flatL_sz 9 xs
  generalize flatL 9 xs = f at hf
  simp only [go_sem, Nat.reduceLT, reduceIte, W_seq, WO_guard, encs_len, Nat.reduceEqDiff, Nat.reduceAdd, reduceCtorEq]
  by_cases h0 : f.length = 0
  · have : f = [] := List.length_eq_zero_iff.1 h0
    subst this
    simp only [go_sem, Nat.reduceLT, reduceIte, W_seq, WO_guard, encs, List.length_cons, List.length_nil, Nat.reduceEqDiff, Nat.reduceAdd, reduceCtorEq, Nat.reduceLeDiff, eitherF, nd, enc, cut_und _ _ hu, Int.reduceLE, Int.reduceToNat, Int.natCast_one, Int.natCast_zero, beq_self_eq_true]
  · by_cases h1 : f.length = 1
    · obtain ⟨x, rfl⟩ := List.length_eq_one_iff.1 h1
      have e : ((1 : Int) == 0) = false := rfl
      simp only [go_sem, Nat.reduceLT, reduceIte, W_seq, WO_guard, e, encs, List.length_cons, List.length_nil, Nat.reduceEqDiff, Nat.reduceAdd, reduceCtorEq, Nat.reduceLeDiff, eitherF, cut_und _ _ hu, Int.reduceLE, Int.reduceToNat, Int.natCast_one, beq_self_eq_true, Bool.false_eq_true]
    · have e : ((f.length : Int) == 1) = false := by simp; omega
      have e' : ((f.length : Int) == 0) = false := by simp only [beq_eq_false_iff_ne, ne_eq]; omega
      simp only [go_sem, Nat.reduceLT, reduceIte, W_seq, WO_guard, e, e', Nat.reduceEqDiff, Nat.reduceAdd, reduceCtorEq, Nat.reduceLeDiff, eitherF_ne h0 h1, nd, enc, cut_und _ _ hu, Bool.false_eq_true]
end Go.Proofs.Tryz.E
