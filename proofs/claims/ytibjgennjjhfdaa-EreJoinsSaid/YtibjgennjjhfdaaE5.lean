/- Walks: what the functions compute. -/
import Derived.Test.YtibjgennjjhfdaaE4
set_option linter.unusedVariables false
set_option linter.unusedSimpArgs false
/- Joined; one of; the same of the other side. -/
namespace Go.Proofs.Try.E
open Go.Mv
@[go_sem] theorem buildO_eq (P : Program) (t : TypeId) (ps : List (Nat × MV)) : buildO P t ps = (bldz P t).bind fun z => (fillC (places P t) z ps).map .agg := by
  unfold buildO
  cases bldz P t <;> rfl
@[go_sem] theorem fillC_nil (pl : Nat → Option (Nat × Nat)) (cs : List MV) : fillC pl cs [] = some cs := rfl
@[go_sem] theorem fillC_cons (pl : Nat → Option (Nat × Nat)) (cs : List MV) (i : Nat) (v : MV) (r : List (Nat × MV)) : fillC pl cs ((i, v) :: r) = (pl i).bind fun x => v.cells.bind fun new => if new.length = x.2 ∧ x.1 + x.2 ≤ cs.length then fillC pl (putC cs new x.1) r else none := by
  simp only [fillC]
  cases pl i with
  | none => rfl
  | some x => cases v.cells <;> rfl
@[go_sem] theorem frz_enc (σ : Sto) (d : Nat) (x : Nd) : (enc x).mapM (MV.frz σ d) = some (enc x) := by
  cases x
  simp only [enc, mapM_cons', mapM_nil', frz_int, frz_sl, Option.bind_some, Option.map_some]
def nd (k : Int) (l : List Nd) : Nd := .mk k 0 0 0 0 0 0 0 0 l
def joinF (f : List Nd) : Nd := match f with | [x] => x | _ => nd 8 f
def eitherF (f : List Nd) : Nd := match f with | [] => nd 8 [] | [x] => x | _ => nd 9 f
def joinN (l : List Nd) : Nd := joinF (flatL 8 l)
def eitherN (l : List Nd) : Nd := eitherF (flatL 9 l)
theorem joinF_ne {f : List Nd} (h : f.length ≠ 1) : joinF f = nd 8 f := by
  unfold joinF
  split
  · simp at h
  · rfl
theorem eitherF_ne {f : List Nd} (h0 : f.length ≠ 0) (h : f.length ≠ 1) : eitherF f = nd 9 f := by
  unfold eitherF
  split
  · simp at h0
  · simp at h
  · rfl
set_option maxHeartbeats 2000000
theorem w18 (xs : List Nd) (hsz : szs xs ≤ 1000000) (lim d : Nat) (σ : Sto) (hlim : lim ≤ d) (hu : σ.Und d) : Ret lim d 18 [.sl .no (encs xs)] σ (.agg (enc (joinN xs))) σ := by
  unfold Ret
  rw [WF_body (C := X) rfl Go.Proofs.Try.func18 rfl (by kernel_rfl)]
  simp only [go_sem, W_seq, WO_guard, Go.Proofs.Try.results18, Nat.reduceEqDiff, Nat.reduceAdd, reduceCtorEq]
  refine (w29 8 xs hsz lim (d + 1) _ (by omega) (und_new (und_succ hu) _ _ _)).wf ?_
  unfold joinN
  have hf := flatL_sz 8 xs
  generalize flatL 8 xs = f at hf
  simp only [go_sem, W_seq, WO_guard, encs_len, Nat.reduceEqDiff, Nat.reduceAdd, reduceCtorEq]
  by_cases h1 : f.length = 1
  · obtain ⟨x, rfl⟩ := List.length_eq_one_iff.1 h1
    simp only [go_sem, W_seq, WO_guard, encs, List.length_cons, List.length_nil, Nat.reduceEqDiff, Nat.reduceAdd, reduceCtorEq, Nat.reduceLeDiff, joinF, cut_und _ _ hu, Int.reduceLE, Int.reduceToNat, Int.natCast_one, beq_self_eq_true]
  · have e : ((f.length : Int) == 1) = false := by simp; omega
    simp only [go_sem, W_seq, WO_guard, e, Nat.reduceEqDiff, Nat.reduceAdd, reduceCtorEq, Nat.reduceLeDiff, joinF_ne h1, nd, enc, cut_und _ _ hu, Bool.false_eq_true]
theorem w17 (xs : List Nd) (hsz : szs xs ≤ 1000000) (lim d : Nat) (σ : Sto) (hlim : lim ≤ d) (hu : σ.Und d) : Ret lim d 17 [.sl .no (encs xs)] σ (.agg (enc (eitherN xs))) σ := by
  unfold Ret
  rw [WF_body (C := X) rfl Go.Proofs.Try.func17 rfl (by kernel_rfl)]
  simp only [go_sem, W_seq, WO_guard, Go.Proofs.Try.results17, Nat.reduceEqDiff, Nat.reduceAdd, reduceCtorEq]
  refine (w29 9 xs hsz lim (d + 1) _ (by omega) (und_new (und_succ hu) _ _ _)).wf ?_
  unfold eitherN
  have hf := flatL_sz 9 xs
  generalize flatL 9 xs = f at hf
  simp only [go_sem, W_seq, WO_guard, encs_len, Nat.reduceEqDiff, Nat.reduceAdd, reduceCtorEq]
  by_cases h0 : f.length = 0
  · have : f = [] := List.length_eq_zero_iff.1 h0
    subst this
    simp only [go_sem, W_seq, WO_guard, encs, List.length_cons, List.length_nil, Nat.reduceEqDiff, Nat.reduceAdd, reduceCtorEq, Nat.reduceLeDiff, eitherF, nd, enc, cut_und _ _ hu, Int.reduceLE, Int.reduceToNat, Int.natCast_one, Int.natCast_zero, beq_self_eq_true]
  · by_cases h1 : f.length = 1
    · obtain ⟨x, rfl⟩ := List.length_eq_one_iff.1 h1
      have e : ((1 : Int) == 0) = false := rfl
      simp only [go_sem, W_seq, WO_guard, e, encs, List.length_cons, List.length_nil, Nat.reduceEqDiff, Nat.reduceAdd, reduceCtorEq, Nat.reduceLeDiff, eitherF, cut_und _ _ hu, Int.reduceLE, Int.reduceToNat, Int.natCast_one, beq_self_eq_true, Bool.false_eq_true]
    · have e : ((f.length : Int) == 1) = false := by simp; omega
      have e' : ((f.length : Int) == 0) = false := by simp only [beq_eq_false_iff_ne, ne_eq]; omega
      simp only [go_sem, W_seq, WO_guard, e, e', Nat.reduceEqDiff, Nat.reduceAdd, reduceCtorEq, Nat.reduceLeDiff, eitherF_ne h0 h1, nd, enc, cut_und _ _ hu, Bool.false_eq_true]
theorem w47 (kd : Int) (xs : List Nd) (hsz : szs xs ≤ 1000000) (lim d : Nat) (σ : Sto) (hlim : lim ≤ d) (hu : σ.Und d) : Ret lim d 47 [.int .i64 kd, .sl .no (encs xs)] σ (.sl .no (encs (flatL kd xs))) σ := by
  have hl := len_le xs
  unfold Ret
  rw [WF_body (C := X) rfl Go.Proofs.Try.func47 rfl (by kernel_rfl)]
  simp only [go_sem, W_seq, WO_guard, Go.Proofs.Try.results47, Nat.reduceEqDiff, Nat.reduceAdd, reduceCtorEq]
  refine loop_ind (I := fun k a s => ∃ (i : Nat) (acc : List Nd), i + k = xs.length ∧ a 9 = .int .i64 i ∧ a 8 = .int .i64 xs.length ∧ a 1 = .sl .no (encs xs) ∧ a 0 = .int .i64 kd ∧ Own s d (a 5) acc ∧ acc ++ flatL kd (xs.drop i) = flatL kd xs ∧ szs acc + szs (xs.drop i) ≤ szs xs ∧ s.cut d = σ ∧ s.Und (d + 1)) ?_ xs.length _ _ ?_
  · rintro k a s ⟨i, acc, hk, h9, h8, h1, h0, h5, hc, hz, hs, hs2⟩
    by_cases hi : i < xs.length
    · have e1 : ((i : Int) < (xs.length : Int)) := by omega
      have e2 : xs[i]? = some xs[i] := List.getElem?_eq_getElem hi
      have hm := List.getElem_mem hi
      have hy := sz_le xs _ hm
      have hza := len_le acc
      have hzk := sz_kids xs[i]
      have hzl := len_le xs[i].kids
      rw [List.drop_eq_getElem_cons hi, szs] at hz
      rw [flatL_at hi] at hc
      simp only [go_sem, W_seq, WO_guard, e1, e2, h9, h8, h1, h0, encs_at, Nat.reduceEqDiff, Nat.reduceAdd, reduceCtorEq]
      by_cases hkd : xs[i].kind = kd
      · rw [if_pos hkd] at hc
        have e3 : (xs[i].kind == kd) = true := by simpa using hkd
        obtain ⟨v', s', q1, q2, q3, q4, q5⟩ := app_own (P := X.P) (t := 33) (ys := xs[i].kids) (tk := .no) slc_33 h5 (by omega) hlim hs2
        simp only [go_sem, W_seq, WO_guard, e3, q1, h9, Nat.reduceEqDiff, Nat.reduceAdd, reduceCtorEq]
        exact ⟨k - 1, by omega, i + 1, _, by omega, by rw [wr64 _ (by omega) (by omega)]; rfl, q2, by rw [← hc, List.append_assoc], by rw [szs_app]; omega, by rw [q3]; exact hs, q4⟩
      · rw [if_neg hkd] at hc
        have e3 : (xs[i].kind == kd) = false := by simpa using hkd
        obtain ⟨v', s', q1, q2, q3, q4, q5⟩ := app_own (P := X.P) (t := 33) (ys := [xs[i]]) (tk := .own d (s.ct d)) slc_33 (own_tok h5 (some (1, 10))) (by simp; omega) hlim (und_tok hs2 _ _)
        simp only [encs] at q1
        simp only [go_sem, W_seq, WO_guard, e3, q1, h9, Nat.reduceEqDiff, Nat.reduceAdd, reduceCtorEq, Nat.reduceMul, Nat.reduceLeDiff, Nat.reduceLT, Bool.false_eq_true]
        exact ⟨k - 1, by omega, i + 1, _, by omega, by rw [wr64 _ (by omega) (by omega)]; rfl, q2, by rw [← hc, List.append_assoc], by rw [szs_app]; simp only [szs]; omega, by rw [q3, cut_tick, cut_own]; exact hs, q4⟩
    · have e1 : ¬ ((i : Int) < (xs.length : Int)) := by omega
      simp only [go_sem, W_seq, WO_guard, e1, h9, h8, encs_at, Nat.reduceEqDiff, Nat.reduceAdd, reduceCtorEq, own_res h5]
      rw [List.drop_eq_nil_of_le (by omega), flatL, List.append_nil] at hc
      exact ⟨by rw [hc], hs⟩
  · exact ⟨0, [], Nat.zero_add _, rfl, congrArg (fun (n : Nat) => MV.int .i64 n) (encs_len xs), rfl, rfl, .inl ⟨rfl, rfl⟩, rfl, by simp [szs], cut_und _ _ hu, und_succ hu⟩
theorem w46 (xs : List Nd) (hsz : szs xs ≤ 1000000) (lim d : Nat) (σ : Sto) (hlim : lim ≤ d) (hu : σ.Und d) : Ret lim d 46 [.sl .no (encs xs)] σ (.agg (enc (joinN xs))) σ := by
  unfold Ret
  rw [WF_body (C := X) rfl Go.Proofs.Try.func46 rfl (by kernel_rfl)]
  simp only [go_sem, W_seq, WO_guard, Go.Proofs.Try.results46, Nat.reduceEqDiff, Nat.reduceAdd, reduceCtorEq]
  refine (w47 8 xs hsz lim (d + 1) _ (by omega) (und_new (und_succ hu) _ _ _)).wf ?_
  unfold joinN
  have hf := flatL_sz 8 xs
  generalize flatL 8 xs = f at hf
  simp only [go_sem, W_seq, WO_guard, encs_len, Nat.reduceEqDiff, Nat.reduceAdd, reduceCtorEq]
  by_cases h1 : f.length = 1
  · obtain ⟨x, rfl⟩ := List.length_eq_one_iff.1 h1
    simp only [go_sem, W_seq, WO_guard, encs, List.length_cons, List.length_nil, Nat.reduceEqDiff, Nat.reduceAdd, reduceCtorEq, Nat.reduceLeDiff, joinF, cut_und _ _ hu, Int.reduceLE, Int.reduceToNat, Int.natCast_one, beq_self_eq_true]
  · have e : ((f.length : Int) == 1) = false := by simp; omega
    simp only [go_sem, W_seq, WO_guard, e, Nat.reduceEqDiff, Nat.reduceAdd, reduceCtorEq, Nat.reduceLeDiff, joinF_ne h1, nd, enc, cut_und _ _ hu, Bool.false_eq_true]
theorem w34 (xs : List Nd) (hsz : szs xs ≤ 1000000) (lim d : Nat) (σ : Sto) (hlim : lim ≤ d) (hu : σ.Und d) : Ret lim d 34 [.sl .no (encs xs)] σ (.agg (enc (eitherN xs))) σ := by
  unfold Ret
  rw [WF_body (C := X) rfl Go.Proofs.Try.func34 rfl (by kernel_rfl)]
  simp only [go_sem, W_seq, WO_guard, Go.Proofs.Try.results34, Nat.reduceEqDiff, Nat.reduceAdd, reduceCtorEq]
  refine (w47 9 xs hsz lim (d + 1) _ (by omega) (und_new (und_succ hu) _ _ _)).wf ?_
  unfold eitherN
  have hf := flatL_sz 9 xs
  generalize flatL 9 xs = f at hf
  simp only [go_sem, W_seq, WO_guard, encs_len, Nat.reduceEqDiff, Nat.reduceAdd, reduceCtorEq]
  by_cases h0 : f.length = 0
  · have : f = [] := List.length_eq_zero_iff.1 h0
    subst this
    simp only [go_sem, W_seq, WO_guard, encs, List.length_cons, List.length_nil, Nat.reduceEqDiff, Nat.reduceAdd, reduceCtorEq, Nat.reduceLeDiff, eitherF, nd, enc, cut_und _ _ hu, Int.reduceLE, Int.reduceToNat, Int.natCast_one, Int.natCast_zero, beq_self_eq_true]
  · by_cases h1 : f.length = 1
    · obtain ⟨x, rfl⟩ := List.length_eq_one_iff.1 h1
      have e : ((1 : Int) == 0) = false := rfl
      simp only [go_sem, W_seq, WO_guard, e, encs, List.length_cons, List.length_nil, Nat.reduceEqDiff, Nat.reduceAdd, reduceCtorEq, Nat.reduceLeDiff, eitherF, cut_und _ _ hu, Int.reduceLE, Int.reduceToNat, Int.natCast_one, beq_self_eq_true, Bool.false_eq_true]
    · have e : ((f.length : Int) == 1) = false := by simp; omega
      have e' : ((f.length : Int) == 0) = false := by simp only [beq_eq_false_iff_ne, ne_eq]; omega
      simp only [go_sem, W_seq, WO_guard, e, e', Nat.reduceEqDiff, Nat.reduceAdd, reduceCtorEq, Nat.reduceLeDiff, eitherF_ne h0 h1, nd, enc, cut_und _ _ hu, Bool.false_eq_true]
end Go.Proofs.Try.E
