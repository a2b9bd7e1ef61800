/- Walks: what the functions compute. -/
import Derived.Test.YtklnfgmfcpcfcaaGreatDoorE10
set_option linter.unusedVariables false
set_option linter.unusedSimpArgs false
/- Whether a node is formed: the other side's parts. -/
namespace Go.Proofs.Tryz.E
open Go.Mv
set_option maxHeartbeats 4000000
set_option maxRecDepth 20000
theorem plainB_kd (kd c s0 s1 s2 s3 n mn mx : Int) (l : List Nd) (h : kd < 1 ∨ 10 < kd) : plainB (.mk kd c s0 s1 s2 s3 n mn mx l) = false := by
  rw [plain_eq]
  rcases h with h | h
  · simp [h]
  · simp [h]
theorem w48 (kd c s0 s1 s2 s3 n mn mx : Int) (l : List Nd) (lim d : Nat) (σ : Sto) (hu : σ.Und d) : Ret lim d 119 [.agg (enc (.mk kd c s0 s1 s2 s3 n mn mx l))] σ (.bool (plainB (.mk kd c s0 s1 s2 s3 n mn mx l))) σ := by
  unfold Ret
  rw [WF_body (C := X) rfl Go.Proofs.Tryz.func119 rfl (by kernel_rfl)]; simp only [Go.Proofs.Tryz.results119]
  by_cases h1 : kd = 1
  · subst h1
    simp -implicitDefEqProofs -dsimp only [↓reduceIte, ↓W_seq, go_sem, WR_nil, evNews, Nat.reduceEqDiff, Nat.reduceAdd, Nat.reduceMul, Nat.reduceLeDiff, Nat.reduceLT, Int.cast_ofNat_Int, Int.reduceBNe, Int.reduceToNat, Int.reduceLT, Int.reduceLE, Int.reduceAdd, Int.reduceNeg, Int.reduceEq, reduceCtorEq, enc, cut_und _ _ hu, encs_len]
    refine congrArg _ ?_
    rw [Bool.eq_iff_iff]
    simp only [plainB, Bool.and_eq_true, Bool.or_eq_true, beq_iff_eq, decide_eq_true_eq, Int.reduceEq, Int.reduceLE, Bool.false_eq_true, if_true, if_false, or_false, false_or, true_or, or_true, and_true, true_and]
    generalize l.length = q
    omega
  by_cases h2 : kd = 2
  · subst h2
    simp -implicitDefEqProofs -dsimp only [↓reduceIte, ↓W_seq, go_sem, WR_nil, evNews, Nat.reduceEqDiff, Nat.reduceAdd, Nat.reduceMul, Nat.reduceLeDiff, Nat.reduceLT, Int.cast_ofNat_Int, Int.reduceBNe, Int.reduceToNat, Int.reduceLT, Int.reduceLE, Int.reduceAdd, Int.reduceNeg, Int.reduceEq, reduceCtorEq, enc, cut_und _ _ hu, encs_len]
    refine congrArg _ ?_
    rw [Bool.eq_iff_iff]
    simp only [plainB, Bool.and_eq_true, Bool.or_eq_true, beq_iff_eq, decide_eq_true_eq, Int.reduceEq, Int.reduceLE, Bool.false_eq_true, if_true, if_false, or_false, false_or, true_or, or_true, and_true, true_and]
    generalize l.length = q
    omega
  by_cases h4 : kd = 4
  · subst h4
    simp -implicitDefEqProofs -dsimp only [↓reduceIte, ↓W_seq, go_sem, WR_nil, evNews, Nat.reduceEqDiff, Nat.reduceAdd, Nat.reduceMul, Nat.reduceLeDiff, Nat.reduceLT, Int.cast_ofNat_Int, Int.reduceBNe, Int.reduceToNat, Int.reduceLT, Int.reduceLE, Int.reduceAdd, Int.reduceNeg, Int.reduceEq, reduceCtorEq, enc, cut_und _ _ hu, encs_len]
    refine congrArg _ ?_
    rw [Bool.eq_iff_iff]
    simp only [plainB, Bool.and_eq_true, Bool.or_eq_true, beq_iff_eq, decide_eq_true_eq, Int.reduceEq, Int.reduceLE, Bool.false_eq_true, if_true, if_false, or_false, false_or, true_or, or_true, and_true, true_and]
    generalize l.length = q
    omega
  by_cases h5 : kd = 5
  · subst h5
    simp -implicitDefEqProofs -dsimp only [↓reduceIte, ↓W_seq, go_sem, WR_nil, evNews, Nat.reduceEqDiff, Nat.reduceAdd, Nat.reduceMul, Nat.reduceLeDiff, Nat.reduceLT, Int.cast_ofNat_Int, Int.reduceBNe, Int.reduceToNat, Int.reduceLT, Int.reduceLE, Int.reduceAdd, Int.reduceNeg, Int.reduceEq, reduceCtorEq, enc, cut_und _ _ hu, encs_len]
    refine congrArg _ ?_
    rw [Bool.eq_iff_iff]
    simp only [plainB, Bool.and_eq_true, Bool.or_eq_true, beq_iff_eq, decide_eq_true_eq, Int.reduceEq, Int.reduceLE, Bool.false_eq_true, if_true, if_false, or_false, false_or, true_or, or_true, and_true, true_and]
    generalize l.length = q
    omega
  by_cases h3 : kd = 3
  · subst h3
    simp -implicitDefEqProofs -dsimp only [↓reduceIte, ↓W_seq, go_sem, WR_nil, evNews, Nat.reduceEqDiff, Nat.reduceAdd, Nat.reduceMul, Nat.reduceLeDiff, Nat.reduceLT, Int.cast_ofNat_Int, Int.reduceBNe, Int.reduceToNat, Int.reduceLT, Int.reduceLE, Int.reduceAdd, Int.reduceNeg, Int.reduceEq, reduceCtorEq, enc, cut_und _ _ hu, encs_len]
    refine congrArg _ ?_
    rw [Bool.eq_iff_iff]
    simp only [plainB, Bool.and_eq_true, Bool.or_eq_true, beq_iff_eq, decide_eq_true_eq, Int.reduceEq, Int.reduceLE, Bool.false_eq_true, if_true, if_false, or_false, false_or, true_or, or_true, and_true, true_and]
    generalize l.length = q
    omega
  by_cases h6 : kd = 6
  · subst h6
    simp -implicitDefEqProofs -dsimp only [↓reduceIte, ↓W_seq, go_sem, WR_nil, evNews, Nat.reduceEqDiff, Nat.reduceAdd, Nat.reduceMul, Nat.reduceLeDiff, Nat.reduceLT, Int.cast_ofNat_Int, Int.reduceBNe, Int.reduceToNat, Int.reduceLT, Int.reduceLE, Int.reduceAdd, Int.reduceNeg, Int.reduceEq, reduceCtorEq, enc, cut_und _ _ hu, encs_len]
    refine congrArg _ ?_
    rw [Bool.eq_iff_iff]
    simp only [plainB, Bool.and_eq_true, Bool.or_eq_true, beq_iff_eq, decide_eq_true_eq, Int.reduceEq, Int.reduceLE, Bool.false_eq_true, if_true, if_false, or_false, false_or, true_or, or_true, and_true, true_and]
    generalize l.length = q
    omega
  by_cases h7 : kd = 7
  · subst h7
    simp -implicitDefEqProofs -dsimp only [↓reduceIte, ↓W_seq, go_sem, WR_nil, evNews, Nat.reduceEqDiff, Nat.reduceAdd, Nat.reduceMul, Nat.reduceLeDiff, Nat.reduceLT, Int.cast_ofNat_Int, Int.reduceBNe, Int.reduceToNat, Int.reduceLT, Int.reduceLE, Int.reduceAdd, Int.reduceNeg, Int.reduceEq, reduceCtorEq, enc, cut_und _ _ hu, encs_len]
    refine congrArg _ ?_
    rw [Bool.eq_iff_iff]
    simp only [plainB, Bool.and_eq_true, Bool.or_eq_true, beq_iff_eq, decide_eq_true_eq, Int.reduceEq, Int.reduceLE, Bool.false_eq_true, if_true, if_false, or_false, false_or, true_or, or_true, and_true, true_and]
    generalize l.length = q
    omega
  by_cases h8 : kd = 8
  · subst h8
    simp -implicitDefEqProofs -dsimp only [↓reduceIte, ↓W_seq, go_sem, WR_nil, evNews, Nat.reduceEqDiff, Nat.reduceAdd, Nat.reduceMul, Nat.reduceLeDiff, Nat.reduceLT, Int.cast_ofNat_Int, Int.reduceBNe, Int.reduceToNat, Int.reduceLT, Int.reduceLE, Int.reduceAdd, Int.reduceNeg, Int.reduceEq, reduceCtorEq, enc, cut_und _ _ hu, encs_len]
    refine congrArg _ ?_
    rw [Bool.eq_iff_iff]
    simp only [plainB, Bool.and_eq_true, Bool.or_eq_true, beq_iff_eq, decide_eq_true_eq, Int.reduceEq, Int.reduceLE, Bool.false_eq_true, if_true, if_false, or_false, false_or, true_or, or_true, and_true, true_and]
    generalize l.length = q
    omega
  by_cases h9 : kd = 9
  · subst h9
    simp -implicitDefEqProofs -dsimp only [↓reduceIte, ↓W_seq, go_sem, WR_nil, evNews, Nat.reduceEqDiff, Nat.reduceAdd, Nat.reduceMul, Nat.reduceLeDiff, Nat.reduceLT, Int.cast_ofNat_Int, Int.reduceBNe, Int.reduceToNat, Int.reduceLT, Int.reduceLE, Int.reduceAdd, Int.reduceNeg, Int.reduceEq, reduceCtorEq, enc, cut_und _ _ hu, encs_len]
    refine congrArg _ ?_
    rw [Bool.eq_iff_iff]
    simp only [plainB, Bool.and_eq_true, Bool.or_eq_true, beq_iff_eq, decide_eq_true_eq, Int.reduceEq, Int.reduceLE, Bool.false_eq_true, if_true, if_false, or_false, false_or, true_or, or_true, and_true, true_and]
    generalize l.length = q
    omega
  by_cases h10 : kd = 10
  · subst h10
    simp -implicitDefEqProofs -dsimp only [↓reduceIte, ↓W_seq, go_sem, WR_nil, evNews, Nat.reduceEqDiff, Nat.reduceAdd, Nat.reduceMul, Nat.reduceLeDiff, Nat.reduceLT, Int.cast_ofNat_Int, Int.reduceBNe, Int.reduceToNat, Int.reduceLT, Int.reduceLE, Int.reduceAdd, Int.reduceNeg, Int.reduceEq, reduceCtorEq, enc, cut_und _ _ hu, encs_len]
    rw [D_lx [.tmp 46] (by kernel_rfl) (by kernel_rfl)]; simp -implicitDefEqProofs -dsimp only [↓reduceIte, ↓W_seq, go_sem, WR_nil, evNews, Nat.reduceEqDiff, Nat.reduceAdd, Nat.reduceMul, Nat.reduceLeDiff, Nat.reduceLT, Int.cast_ofNat_Int, Int.reduceBNe, Int.reduceToNat, Int.reduceLT, Int.reduceLE, Int.reduceAdd, Int.reduceNeg, Int.reduceEq, reduceCtorEq, enc, List.takeWhile_cons, List.dropWhile_cons, List.takeWhile_nil, List.dropWhile_nil, isTail, evNews, List.mem_cons, List.not_mem_nil, or_false, false_or, not_false_eq_true, not_true_eq_false, decide_true, decide_false, Bool.not_true, Bool.not_false, if_true, if_false, forall_eq, forall_eq_or_imp, false_imp_iff, implies_true, ne_eq, ct_lt1, ct_lt2, ct_lt3, ct_lt4, ct_lt5, cut_und _ _ hu, encs_len]
    refine congrArg _ ?_
    rw [Bool.eq_iff_iff]
    simp only [plainB, Bool.and_eq_true, Bool.or_eq_true, beq_iff_eq, decide_eq_true_eq, Int.reduceEq, Int.reduceLE, Bool.false_eq_true, if_true, if_false, or_false, false_or, true_or, or_true, and_true, true_and]
    generalize l.length = q
    omega
  simp -implicitDefEqProofs -dsimp only [↓reduceIte, ↓W_seq, go_sem, WR_nil, evNews, Nat.reduceEqDiff, Nat.reduceAdd, Nat.reduceMul, Nat.reduceLeDiff, Nat.reduceLT, Int.cast_ofNat_Int, Int.reduceBNe, Int.reduceToNat, Int.reduceLT, Int.reduceLE, Int.reduceAdd, Int.reduceNeg, Int.reduceEq, reduceCtorEq, enc, cut_und _ _ hu, encs_len, (beq_eq_false_iff_ne.2 h1 : (kd == 1) = false), (beq_eq_false_iff_ne.2 h2 : (kd == 2) = false), (beq_eq_false_iff_ne.2 h4 : (kd == 4) = false), (beq_eq_false_iff_ne.2 h5 : (kd == 5) = false), (beq_eq_false_iff_ne.2 h3 : (kd == 3) = false), (beq_eq_false_iff_ne.2 h6 : (kd == 6) = false), (beq_eq_false_iff_ne.2 h7 : (kd == 7) = false), (beq_eq_false_iff_ne.2 h8 : (kd == 8) = false), (beq_eq_false_iff_ne.2 h9 : (kd == 9) = false), (beq_eq_false_iff_ne.2 h10 : (kd == 10) = false)]
  rw [plainB_kd _ _ _ _ _ _ _ _ _ _ (by omega)]
end Go.Proofs.Tryz.E
