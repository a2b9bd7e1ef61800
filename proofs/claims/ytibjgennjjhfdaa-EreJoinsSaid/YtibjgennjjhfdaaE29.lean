/- Walks: what the functions compute. -/
import Derived.Test.YtibjgennjjhfdaaE28
set_option linter.unusedVariables false
set_option linter.unusedSimpArgs false
/- Any text is read, or refused: the program. -/
namespace Go.Proofs.Try.E
open Go.Mv
set_option maxHeartbeats 4000000
set_option maxRecDepth 20000
/-- A pattern's node, the place of what is wrong, and the error's number. -/
def parseS (s : List UInt8) : Nd × Int × Int :=
  let x := parS s 10 ⟨0, 0, false⟩
  if (x.2.bad || (x.2.nx s).isSome) = true then (z0, x.2.at', 10) else if formedB x.1 = true then (x.1, 0, 0) else (z0, s.length, 10)
theorem parse_eq (s : List UInt8) : parseS s = if ((parS s 10 ⟨0, 0, false⟩).2.bad || ((parS s 10 ⟨0, 0, false⟩).2.nx s).isSome) = true then (z0, ((parS s 10 ⟨0, 0, false⟩).2.at' : Int), 10) else if formedB (parS s 10 ⟨0, 0, false⟩).1 = true then ((parS s 10 ⟨0, 0, false⟩).1, 0, 0) else (z0, (s.length : Int), 10) := rfl
def parseV (s : List UInt8) : MV := .tup [.agg (enc (parseS s).1), .int .i64 (parseS s).2.1, .int .i64 (parseS s).2.2]
theorem w8 (s : List UInt8) (hs : s.length ≤ 100000) (lim d : Nat) (hlim : lim ≤ d) (σ : Sto) (hu : σ.Und d) : Ret lim d 8 [.str s] σ (parseV s) σ := by
  have hun := und_succ hu
  obtain ⟨G, hw⟩ := hr_par s hs 10 ⟨0, 0, false⟩ rfl (by simp) (by simp) (by simp)
  unfold Ret parseV
  rw [parse_eq]
  rw [WF_body (C := X) rfl Go.Proofs.Try.func8 rfl (by kernel_rfl)]; simp only [Go.Proofs.Try.results8]
  simp -implicitDefEqProofs -dsimp only [↓reduceIte, not_false_eq_true, ↓W_seq, go_sem, WR_nil, evNews, if_true, if_false, and_true, true_and, Nat.reduceEqDiff, Nat.reduceAdd, Nat.reduceMul, Nat.reduceLeDiff, Nat.reduceLT, Int.cast_ofNat_Int, Int.reduceBNe, Int.reduceToNat, Int.reduceLT, Int.reduceLE, Int.reduceToNat, Int.reduceAdd, Int.reduceNeg, Int.natCast_zero, Int.natCast_one, Int.le_refl, Int.reduceEq, Int.lt_irrefl, reduceCtorEq, enc]
  rw [show [MV.str s, MV.int .i64 0, MV.int .i64 0, MV.int .i64 (-1)] = encP s ⟨0, 0, false⟩ from rfl]
  refine (hw lim (d + 1) ⟨d, 11, σ.ct d + 1⟩ _ (Nat.lt_succ_self d) hlim ?_ ?_).wh ?_
  · simp only [u_tick, u_mine]; exact hun
  · simp only [go_sem, if_true]
  generalize parS s 10 ⟨0, 0, false⟩ = x at G
  obtain ⟨y, r⟩ := x
  have g2 := G.in'
  have hsz : sz y ≤ 1000000 := by
    cases hbb : r.bad with
    | false => have := (G.good hbb).2; simp only at this g2; omega
    | true => have := G.bad' hbb; simp only at this g2; omega
  simp only at g2 ⊢
  simp -implicitDefEqProofs -dsimp only [↓reduceIte, not_false_eq_true, ↓W_seq, go_sem, WR_nil, evNews, if_true, if_false, and_true, true_and, Nat.reduceEqDiff, Nat.reduceAdd, Nat.reduceMul, Nat.reduceLeDiff, Nat.reduceLT, Int.cast_ofNat_Int, Int.reduceBNe, Int.reduceToNat, Int.reduceLT, Int.reduceLE, Int.reduceToNat, Int.reduceAdd, Int.reduceNeg, Int.natCast_zero, Int.natCast_one, Int.le_refl, Int.reduceEq, Int.lt_irrefl, reduceCtorEq, enc]
  refine (w20 s r (by omega) ⟨d, 11, σ.ct d + 1⟩ lim (d + 1) (Nat.lt_succ_self d) _ ?_ ?_).wh ?_
  · simp only [u_tick, u_mine]; exact hun
  · simp only [go_sem, Nat.reduceEqDiff, and_false, false_and, if_false, if_true]
  cases hnx : r.nx s with
  | none =>
    cases hbb : r.bad
    · have hgood := encP_good s r hbb
      have e1 : ¬ ((0 : Int) ≤ -1) := by decide
      simp -implicitDefEqProofs -dsimp only [↓reduceIte, not_false_eq_true, ↓W_seq, go_sem, WR_nil, evNews, if_true, if_false, and_true, true_and, Nat.reduceEqDiff, Nat.reduceAdd, Nat.reduceMul, Nat.reduceLeDiff, Nat.reduceLT, Int.cast_ofNat_Int, Int.reduceBNe, Int.reduceToNat, Int.reduceLT, Int.reduceLE, Int.reduceToNat, Int.reduceAdd, Int.reduceNeg, Int.natCast_zero, Int.natCast_one, Int.le_refl, Int.reduceEq, Int.lt_irrefl, reduceCtorEq, enc, pkV_none, hgood, e1, Option.isSome_none]
      refine (w12 y hsz lim (d + 1) _ (by omega) ?_).wh ?_
      · simp only [u_tick, u_mine]; exact hun
      cases formedB y
      · simp -implicitDefEqProofs -dsimp only [↓reduceIte, not_false_eq_true, ↓W_seq, go_sem, WR_nil, evNews, if_true, if_false, and_true, true_and, Nat.reduceEqDiff, Nat.reduceAdd, Nat.reduceMul, Nat.reduceLeDiff, Nat.reduceLT, Int.cast_ofNat_Int, Int.reduceBNe, Int.reduceToNat, Int.reduceLT, Int.reduceLE, Int.reduceToNat, Int.reduceAdd, Int.reduceNeg, Int.natCast_zero, Int.natCast_one, Int.le_refl, Int.reduceEq, Int.lt_irrefl, reduceCtorEq, enc, z0, encs, cut_und _ _ hu, Option.isSome_none]
      · simp -implicitDefEqProofs -dsimp only [↓reduceIte, not_false_eq_true, ↓W_seq, go_sem, WR_nil, evNews, if_true, if_false, and_true, true_and, Nat.reduceEqDiff, Nat.reduceAdd, Nat.reduceMul, Nat.reduceLeDiff, Nat.reduceLT, Int.cast_ofNat_Int, Int.reduceBNe, Int.reduceToNat, Int.reduceLT, Int.reduceLE, Int.reduceToNat, Int.reduceAdd, Int.reduceNeg, Int.natCast_zero, Int.natCast_one, Int.le_refl, Int.reduceEq, Int.lt_irrefl, reduceCtorEq, enc, cut_und _ _ hu, Option.isSome_none]
    · have hbd : encP s r = [.str s, .int .i64 r.at', .int .i64 r.g, .int .i64 r.at'] := by simp only [encP, hbb, if_true]
      have e1 : ((0 : Int) ≤ (r.at' : Int)) := by omega
      simp -implicitDefEqProofs -dsimp only [↓reduceIte, not_false_eq_true, ↓W_seq, go_sem, WR_nil, evNews, if_true, if_false, and_true, true_and, Nat.reduceEqDiff, Nat.reduceAdd, Nat.reduceMul, Nat.reduceLeDiff, Nat.reduceLT, Int.cast_ofNat_Int, Int.reduceBNe, Int.reduceToNat, Int.reduceLT, Int.reduceLE, Int.reduceToNat, Int.reduceAdd, Int.reduceNeg, Int.natCast_zero, Int.natCast_one, Int.le_refl, Int.reduceEq, Int.lt_irrefl, reduceCtorEq, enc, pkV_none, hbd, e1]
      rw [D_lx [.tmp 31] (by kernel_rfl) (by kernel_rfl)]; simp -implicitDefEqProofs -dsimp only [↓reduceIte, not_false_eq_true, ↓W_seq, go_sem, WR_nil, evNews, if_true, if_false, and_true, true_and, Nat.reduceEqDiff, Nat.reduceAdd, Nat.reduceMul, Nat.reduceLeDiff, Nat.reduceLT, Int.cast_ofNat_Int, Int.reduceBNe, Int.reduceToNat, Int.reduceLT, Int.reduceLE, Int.reduceToNat, Int.reduceAdd, Int.reduceNeg, Int.natCast_zero, Int.natCast_one, Int.le_refl, Int.reduceEq, Int.lt_irrefl, reduceCtorEq, enc, List.takeWhile_cons, List.dropWhile_cons, List.takeWhile_nil, List.dropWhile_nil, isTail, evNews, List.mem_cons, List.not_mem_nil, or_false, false_or, not_false_eq_true, not_true_eq_false, decide_true, decide_false, Bool.not_true, Bool.not_false, if_true, if_false, forall_eq, forall_eq_or_imp, false_imp_iff, implies_true, ne_eq, ct_lt1, ct_lt2, ct_lt3, ct_lt4, ct_lt5]
      exact ⟨rfl, cut_und _ _ hu⟩
  | some c =>
    obtain ⟨b1, b2, b3⟩ := nx_some hnx
    have hbd : encP s r.fail = [.str s, .int .i64 r.at', .int .i64 r.g, .int .i64 r.at'] := by simp only [encP, Rd.fail, if_true]
    have e1 : ((0 : Int) ≤ (r.at' : Int)) := by omega
    simp -implicitDefEqProofs -dsimp only [↓reduceIte, not_false_eq_true, ↓W_seq, go_sem, WR_nil, evNews, if_true, if_false, and_true, true_and, Nat.reduceEqDiff, Nat.reduceAdd, Nat.reduceMul, Nat.reduceLeDiff, Nat.reduceLT, Int.cast_ofNat_Int, Int.reduceBNe, Int.reduceToNat, Int.reduceLT, Int.reduceLE, Int.reduceToNat, Int.reduceAdd, Int.reduceNeg, Int.natCast_zero, Int.natCast_one, Int.le_refl, Int.reduceEq, Int.lt_irrefl, reduceCtorEq, enc, pkV_some]
    refine (w21 s r ⟨d, 11, σ.ct d + 1⟩ lim (d + 1) (Nat.lt_succ_self d) hlim _ ?_ ?_).wh ?_
    · simp only [u_tick, u_mine]; exact hun
    · simp only [go_sem, Nat.reduceEqDiff, and_false, false_and, if_false, if_true]
    simp -implicitDefEqProofs -dsimp only [↓reduceIte, not_false_eq_true, ↓W_seq, go_sem, WR_nil, evNews, if_true, if_false, and_true, true_and, Nat.reduceEqDiff, Nat.reduceAdd, Nat.reduceMul, Nat.reduceLeDiff, Nat.reduceLT, Int.cast_ofNat_Int, Int.reduceBNe, Int.reduceToNat, Int.reduceLT, Int.reduceLE, Int.reduceToNat, Int.reduceAdd, Int.reduceNeg, Int.natCast_zero, Int.natCast_one, Int.le_refl, Int.reduceEq, Int.lt_irrefl, reduceCtorEq, enc, hbd, e1]
    rw [D_lx [.tmp 31] (by kernel_rfl) (by kernel_rfl)]; simp -implicitDefEqProofs -dsimp only [↓reduceIte, not_false_eq_true, ↓W_seq, go_sem, WR_nil, evNews, if_true, if_false, and_true, true_and, Nat.reduceEqDiff, Nat.reduceAdd, Nat.reduceMul, Nat.reduceLeDiff, Nat.reduceLT, Int.cast_ofNat_Int, Int.reduceBNe, Int.reduceToNat, Int.reduceLT, Int.reduceLE, Int.reduceToNat, Int.reduceAdd, Int.reduceNeg, Int.natCast_zero, Int.natCast_one, Int.le_refl, Int.reduceEq, Int.lt_irrefl, reduceCtorEq, enc, List.takeWhile_cons, List.dropWhile_cons, List.takeWhile_nil, List.dropWhile_nil, isTail, evNews, List.mem_cons, List.not_mem_nil, or_false, false_or, not_false_eq_true, not_true_eq_false, decide_true, decide_false, Bool.not_true, Bool.not_false, if_true, if_false, forall_eq, forall_eq_or_imp, false_imp_iff, implies_true, ne_eq, ct_lt1, ct_lt2, ct_lt3, ct_lt4, ct_lt5, Option.isSome_some, b1]
    exact ⟨rfl, cut_und _ _ hu⟩
end Go.Proofs.Try.E
