/- Walks: what the functions compute. -/
import Derived.Test.YtgdecplonaaahaaGreatDoorB8
set_option linter.unusedVariables false
set_option linter.unusedSimpArgs false
/- The law BreTurned's value: a text with a byte more, less or another one is a text. -/
namespace Go.Proofs.Tryz.E
open Go.Mv
set_option maxHeartbeats 4000000
set_option maxRecDepth 20000
theorem wru64 (x : Int) (h : 0 ≤ x) (h2 : x < 18446744073709551616) : IntKind.u64.wrap x = x := by
  have : IntKind.u64.wrap x = x % 18446744073709551616 := by
    simp [IntKind.wrap, IntKind.bits, IntKind.signed]
  rw [this]; omega
@[go_sem] theorem cvt_by (tk : Tok) (n : Int) : cvtO X.P 43 9 (.sl tk [[.int .u8 n]]) = some (.str [UInt8.ofNat n.toNat]) := by
  have h1 : X.P.underlying 43 = some (.slice 5) := by kernel_rfl
  have h2 : X.P.underlying 9 = some .string := by kernel_rfl
  have h3 : X.P.underlying 5 = some (.int .u8) := by kernel_rfl
  simp only [cvtO, h1, h2, h3, bytesOf, Option.map_some]
theorem w202 (s : List UInt8) (n : Nat) (hn : n < 18446744073709551616) (b h : UInt8) (lim d : Nat) (hlim : lim ≤ d) (σ : Sto) (hu : σ.Und d) : Ret lim d 4 [.str s, .int .u64 n, .int .u8 b.toNat, .int .u8 h.toNat] σ (.bool true) σ := by
  have hun := und_succ hu
  have hb := b.toNat_lt
  have hh := h.toNat_lt
  unfold Ret
  rw [WF_body (C := X) rfl Go.Proofs.Tryz.func4 rfl (by kernel_rfl)]; simp only [Go.Proofs.Tryz.results4]
  simp -implicitDefEqProofs -dsimp only [↓reduceIte, not_false_eq_true, ↓W_seq, go_sem, WR_nil, evNews, if_true, if_false, and_true, true_and, Nat.reduceEqDiff, Nat.reduceAdd, Nat.reduceMul, Nat.reduceLeDiff, Nat.reduceLT, Int.cast_ofNat_Int, Int.reduceBNe, Int.reduceToNat, Int.reduceLT, Int.reduceLE, Int.reduceToNat, Int.reduceAdd, Int.reduceNeg, Int.natCast_zero, Int.natCast_one, Int.le_refl, Int.reduceEq, Int.lt_irrefl, reduceCtorEq, enc]
  refine (w203 lim (d + 1) (by omega) _ hun).wh ?_
  by_cases hl : 500 < s.length
  · have e1 : (500 : Int) < (s.length : Int) := by omega
    simp -implicitDefEqProofs -dsimp only [↓reduceIte, not_false_eq_true, ↓W_seq, go_sem, WR_nil, evNews, if_true, if_false, and_true, true_and, Nat.reduceEqDiff, Nat.reduceAdd, Nat.reduceMul, Nat.reduceLeDiff, Nat.reduceLT, Int.cast_ofNat_Int, Int.reduceBNe, Int.reduceToNat, Int.reduceLT, Int.reduceLE, Int.reduceToNat, Int.reduceAdd, Int.reduceNeg, Int.natCast_zero, Int.natCast_one, Int.le_refl, Int.reduceEq, Int.lt_irrefl, reduceCtorEq, enc, e1]
    refine (w203 lim (d + 1) (by omega) _ hun).wh ?_
    simp -implicitDefEqProofs -dsimp only [↓reduceIte, not_false_eq_true, ↓W_seq, go_sem, WR_nil, evNews, if_true, if_false, and_true, true_and, Nat.reduceEqDiff, Nat.reduceAdd, Nat.reduceMul, Nat.reduceLeDiff, Nat.reduceLT, Int.cast_ofNat_Int, Int.reduceBNe, Int.reduceToNat, Int.reduceLT, Int.reduceLE, Int.reduceToNat, Int.reduceAdd, Int.reduceNeg, Int.natCast_zero, Int.natCast_one, Int.le_refl, Int.reduceEq, Int.lt_irrefl, reduceCtorEq, enc, cut_und _ _ hu]
  have e1 : ¬ (500 : Int) < (s.length : Int) := by omega
  by_cases h0 : s.length = 0
  · simp -implicitDefEqProofs -dsimp only [↓reduceIte, not_false_eq_true, ↓W_seq, go_sem, WR_nil, evNews, if_true, if_false, and_true, true_and, Nat.reduceEqDiff, Nat.reduceAdd, Nat.reduceMul, Nat.reduceLeDiff, Nat.reduceLT, Int.cast_ofNat_Int, Int.reduceBNe, Int.reduceToNat, Int.reduceLT, Int.reduceLE, Int.reduceToNat, Int.reduceAdd, Int.reduceNeg, Int.natCast_zero, Int.natCast_one, Int.le_refl, Int.reduceEq, Int.lt_irrefl, reduceCtorEq, enc, h0]
    refine (w203 lim (d + 1) (by omega) _ hun).wh ?_
    simp -implicitDefEqProofs -dsimp only [↓reduceIte, not_false_eq_true, ↓W_seq, go_sem, WR_nil, evNews, if_true, if_false, and_true, true_and, Nat.reduceEqDiff, Nat.reduceAdd, Nat.reduceMul, Nat.reduceLeDiff, Nat.reduceLT, Int.cast_ofNat_Int, Int.reduceBNe, Int.reduceToNat, Int.reduceLT, Int.reduceLE, Int.reduceToNat, Int.reduceAdd, Int.reduceNeg, Int.natCast_zero, Int.natCast_one, Int.le_refl, Int.reduceEq, Int.lt_irrefl, reduceCtorEq, enc, cut_und _ _ hu]
  have e2 : ((s.length : Int) == 0) = false := by rw [beq_eq_false_iff_ne]; omega
  have x1 := wru64 (s.length : Int) (by omega) (by omega)
  have x2 : ((n : Int).tmod (s.length : Int)) = ((n % s.length : Nat) : Int) := (Int.ofNat_tmod n s.length).symm
  have hk : n % s.length < s.length := Nat.mod_lt _ (by omega)
  have x3 := wr64 ((n % s.length : Nat) : Int) (by omega) (by omega)
  have x4 : ((h.toNat : Int).tmod 3) = ((h.toNat % 3 : Nat) : Int) := (Int.ofNat_tmod h.toNat 3).symm
  have hm : h.toNat % 3 < 3 := Nat.mod_lt _ (by omega)
  generalize n % s.length = k at x2 x3 hk
  generalize h.toNat % 3 = m at x4 hm
  have x5 : ¬ ((s.length : Int) = 0) := by omega
  have x6 : (0 : Int) ≤ (k : Int) ∧ (k : Int) ≤ (s.length : Int) := by omega
  have x7 : (0 : Int) ≤ (k : Int) + 1 ∧ (k : Int) + 1 ≤ (s.length : Int) := by omega
  have x8 := wr64 ((k : Int) + 1) (by omega) (by omega)
  simp -implicitDefEqProofs -dsimp only [↓reduceIte, not_false_eq_true, ↓W_seq, go_sem, WR_nil, evNews, if_true, if_false, and_true, true_and, Nat.reduceEqDiff, Nat.reduceAdd, Nat.reduceMul, Nat.reduceLeDiff, Nat.reduceLT, Int.cast_ofNat_Int, Int.reduceBNe, Int.reduceToNat, Int.reduceLT, Int.reduceLE, Int.reduceToNat, Int.reduceAdd, Int.reduceNeg, Int.natCast_zero, Int.natCast_one, Int.le_refl, Int.reduceEq, Int.lt_irrefl, reduceCtorEq, enc, e1, e2, x1, x2, x3, x4, x5]
  rcases (by omega : m = 0 ∨ m = 1 ∨ m = 2) with rfl | rfl | rfl
  · simp -implicitDefEqProofs -dsimp only [↓reduceIte, not_false_eq_true, ↓W_seq, go_sem, WR_nil, evNews, if_true, if_false, and_true, true_and, Nat.reduceEqDiff, Nat.reduceAdd, Nat.reduceMul, Nat.reduceLeDiff, Nat.reduceLT, Int.cast_ofNat_Int, Int.reduceBNe, Int.reduceToNat, Int.reduceLT, Int.reduceLE, Int.reduceToNat, Int.reduceAdd, Int.reduceNeg, Int.natCast_zero, Int.natCast_one, Int.le_refl, Int.reduceEq, Int.lt_irrefl, reduceCtorEq, enc]
    rw [D_dr (by kernel_rfl) rfl]
    simp -implicitDefEqProofs -dsimp only [↓reduceIte, not_false_eq_true, ↓W_seq, go_sem, WR_nil, evNews, if_true, if_false, and_true, true_and, Nat.reduceEqDiff, Nat.reduceAdd, Nat.reduceMul, Nat.reduceLeDiff, Nat.reduceLT, Int.cast_ofNat_Int, Int.reduceBNe, Int.reduceToNat, Int.reduceLT, Int.reduceLE, Int.reduceToNat, Int.reduceAdd, Int.reduceNeg, Int.natCast_zero, Int.natCast_one, Int.le_refl, Int.reduceEq, Int.lt_irrefl, reduceCtorEq, enc, bnd, x6]
    refine ⟨by simp; omega, by simp; omega, (w201 _ (d + 1) (d + 1) (Nat.le_refl _) σ hun).wh ?_⟩
    simp -implicitDefEqProofs -dsimp only [↓reduceIte, not_false_eq_true, ↓W_seq, go_sem, WR_nil, evNews, if_true, if_false, and_true, true_and, Nat.reduceEqDiff, Nat.reduceAdd, Nat.reduceMul, Nat.reduceLeDiff, Nat.reduceLT, Int.cast_ofNat_Int, Int.reduceBNe, Int.reduceToNat, Int.reduceLT, Int.reduceLE, Int.reduceToNat, Int.reduceAdd, Int.reduceNeg, Int.natCast_zero, Int.natCast_one, Int.le_refl, Int.reduceEq, Int.lt_irrefl, reduceCtorEq, enc, cut_und _ _ hu]
  · simp -implicitDefEqProofs -dsimp only [↓reduceIte, not_false_eq_true, ↓W_seq, go_sem, WR_nil, evNews, if_true, if_false, and_true, true_and, Nat.reduceEqDiff, Nat.reduceAdd, Nat.reduceMul, Nat.reduceLeDiff, Nat.reduceLT, Int.cast_ofNat_Int, Int.reduceBNe, Int.reduceToNat, Int.reduceLT, Int.reduceLE, Int.reduceToNat, Int.reduceAdd, Int.reduceNeg, Int.natCast_zero, Int.natCast_one, Int.le_refl, Int.reduceEq, Int.lt_irrefl, reduceCtorEq, enc]
    rw [D_dr (by kernel_rfl) rfl]
    simp -implicitDefEqProofs -dsimp only [↓reduceIte, not_false_eq_true, ↓W_seq, go_sem, WR_nil, evNews, if_true, if_false, and_true, true_and, Nat.reduceEqDiff, Nat.reduceAdd, Nat.reduceMul, Nat.reduceLeDiff, Nat.reduceLT, Int.cast_ofNat_Int, Int.reduceBNe, Int.reduceToNat, Int.reduceLT, Int.reduceLE, Int.reduceToNat, Int.reduceAdd, Int.reduceNeg, Int.natCast_zero, Int.natCast_one, Int.le_refl, Int.reduceEq, Int.lt_irrefl, reduceCtorEq, enc, bnd, x6, x8, x7]
    refine ⟨by simp; omega, (w201 _ (d + 1) (d + 1) (Nat.le_refl _) σ hun).wh ?_⟩
    simp -implicitDefEqProofs -dsimp only [↓reduceIte, not_false_eq_true, ↓W_seq, go_sem, WR_nil, evNews, if_true, if_false, and_true, true_and, Nat.reduceEqDiff, Nat.reduceAdd, Nat.reduceMul, Nat.reduceLeDiff, Nat.reduceLT, Int.cast_ofNat_Int, Int.reduceBNe, Int.reduceToNat, Int.reduceLT, Int.reduceLE, Int.reduceToNat, Int.reduceAdd, Int.reduceNeg, Int.natCast_zero, Int.natCast_one, Int.le_refl, Int.reduceEq, Int.lt_irrefl, reduceCtorEq, enc, cut_und _ _ hu]
  · simp -implicitDefEqProofs -dsimp only [↓reduceIte, not_false_eq_true, ↓W_seq, go_sem, WR_nil, evNews, if_true, if_false, and_true, true_and, Nat.reduceEqDiff, Nat.reduceAdd, Nat.reduceMul, Nat.reduceLeDiff, Nat.reduceLT, Int.cast_ofNat_Int, Int.reduceBNe, Int.reduceToNat, Int.reduceLT, Int.reduceLE, Int.reduceToNat, Int.reduceAdd, Int.reduceNeg, Int.natCast_zero, Int.natCast_one, Int.le_refl, Int.reduceEq, Int.lt_irrefl, reduceCtorEq, enc]
    rw [D_dr (by kernel_rfl) rfl]
    simp -implicitDefEqProofs -dsimp only [↓reduceIte, not_false_eq_true, ↓W_seq, go_sem, WR_nil, evNews, if_true, if_false, and_true, true_and, Nat.reduceEqDiff, Nat.reduceAdd, Nat.reduceMul, Nat.reduceLeDiff, Nat.reduceLT, Int.cast_ofNat_Int, Int.reduceBNe, Int.reduceToNat, Int.reduceLT, Int.reduceLE, Int.reduceToNat, Int.reduceAdd, Int.reduceNeg, Int.natCast_zero, Int.natCast_one, Int.le_refl, Int.reduceEq, Int.lt_irrefl, reduceCtorEq, enc, bnd, x6, x8, x7]
    refine ⟨by simp; omega, by simp; omega, (w201 _ (d + 1) (d + 1) (Nat.le_refl _) σ hun).wh ?_⟩
    simp -implicitDefEqProofs -dsimp only [↓reduceIte, not_false_eq_true, ↓W_seq, go_sem, WR_nil, evNews, if_true, if_false, and_true, true_and, Nat.reduceEqDiff, Nat.reduceAdd, Nat.reduceMul, Nat.reduceLeDiff, Nat.reduceLT, Int.cast_ofNat_Int, Int.reduceBNe, Int.reduceToNat, Int.reduceLT, Int.reduceLE, Int.reduceToNat, Int.reduceAdd, Int.reduceNeg, Int.natCast_zero, Int.natCast_one, Int.le_refl, Int.reduceEq, Int.lt_irrefl, reduceCtorEq, enc, cut_und _ _ hu]
end Go.Proofs.Tryz.E
