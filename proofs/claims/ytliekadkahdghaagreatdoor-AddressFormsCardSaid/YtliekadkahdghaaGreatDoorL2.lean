/- Walks: what the functions compute. -/
import Derived.Test.YtliekadkahdghaaGreatDoorL1
set_option linter.unusedVariables false
set_option linter.unusedSimpArgs false
/- The lexer: blanks, numbers. -/
namespace Go.Proofs.Tryz.E
open Go.Mv
set_option maxHeartbeats 4000000
set_option maxRecDepth 20000
theorem wh221a (t : List UInt8) (lim d : Nat) (σ : Sto) {Q : MV → Sto → Prop} (hq : Q (.str (t.dropWhile digB)) σ) : WFh X lim d 39 [.str t, .str [48, 49, 50, 51, 52, 53, 54, 55, 56, 57]] σ (TagF Q) := by
  rw [← WF_h, WF_prim (p := trimP) rfl]
  exact ⟨(.str (t.dropWhile digB), σ), rfl, hq⟩
theorem wh221b (t : List UInt8) (lim d : Nat) (σ : Sto) {Q : MV → Sto → Prop} (hq : Q (.str (t.dropWhile fun b => [32, 9].contains b)) σ) : WFh X lim d 39 [.str t, .str [32, 9]] σ (TagF Q) := by
  rw [← WF_h, WF_prim (p := trimP) rfl]
  exact ⟨(.str (t.dropWhile fun b => [32, 9].contains b), σ), rfl, hq⟩
/-- How many blanks stand at a place. -/
def blL (s : List UInt8) (n : Nat) : Nat := (s.drop n).length - ((s.drop n).dropWhile fun b => [32, 9].contains b).length
def dgL (s : List UInt8) (n : Nat) : Nat := (s.drop n).length - ((s.drop n).dropWhile digB).length
theorem dw_le {p : UInt8 → Bool} (l : List UInt8) : (l.dropWhile p).length ≤ l.length := (List.dropWhile_sublist p).length_le
section
variable (s : List UInt8) (hs : s.length ≤ 1000000)
include hs
theorem w311 (n : Nat) (hn : n ≤ s.length) (p : Mv.Loc) (lim d : Nat) (hp : p.d < d) (hlim : lim ≤ p.d) (σ : Sto) (hu : σ.Und d) (ho : σ.ob p = some (encL s n)) : Ret lim d 25 [.ptr p 0] σ (.tup []) (σ.set p (encL s (n + blL s n))) := by
  have hun := und_succ hu
  have h1 := dw_le (p := fun b => [32, 9].contains b) (s.drop n)
  have hk : n + blL s n ≤ s.length := by unfold blL; rw [List.length_drop] at h1 ⊢; omega
  unfold Ret
  rw [WF_body (C := X) rfl Go.Proofs.Tryz.func25 rfl (by kernel_rfl)]; simp only [Go.Proofs.Tryz.results25]
  simp -implicitDefEqProofs -dsimp only [↓reduceIte, not_false_eq_true, ↓W_seq, go_sem, WR_nil, evNews, if_true, if_false, and_true, true_and, Nat.reduceEqDiff, Nat.reduceAdd, Nat.reduceMul, Nat.reduceLeDiff, Nat.reduceLT, Int.cast_ofNat_Int, Int.reduceBNe, Int.reduceToNat, Int.reduceLT, Int.reduceLE, Int.reduceToNat, Int.reduceAdd, Int.reduceNeg, Int.natCast_zero, Int.natCast_one, Int.le_refl, Int.reduceEq, Int.lt_irrefl, reduceCtorEq, enc]
  refine (w316 s n hn p lim (d + 1) (Nat.lt_succ_of_lt hp) _ hun ho).wh ?_
  simp -implicitDefEqProofs -dsimp only [↓reduceIte, not_false_eq_true, ↓W_seq, go_sem, WR_nil, evNews, if_true, if_false, and_true, true_and, Nat.reduceEqDiff, Nat.reduceAdd, Nat.reduceMul, Nat.reduceLeDiff, Nat.reduceLT, Int.cast_ofNat_Int, Int.reduceBNe, Int.reduceToNat, Int.reduceLT, Int.reduceLE, Int.reduceToNat, Int.reduceAdd, Int.reduceNeg, Int.natCast_zero, Int.natCast_one, Int.le_refl, Int.reduceEq, Int.lt_irrefl, reduceCtorEq, enc]
  refine (w316 s n hn p lim (d + 1) (Nat.lt_succ_of_lt hp) _ hun ho).wh ?_
  simp -implicitDefEqProofs -dsimp only [↓reduceIte, not_false_eq_true, ↓W_seq, go_sem, WR_nil, evNews, if_true, if_false, and_true, true_and, Nat.reduceEqDiff, Nat.reduceAdd, Nat.reduceMul, Nat.reduceLeDiff, Nat.reduceLT, Int.cast_ofNat_Int, Int.reduceBNe, Int.reduceToNat, Int.reduceLT, Int.reduceLE, Int.reduceToNat, Int.reduceAdd, Int.reduceNeg, Int.natCast_zero, Int.natCast_one, Int.le_refl, Int.reduceEq, Int.lt_irrefl, reduceCtorEq, enc, ba_dataL]
  refine wh221b (s.drop n) lim (d + 1) σ ?_
  have x1 := wr64 (blL s n : Int) (by omega) (by omega)
  have x2 : (((s.drop n).length : Int) - ((((s.drop n).dropWhile fun b => [32, 9].contains b).length : Nat) : Int)) = (blL s n : Int) := by unfold blL; omega
  simp -implicitDefEqProofs -dsimp only [↓reduceIte, not_false_eq_true, ↓W_seq, go_sem, WR_nil, evNews, if_true, if_false, and_true, true_and, Nat.reduceEqDiff, Nat.reduceAdd, Nat.reduceMul, Nat.reduceLeDiff, Nat.reduceLT, Int.cast_ofNat_Int, Int.reduceBNe, Int.reduceToNat, Int.reduceLT, Int.reduceLE, Int.reduceToNat, Int.reduceAdd, Int.reduceNeg, Int.natCast_zero, Int.natCast_one, Int.le_refl, Int.reduceEq, Int.lt_irrefl, reduceCtorEq, enc, x1, x2]
  refine (w315 s hs n (blL s n) hk p lim (d + 1) (Nat.lt_succ_of_lt hp) hlim _ hun ho).wh ?_
  simp -implicitDefEqProofs -dsimp only [↓reduceIte, not_false_eq_true, ↓W_seq, go_sem, WR_nil, evNews, if_true, if_false, and_true, true_and, Nat.reduceEqDiff, Nat.reduceAdd, Nat.reduceMul, Nat.reduceLeDiff, Nat.reduceLT, Int.cast_ofNat_Int, Int.reduceBNe, Int.reduceToNat, Int.reduceLT, Int.reduceLE, Int.reduceToNat, Int.reduceAdd, Int.reduceNeg, Int.natCast_zero, Int.natCast_one, Int.le_refl, Int.reduceEq, Int.lt_irrefl, reduceCtorEq, enc, cut_set _ _ _ _ hp, cut_und _ _ hu]
/-- A number that isn't too great. -/
theorem w313 (n : Nat) (hn : n ≤ s.length) (hv : numV ((s.drop n).take (dgL s n)) ≤ 1000000000) (hd : ∀ i, i < dgL s n → ∃ c, (s.drop n)[i]? = some c ∧ 48 ≤ c.toNat ∧ c.toNat ≤ 57) (p : Mv.Loc) (lim d : Nat) (hp : p.d < d) (hlim : lim ≤ p.d) (σ : Sto) (hu : σ.Und d) (ho : σ.ob p = some (encL s n)) :
    Ret lim d 33 [.ptr p 0] σ (.tup [.int .i64 (numV ((s.drop n).take (dgL s n))), .bool (decide (0 < dgL s n))]) (σ.set p (encL s (n + dgL s n))) := by
  have hun := und_succ hu
  have h1 := dw_le (p := digB) (s.drop n)
  have hk : n + dgL s n ≤ s.length := by unfold dgL; rw [List.length_drop] at h1 ⊢; omega
  have hkl : dgL s n ≤ (s.drop n).length := by unfold dgL; omega
  unfold Ret
  rw [WF_body (C := X) rfl Go.Proofs.Tryz.func33 rfl (by kernel_rfl)]; simp only [Go.Proofs.Tryz.results33]
  simp -implicitDefEqProofs -dsimp only [↓reduceIte, not_false_eq_true, ↓W_seq, go_sem, WR_nil, evNews, if_true, if_false, and_true, true_and, Nat.reduceEqDiff, Nat.reduceAdd, Nat.reduceMul, Nat.reduceLeDiff, Nat.reduceLT, Int.cast_ofNat_Int, Int.reduceBNe, Int.reduceToNat, Int.reduceLT, Int.reduceLE, Int.reduceToNat, Int.reduceAdd, Int.reduceNeg, Int.natCast_zero, Int.natCast_one, Int.le_refl, Int.reduceEq, Int.lt_irrefl, reduceCtorEq, enc]
  refine (w316 s n hn p lim (d + 1) (Nat.lt_succ_of_lt hp) _ hun ho).wh ?_
  simp -implicitDefEqProofs -dsimp only [↓reduceIte, not_false_eq_true, ↓W_seq, go_sem, WR_nil, evNews, if_true, if_false, and_true, true_and, Nat.reduceEqDiff, Nat.reduceAdd, Nat.reduceMul, Nat.reduceLeDiff, Nat.reduceLT, Int.cast_ofNat_Int, Int.reduceBNe, Int.reduceToNat, Int.reduceLT, Int.reduceLE, Int.reduceToNat, Int.reduceAdd, Int.reduceNeg, Int.natCast_zero, Int.natCast_one, Int.le_refl, Int.reduceEq, Int.lt_irrefl, reduceCtorEq, enc, ba_dataL]
  refine wh221a (s.drop n) lim (d + 1) σ ?_
  have x1 := wr64 (dgL s n : Int) (by omega) (by omega)
  have x2 : (((s.drop n).length : Int) - ((((s.drop n).dropWhile digB).length : Nat) : Int)) = (dgL s n : Int) := by unfold dgL; omega
  simp -implicitDefEqProofs -dsimp only [↓reduceIte, not_false_eq_true, ↓W_seq, go_sem, WR_nil, evNews, if_true, if_false, and_true, true_and, Nat.reduceEqDiff, Nat.reduceAdd, Nat.reduceMul, Nat.reduceLeDiff, Nat.reduceLT, Int.cast_ofNat_Int, Int.reduceBNe, Int.reduceToNat, Int.reduceLT, Int.reduceLE, Int.reduceToNat, Int.reduceAdd, Int.reduceNeg, Int.natCast_zero, Int.natCast_one, Int.le_refl, Int.reduceEq, Int.lt_irrefl, reduceCtorEq, enc, x1, x2]
  refine loop_h (I := fun k a s' => ∃ (i : Nat), i + k = dgL s n ∧ a 17 = .int .i64 i ∧ a 16 = .int .i64 (dgL s n) ∧ a 5 = .int .i64 (dgL s n) ∧ a 4 = .str (s.drop n) ∧ a 6 = .int .i64 (numV ((s.drop n).take i)) ∧ a 0 = .ptr p 0 ∧ s' = σ) ?_ (dgL s n) _ _ ?_
  · rintro k a s' ⟨i, hik, h17, h16, h5, h4, h6, h0, rfl⟩
    have hle := numV_take ((s.drop n).take (dgL s n)) i
    rw [List.take_take, Nat.min_eq_left (by omega)] at hle
    by_cases hi : i < dgL s n
    · have e1 : ((i : Int) < (dgL s n : Int)) := by omega
      obtain ⟨c, hc, c1, c2⟩ := hd i hi
      have hil : i < (s.drop n).length := by omega
      have hc' : (s.drop n)[i] = c := by rw [List.getElem?_eq_getElem hil] at hc; exact Option.some.inj hc
      have hst := numV_step hil
      rw [hc'] at hst
      have hle2 := numV_take ((s.drop n).take (dgL s n)) (i + 1)
      rw [List.take_take, Nat.min_eq_left (by omega)] at hle2
      have y1 := wr64 (10 * (numV ((s.drop n).take i) : Int)) (by omega) (by omega)
      have y2 : IntKind.u8.wrap ((c.toNat : Int) - 48) = (c.toNat : Int) - 48 := by
        have : IntKind.u8.wrap ((c.toNat : Int) - 48) = ((c.toNat : Int) - 48) % 256 := by simp [IntKind.wrap, IntKind.bits, IntKind.signed]
        rw [this]; omega
      have y3 := wr64 ((c.toNat : Int) - 48) (by omega) (by omega)
      have y4 : 10 * (numV ((s.drop n).take i) : Int) + ((c.toNat : Int) - 48) = (numV ((s.drop n).take (i + 1)) : Int) := by omega
      have y5 := wr64 (numV ((s.drop n).take (i + 1)) : Int) (by omega) (by omega)
      have y6 : ¬ (1000000000 : Int) < (numV ((s.drop n).take (i + 1)) : Int) := by omega
      have y7 := wr64 ((i : Int) + 1) (by omega) (by omega)
      simp -implicitDefEqProofs -dsimp only [↓reduceIte, not_false_eq_true, ↓W_seq, go_sem, WR_nil, evNews, if_true, if_false, and_true, true_and, Nat.reduceEqDiff, Nat.reduceAdd, Nat.reduceMul, Nat.reduceLeDiff, Nat.reduceLT, Int.cast_ofNat_Int, Int.reduceBNe, Int.reduceToNat, Int.reduceLT, Int.reduceLE, Int.reduceToNat, Int.reduceAdd, Int.reduceNeg, Int.natCast_zero, Int.natCast_one, Int.le_refl, Int.reduceEq, Int.lt_irrefl, reduceCtorEq, enc, e1, hc, h17, h16, h5, h4, h6, h0, y1, y2, y3, y4, y5, y6, y7]
      exact ⟨k - 1, by omega, i + 1, by omega, by simp, rfl⟩
    · have e1 : ¬ ((i : Int) < (dgL s n : Int)) := by omega
      have ei : i = dgL s n := by omega
      subst ei
      simp -implicitDefEqProofs -dsimp only [↓reduceIte, not_false_eq_true, ↓W_seq, go_sem, WR_nil, evNews, if_true, if_false, and_true, true_and, Nat.reduceEqDiff, Nat.reduceAdd, Nat.reduceMul, Nat.reduceLeDiff, Nat.reduceLT, Int.cast_ofNat_Int, Int.reduceBNe, Int.reduceToNat, Int.reduceLT, Int.reduceLE, Int.reduceToNat, Int.reduceAdd, Int.reduceNeg, Int.natCast_zero, Int.natCast_one, Int.le_refl, Int.reduceEq, Int.lt_irrefl, reduceCtorEq, enc, e1, h17, h16, h5, h4, h6, h0]
      refine (w315 s hs n (dgL s n) hk p lim (d + 1) (Nat.lt_succ_of_lt hp) hlim _ hun ho).wh ?_
      have e2 : decide ((0 : Int) < (dgL s n : Int)) = decide (0 < dgL s n) := by simp
      simp -implicitDefEqProofs -dsimp only [↓reduceIte, not_false_eq_true, ↓W_seq, go_sem, WR_nil, evNews, if_true, if_false, and_true, true_and, Nat.reduceEqDiff, Nat.reduceAdd, Nat.reduceMul, Nat.reduceLeDiff, Nat.reduceLT, Int.cast_ofNat_Int, Int.reduceBNe, Int.reduceToNat, Int.reduceLT, Int.reduceLE, Int.reduceToNat, Int.reduceAdd, Int.reduceNeg, Int.natCast_zero, Int.natCast_one, Int.le_refl, Int.reduceEq, Int.lt_irrefl, reduceCtorEq, enc, h5, h6, e2, cut_set _ _ _ _ hp, cut_und _ _ hu]
  · refine ⟨0, Nat.zero_add _, ?_⟩
    simp -implicitDefEqProofs -dsimp only [↓reduceIte, not_false_eq_true, ↓W_seq, go_sem, WR_nil, evNews, if_true, if_false, and_true, true_and, Nat.reduceEqDiff, Nat.reduceAdd, Nat.reduceMul, Nat.reduceLeDiff, Nat.reduceLT, Int.cast_ofNat_Int, Int.reduceBNe, Int.reduceToNat, Int.reduceLT, Int.reduceLE, Int.reduceToNat, Int.reduceAdd, Int.reduceNeg, Int.natCast_zero, Int.natCast_one, Int.le_refl, Int.reduceEq, Int.lt_irrefl, reduceCtorEq, enc, List.take_zero, x1, x2]
    rfl
end
end Go.Proofs.Tryz.E
