/- Walks: what the functions compute. -/
import Derived.Test.YtliekadkahdghaaGreatDoorL0
import Derived.Test.YtliekadkahdghaaGreatDoorE8
set_option linter.unusedVariables false
set_option linter.unusedSimpArgs false
/- The lexer: what is left, what stands next, blanks, numbers. -/
namespace Go.Proofs.Tryz.E
open Go.Mv
set_option maxHeartbeats 4000000
set_option maxRecDepth 20000
theorem drop_strL (s : List UInt8) (n : Nat) : (s.take s.length).drop n = s.drop n := by rw [List.take_length]
theorem ba_dataL (l : List UInt8) : (ByteArray.mk l.toArray).data = l.toArray := rfl
def encL (s : List UInt8) (n : Nat) : List MV := [.str s, .int .i64 n]
theorem und_lx : X.P.underlying 51 = some (.pointer 63) := by kernel_rfl
@[go_sem] theorem ptr_eq (l : Mv.Loc) (o : Nat) : binO X.P X.eqT .eql 51 (.ptr l o) .nilp = some (.bool false) := by simp [binO, Mv.ptrEq, und_lx]
@[go_sem] theorem ptr_ne (l : Mv.Loc) (o : Nat) : binO X.P X.eqT .neq 51 (.ptr l o) .nilp = some (.bool true) := by simp [binO, Mv.ptrEq, und_lx]
theorem w316 (s : List UInt8) (n : Nat) (hn : n ≤ s.length) (p : Mv.Loc) (lim d : Nat) (hp : p.d < d) (σ : Sto) (hu : σ.Und d) (ho : σ.ob p = some (encL s n)) : Ret lim d 38 [.ptr p 0] σ (.str (s.drop n)) σ := by
  have hun := und_succ hu
  rw [encL] at ho
  have e1 : (0 : Int) ≤ (n : Int) ∧ (n : Int) ≤ (s.length : Int) := by omega
  unfold Ret
  rw [WF_body (C := X) rfl Go.Proofs.Tryz.func38 rfl (by kernel_rfl)]; simp only [Go.Proofs.Tryz.results38]
  simp -implicitDefEqProofs -dsimp only [↓reduceIte, not_false_eq_true, ↓W_seq, go_sem, WR_nil, evNews, if_true, if_false, and_true, true_and, Nat.reduceEqDiff, Nat.reduceAdd, Nat.reduceMul, Nat.reduceLeDiff, Nat.reduceLT, Int.cast_ofNat_Int, Int.reduceBNe, Int.reduceToNat, Int.reduceLT, Int.reduceLE, Int.reduceToNat, Int.reduceAdd, Int.reduceNeg, Int.natCast_zero, Int.natCast_one, Int.le_refl, Int.reduceEq, Int.lt_irrefl, reduceCtorEq, enc]
  rw [D_dr (by kernel_rfl) rfl]
  simp -implicitDefEqProofs -dsimp only [↓reduceIte, not_false_eq_true, ↓W_seq, go_sem, WR_nil, evNews, if_true, if_false, and_true, true_and, Nat.reduceEqDiff, Nat.reduceAdd, Nat.reduceMul, Nat.reduceLeDiff, Nat.reduceLT, Int.cast_ofNat_Int, Int.reduceBNe, Int.reduceToNat, Int.reduceLT, Int.reduceLE, Int.reduceToNat, Int.reduceAdd, Int.reduceNeg, Int.natCast_zero, Int.natCast_one, Int.le_refl, Int.reduceEq, Int.lt_irrefl, reduceCtorEq, enc, ho, bnd, e1, drop_strL, cut_und _ _ hu]
theorem w314 (s : List UInt8) (n : Nat) (hn : n ≤ s.length) (p : Mv.Loc) (lim d : Nat) (hp : p.d < d) (σ : Sto) (hu : σ.Und d) (ho : σ.ob p = some (encL s n)) : Ret lim d 36 [.ptr p 0] σ (.bool (s.drop n == [])) σ := by
  have hun := und_succ hu
  unfold Ret
  rw [WF_body (C := X) rfl Go.Proofs.Tryz.func36 rfl (by kernel_rfl)]; simp only [Go.Proofs.Tryz.results36]
  simp -implicitDefEqProofs -dsimp only [↓reduceIte, not_false_eq_true, ↓W_seq, go_sem, WR_nil, evNews, if_true, if_false, and_true, true_and, Nat.reduceEqDiff, Nat.reduceAdd, Nat.reduceMul, Nat.reduceLeDiff, Nat.reduceLT, Int.cast_ofNat_Int, Int.reduceBNe, Int.reduceToNat, Int.reduceLT, Int.reduceLE, Int.reduceToNat, Int.reduceAdd, Int.reduceNeg, Int.natCast_zero, Int.natCast_one, Int.le_refl, Int.reduceEq, Int.lt_irrefl, reduceCtorEq, enc]
  refine (w316 s n hn p lim (d + 1) (Nat.lt_succ_of_lt hp) _ hun ho).wh ?_
  simp -implicitDefEqProofs -dsimp only [↓reduceIte, not_false_eq_true, ↓W_seq, go_sem, WR_nil, evNews, if_true, if_false, and_true, true_and, Nat.reduceEqDiff, Nat.reduceAdd, Nat.reduceMul, Nat.reduceLeDiff, Nat.reduceLT, Int.cast_ofNat_Int, Int.reduceBNe, Int.reduceToNat, Int.reduceLT, Int.reduceLE, Int.reduceToNat, Int.reduceAdd, Int.reduceNeg, Int.natCast_zero, Int.natCast_one, Int.le_refl, Int.reduceEq, Int.lt_irrefl, reduceCtorEq, enc, ba_dataL, cut_und _ _ hu]
/-- What stands at a place; 0 at the end. -/
def pkL (s : List UInt8) (n : Nat) : UInt8 := s[n]?.getD 0
theorem w309 (s : List UInt8) (n : Nat) (hn : n ≤ s.length) (p : Mv.Loc) (lim d : Nat) (hp : p.d < d) (σ : Sto) (hu : σ.Und d) (ho : σ.ob p = some (encL s n)) : Ret lim d 23 [.ptr p 0] σ (.int .u8 (pkL s n).toNat) σ := by
  have hun := und_succ hu
  have ho2 := ho
  rw [encL] at ho2
  unfold Ret
  rw [WF_body (C := X) rfl Go.Proofs.Tryz.func23 rfl (by kernel_rfl)]; simp only [Go.Proofs.Tryz.results23]
  simp -implicitDefEqProofs -dsimp only [↓reduceIte, not_false_eq_true, ↓W_seq, go_sem, WR_nil, evNews, if_true, if_false, and_true, true_and, Nat.reduceEqDiff, Nat.reduceAdd, Nat.reduceMul, Nat.reduceLeDiff, Nat.reduceLT, Int.cast_ofNat_Int, Int.reduceBNe, Int.reduceToNat, Int.reduceLT, Int.reduceLE, Int.reduceToNat, Int.reduceAdd, Int.reduceNeg, Int.natCast_zero, Int.natCast_one, Int.le_refl, Int.reduceEq, Int.lt_irrefl, reduceCtorEq, enc]
  refine (w314 s n hn p lim (d + 1) (Nat.lt_succ_of_lt hp) _ hun ho).wh ?_
  by_cases h : n < s.length
  · have e1 : (s.drop n == []) = false := by rw [beq_eq_false_iff_ne]; intro q; have := List.drop_eq_nil_iff.1 q; omega
    have e2 : s[n]? = some s[n] := List.getElem?_eq_getElem h
    have e3 : pkL s n = s[n] := by simp [pkL, e2]
    simp -implicitDefEqProofs -dsimp only [↓reduceIte, not_false_eq_true, ↓W_seq, go_sem, WR_nil, evNews, if_true, if_false, and_true, true_and, Nat.reduceEqDiff, Nat.reduceAdd, Nat.reduceMul, Nat.reduceLeDiff, Nat.reduceLT, Int.cast_ofNat_Int, Int.reduceBNe, Int.reduceToNat, Int.reduceLT, Int.reduceLE, Int.reduceToNat, Int.reduceAdd, Int.reduceNeg, Int.natCast_zero, Int.natCast_one, Int.le_refl, Int.reduceEq, Int.lt_irrefl, reduceCtorEq, enc, e1]
    rw [D_dr (by kernel_rfl) rfl]
    simp -implicitDefEqProofs -dsimp only [↓reduceIte, not_false_eq_true, ↓W_seq, go_sem, WR_nil, evNews, if_true, if_false, and_true, true_and, Nat.reduceEqDiff, Nat.reduceAdd, Nat.reduceMul, Nat.reduceLeDiff, Nat.reduceLT, Int.cast_ofNat_Int, Int.reduceBNe, Int.reduceToNat, Int.reduceLT, Int.reduceLE, Int.reduceToNat, Int.reduceAdd, Int.reduceNeg, Int.natCast_zero, Int.natCast_one, Int.le_refl, Int.reduceEq, Int.lt_irrefl, reduceCtorEq, enc, ho2, e2, e3, cut_und _ _ hu]
  · have e1 : (s.drop n == []) = true := by rw [beq_iff_eq]; exact List.drop_eq_nil_of_le (by omega)
    have e3 : pkL s n = 0 := by simp [pkL, List.getElem?_eq_none (by omega : s.length ≤ n)]
    simp -implicitDefEqProofs -dsimp only [↓reduceIte, not_false_eq_true, ↓W_seq, go_sem, WR_nil, evNews, if_true, if_false, and_true, true_and, Nat.reduceEqDiff, Nat.reduceAdd, Nat.reduceMul, Nat.reduceLeDiff, Nat.reduceLT, Int.cast_ofNat_Int, Int.reduceBNe, Int.reduceToNat, Int.reduceLT, Int.reduceLE, Int.reduceToNat, Int.reduceAdd, Int.reduceNeg, Int.natCast_zero, Int.natCast_one, Int.le_refl, Int.reduceEq, Int.lt_irrefl, reduceCtorEq, enc, e1, e3, cut_und _ _ hu, UInt8.toNat_zero]
section
variable (s : List UInt8) (hs : s.length ≤ 1000000)
include hs
theorem w315 (n k : Nat) (hn : n + k ≤ s.length) (p : Mv.Loc) (lim d : Nat) (hp : p.d < d) (hlim : lim ≤ p.d) (σ : Sto) (hu : σ.Und d) (ho : σ.ob p = some (encL s n)) : Ret lim d 37 [.ptr p 0, .int .i64 k] σ (.tup []) (σ.set p (encL s (n + k))) := by
  have hun := und_succ hu
  have hne := ne_my hp
  have hmy := my_ne hp
  rw [encL] at ho
  have x1 := wr64 ((n + k : Nat) : Int) (by omega) (by omega)
  have x2 : ((n : Int) + (k : Int)) = ((n + k : Nat) : Int) := by omega
  unfold Ret
  rw [WF_body (C := X) rfl Go.Proofs.Tryz.func37 rfl (by kernel_rfl)]; simp only [Go.Proofs.Tryz.results37]
  simp -implicitDefEqProofs -dsimp only [↓reduceIte, not_false_eq_true, ↓W_seq, go_sem, WR_nil, evNews, if_true, if_false, and_true, true_and, Nat.reduceEqDiff, Nat.reduceAdd, Nat.reduceMul, Nat.reduceLeDiff, Nat.reduceLT, Int.cast_ofNat_Int, Int.reduceBNe, Int.reduceToNat, Int.reduceLT, Int.reduceLE, Int.reduceToNat, Int.reduceAdd, Int.reduceNeg, Int.natCast_zero, Int.natCast_one, Int.le_refl, Int.reduceEq, Int.lt_irrefl, reduceCtorEq, enc, ho, x1, hne, hmy, hp, hlim, cut_set _ _ _ _ hp, cut_und _ _ hu, encL, x2]
theorem w312 (n : Nat) (hn : n < s.length) (p : Mv.Loc) (lim d : Nat) (hp : p.d < d) (hlim : lim ≤ p.d) (σ : Sto) (hu : σ.Und d) (ho : σ.ob p = some (encL s n)) : Ret lim d 26 [.ptr p 0] σ (.int .u8 (pkL s n).toNat) (σ.set p (encL s (n + 1))) := by
  have hun := und_succ hu
  have hne := ne_my hp
  have hmy := my_ne hp
  have ho2 := ho
  rw [encL] at ho2
  have e1 : (s.drop n == []) = false := by rw [beq_eq_false_iff_ne]; intro q; have := List.drop_eq_nil_iff.1 q; omega
  have x1 := wr64 ((n + 1 : Nat) : Int) (by omega) (by omega)
  have x2 : ((n : Int) + 1) = ((n + 1 : Nat) : Int) := by omega
  unfold Ret
  rw [WF_body (C := X) rfl Go.Proofs.Tryz.func26 rfl (by kernel_rfl)]; simp only [Go.Proofs.Tryz.results26]
  simp -implicitDefEqProofs -dsimp only [↓reduceIte, not_false_eq_true, ↓W_seq, go_sem, WR_nil, evNews, if_true, if_false, and_true, true_and, Nat.reduceEqDiff, Nat.reduceAdd, Nat.reduceMul, Nat.reduceLeDiff, Nat.reduceLT, Int.cast_ofNat_Int, Int.reduceBNe, Int.reduceToNat, Int.reduceLT, Int.reduceLE, Int.reduceToNat, Int.reduceAdd, Int.reduceNeg, Int.natCast_zero, Int.natCast_one, Int.le_refl, Int.reduceEq, Int.lt_irrefl, reduceCtorEq, enc]
  refine (w309 s n (by omega) p lim (d + 1) (Nat.lt_succ_of_lt hp) _ hun ho).wh ?_
  simp -implicitDefEqProofs -dsimp only [↓reduceIte, not_false_eq_true, ↓W_seq, go_sem, WR_nil, evNews, if_true, if_false, and_true, true_and, Nat.reduceEqDiff, Nat.reduceAdd, Nat.reduceMul, Nat.reduceLeDiff, Nat.reduceLT, Int.cast_ofNat_Int, Int.reduceBNe, Int.reduceToNat, Int.reduceLT, Int.reduceLE, Int.reduceToNat, Int.reduceAdd, Int.reduceNeg, Int.natCast_zero, Int.natCast_one, Int.le_refl, Int.reduceEq, Int.lt_irrefl, reduceCtorEq, enc]
  refine (w314 s n (by omega) p lim (d + 1) (Nat.lt_succ_of_lt hp) _ hun ho).wh ?_
  simp -implicitDefEqProofs -dsimp only [↓reduceIte, not_false_eq_true, ↓W_seq, go_sem, WR_nil, evNews, if_true, if_false, and_true, true_and, Nat.reduceEqDiff, Nat.reduceAdd, Nat.reduceMul, Nat.reduceLeDiff, Nat.reduceLT, Int.cast_ofNat_Int, Int.reduceBNe, Int.reduceToNat, Int.reduceLT, Int.reduceLE, Int.reduceToNat, Int.reduceAdd, Int.reduceNeg, Int.natCast_zero, Int.natCast_one, Int.le_refl, Int.reduceEq, Int.lt_irrefl, reduceCtorEq, enc, e1, Bool.not_false, ho2, x1, hne, hmy, hp, hlim, cut_set _ _ _ _ hp, cut_und _ _ hu, encL, x2]
end
end Go.Proofs.Tryz.E
