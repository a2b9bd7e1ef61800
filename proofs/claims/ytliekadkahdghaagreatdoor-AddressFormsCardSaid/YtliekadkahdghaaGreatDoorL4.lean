/- Walks: what the functions compute. -/
import Derived.Test.YtliekadkahdghaaGreatDoorL3
set_option linter.unusedVariables false
set_option linter.unusedSimpArgs false
/- Digits; a lexer at a beginning; what a program that does nothing answers wrongly. -/
namespace Go.Proofs.Tryz.E
open Go.Mv
set_option maxHeartbeats 4000000
set_option maxRecDepth 20000
@[go_sem] theorem bslF_eqL (P : Program) (t : TypeId) (n : Nat) (ps : List (Nat × MV)) : bslF P t n ps = (slc P t).bind fun x => if ps.length = n ∧ n * x.2.1 ≤ 65536 ∧ 0 < x.2.1 then (sliceParts x.2.1 0 ps).map fun xs => .sl .no xs else none := by
  unfold bslF
  cases slc P t <;> rfl
@[go_sem] theorem cvt_byL (tk : Tok) (n : Int) : cvtO X.P 111 9 (.sl tk [[.int .u8 n]]) = some (.str [UInt8.ofNat n.toNat]) := by
  have h1 : X.P.underlying 111 = some (.slice 5) := by kernel_rfl
  have h2 : X.P.underlying 9 = some .string := by kernel_rfl
  have h3 : X.P.underlying 5 = some (.int .u8) := by kernel_rfl
  simp only [cvtO, h1, h2, h3, bytesOf, Option.map_some]
theorem w307 (k v k2 v2 : Int) (b : Bool) (lim d : Nat) (σ : Sto) (hu : σ.Und d) : Ret lim d 12 [.agg (adrL k v ++ adrL k2 v2 ++ [.bool b])] σ (.int .i64 (if k = 0 then 0 else if k2 = 0 then 1 else 2)) σ := by
  have x1 := wr64 1 (by omega) (by omega)
  have x2 := wr64 2 (by omega) (by omega)
  unfold Ret
  rw [WF_body (C := X) rfl Go.Proofs.Tryz.func12 rfl (by kernel_rfl)]; simp only [Go.Proofs.Tryz.results12]
  by_cases h1 : k = 0
  · subst h1
    simp -implicitDefEqProofs -dsimp only [↓reduceIte, not_false_eq_true, ↓W_seq, go_sem, WR_nil, evNews, if_true, if_false, and_true, true_and, Nat.reduceEqDiff, Nat.reduceAdd, Nat.reduceMul, Nat.reduceLeDiff, Nat.reduceLT, Int.cast_ofNat_Int, Int.reduceBNe, Int.reduceToNat, Int.reduceLT, Int.reduceLE, Int.reduceToNat, Int.reduceAdd, Int.reduceNeg, Int.natCast_zero, Int.natCast_one, Int.le_refl, Int.reduceEq, Int.lt_irrefl, reduceCtorEq, enc, adrL, encs, List.cons_append, List.nil_append, cut_und _ _ hu]
  · have e1 : (k != 0) = true := by simpa using h1
    by_cases h2 : k2 = 0
    · subst h2
      simp -implicitDefEqProofs -dsimp only [↓reduceIte, not_false_eq_true, ↓W_seq, go_sem, WR_nil, evNews, if_true, if_false, and_true, true_and, Nat.reduceEqDiff, Nat.reduceAdd, Nat.reduceMul, Nat.reduceLeDiff, Nat.reduceLT, Int.cast_ofNat_Int, Int.reduceBNe, Int.reduceToNat, Int.reduceLT, Int.reduceLE, Int.reduceToNat, Int.reduceAdd, Int.reduceNeg, Int.natCast_zero, Int.natCast_one, Int.le_refl, Int.reduceEq, Int.lt_irrefl, reduceCtorEq, enc, adrL, encs, List.cons_append, List.nil_append, e1, h1, x1, cut_und _ _ hu]
    · have e2 : (k2 != 0) = true := by simpa using h2
      simp -implicitDefEqProofs -dsimp only [↓reduceIte, not_false_eq_true, ↓W_seq, go_sem, WR_nil, evNews, if_true, if_false, and_true, true_and, Nat.reduceEqDiff, Nat.reduceAdd, Nat.reduceMul, Nat.reduceLeDiff, Nat.reduceLT, Int.cast_ofNat_Int, Int.reduceBNe, Int.reduceToNat, Int.reduceLT, Int.reduceLE, Int.reduceToNat, Int.reduceAdd, Int.reduceNeg, Int.natCast_zero, Int.natCast_one, Int.le_refl, Int.reduceEq, Int.lt_irrefl, reduceCtorEq, enc, adrL, encs, List.cons_append, List.nil_append, e1, e2, h1, h2, x1, x2, cut_und _ _ hu]
theorem wh304 (s : List UInt8) (lim d : Nat) (hlim : lim ≤ d) (σ : Sto) {Q : MV → Sto → Prop} (hq : Q (.ptr ⟨d, 0, σ.ct d⟩ 0) ((σ.set ⟨d, 0, σ.ct d⟩ (encL s 0)).tick d)) : WFh X lim (d + 1) 15 [.str s] σ (TagF Q) := by
  rw [← WF_h, WF_prim (p := newP) rfl]
  refine ⟨(.ptr ⟨d, 0, σ.ct d⟩ 0, (σ.set ⟨d, 0, σ.ct d⟩ (encL s 0)).tick d), ?_, hq⟩
  simp only [newP, encL]
  rw [if_pos hlim]
  rfl
theorem wakeL : OneL [49, 44, 36, 33, 112] 0 1 1 1 ∧ OneL [49, 44, 36, 33, 112] 2 2 0 3 := by
  refine ⟨.inl ⟨rfl, ⟨49, rfl, by decide, by decide⟩, by decide +kernel, by decide +kernel, ?_, by decide +kernel, by decide +kernel⟩, .inr ⟨rfl, rfl, rfl, rfl⟩⟩
  intro i hi
  have : dgL [49, 44, 36, 33, 112] 0 = 1 := by decide +kernel
  have e : i = 0 := by omega
  subst e
  exact ⟨49, rfl, by decide, by decide⟩
theorem w302 (lim d : Nat) (hlim : lim ≤ d) (σ : Sto) (hu : σ.Und d) : Ret lim d 5 [] σ (.bool true) σ := by
  have hun := und_succ hu
  unfold Ret
  rw [WF_body (C := X) rfl Go.Proofs.Tryz.func5 rfl (by kernel_rfl)]; simp only [Go.Proofs.Tryz.results5]
  simp -implicitDefEqProofs -dsimp only [↓reduceIte, not_false_eq_true, ↓W_seq, go_sem, WR_nil, evNews, if_true, if_false, and_true, true_and, Nat.reduceEqDiff, Nat.reduceAdd, Nat.reduceMul, Nat.reduceLeDiff, Nat.reduceLT, Int.cast_ofNat_Int, Int.reduceBNe, Int.reduceToNat, Int.reduceLT, Int.reduceLE, Int.reduceToNat, Int.reduceAdd, Int.reduceNeg, Int.natCast_zero, Int.natCast_one, Int.le_refl, Int.reduceEq, Int.lt_irrefl, reduceCtorEq, enc, ba_dataL]
  refine wh304 [49, 44, 36, 33, 112] lim d hlim σ ?_
  simp -implicitDefEqProofs -dsimp only [↓reduceIte, not_false_eq_true, ↓W_seq, go_sem, WR_nil, evNews, if_true, if_false, and_true, true_and, Nat.reduceEqDiff, Nat.reduceAdd, Nat.reduceMul, Nat.reduceLeDiff, Nat.reduceLT, Int.cast_ofNat_Int, Int.reduceBNe, Int.reduceToNat, Int.reduceLT, Int.reduceLE, Int.reduceToNat, Int.reduceAdd, Int.reduceNeg, Int.natCast_zero, Int.natCast_one, Int.le_refl, Int.reduceEq, Int.lt_irrefl, reduceCtorEq, enc]
  refine (w305 [49, 44, 36, 33, 112] (by simp) 1 1 1 wakeL.1 (by simp) rfl 2 0 2 3 (by decide +kernel) (by simp) wakeL.2 (by simp) 3 (by decide +kernel) (by simp) true (by decide +kernel) 4 (by decide +kernel) ⟨d, 0, σ.ct d⟩ lim (d + 1) (Nat.lt_succ_self d) hlim _ (by simp only [u_tick, u_mine]; exact hun) (by simp only [go_sem, if_true])).wh ?_
  simp -implicitDefEqProofs -dsimp only [↓reduceIte, not_false_eq_true, ↓W_seq, go_sem, WR_nil, evNews, if_true, if_false, and_true, true_and, Nat.reduceEqDiff, Nat.reduceAdd, Nat.reduceMul, Nat.reduceLeDiff, Nat.reduceLT, Int.cast_ofNat_Int, Int.reduceBNe, Int.reduceToNat, Int.reduceLT, Int.reduceLE, Int.reduceToNat, Int.reduceAdd, Int.reduceNeg, Int.natCast_zero, Int.natCast_one, Int.le_refl, Int.reduceEq, Int.lt_irrefl, reduceCtorEq, enc, adrL, encs, List.cons_append, List.nil_append]
  refine (w307 1 1 2 0 true lim (d + 1) _ (by simp only [u_tick, u_mine]; exact hun)).wh ?_
  simp -implicitDefEqProofs -dsimp only [↓reduceIte, not_false_eq_true, ↓W_seq, go_sem, WR_nil, evNews, if_true, if_false, and_true, true_and, Nat.reduceEqDiff, Nat.reduceAdd, Nat.reduceMul, Nat.reduceLeDiff, Nat.reduceLT, Int.cast_ofNat_Int, Int.reduceBNe, Int.reduceToNat, Int.reduceLT, Int.reduceLE, Int.reduceToNat, Int.reduceAdd, Int.reduceNeg, Int.natCast_zero, Int.natCast_one, Int.le_refl, Int.reduceEq, Int.lt_irrefl, reduceCtorEq, enc, adrL, encs, List.cons_append, List.nil_append, beq_self_eq_true]
  exact cut_und _ _ hu
end Go.Proofs.Tryz.E
