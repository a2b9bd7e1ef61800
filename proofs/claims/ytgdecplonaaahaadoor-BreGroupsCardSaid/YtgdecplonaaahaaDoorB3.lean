/- Walks: what the functions compute. -/
import Derived.Test.YtgdecplonaaahaaDoorB2
set_option linter.unusedVariables false
set_option linter.unusedSimpArgs false
/- The program's reader of basic patterns: a repeat's bounds. -/
namespace Go.Proofs.Tryd.E
open Go.Mv
set_option maxHeartbeats 4000000
set_option maxRecDepth 20000
theorem trim_len (t : List UInt8) : (t.takeWhile dig).length + (t.dropWhile dig).length = t.length := by
  have := congrArg List.length (List.takeWhile_append_dropWhile (p := dig) (l := t))
  rw [List.length_append] at this
  exact this
theorem trim_take (t : List UInt8) : t.take (t.length - (t.dropWhile dig).length) = t.takeWhile dig := by
  have h := trim_len t
  have h2 := List.takeWhile_append_dropWhile (p := dig) (l := t)
  have h3 : t.length - (t.dropWhile dig).length = (t.takeWhile dig).length := by omega
  rw [h3]
  conv => lhs; rw [← h2]
  rw [h2]
  conv => lhs; arg 2; rw [← h2]
  exact List.take_left
theorem trim_drop (t : List UInt8) : t.dropWhile dig = t.drop (t.takeWhile dig).length := by
  have h2 := List.takeWhile_append_dropWhile (p := dig) (l := t)
  conv => rhs; arg 2; rw [← h2]
  exact List.drop_left.symm
theorem wh221 (t : List UInt8) (lim d : Nat) (σ : Sto) {Q : MV → Sto → Prop} (hq : Q (.str (t.dropWhile dig)) σ) : WFh X lim d 48 [.str t, .str [48, 49, 50, 51, 52, 53, 54, 55, 56, 57]] σ (TagF Q) := by
  rw [← WF_h, WF_prim (p := trimP) rfl]
  have : (fun b => ([48, 49, 50, 51, 52, 53, 54, 55, 56, 57] : List UInt8).contains b) = dig := funext dig_is
  refine ⟨(.str (t.dropWhile dig), σ), ?_, hq⟩
  simp only [trimP, if_true, this]
/-- A number at a text's beginning, and what is left. -/
def nuT (t : List UInt8) : MV := if t.takeWhile dig = [] then .tup [.int .i64 (-1), .str t] else .tup [.int .i64 (min (numV (t.takeWhile dig)) 256 : Nat), .str (t.dropWhile dig)]
theorem w218 (t : List UInt8) (ht : t.length ≤ 1000000) (lim d : Nat) (σ : Sto) (hu : σ.Und d) : Ret lim d 36 [.str t] σ (nuT t) σ := by
  have hun := und_succ hu
  have hl := trim_len t
  have hA : ∀ b ∈ t.takeWhile dig, dig b = true := fun b hb => by
    have := digs_dig t 0 b (by simpa [digsAt] using hb)
    exact this
  unfold Ret nuT
  rw [WF_body (C := X) rfl Go.Proofs.Tryd.func36 rfl (by kernel_rfl)]; simp only [Go.Proofs.Tryd.results36]
  simp -implicitDefEqProofs -dsimp only [↓reduceIte, not_false_eq_true, ↓W_seq, go_sem, WR_nil, evNews, if_true, if_false, and_true, true_and, Nat.reduceEqDiff, Nat.reduceAdd, Nat.reduceMul, Nat.reduceLeDiff, Nat.reduceLT, Int.cast_ofNat_Int, Int.reduceBNe, Int.reduceToNat, Int.reduceLT, Int.reduceLE, Int.reduceToNat, Int.reduceAdd, Int.reduceNeg, Int.natCast_zero, Int.natCast_one, Int.le_refl, Int.reduceEq, Int.lt_irrefl, reduceCtorEq, enc, ba_data]
  refine wh221 t lim (d + 1) _ ?_
  have e1 : (0 : Int) ≤ (t.length : Int) - ((t.dropWhile dig).length : Int) ∧ (t.length : Int) - ((t.dropWhile dig).length : Int) ≤ (t.length : Int) := by omega
  have x1 := wr64 ((t.length : Int) - ((t.dropWhile dig).length : Int)) (by omega) (by omega)
  have t1 : ((t.length : Int) - ((t.dropWhile dig).length : Int)).toNat = t.length - (t.dropWhile dig).length := by omega
  have tk := trim_take t
  by_cases h0 : t.takeWhile dig = []
  · have e2 : (t.takeWhile dig == []) = true := by rw [h0]; rfl
    rw [if_pos h0]
    simp -implicitDefEqProofs -dsimp only [↓reduceIte, not_false_eq_true, ↓W_seq, go_sem, WR_nil, evNews, if_true, if_false, and_true, true_and, Nat.reduceEqDiff, Nat.reduceAdd, Nat.reduceMul, Nat.reduceLeDiff, Nat.reduceLT, Int.cast_ofNat_Int, Int.reduceBNe, Int.reduceToNat, Int.reduceLT, Int.reduceLE, Int.reduceToNat, Int.reduceAdd, Int.reduceNeg, Int.natCast_zero, Int.natCast_one, Int.le_refl, Int.reduceEq, Int.lt_irrefl, reduceCtorEq, enc, bnd, e1, x1, t1, tk, e2, ba_data, cut_und _ _ hu]
  · have e2 : (t.takeWhile dig == []) = false := by rw [beq_eq_false_iff_ne]; exact h0
    rw [if_neg h0]
    simp -implicitDefEqProofs -dsimp only [↓reduceIte, not_false_eq_true, ↓W_seq, go_sem, WR_nil, evNews, if_true, if_false, and_true, true_and, Nat.reduceEqDiff, Nat.reduceAdd, Nat.reduceMul, Nat.reduceLeDiff, Nat.reduceLT, Int.cast_ofNat_Int, Int.reduceBNe, Int.reduceToNat, Int.reduceLT, Int.reduceLE, Int.reduceToNat, Int.reduceAdd, Int.reduceNeg, Int.natCast_zero, Int.natCast_one, Int.le_refl, Int.reduceEq, Int.lt_irrefl, reduceCtorEq, enc, bnd, e1, x1, t1, tk, e2, ba_data]
    generalize hAA : t.takeWhile dig = A at hA hl
    generalize t.dropWhile dig = R at hl
    refine loop_h (I := fun k a s' => ∃ (i : Nat), i + k = A.length ∧ a 6 = .int .i64 (min (numV (A.take i)) 256 : Nat) ∧ a 22 = .int .i64 i ∧ a 21 = .int .i64 A.length ∧ a 5 = .str A ∧ a 4 = .str R ∧ s'.cut d = σ) ?_ A.length _ _ ?_
    · rintro k a s' ⟨i, hk, a6, a22, a21, a5, a4, hcut⟩
      by_cases hi : i < A.length
      · have f1 : (i : Int) < (A.length : Int) := by omega
        have g1 : A[i]? = some A[i] := List.getElem?_eq_getElem hi
        have hd := hA _ (List.getElem_mem hi)
        simp only [dig, Bool.and_eq_true, decide_eq_true_eq] at hd
        have hnv : numV (A.take (i + 1)) = 10 * numV (A.take i) + (A[i].toNat - 48) := by
          rw [List.take_succ_eq_append_getElem hi, numV, List.foldl_append]; rfl
        generalize A[i] = b at g1 hd hnv
        generalize numV (A.take i) = v at a6 hnv
        have x2 := wr64 (10 * ((min v 256 : Nat) : Int)) (by omega) (by omega)
        have x3 := wru8 ((b.toNat : Int) - 48) (by omega) (by omega)
        have x4 := wr64 ((b.toNat : Int) - 48) (by omega) (by omega)
        have x5 := wr64 (10 * ((min v 256 : Nat) : Int) + ((b.toNat : Int) - 48)) (by omega) (by omega)
        have x6 := wr64 ((i : Int) + 1) (by omega) (by omega)
        simp -implicitDefEqProofs -dsimp only [↓reduceIte, not_false_eq_true, ↓W_seq, go_sem, WR_nil, evNews, if_true, if_false, and_true, true_and, Nat.reduceEqDiff, Nat.reduceAdd, Nat.reduceMul, Nat.reduceLeDiff, Nat.reduceLT, Int.cast_ofNat_Int, Int.reduceBNe, Int.reduceToNat, Int.reduceLT, Int.reduceLE, Int.reduceToNat, Int.reduceAdd, Int.reduceNeg, Int.natCast_zero, Int.natCast_one, Int.le_refl, Int.reduceEq, Int.lt_irrefl, reduceCtorEq, enc, f1, a6, a22, a21, a5, a4, g1, x2, x3, x4, x5, x6]
        refine ⟨k - 1, by omega, i + 1, by omega, ?_, rfl, hcut⟩
        rw [hnv]
        congr 1
        split <;> omega
      · have f1 : ¬ (i : Int) < (A.length : Int) := by omega
        have hi' : i = A.length := by omega
        subst hi'
        rw [List.take_length] at a6
        simp -implicitDefEqProofs -dsimp only [↓reduceIte, not_false_eq_true, ↓W_seq, go_sem, WR_nil, evNews, if_true, if_false, and_true, true_and, Nat.reduceEqDiff, Nat.reduceAdd, Nat.reduceMul, Nat.reduceLeDiff, Nat.reduceLT, Int.cast_ofNat_Int, Int.reduceBNe, Int.reduceToNat, Int.reduceLT, Int.reduceLE, Int.reduceToNat, Int.reduceAdd, Int.reduceNeg, Int.natCast_zero, Int.natCast_one, Int.le_refl, Int.reduceEq, Int.lt_irrefl, reduceCtorEq, enc, f1, a6, a22, a21, a5, a4, hcut]
    · refine ⟨0, by omega, rfl, rfl, rfl, rfl, rfl, ?_⟩
      simp -implicitDefEqProofs -dsimp only [↓reduceIte, not_false_eq_true, ↓W_seq, go_sem, WR_nil, evNews, if_true, if_false, and_true, true_and, Nat.reduceEqDiff, Nat.reduceAdd, Nat.reduceMul, Nat.reduceLeDiff, Nat.reduceLT, Int.cast_ofNat_Int, Int.reduceBNe, Int.reduceToNat, Int.reduceLT, Int.reduceLE, Int.reduceToNat, Int.reduceAdd, Int.reduceNeg, Int.natCast_zero, Int.natCast_one, Int.le_refl, Int.reduceEq, Int.lt_irrefl, reduceCtorEq, enc, cut_und _ _ hu]
theorem w222 (s p : List UInt8) (hs : s.length ≤ 1000000) (hp : p.length ≤ 1000) (lim d : Nat) (σ : Sto) (hu : σ.Und d) : Ret lim d 49 [.str s, .str p] σ (.str (if preS s p = true then s.drop p.length else s)) σ := by
  have hun := und_succ hu
  unfold Ret
  rw [WF_body (C := X) rfl Go.Proofs.Tryd.func49 rfl (by kernel_rfl)]; simp only [Go.Proofs.Tryd.results49]
  simp -implicitDefEqProofs -dsimp only [↓reduceIte, not_false_eq_true, ↓W_seq, go_sem, WR_nil, evNews, if_true, if_false, and_true, true_and, Nat.reduceEqDiff, Nat.reduceAdd, Nat.reduceMul, Nat.reduceLeDiff, Nat.reduceLT, Int.cast_ofNat_Int, Int.reduceBNe, Int.reduceToNat, Int.reduceLT, Int.reduceLE, Int.reduceToNat, Int.reduceAdd, Int.reduceNeg, Int.natCast_zero, Int.natCast_one, Int.le_refl, Int.reduceEq, Int.lt_irrefl, reduceCtorEq, enc]
  refine (w86 s p hs lim (d + 1) _ hun).wh ?_
  cases h : preS s p
  · simp -implicitDefEqProofs -dsimp only [↓reduceIte, not_false_eq_true, ↓W_seq, go_sem, WR_nil, evNews, if_true, if_false, and_true, true_and, Nat.reduceEqDiff, Nat.reduceAdd, Nat.reduceMul, Nat.reduceLeDiff, Nat.reduceLT, Int.cast_ofNat_Int, Int.reduceBNe, Int.reduceToNat, Int.reduceLT, Int.reduceLE, Int.reduceToNat, Int.reduceAdd, Int.reduceNeg, Int.natCast_zero, Int.natCast_one, Int.le_refl, Int.reduceEq, Int.lt_irrefl, reduceCtorEq, enc, cut_und _ _ hu, Bool.false_eq_true]
  · have e1 : (0 : Int) ≤ (p.length : Int) ∧ (p.length : Int) ≤ (s.length : Int) := by have := pre_le h; omega
    simp -implicitDefEqProofs -dsimp only [↓reduceIte, not_false_eq_true, ↓W_seq, go_sem, WR_nil, evNews, if_true, if_false, and_true, true_and, Nat.reduceEqDiff, Nat.reduceAdd, Nat.reduceMul, Nat.reduceLeDiff, Nat.reduceLT, Int.cast_ofNat_Int, Int.reduceBNe, Int.reduceToNat, Int.reduceLT, Int.reduceLE, Int.reduceToNat, Int.reduceAdd, Int.reduceNeg, Int.natCast_zero, Int.natCast_one, Int.le_refl, Int.reduceEq, Int.lt_irrefl, reduceCtorEq, enc, bnd, e1, drop_str, cut_und _ _ hu]
theorem w219 (s p : List UInt8) (hs : s.length ≤ 1000000) (hp : p.length ≤ 1000) (lim d : Nat) (σ : Sto) (hu : σ.Und d) : Ret lim d 37 [.str s, .str p] σ (.str (if preS s p = true then s.drop p.length else s)) σ := by
  unfold Ret
  rw [WF_body (C := X) rfl Go.Proofs.Tryd.func37 rfl (by kernel_rfl)]; simp only [Go.Proofs.Tryd.results37]
  simp -implicitDefEqProofs -dsimp only [↓reduceIte, not_false_eq_true, ↓W_seq, go_sem, WR_nil, evNews, if_true, if_false, and_true, true_and, Nat.reduceEqDiff, Nat.reduceAdd, Nat.reduceMul, Nat.reduceLeDiff, Nat.reduceLT, Int.cast_ofNat_Int, Int.reduceBNe, Int.reduceToNat, Int.reduceLT, Int.reduceLE, Int.reduceToNat, Int.reduceAdd, Int.reduceNeg, Int.natCast_zero, Int.natCast_one, Int.le_refl, Int.reduceEq, Int.lt_irrefl, reduceCtorEq, enc]
  refine (w222 s p hs hp lim (d + 1) _ (und_succ hu)).wh ?_
  simp -implicitDefEqProofs -dsimp only [↓reduceIte, not_false_eq_true, ↓W_seq, go_sem, WR_nil, evNews, if_true, if_false, and_true, true_and, Nat.reduceEqDiff, Nat.reduceAdd, Nat.reduceMul, Nat.reduceLeDiff, Nat.reduceLT, Int.cast_ofNat_Int, Int.reduceBNe, Int.reduceToNat, Int.reduceLT, Int.reduceLE, Int.reduceToNat, Int.reduceAdd, Int.reduceNeg, Int.natCast_zero, Int.natCast_one, Int.le_refl, Int.reduceEq, Int.lt_irrefl, reduceCtorEq, enc, cut_und _ _ hu]
def cpT (s p : List UInt8) : MV := if preS s p = true then .tup [.str (s.drop p.length), .bool true] else .tup [.str s, .bool false]
theorem w223 (s p : List UInt8) (hs : s.length ≤ 1000000) (hp : p.length ≤ 1000) (lim d : Nat) (σ : Sto) (hu : σ.Und d) : Ret lim d 50 [.str s, .str p] σ (cpT s p) σ := by
  have hun := und_succ hu
  unfold Ret cpT
  rw [WF_body (C := X) rfl Go.Proofs.Tryd.func50 rfl (by kernel_rfl)]; simp only [Go.Proofs.Tryd.results50]
  simp -implicitDefEqProofs -dsimp only [↓reduceIte, not_false_eq_true, ↓W_seq, go_sem, WR_nil, evNews, if_true, if_false, and_true, true_and, Nat.reduceEqDiff, Nat.reduceAdd, Nat.reduceMul, Nat.reduceLeDiff, Nat.reduceLT, Int.cast_ofNat_Int, Int.reduceBNe, Int.reduceToNat, Int.reduceLT, Int.reduceLE, Int.reduceToNat, Int.reduceAdd, Int.reduceNeg, Int.natCast_zero, Int.natCast_one, Int.le_refl, Int.reduceEq, Int.lt_irrefl, reduceCtorEq, enc]
  refine (w86 s p hs lim (d + 1) _ hun).wh ?_
  cases h : preS s p
  · simp -implicitDefEqProofs -dsimp only [↓reduceIte, not_false_eq_true, ↓W_seq, go_sem, WR_nil, evNews, if_true, if_false, and_true, true_and, Nat.reduceEqDiff, Nat.reduceAdd, Nat.reduceMul, Nat.reduceLeDiff, Nat.reduceLT, Int.cast_ofNat_Int, Int.reduceBNe, Int.reduceToNat, Int.reduceLT, Int.reduceLE, Int.reduceToNat, Int.reduceAdd, Int.reduceNeg, Int.natCast_zero, Int.natCast_one, Int.le_refl, Int.reduceEq, Int.lt_irrefl, reduceCtorEq, enc, cut_und _ _ hu, Bool.false_eq_true]
  · have e1 : (0 : Int) ≤ (p.length : Int) ∧ (p.length : Int) ≤ (s.length : Int) := by have := pre_le h; omega
    simp -implicitDefEqProofs -dsimp only [↓reduceIte, not_false_eq_true, ↓W_seq, go_sem, WR_nil, evNews, if_true, if_false, and_true, true_and, Nat.reduceEqDiff, Nat.reduceAdd, Nat.reduceMul, Nat.reduceLeDiff, Nat.reduceLT, Int.cast_ofNat_Int, Int.reduceBNe, Int.reduceToNat, Int.reduceLT, Int.reduceLE, Int.reduceToNat, Int.reduceAdd, Int.reduceNeg, Int.natCast_zero, Int.natCast_one, Int.le_refl, Int.reduceEq, Int.lt_irrefl, reduceCtorEq, enc, bnd, e1, drop_str, cut_und _ _ hu]
theorem w220 (s p : List UInt8) (hs : s.length ≤ 1000000) (hp : p.length ≤ 1000) (lim d : Nat) (σ : Sto) (hu : σ.Und d) : Ret lim d 38 [.str s, .str p] σ (cpT s p) σ := by
  unfold Ret
  rw [WF_body (C := X) rfl Go.Proofs.Tryd.func38 rfl (by kernel_rfl)]; simp only [Go.Proofs.Tryd.results38]
  simp -implicitDefEqProofs -dsimp only [↓reduceIte, not_false_eq_true, ↓W_seq, go_sem, WR_nil, evNews, if_true, if_false, and_true, true_and, Nat.reduceEqDiff, Nat.reduceAdd, Nat.reduceMul, Nat.reduceLeDiff, Nat.reduceLT, Int.cast_ofNat_Int, Int.reduceBNe, Int.reduceToNat, Int.reduceLT, Int.reduceLE, Int.reduceToNat, Int.reduceAdd, Int.reduceNeg, Int.natCast_zero, Int.natCast_one, Int.le_refl, Int.reduceEq, Int.lt_irrefl, reduceCtorEq, enc]
  refine (w223 s p hs hp lim (d + 1) _ (und_succ hu)).wh ?_
  unfold cpT
  cases h : preS s p
  · simp -implicitDefEqProofs -dsimp only [↓reduceIte, not_false_eq_true, ↓W_seq, go_sem, WR_nil, evNews, if_true, if_false, and_true, true_and, Nat.reduceEqDiff, Nat.reduceAdd, Nat.reduceMul, Nat.reduceLeDiff, Nat.reduceLT, Int.cast_ofNat_Int, Int.reduceBNe, Int.reduceToNat, Int.reduceLT, Int.reduceLE, Int.reduceToNat, Int.reduceAdd, Int.reduceNeg, Int.natCast_zero, Int.natCast_one, Int.le_refl, Int.reduceEq, Int.lt_irrefl, reduceCtorEq, enc, cut_und _ _ hu, Bool.false_eq_true]
  · simp -implicitDefEqProofs -dsimp only [↓reduceIte, not_false_eq_true, ↓W_seq, go_sem, WR_nil, evNews, if_true, if_false, and_true, true_and, Nat.reduceEqDiff, Nat.reduceAdd, Nat.reduceMul, Nat.reduceLeDiff, Nat.reduceLT, Int.cast_ofNat_Int, Int.reduceBNe, Int.reduceToNat, Int.reduceLT, Int.reduceLE, Int.reduceToNat, Int.reduceAdd, Int.reduceNeg, Int.natCast_zero, Int.natCast_one, Int.le_refl, Int.reduceEq, Int.lt_irrefl, reduceCtorEq, enc, cut_und _ _ hu]
end Go.Proofs.Tryd.E
