/- Walks: what the functions compute. -/
import Derived.Test.YtfnkcmnofnppcaaGreatDoorL5
set_option linter.unusedVariables false
set_option linter.unusedSimpArgs false
/- The law AddressLines: what it computes. -/
namespace Go.Proofs.Tryz.E
open Go.Mv
set_option maxHeartbeats 4000000
set_option maxRecDepth 20000
@[go_sem] theorem bin_bb (x y : Bool) : binO X.P X.eqT .eql 4 (.bool x) (.bool y) = some (.bool (x == y)) := by
  have h : X.P.underlying 4 = some .bool := by kernel_rfl
  simp only [binO, h]
theorem w301 (a b : Int) (bl : List UInt8) (nt : Bool) (lim d : Nat) (hlim : lim ≤ d) (σ : Sto) (hu : σ.Und d) : Ret lim d 3 [.int .i64 a, .int .i64 b, .str bl, .bool nt] σ (.bool true) σ := by
  have hun := und_succ hu
  unfold Ret
  rw [WF_body (C := X) rfl Go.Proofs.Tryz.func3 rfl (by kernel_rfl)]; simp only [Go.Proofs.Tryz.results3]
  simp -implicitDefEqProofs -dsimp only [↓reduceIte, not_false_eq_true, ↓W_seq, go_sem, WR_nil, evNews, if_true, if_false, and_true, true_and, Nat.reduceEqDiff, Nat.reduceAdd, Nat.reduceMul, Nat.reduceLeDiff, Nat.reduceLT, Int.cast_ofNat_Int, Int.reduceBNe, Int.reduceToNat, Int.reduceLT, Int.reduceLE, Int.reduceToNat, Int.reduceAdd, Int.reduceNeg, Int.natCast_zero, Int.natCast_one, Int.le_refl, Int.reduceEq, Int.lt_irrefl, reduceCtorEq, enc]
  refine (w302 lim (d + 1) (by omega) _ hun).wh ?_
  by_cases h1 : a < 0
  · simp -implicitDefEqProofs -dsimp only [↓reduceIte, not_false_eq_true, ↓W_seq, go_sem, WR_nil, evNews, if_true, if_false, and_true, true_and, Nat.reduceEqDiff, Nat.reduceAdd, Nat.reduceMul, Nat.reduceLeDiff, Nat.reduceLT, Int.cast_ofNat_Int, Int.reduceBNe, Int.reduceToNat, Int.reduceLT, Int.reduceLE, Int.reduceToNat, Int.reduceAdd, Int.reduceNeg, Int.natCast_zero, Int.natCast_one, Int.le_refl, Int.reduceEq, Int.lt_irrefl, reduceCtorEq, enc, h1]
    refine (w302 lim (d + 1) (by omega) _ hun).wh ?_
    simp -implicitDefEqProofs -dsimp only [↓reduceIte, not_false_eq_true, ↓W_seq, go_sem, WR_nil, evNews, if_true, if_false, and_true, true_and, Nat.reduceEqDiff, Nat.reduceAdd, Nat.reduceMul, Nat.reduceLeDiff, Nat.reduceLT, Int.cast_ofNat_Int, Int.reduceBNe, Int.reduceToNat, Int.reduceLT, Int.reduceLE, Int.reduceToNat, Int.reduceAdd, Int.reduceNeg, Int.natCast_zero, Int.natCast_one, Int.le_refl, Int.reduceEq, Int.lt_irrefl, reduceCtorEq, enc, cut_und _ _ hu]
  by_cases h2 : b < 0
  · simp -implicitDefEqProofs -dsimp only [↓reduceIte, not_false_eq_true, ↓W_seq, go_sem, WR_nil, evNews, if_true, if_false, and_true, true_and, Nat.reduceEqDiff, Nat.reduceAdd, Nat.reduceMul, Nat.reduceLeDiff, Nat.reduceLT, Int.cast_ofNat_Int, Int.reduceBNe, Int.reduceToNat, Int.reduceLT, Int.reduceLE, Int.reduceToNat, Int.reduceAdd, Int.reduceNeg, Int.natCast_zero, Int.natCast_one, Int.le_refl, Int.reduceEq, Int.lt_irrefl, reduceCtorEq, enc, h1, h2]
    refine (w302 lim (d + 1) (by omega) _ hun).wh ?_
    simp -implicitDefEqProofs -dsimp only [↓reduceIte, not_false_eq_true, ↓W_seq, go_sem, WR_nil, evNews, if_true, if_false, and_true, true_and, Nat.reduceEqDiff, Nat.reduceAdd, Nat.reduceMul, Nat.reduceLeDiff, Nat.reduceLT, Int.cast_ofNat_Int, Int.reduceBNe, Int.reduceToNat, Int.reduceLT, Int.reduceLE, Int.reduceToNat, Int.reduceAdd, Int.reduceNeg, Int.natCast_zero, Int.natCast_one, Int.le_refl, Int.reduceEq, Int.lt_irrefl, reduceCtorEq, enc, cut_und _ _ hu]
  by_cases h3 : 1000000000 < a
  · simp -implicitDefEqProofs -dsimp only [↓reduceIte, not_false_eq_true, ↓W_seq, go_sem, WR_nil, evNews, if_true, if_false, and_true, true_and, Nat.reduceEqDiff, Nat.reduceAdd, Nat.reduceMul, Nat.reduceLeDiff, Nat.reduceLT, Int.cast_ofNat_Int, Int.reduceBNe, Int.reduceToNat, Int.reduceLT, Int.reduceLE, Int.reduceToNat, Int.reduceAdd, Int.reduceNeg, Int.natCast_zero, Int.natCast_one, Int.le_refl, Int.reduceEq, Int.lt_irrefl, reduceCtorEq, enc, h1, h2, h3]
    refine (w302 lim (d + 1) (by omega) _ hun).wh ?_
    simp -implicitDefEqProofs -dsimp only [↓reduceIte, not_false_eq_true, ↓W_seq, go_sem, WR_nil, evNews, if_true, if_false, and_true, true_and, Nat.reduceEqDiff, Nat.reduceAdd, Nat.reduceMul, Nat.reduceLeDiff, Nat.reduceLT, Int.cast_ofNat_Int, Int.reduceBNe, Int.reduceToNat, Int.reduceLT, Int.reduceLE, Int.reduceToNat, Int.reduceAdd, Int.reduceNeg, Int.natCast_zero, Int.natCast_one, Int.le_refl, Int.reduceEq, Int.lt_irrefl, reduceCtorEq, enc, cut_und _ _ hu]
  by_cases h4 : 1000000000 < b
  · simp -implicitDefEqProofs -dsimp only [↓reduceIte, not_false_eq_true, ↓W_seq, go_sem, WR_nil, evNews, if_true, if_false, and_true, true_and, Nat.reduceEqDiff, Nat.reduceAdd, Nat.reduceMul, Nat.reduceLeDiff, Nat.reduceLT, Int.cast_ofNat_Int, Int.reduceBNe, Int.reduceToNat, Int.reduceLT, Int.reduceLE, Int.reduceToNat, Int.reduceAdd, Int.reduceNeg, Int.natCast_zero, Int.natCast_one, Int.le_refl, Int.reduceEq, Int.lt_irrefl, reduceCtorEq, enc, h1, h2, h3, h4]
    refine (w302 lim (d + 1) (by omega) _ hun).wh ?_
    simp -implicitDefEqProofs -dsimp only [↓reduceIte, not_false_eq_true, ↓W_seq, go_sem, WR_nil, evNews, if_true, if_false, and_true, true_and, Nat.reduceEqDiff, Nat.reduceAdd, Nat.reduceMul, Nat.reduceLeDiff, Nat.reduceLT, Int.cast_ofNat_Int, Int.reduceBNe, Int.reduceToNat, Int.reduceLT, Int.reduceLE, Int.reduceToNat, Int.reduceAdd, Int.reduceNeg, Int.natCast_zero, Int.natCast_one, Int.le_refl, Int.reduceEq, Int.lt_irrefl, reduceCtorEq, enc, cut_und _ _ hu]
  by_cases h5 : (20 : Int) < (bl.length : Int)
  · simp -implicitDefEqProofs -dsimp only [↓reduceIte, not_false_eq_true, ↓W_seq, go_sem, WR_nil, evNews, if_true, if_false, and_true, true_and, Nat.reduceEqDiff, Nat.reduceAdd, Nat.reduceMul, Nat.reduceLeDiff, Nat.reduceLT, Int.cast_ofNat_Int, Int.reduceBNe, Int.reduceToNat, Int.reduceLT, Int.reduceLE, Int.reduceToNat, Int.reduceAdd, Int.reduceNeg, Int.natCast_zero, Int.natCast_one, Int.le_refl, Int.reduceEq, Int.lt_irrefl, reduceCtorEq, enc, h1, h2, h3, h4, h5]
    refine (w302 lim (d + 1) (by omega) _ hun).wh ?_
    simp -implicitDefEqProofs -dsimp only [↓reduceIte, not_false_eq_true, ↓W_seq, go_sem, WR_nil, evNews, if_true, if_false, and_true, true_and, Nat.reduceEqDiff, Nat.reduceAdd, Nat.reduceMul, Nat.reduceLeDiff, Nat.reduceLT, Int.cast_ofNat_Int, Int.reduceBNe, Int.reduceToNat, Int.reduceLT, Int.reduceLE, Int.reduceToNat, Int.reduceAdd, Int.reduceNeg, Int.natCast_zero, Int.natCast_one, Int.le_refl, Int.reduceEq, Int.lt_irrefl, reduceCtorEq, enc, cut_und _ _ hu]
  obtain ⟨n, rfl⟩ : ∃ n : Nat, a = n := ⟨a.toNat, by omega⟩
  obtain ⟨m, rfl⟩ : ∃ m : Nat, b = m := ⟨b.toNat, by omega⟩
  simp -implicitDefEqProofs -dsimp only [↓reduceIte, not_false_eq_true, ↓W_seq, go_sem, WR_nil, evNews, if_true, if_false, and_true, true_and, Nat.reduceEqDiff, Nat.reduceAdd, Nat.reduceMul, Nat.reduceLeDiff, Nat.reduceLT, Int.cast_ofNat_Int, Int.reduceBNe, Int.reduceToNat, Int.reduceLT, Int.reduceLE, Int.reduceToNat, Int.reduceAdd, Int.reduceNeg, Int.natCast_zero, Int.natCast_one, Int.le_refl, Int.reduceEq, Int.lt_irrefl, reduceCtorEq, enc, h1, h2, h3, h4, h5]
  refine loop_h (I := fun k a s' => ∃ (i : Nat), i + k = bl.length ∧ a 40 = .int .i64 i ∧ a 39 = .int .i64 bl.length ∧ a 2 = .str bl ∧ a 0 = .int .i64 n ∧ a 1 = .int .i64 m ∧ a 3 = .bool nt ∧ s' = σ ∧ (∀ j, j < i → ∀ c, bl[j]? = some c → c = 32 ∨ c = 9)) ?_ bl.length _ _ ?_
  · rintro k a s' ⟨i, hik, a40, a39, a2, a0, a1, a3, rfl, hbl⟩
    by_cases hi : i < bl.length
    · have e1 : ((i : Int) < (bl.length : Int)) := by omega
      have e2 : bl[i]? = some bl[i] := List.getElem?_eq_getElem hi
      have y7 := wr64 ((i : Int) + 1) (by omega) (by omega)
      by_cases c1 : bl[i] = 32
      · have q1 : (((bl[i]).toNat : Int) != 32) = false := by rw [c1]; rfl
        simp -implicitDefEqProofs -dsimp only [↓reduceIte, not_false_eq_true, ↓W_seq, go_sem, WR_nil, evNews, if_true, if_false, and_true, true_and, Nat.reduceEqDiff, Nat.reduceAdd, Nat.reduceMul, Nat.reduceLeDiff, Nat.reduceLT, Int.cast_ofNat_Int, Int.reduceBNe, Int.reduceToNat, Int.reduceLT, Int.reduceLE, Int.reduceToNat, Int.reduceAdd, Int.reduceNeg, Int.natCast_zero, Int.natCast_one, Int.le_refl, Int.reduceEq, Int.lt_irrefl, reduceCtorEq, enc, e1, e2, a40, a39, a2, a0, a1, a3, q1, y7]
        refine ⟨k - 1, by omega, i + 1, by omega, by simp, fun j hj c hc => ?_⟩
        rcases Nat.lt_or_ge j i with q | q
        · exact hbl j q c hc
        · have : j = i := by omega
          subst this
          rw [e2] at hc
          exact .inl ((Option.some.inj hc).symm.trans c1)
      · have q1 : (((bl[i]).toNat : Int) != 32) = true := by
          rw [bne_iff_ne]; intro q
          exact c1 (UInt8.toNat_inj.1 (by have : (32 : UInt8).toNat = 32 := rfl; omega))
        by_cases c2 : bl[i] = 9
        · have q2 : (((bl[i]).toNat : Int) != 9) = false := by rw [c2]; rfl
          simp -implicitDefEqProofs -dsimp only [↓reduceIte, not_false_eq_true, ↓W_seq, go_sem, WR_nil, evNews, if_true, if_false, and_true, true_and, Nat.reduceEqDiff, Nat.reduceAdd, Nat.reduceMul, Nat.reduceLeDiff, Nat.reduceLT, Int.cast_ofNat_Int, Int.reduceBNe, Int.reduceToNat, Int.reduceLT, Int.reduceLE, Int.reduceToNat, Int.reduceAdd, Int.reduceNeg, Int.natCast_zero, Int.natCast_one, Int.le_refl, Int.reduceEq, Int.lt_irrefl, reduceCtorEq, enc, e1, e2, a40, a39, a2, a0, a1, a3, q1, q2, y7]
          refine ⟨k - 1, by omega, i + 1, by omega, by simp, fun j hj c hc => ?_⟩
          rcases Nat.lt_or_ge j i with q | q
          · exact hbl j q c hc
          · have : j = i := by omega
            subst this
            rw [e2] at hc
            exact .inr ((Option.some.inj hc).symm.trans c2)
        · have q2 : (((bl[i]).toNat : Int) != 9) = true := by
            rw [bne_iff_ne]; intro q
            exact c2 (UInt8.toNat_inj.1 (by have : (9 : UInt8).toNat = 9 := rfl; omega))
          simp -implicitDefEqProofs -dsimp only [↓reduceIte, not_false_eq_true, ↓W_seq, go_sem, WR_nil, evNews, if_true, if_false, and_true, true_and, Nat.reduceEqDiff, Nat.reduceAdd, Nat.reduceMul, Nat.reduceLeDiff, Nat.reduceLT, Int.cast_ofNat_Int, Int.reduceBNe, Int.reduceToNat, Int.reduceLT, Int.reduceLE, Int.reduceToNat, Int.reduceAdd, Int.reduceNeg, Int.natCast_zero, Int.natCast_one, Int.le_refl, Int.reduceEq, Int.lt_irrefl, reduceCtorEq, enc, e1, e2, a40, a39, a2, a0, a1, a3, q1, q2, cut_und _ _ hu]
    · have e1 : ¬ ((i : Int) < (bl.length : Int)) := by omega
      have hb : ∀ x ∈ bl, x = 32 ∨ x = 9 := fun x hx => by
        obtain ⟨j, hj, e⟩ := List.getElem_of_mem hx
        exact hbl j (by omega) x (by rw [List.getElem?_eq_getElem hj, e])
      have la := dec_len10 n 9 (by omega)
      have lc := dec_len10 m 9 (by omega)
      have hR := read_txt n m bl nt (by omega) (by omega) hb (by omega)
      simp -implicitDefEqProofs -dsimp only [↓reduceIte, not_false_eq_true, ↓W_seq, go_sem, WR_nil, evNews, if_true, if_false, and_true, true_and, Nat.reduceEqDiff, Nat.reduceAdd, Nat.reduceMul, Nat.reduceLeDiff, Nat.reduceLT, Int.cast_ofNat_Int, Int.reduceBNe, Int.reduceToNat, Int.reduceLT, Int.reduceLE, Int.reduceToNat, Int.reduceAdd, Int.reduceNeg, Int.natCast_zero, Int.natCast_one, Int.le_refl, Int.reduceEq, Int.lt_irrefl, reduceCtorEq, enc, e1, a40, a39, a2, a0, a1, a3]
      refine (w303 n (by omega) lim (d + 1) (by omega) _ hun).wh ?_
      simp -implicitDefEqProofs -dsimp only [↓reduceIte, not_false_eq_true, ↓W_seq, go_sem, WR_nil, evNews, if_true, if_false, and_true, true_and, Nat.reduceEqDiff, Nat.reduceAdd, Nat.reduceMul, Nat.reduceLeDiff, Nat.reduceLT, Int.cast_ofNat_Int, Int.reduceBNe, Int.reduceToNat, Int.reduceLT, Int.reduceLE, Int.reduceToNat, Int.reduceAdd, Int.reduceNeg, Int.natCast_zero, Int.natCast_one, Int.le_refl, Int.reduceEq, Int.lt_irrefl, reduceCtorEq, enc, a40, a39, a2, a0, a1, a3]
      refine ⟨by omega, by simp; omega, (w303 m (by omega) lim (d + 1) (by omega) _ hun).wh ?_⟩
      simp -implicitDefEqProofs -dsimp only [↓reduceIte, not_false_eq_true, ↓W_seq, go_sem, WR_nil, evNews, if_true, if_false, and_true, true_and, Nat.reduceEqDiff, Nat.reduceAdd, Nat.reduceMul, Nat.reduceLeDiff, Nat.reduceLT, Int.cast_ofNat_Int, Int.reduceBNe, Int.reduceToNat, Int.reduceLT, Int.reduceLE, Int.reduceToNat, Int.reduceAdd, Int.reduceNeg, Int.natCast_zero, Int.natCast_one, Int.le_refl, Int.reduceEq, Int.lt_irrefl, reduceCtorEq, enc, a40, a39, a2, a0, a1, a3]
      refine ⟨by simp; omega, by simp; omega, ?_⟩
      cases nt
      · simp only [Bool.false_eq_true, if_false]
        refine ⟨by simp; omega, ?_⟩
        let T := decS n ++ [44] ++ bl ++ decS m ++ bl
        let S := T ++ [112]
        show WFh X lim (d + 1) 6 [MV.str S] _ _
        have hS : S = decS n ++ (44 :: (bl ++ (decS m ++ (bl ++ tailL bl false)))) := by simp [S, T, tailL]
        obtain ⟨m1, m2, m3, m4, m5, r1, r2, r3, r4, r5, r6, r7, r8, r9, r10, r11, r12, r13⟩ := hR S hS
        have hT : T.length + 1 = S.length := by simp [S]
        have hl5 : (m5 : Int) = ((decS n ++ [44] ++ bl ++ decS m ++ bl).length : Int) := by show (m5 : Int) = (T.length : Int); omega
        clear_value S
        refine wh304 S lim d (by omega) _ ?_
        simp -implicitDefEqProofs -dsimp only [↓reduceIte, not_false_eq_true, ↓W_seq, go_sem, WR_nil, evNews, if_true, if_false, and_true, true_and, Nat.reduceEqDiff, Nat.reduceAdd, Nat.reduceMul, Nat.reduceLeDiff, Nat.reduceLT, Int.cast_ofNat_Int, Int.reduceBNe, Int.reduceToNat, Int.reduceLT, Int.reduceLE, Int.reduceToNat, Int.reduceAdd, Int.reduceNeg, Int.natCast_zero, Int.natCast_one, Int.le_refl, Int.reduceEq, Int.lt_irrefl, reduceCtorEq, enc]
        refine (w305 S (by omega) 1 n m1 r1 r2 r3 1 m m2 m3 r4 r5 r6 r7 m4 r8 r9 false r10 m5 r11 ⟨d, 0, _⟩ lim (d + 1) (Nat.lt_succ_self d) hlim _ (by simp only [u_tick, u_mine]; exact hun) (by simp only [go_sem, if_true])).wh ?_
        simp -implicitDefEqProofs -dsimp only [↓reduceIte, not_false_eq_true, ↓W_seq, go_sem, WR_nil, evNews, if_true, if_false, and_true, true_and, Nat.reduceEqDiff, Nat.reduceAdd, Nat.reduceMul, Nat.reduceLeDiff, Nat.reduceLT, Int.cast_ofNat_Int, Int.reduceBNe, Int.reduceToNat, Int.reduceLT, Int.reduceLE, Int.reduceToNat, Int.reduceAdd, Int.reduceNeg, Int.natCast_zero, Int.natCast_one, Int.le_refl, Int.reduceEq, Int.lt_irrefl, reduceCtorEq, enc, adrL, encs, List.cons_append, List.nil_append, beq_self_eq_true, a40, a39, a2, a0, a1, a3]
        refine (w306 S m5 ⟨d, 0, _⟩ lim (d + 1) (Nat.lt_succ_self d) _ (by simp only [u_tick, u_mine]; exact hun) (by simp only [go_sem, if_true, Nat.reduceEqDiff, false_and, and_false, if_false, reduceCtorEq])).wh ?_
        simp -implicitDefEqProofs -dsimp only [↓reduceIte, not_false_eq_true, ↓W_seq, go_sem, WR_nil, evNews, if_true, if_false, and_true, true_and, Nat.reduceEqDiff, Nat.reduceAdd, Nat.reduceMul, Nat.reduceLeDiff, Nat.reduceLT, Int.cast_ofNat_Int, Int.reduceBNe, Int.reduceToNat, Int.reduceLT, Int.reduceLE, Int.reduceToNat, Int.reduceAdd, Int.reduceNeg, Int.natCast_zero, Int.natCast_one, Int.le_refl, Int.reduceEq, Int.lt_irrefl, reduceCtorEq, enc, hl5, beq_self_eq_true, a40, a39, a2, a0, a1, a3, cut_und _ _ hu]
      · simp only [if_true]
        refine ⟨by simp; omega, by simp; omega, by simp; omega, ?_⟩
        let T := decS n ++ [44] ++ bl ++ decS m ++ bl ++ [33] ++ bl
        let S := T ++ [112]
        show WFh X lim (d + 1) 6 [MV.str S] _ _
        have hS : S = decS n ++ (44 :: (bl ++ (decS m ++ (bl ++ tailL bl true)))) := by simp [S, T, tailL]
        obtain ⟨m1, m2, m3, m4, m5, r1, r2, r3, r4, r5, r6, r7, r8, r9, r10, r11, r12, r13⟩ := hR S hS
        have hT : T.length + 1 = S.length := by simp [S]
        have hl5 : (m5 : Int) = ((decS n ++ [44] ++ bl ++ decS m ++ bl ++ [33] ++ bl).length : Int) := by show (m5 : Int) = (T.length : Int); omega
        clear_value S
        refine wh304 S lim d (by omega) _ ?_
        simp -implicitDefEqProofs -dsimp only [↓reduceIte, not_false_eq_true, ↓W_seq, go_sem, WR_nil, evNews, if_true, if_false, and_true, true_and, Nat.reduceEqDiff, Nat.reduceAdd, Nat.reduceMul, Nat.reduceLeDiff, Nat.reduceLT, Int.cast_ofNat_Int, Int.reduceBNe, Int.reduceToNat, Int.reduceLT, Int.reduceLE, Int.reduceToNat, Int.reduceAdd, Int.reduceNeg, Int.natCast_zero, Int.natCast_one, Int.le_refl, Int.reduceEq, Int.lt_irrefl, reduceCtorEq, enc]
        refine (w305 S (by omega) 1 n m1 r1 r2 r3 1 m m2 m3 r4 r5 r6 r7 m4 r8 r9 true r10 m5 r11 ⟨d, 0, _⟩ lim (d + 1) (Nat.lt_succ_self d) hlim _ (by simp only [u_tick, u_mine]; exact hun) (by simp only [go_sem, if_true])).wh ?_
        simp -implicitDefEqProofs -dsimp only [↓reduceIte, not_false_eq_true, ↓W_seq, go_sem, WR_nil, evNews, if_true, if_false, and_true, true_and, Nat.reduceEqDiff, Nat.reduceAdd, Nat.reduceMul, Nat.reduceLeDiff, Nat.reduceLT, Int.cast_ofNat_Int, Int.reduceBNe, Int.reduceToNat, Int.reduceLT, Int.reduceLE, Int.reduceToNat, Int.reduceAdd, Int.reduceNeg, Int.natCast_zero, Int.natCast_one, Int.le_refl, Int.reduceEq, Int.lt_irrefl, reduceCtorEq, enc, adrL, encs, List.cons_append, List.nil_append, beq_self_eq_true, a40, a39, a2, a0, a1, a3]
        refine (w306 S m5 ⟨d, 0, _⟩ lim (d + 1) (Nat.lt_succ_self d) _ (by simp only [u_tick, u_mine]; exact hun) (by simp only [go_sem, if_true, Nat.reduceEqDiff, false_and, and_false, if_false, reduceCtorEq])).wh ?_
        simp -implicitDefEqProofs -dsimp only [↓reduceIte, not_false_eq_true, ↓W_seq, go_sem, WR_nil, evNews, if_true, if_false, and_true, true_and, Nat.reduceEqDiff, Nat.reduceAdd, Nat.reduceMul, Nat.reduceLeDiff, Nat.reduceLT, Int.cast_ofNat_Int, Int.reduceBNe, Int.reduceToNat, Int.reduceLT, Int.reduceLE, Int.reduceToNat, Int.reduceAdd, Int.reduceNeg, Int.natCast_zero, Int.natCast_one, Int.le_refl, Int.reduceEq, Int.lt_irrefl, reduceCtorEq, enc, hl5, beq_self_eq_true, a40, a39, a2, a0, a1, a3, cut_und _ _ hu]
  · refine ⟨0, Nat.zero_add _, ?_⟩
    simp -implicitDefEqProofs -dsimp only [↓reduceIte, not_false_eq_true, ↓W_seq, go_sem, WR_nil, evNews, if_true, if_false, and_true, true_and, Nat.reduceEqDiff, Nat.reduceAdd, Nat.reduceMul, Nat.reduceLeDiff, Nat.reduceLT, Int.cast_ofNat_Int, Int.reduceBNe, Int.reduceToNat, Int.reduceLT, Int.reduceLE, Int.reduceToNat, Int.reduceAdd, Int.reduceNeg, Int.natCast_zero, Int.natCast_one, Int.le_refl, Int.reduceEq, Int.lt_irrefl, reduceCtorEq, enc]
    exact fun j hj => absurd hj (Nat.not_lt_zero j)
end Go.Proofs.Tryz.E
