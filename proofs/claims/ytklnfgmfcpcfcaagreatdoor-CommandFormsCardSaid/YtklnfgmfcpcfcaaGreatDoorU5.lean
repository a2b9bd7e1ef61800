/- Walks: what the functions compute. -/
import Derived.Test.YtklnfgmfcpcfcaaGreatDoorU1
set_option linter.unusedVariables false
set_option linter.unusedSimpArgs false
/- Parts: whether they are formed, the greatest group; a pattern's groups. -/
namespace Go.Proofs.Tryz.E
open Go.Mv
set_option maxHeartbeats 4000000
set_option maxRecDepth 20000
@[go_sem] theorem bin_bneqU (x y : Bool) : binO X.P X.eqT .neq 4 (.bool x) (.bool y) = some (.bool (!(x == y))) := by
  cases x <;> cases y <;> kernel_rfl
/-- Parts are formed; whether the one ahead was bytes. -/
def okF : Bool → List Pt → Bool
  | _, [] => true
  | b, p :: r => !decide (p.1 < -1) && (!decide (9 < p.1) && (((p.1 == -1) == !(p.2 == [])) && (!((p.1 == -1) && b) && okF (p.1 == -1) r)))
theorem w685 (ps : List Pt) (hl : ps.length ≤ 1000000) (lim d : Nat) (σ : Sto) (hu : σ.Und d) : Ret lim d 69 [.sl .no (encPs ps)] σ (.bool (okF false ps)) σ := by
  have hun := und_succ hu
  unfold Ret
  rw [WF_body (C := X) rfl Go.Proofs.Tryz.func69 rfl (by kernel_rfl)]; simp only [Go.Proofs.Tryz.results69]
  simp -implicitDefEqProofs -dsimp only [↓reduceIte, ↓W_seq, go_sem, WR_nil, evNews, Nat.reduceEqDiff, Nat.reduceAdd, Nat.reduceMul, Nat.reduceLeDiff, Nat.reduceLT, Int.cast_ofNat_Int, Int.reduceBNe, Int.reduceToNat, Int.reduceLT, Int.reduceLE, Int.reduceAdd, Int.reduceNeg, Int.reduceEq, reduceCtorEq, enc, encPs_len]
  refine loop_h (I := fun k a s => ∃ (i : Nat) (b : Bool), i + k = ps.length ∧ a 9 = .int .i64 i ∧ a 8 = .int .i64 ps.length ∧ a 7 = .sl .no (encPs ps) ∧ a 3 = .bool b ∧ okF b (ps.drop i) = okF false ps ∧ s.cut d = σ ∧ s.Und (d + 1)) ?_ ps.length _ _ ?_
  · rintro k a s ⟨i, b, hk, h9, h8, h7, h3, hE, hs, hs2⟩
    by_cases hi : i < ps.length
    · have e1 : ((i : Int) < (ps.length : Int)) := by omega
      have x1 : IntKind.i64.wrap ((i : Int) + 1) = ((i + 1 : Nat) : Int) := by rw [wr64 _ (by omega) (by omega)]; omega
      have hel := encPs_at hi
      rw [List.drop_eq_getElem_cons hi] at hE
      generalize ps[i] = p at hel hE
      obtain ⟨n, t⟩ := p
      simp only [okF] at hE
      by_cases c1 : n < -1
      · rw [decide_eq_true c1, Bool.not_true, Bool.false_and] at hE
        simp -implicitDefEqProofs -dsimp only [↓reduceIte, ↓W_seq, go_sem, WR_nil, evNews, Nat.reduceEqDiff, Nat.reduceAdd, Nat.reduceMul, Nat.reduceLeDiff, Nat.reduceLT, Int.cast_ofNat_Int, Int.reduceBNe, Int.reduceToNat, Int.reduceLT, Int.reduceLE, Int.reduceAdd, Int.reduceNeg, Int.reduceEq, reduceCtorEq, enc, e1, h9, h8, h7, h3, hel, encPt, c1, ← hE, hs]
      rw [decide_eq_false c1, Bool.not_false, Bool.true_and] at hE
      by_cases c2 : 9 < n
      · rw [decide_eq_true c2, Bool.not_true, Bool.false_and] at hE
        simp -implicitDefEqProofs -dsimp only [↓reduceIte, ↓W_seq, go_sem, WR_nil, evNews, Nat.reduceEqDiff, Nat.reduceAdd, Nat.reduceMul, Nat.reduceLeDiff, Nat.reduceLT, Int.cast_ofNat_Int, Int.reduceBNe, Int.reduceToNat, Int.reduceLT, Int.reduceLE, Int.reduceAdd, Int.reduceNeg, Int.reduceEq, reduceCtorEq, enc, e1, h9, h8, h7, h3, hel, encPt, c1, c2, ← hE, hs]
      rw [decide_eq_false c2, Bool.not_false, Bool.true_and] at hE
      cases c3 : (n == -1) <;> cases c4 : (t == []) <;> rw [c3, c4] at hE
      · simp -implicitDefEqProofs -dsimp only [↓reduceIte, ↓W_seq, go_sem, WR_nil, evNews, Nat.reduceEqDiff, Nat.reduceAdd, Nat.reduceMul, Nat.reduceLeDiff, Nat.reduceLT, Int.cast_ofNat_Int, Int.reduceBNe, Int.reduceToNat, Int.reduceLT, Int.reduceLE, Int.reduceAdd, Int.reduceNeg, Int.reduceEq, reduceCtorEq, enc, e1, h9, h8, h7, h3, hel, encPt, c1, c2, c3, c4, ← hE, hs, Bool.false_and]
      · simp -implicitDefEqProofs -dsimp only [↓reduceIte, ↓W_seq, go_sem, WR_nil, evNews, Nat.reduceEqDiff, Nat.reduceAdd, Nat.reduceMul, Nat.reduceLeDiff, Nat.reduceLT, Int.cast_ofNat_Int, Int.reduceBNe, Int.reduceToNat, Int.reduceLT, Int.reduceLE, Int.reduceAdd, Int.reduceNeg, Int.reduceEq, reduceCtorEq, enc, e1, h9, h8, h7, h3, hel, encPt, c1, c2, c3, c4, x1, hs]
        refine ⟨k - 1, by omega, i + 1, _, by omega, rfl, rfl, ?_, und_new hs2 _ _ _⟩
        simpa using hE
      · cases b
        · simp -implicitDefEqProofs -dsimp only [↓reduceIte, ↓W_seq, go_sem, WR_nil, evNews, Nat.reduceEqDiff, Nat.reduceAdd, Nat.reduceMul, Nat.reduceLeDiff, Nat.reduceLT, Int.cast_ofNat_Int, Int.reduceBNe, Int.reduceToNat, Int.reduceLT, Int.reduceLE, Int.reduceAdd, Int.reduceNeg, Int.reduceEq, reduceCtorEq, enc, e1, h9, h8, h7, h3, hel, encPt, c1, c2, c3, c4, x1, hs]
          refine ⟨k - 1, by omega, i + 1, _, by omega, rfl, rfl, ?_, und_new hs2 _ _ _⟩
          simpa using hE
        · have hE' : okF false ps = false := by rw [← hE]; rfl
          simp -implicitDefEqProofs -dsimp only [↓reduceIte, ↓W_seq, go_sem, WR_nil, evNews, Nat.reduceEqDiff, Nat.reduceAdd, Nat.reduceMul, Nat.reduceLeDiff, Nat.reduceLT, Int.cast_ofNat_Int, Int.reduceBNe, Int.reduceToNat, Int.reduceLT, Int.reduceLE, Int.reduceAdd, Int.reduceNeg, Int.reduceEq, reduceCtorEq, enc, e1, h9, h8, h7, h3, hel, encPt, c1, c2, c3, c4, hE', hs, Bool.false_and]
      · have hE' : okF false ps = false := by rw [← hE]; rfl
        simp -implicitDefEqProofs -dsimp only [↓reduceIte, ↓W_seq, go_sem, WR_nil, evNews, Nat.reduceEqDiff, Nat.reduceAdd, Nat.reduceMul, Nat.reduceLeDiff, Nat.reduceLT, Int.cast_ofNat_Int, Int.reduceBNe, Int.reduceToNat, Int.reduceLT, Int.reduceLE, Int.reduceAdd, Int.reduceNeg, Int.reduceEq, reduceCtorEq, enc, e1, h9, h8, h7, h3, hel, encPt, c1, c2, c3, c4, hE', hs, Bool.false_and]
    · have e1 : ¬ ((i : Int) < (ps.length : Int)) := by omega
      rw [List.drop_eq_nil_of_le (by omega), okF] at hE
      simp -implicitDefEqProofs -dsimp only [↓reduceIte, ↓W_seq, go_sem, WR_nil, evNews, Nat.reduceEqDiff, Nat.reduceAdd, Nat.reduceMul, Nat.reduceLeDiff, Nat.reduceLT, Int.cast_ofNat_Int, Int.reduceBNe, Int.reduceToNat, Int.reduceLT, Int.reduceLE, Int.reduceAdd, Int.reduceNeg, Int.reduceEq, reduceCtorEq, enc, e1, h9, h8, h7, h3, ← hE, hs]
  · refine ⟨0, false, Nat.zero_add _, ?_⟩
    simp -implicitDefEqProofs -dsimp only [↓reduceIte, ↓W_seq, go_sem, WR_nil, evNews, Nat.reduceEqDiff, Nat.reduceAdd, Nat.reduceMul, Nat.reduceLeDiff, Nat.reduceLT, Int.cast_ofNat_Int, Int.reduceBNe, Int.reduceToNat, Int.reduceLT, Int.reduceLE, Int.reduceAdd, Int.reduceNeg, Int.reduceEq, reduceCtorEq, enc, cut_und _ _ hu, hun, List.drop_zero]
def prevB (ps : List Pt) : Nat → Bool
  | 0 => false
  | i + 1 => match ps[i]? with | some p => p.1 == -1 | none => false
theorem w695 (ps : List Pt) (hl : ps.length ≤ 1000000) (lim d : Nat) (σ : Sto) (hu : σ.Und d) : Ret lim d 49 [.sl .no (encPs ps)] σ (.bool (okF false ps)) σ := by
  have hun := und_succ hu
  unfold Ret
  rw [WF_body (C := X) rfl Go.Proofs.Tryz.func49 rfl (by kernel_rfl)]; simp only [Go.Proofs.Tryz.results49]
  simp -implicitDefEqProofs -dsimp only [↓reduceIte, ↓W_seq, go_sem, WR_nil, evNews, Nat.reduceEqDiff, Nat.reduceAdd, Nat.reduceMul, Nat.reduceLeDiff, Nat.reduceLT, Int.cast_ofNat_Int, Int.reduceBNe, Int.reduceToNat, Int.reduceLT, Int.reduceLE, Int.reduceAdd, Int.reduceNeg, Int.reduceEq, reduceCtorEq, enc, encPs_len]
  refine loop_h (I := fun k a s => ∃ (i : Nat), i + k = ps.length ∧ a 6 = .int .i64 i ∧ a 5 = .int .i64 ps.length ∧ a 0 = .sl .no (encPs ps) ∧ okF (prevB ps i) (ps.drop i) = okF false ps ∧ s = σ) ?_ ps.length _ _ ?_
  · rintro k a s ⟨i, hk, h6, h5, h0, hE, rfl⟩
    by_cases hi : i < ps.length
    · have e1 : ((i : Int) < (ps.length : Int)) := by omega
      have x1 : IntKind.i64.wrap ((i : Int) + 1) = ((i + 1 : Nat) : Int) := by rw [wr64 _ (by omega) (by omega)]; omega
      have hel := encPs_at hi
      have hpi : ps[i]? = some ps[i] := List.getElem?_eq_getElem hi
      rw [List.drop_eq_getElem_cons hi] at hE
      generalize ps[i] = p at hel hE hpi
      obtain ⟨n, t⟩ := p
      simp only [okF] at hE
      have hpr : prevB ps (i + 1) = (n == -1) := by show (match ps[i]? with | some p => p.1 == -1 | none => false) = _; rw [hpi]
      simp -implicitDefEqProofs -dsimp only [↓reduceIte, ↓W_seq, go_sem, WR_nil, evNews, Nat.reduceEqDiff, Nat.reduceAdd, Nat.reduceMul, Nat.reduceLeDiff, Nat.reduceLT, Int.cast_ofNat_Int, Int.reduceBNe, Int.reduceToNat, Int.reduceLT, Int.reduceLE, Int.reduceAdd, Int.reduceNeg, Int.reduceEq, reduceCtorEq, enc, e1, h6, h5, h0]
      rw [D_dr (by kernel_rfl) rfl]
      by_cases c1 : n < -1
      · rw [decide_eq_true c1, Bool.not_true, Bool.false_and] at hE
        simp -implicitDefEqProofs -dsimp only [↓reduceIte, ↓W_seq, go_sem, WR_nil, evNews, Nat.reduceEqDiff, Nat.reduceAdd, Nat.reduceMul, Nat.reduceLeDiff, Nat.reduceLT, Int.cast_ofNat_Int, Int.reduceBNe, Int.reduceToNat, Int.reduceLT, Int.reduceLE, Int.reduceAdd, Int.reduceNeg, Int.reduceEq, reduceCtorEq, enc, h6, h5, h0, hel, encPt, c1, ← hE, cut_und _ _ hu]
      rw [decide_eq_false c1, Bool.not_false, Bool.true_and] at hE
      by_cases c2 : 9 < n
      · rw [decide_eq_true c2, Bool.not_true, Bool.false_and] at hE
        simp -implicitDefEqProofs -dsimp only [↓reduceIte, ↓W_seq, go_sem, WR_nil, evNews, Nat.reduceEqDiff, Nat.reduceAdd, Nat.reduceMul, Nat.reduceLeDiff, Nat.reduceLT, Int.cast_ofNat_Int, Int.reduceBNe, Int.reduceToNat, Int.reduceLT, Int.reduceLE, Int.reduceAdd, Int.reduceNeg, Int.reduceEq, reduceCtorEq, enc, h6, h5, h0, hel, encPt, c1, c2, ← hE, cut_und _ _ hu]
      rw [decide_eq_false c2, Bool.not_false, Bool.true_and] at hE
      cases i with
      | zero =>
        have hp0 : prevB ps 0 = false := rfl
        rw [hp0, Bool.and_false, Bool.not_false, Bool.true_and] at hE
        cases c3 : (n == -1) <;> cases c4 : (t == []) <;> rw [c3, c4] at hE
        · have hE' : okF false ps = false := by rw [← hE]; rfl
          simp -implicitDefEqProofs -dsimp only [↓reduceIte, ↓W_seq, go_sem, WR_nil, evNews, Nat.reduceEqDiff, Nat.reduceAdd, Nat.reduceMul, Nat.reduceLeDiff, Nat.reduceLT, Int.cast_ofNat_Int, Int.reduceBNe, Int.reduceToNat, Int.reduceLT, Int.reduceLE, Int.reduceAdd, Int.reduceNeg, Int.reduceEq, reduceCtorEq, enc, h6, h5, h0, hel, encPt, c1, c2, c3, c4, hE', cut_und _ _ hu, Bool.false_and]
        · simp -implicitDefEqProofs -dsimp only [↓reduceIte, ↓W_seq, go_sem, WR_nil, evNews, Nat.reduceEqDiff, Nat.reduceAdd, Nat.reduceMul, Nat.reduceLeDiff, Nat.reduceLT, Int.cast_ofNat_Int, Int.reduceBNe, Int.reduceToNat, Int.reduceLT, Int.reduceLE, Int.reduceAdd, Int.reduceNeg, Int.reduceEq, reduceCtorEq, enc, h6, h5, h0, hel, encPt, c1, c2, c3, c4, x1]
          exact ⟨k - 1, by omega, 1, by omega, rfl, by rw [hpr, c3]; simpa using hE⟩
        · simp -implicitDefEqProofs -dsimp only [↓reduceIte, ↓W_seq, go_sem, WR_nil, evNews, Nat.reduceEqDiff, Nat.reduceAdd, Nat.reduceMul, Nat.reduceLeDiff, Nat.reduceLT, Int.cast_ofNat_Int, Int.reduceBNe, Int.reduceToNat, Int.reduceLT, Int.reduceLE, Int.reduceAdd, Int.reduceNeg, Int.reduceEq, reduceCtorEq, enc, h6, h5, h0, hel, encPt, c1, c2, c3, c4, x1]
          exact ⟨k - 1, by omega, 1, by omega, rfl, by rw [hpr, c3]; simpa using hE⟩
        · have hE' : okF false ps = false := by rw [← hE]; rfl
          simp -implicitDefEqProofs -dsimp only [↓reduceIte, ↓W_seq, go_sem, WR_nil, evNews, Nat.reduceEqDiff, Nat.reduceAdd, Nat.reduceMul, Nat.reduceLeDiff, Nat.reduceLT, Int.cast_ofNat_Int, Int.reduceBNe, Int.reduceToNat, Int.reduceLT, Int.reduceLE, Int.reduceAdd, Int.reduceNeg, Int.reduceEq, reduceCtorEq, enc, h6, h5, h0, hel, encPt, c1, c2, c3, c4, hE', cut_und _ _ hu, Bool.false_and]
      | succ j =>
        have hj : j < ps.length := by omega
        have hej := encPs_at hj
        have hpj : ps[j]? = some ps[j] := List.getElem?_eq_getElem hj
        generalize ps[j] = q at hej hpj
        obtain ⟨m, u⟩ := q
        have hp0 : prevB ps (j + 1) = (m == -1) := by show (match ps[j]? with | some p => p.1 == -1 | none => false) = _; rw [hpj]
        have x2 : IntKind.i64.wrap (((j + 1 : Nat) : Int) - 1) = (j : Int) := by rw [wr64 _ (by omega) (by omega)]; omega
        have g2 : (0 : Int) < ((j + 1 : Nat) : Int) := by omega
        rw [hp0] at hE
        cases c3 : (n == -1) <;> cases c4 : (t == []) <;> rw [c3, c4] at hE
        · have hE' : okF false ps = false := by rw [← hE]; rfl
          simp -implicitDefEqProofs -dsimp only [↓reduceIte, ↓W_seq, go_sem, WR_nil, evNews, Nat.reduceEqDiff, Nat.reduceAdd, Nat.reduceMul, Nat.reduceLeDiff, Nat.reduceLT, Int.cast_ofNat_Int, Int.reduceBNe, Int.reduceToNat, Int.reduceLT, Int.reduceLE, Int.reduceAdd, Int.reduceNeg, Int.reduceEq, reduceCtorEq, enc, h6, h5, h0, hel, encPt, c1, c2, c3, c4, hE', cut_und _ _ hu, Bool.false_and]
        · simp -implicitDefEqProofs -dsimp only [↓reduceIte, ↓W_seq, go_sem, WR_nil, evNews, Nat.reduceEqDiff, Nat.reduceAdd, Nat.reduceMul, Nat.reduceLeDiff, Nat.reduceLT, Int.cast_ofNat_Int, Int.reduceBNe, Int.reduceToNat, Int.reduceLT, Int.reduceLE, Int.reduceAdd, Int.reduceNeg, Int.reduceEq, reduceCtorEq, enc, h6, h5, h0, hel, encPt, c1, c2, c3, c4, x1, g2]
          exact ⟨k - 1, by omega, j + 1 + 1, by omega, rfl, by rw [hpr, c3]; simpa using hE⟩
        · cases c5 : (m == -1) <;> rw [c5] at hE
          · simp -implicitDefEqProofs -dsimp only [↓reduceIte, ↓W_seq, go_sem, WR_nil, evNews, Nat.reduceEqDiff, Nat.reduceAdd, Nat.reduceMul, Nat.reduceLeDiff, Nat.reduceLT, Int.cast_ofNat_Int, Int.reduceBNe, Int.reduceToNat, Int.reduceLT, Int.reduceLE, Int.reduceAdd, Int.reduceNeg, Int.reduceEq, reduceCtorEq, enc, h6, h5, h0, hel, hej, encPt, c1, c2, c3, c4, c5, x1, x2, g2]
            exact ⟨k - 1, by omega, j + 1 + 1, by omega, rfl, by rw [hpr, c3]; simpa using hE⟩
          · have hE' : okF false ps = false := by rw [← hE]; rfl
            simp -implicitDefEqProofs -dsimp only [↓reduceIte, ↓W_seq, go_sem, WR_nil, evNews, Nat.reduceEqDiff, Nat.reduceAdd, Nat.reduceMul, Nat.reduceLeDiff, Nat.reduceLT, Int.cast_ofNat_Int, Int.reduceBNe, Int.reduceToNat, Int.reduceLT, Int.reduceLE, Int.reduceAdd, Int.reduceNeg, Int.reduceEq, reduceCtorEq, enc, h6, h5, h0, hel, hej, encPt, c1, c2, c3, c4, c5, x2, g2, hE', cut_und _ _ hu, Bool.false_and]
        · have hE' : okF false ps = false := by rw [← hE]; rfl
          simp -implicitDefEqProofs -dsimp only [↓reduceIte, ↓W_seq, go_sem, WR_nil, evNews, Nat.reduceEqDiff, Nat.reduceAdd, Nat.reduceMul, Nat.reduceLeDiff, Nat.reduceLT, Int.cast_ofNat_Int, Int.reduceBNe, Int.reduceToNat, Int.reduceLT, Int.reduceLE, Int.reduceAdd, Int.reduceNeg, Int.reduceEq, reduceCtorEq, enc, h6, h5, h0, hel, encPt, c1, c2, c3, c4, hE', cut_und _ _ hu, Bool.false_and]
    · have e1 : ¬ ((i : Int) < (ps.length : Int)) := by omega
      rw [List.drop_eq_nil_of_le (by omega), okF] at hE
      simp -implicitDefEqProofs -dsimp only [↓reduceIte, ↓W_seq, go_sem, WR_nil, evNews, Nat.reduceEqDiff, Nat.reduceAdd, Nat.reduceMul, Nat.reduceLeDiff, Nat.reduceLT, Int.cast_ofNat_Int, Int.reduceBNe, Int.reduceToNat, Int.reduceLT, Int.reduceLE, Int.reduceAdd, Int.reduceNeg, Int.reduceEq, reduceCtorEq, enc, e1, h6, h5, h0, ← hE, cut_und _ _ hu]
  · refine ⟨0, Nat.zero_add _, ?_⟩
    simp -implicitDefEqProofs -dsimp only [↓reduceIte, ↓W_seq, go_sem, WR_nil, evNews, Nat.reduceEqDiff, Nat.reduceAdd, Nat.reduceMul, Nat.reduceLeDiff, Nat.reduceLT, Int.cast_ofNat_Int, Int.reduceBNe, Int.reduceToNat, Int.reduceLT, Int.reduceLE, Int.reduceAdd, Int.reduceNeg, Int.reduceEq, reduceCtorEq, enc, List.drop_zero, prevB]
/-- The greatest group. -/
def grt (m : Int) : List Pt → Int
  | [] => m
  | p :: r => grt (if m < p.1 then p.1 else m) r
theorem w687 (ps : List Pt) (hl : ps.length ≤ 1000000) (lim d : Nat) (σ : Sto) (hu : σ.Und d) : Ret lim d 94 [.sl .no (encPs ps)] σ (.int .i64 (grt 0 ps)) σ := by
  have hun := und_succ hu
  unfold Ret
  rw [WF_body (C := X) rfl Go.Proofs.Tryz.func94 rfl (by kernel_rfl)]; simp only [Go.Proofs.Tryz.results94]
  simp -implicitDefEqProofs -dsimp only [↓reduceIte, ↓W_seq, go_sem, WR_nil, evNews, Nat.reduceEqDiff, Nat.reduceAdd, Nat.reduceMul, Nat.reduceLeDiff, Nat.reduceLT, Int.cast_ofNat_Int, Int.reduceBNe, Int.reduceToNat, Int.reduceLT, Int.reduceLE, Int.reduceAdd, Int.reduceNeg, Int.reduceEq, reduceCtorEq, enc, encPs_len]
  refine loop_h (I := fun k a s => ∃ (i : Nat) (m : Int), i + k = ps.length ∧ a 8 = .int .i64 i ∧ a 7 = .int .i64 ps.length ∧ a 6 = .sl .no (encPs ps) ∧ a 3 = .int .i64 m ∧ grt m (ps.drop i) = grt 0 ps ∧ s.cut d = σ ∧ s.Und (d + 1)) ?_ ps.length _ _ ?_
  · rintro k a s ⟨i, m, hk, h8, h7, h6, h3, hE, hs, hs2⟩
    by_cases hi : i < ps.length
    · have e1 : ((i : Int) < (ps.length : Int)) := by omega
      have x1 : IntKind.i64.wrap ((i : Int) + 1) = ((i + 1 : Nat) : Int) := by rw [wr64 _ (by omega) (by omega)]; omega
      have hel := encPs_at hi
      rw [List.drop_eq_getElem_cons hi] at hE
      generalize ps[i] = p at hel hE
      obtain ⟨n, t⟩ := p
      simp only [grt] at hE
      simp -implicitDefEqProofs -dsimp only [↓reduceIte, ↓W_seq, go_sem, WR_nil, evNews, Nat.reduceEqDiff, Nat.reduceAdd, Nat.reduceMul, Nat.reduceLeDiff, Nat.reduceLT, Int.cast_ofNat_Int, Int.reduceBNe, Int.reduceToNat, Int.reduceLT, Int.reduceLE, Int.reduceAdd, Int.reduceNeg, Int.reduceEq, reduceCtorEq, enc, e1, h8, h7, h6, h3, hel, encPt, x1]
      exact ⟨k - 1, by omega, i + 1, _, by omega, rfl, rfl, hE, hs, und_new hs2 _ _ _⟩
    · have e1 : ¬ ((i : Int) < (ps.length : Int)) := by omega
      rw [List.drop_eq_nil_of_le (by omega), grt] at hE
      simp -implicitDefEqProofs -dsimp only [↓reduceIte, ↓W_seq, go_sem, WR_nil, evNews, Nat.reduceEqDiff, Nat.reduceAdd, Nat.reduceMul, Nat.reduceLeDiff, Nat.reduceLT, Int.cast_ofNat_Int, Int.reduceBNe, Int.reduceToNat, Int.reduceLT, Int.reduceLE, Int.reduceAdd, Int.reduceNeg, Int.reduceEq, reduceCtorEq, enc, e1, h8, h7, h6, h3, ← hE, hs]
  · refine ⟨0, 0, Nat.zero_add _, ?_⟩
    simp -implicitDefEqProofs -dsimp only [↓reduceIte, ↓W_seq, go_sem, WR_nil, evNews, Nat.reduceEqDiff, Nat.reduceAdd, Nat.reduceMul, Nat.reduceLeDiff, Nat.reduceLT, Int.cast_ofNat_Int, Int.reduceBNe, Int.reduceToNat, Int.reduceLT, Int.reduceLE, Int.reduceAdd, Int.reduceNeg, Int.reduceEq, reduceCtorEq, enc, cut_und _ _ hu, hun, List.drop_zero]
theorem w696 (ps : List Pt) (hl : ps.length ≤ 1000000) (lim d : Nat) (σ : Sto) (hu : σ.Und d) : Ret lim d 50 [.sl .no (encPs ps)] σ (.int .i64 (grt 0 ps)) σ := by
  have hun := und_succ hu
  unfold Ret
  rw [WF_body (C := X) rfl Go.Proofs.Tryz.func50 rfl (by kernel_rfl)]; simp only [Go.Proofs.Tryz.results50]
  simp -implicitDefEqProofs -dsimp only [↓reduceIte, ↓W_seq, go_sem, WR_nil, evNews, Nat.reduceEqDiff, Nat.reduceAdd, Nat.reduceMul, Nat.reduceLeDiff, Nat.reduceLT, Int.cast_ofNat_Int, Int.reduceBNe, Int.reduceToNat, Int.reduceLT, Int.reduceLE, Int.reduceAdd, Int.reduceNeg, Int.reduceEq, reduceCtorEq, enc, encPs_len]
  refine loop_h (I := fun k a s => ∃ (i : Nat) (m : Int), i + k = ps.length ∧ a 7 = .int .i64 i ∧ a 6 = .int .i64 ps.length ∧ a 0 = .sl .no (encPs ps) ∧ a 3 = .int .i64 m ∧ grt m (ps.drop i) = grt 0 ps ∧ s = σ) ?_ ps.length _ _ ?_
  · rintro k a s ⟨i, m, hk, h7, h6, h0, h3, hE, rfl⟩
    by_cases hi : i < ps.length
    · have e1 : ((i : Int) < (ps.length : Int)) := by omega
      have x1 : IntKind.i64.wrap ((i : Int) + 1) = ((i + 1 : Nat) : Int) := by rw [wr64 _ (by omega) (by omega)]; omega
      have hel := encPs_at hi
      rw [List.drop_eq_getElem_cons hi] at hE
      generalize ps[i] = p at hel hE
      obtain ⟨n, t⟩ := p
      simp only [grt] at hE
      simp -implicitDefEqProofs -dsimp only [↓reduceIte, ↓W_seq, go_sem, WR_nil, evNews, Nat.reduceEqDiff, Nat.reduceAdd, Nat.reduceMul, Nat.reduceLeDiff, Nat.reduceLT, Int.cast_ofNat_Int, Int.reduceBNe, Int.reduceToNat, Int.reduceLT, Int.reduceLE, Int.reduceAdd, Int.reduceNeg, Int.reduceEq, reduceCtorEq, enc, e1, h7, h6, h0, h3, hel, encPt, x1]
      exact ⟨k - 1, by omega, i + 1, _, by omega, rfl, rfl, hE⟩
    · have e1 : ¬ ((i : Int) < (ps.length : Int)) := by omega
      rw [List.drop_eq_nil_of_le (by omega), grt] at hE
      simp -implicitDefEqProofs -dsimp only [↓reduceIte, ↓W_seq, go_sem, WR_nil, evNews, Nat.reduceEqDiff, Nat.reduceAdd, Nat.reduceMul, Nat.reduceLeDiff, Nat.reduceLT, Int.cast_ofNat_Int, Int.reduceBNe, Int.reduceToNat, Int.reduceLT, Int.reduceLE, Int.reduceAdd, Int.reduceNeg, Int.reduceEq, reduceCtorEq, enc, e1, h7, h6, h0, h3, ← hE, cut_und _ _ hu]
  · refine ⟨0, 0, Nat.zero_add _, ?_⟩
    simp -implicitDefEqProofs -dsimp only [↓reduceIte, ↓W_seq, go_sem, WR_nil, evNews, Nat.reduceEqDiff, Nat.reduceAdd, Nat.reduceMul, Nat.reduceLeDiff, Nat.reduceLT, Int.cast_ofNat_Int, Int.reduceBNe, Int.reduceToNat, Int.reduceLT, Int.reduceLE, Int.reduceAdd, Int.reduceNeg, Int.reduceEq, reduceCtorEq, enc, List.drop_zero]
mutual
def grN : Nd → Nat
  | .mk kd _ _ _ _ _ _ _ _ l => (if kd = 6 then 1 else 0) + grsN l
def grsN : List Nd → Nat
  | [] => 0
  | x :: l => grN x + grsN l
end
mutual
theorem grN_le : ∀ x : Nd, grN x ≤ sz x
  | .mk kd _ _ _ _ _ _ _ _ l => by
    have := grsN_le l
    simp only [grN, sz]
    split <;> omega
theorem grsN_le : ∀ l : List Nd, grsN l ≤ szs l
  | [] => Nat.le_refl _
  | x :: l => by
    have := grN_le x
    have := grsN_le l
    simp only [grsN, szs]
    omega
end
theorem w13 : ∀ (x : Nd), sz x ≤ 1000000 → ∀ (lim d : Nat) (σ : Sto), σ.Und d → Ret lim d 95 [.agg (enc x)] σ (.int .i64 (grN x)) σ := by
  refine Nd.ind fun kind c s0 s1 s2 s3 n mn mx l ih hsz lim d σ hu => ?_
  have hl := len_le l
  have hgl := grsN_le l
  simp only [sz] at hsz
  have hun := und_succ hu
  unfold Ret
  rw [WF_body (C := X) rfl Go.Proofs.Tryz.func95 rfl (by kernel_rfl)]; simp only [Go.Proofs.Tryz.results95]
  simp -implicitDefEqProofs -dsimp only [↓reduceIte, ↓W_seq, go_sem, WR_nil, evNews, Nat.reduceEqDiff, Nat.reduceAdd, Nat.reduceMul, Nat.reduceLeDiff, Nat.reduceLT, Int.cast_ofNat_Int, Int.reduceBNe, Int.reduceToNat, Int.reduceLT, Int.reduceLE, Int.reduceAdd, Int.reduceNeg, Int.reduceEq, reduceCtorEq, enc]
  refine loop_h (I := fun k a s => ∃ (i : Nat) (m : Nat), i + k = l.length ∧ a 9 = .int .i64 i ∧ a 8 = .int .i64 l.length ∧ a 7 = .sl .no (encs l) ∧ a 3 = .int .i64 m ∧ a 1 = .ptr ⟨d, 1, σ.ct d⟩ 0 ∧ s.ob ⟨d, 1, σ.ct d⟩ = some (enc (.mk kind c s0 s1 s2 s3 n mn mx l)) ∧ σ.ct d < s.ct d ∧ m + grsN (l.drop i) = grsN l ∧ s.cut d = σ ∧ s.Und (d + 1)) ?_ l.length _ _ ?_
  · rintro k a s ⟨i, m, hk, h9, h8, h7, h3, h1, ho, hct, hc, hs, hs2⟩
    by_cases hi : i < l.length
    · have e1 : ((i : Int) < (l.length : Int)) := by omega
      have e2 : l[i]? = some l[i] := List.getElem?_eq_getElem hi
      have hm := List.getElem_mem hi
      have hy := sz_le l _ hm
      have hnn : ¬ (σ.ct d = s.ct d) := by omega
      have e3 := wr64 ((i : Int) + 1) (by omega) (by omega)
      rw [List.drop_eq_getElem_cons hi, grsN] at hc
      have e4 : IntKind.i64.wrap ((m : Int) + (grN l[i] : Int)) = ((m + grN l[i] : Nat) : Int) := by rw [wr64 _ (by omega) (by omega)]; omega
      simp -implicitDefEqProofs -dsimp only [↓reduceIte, ↓W_seq, go_sem, WR_nil, evNews, Nat.reduceEqDiff, Nat.reduceAdd, Nat.reduceMul, Nat.reduceLeDiff, Nat.reduceLT, Int.cast_ofNat_Int, Int.reduceBNe, Int.reduceToNat, Int.reduceLT, Int.reduceLE, Int.reduceAdd, Int.reduceNeg, Int.reduceEq, reduceCtorEq, enc, e1, e2, h9, h8, h7, h3, h1, encs_at]
      refine (ih l[i] hm (by omega) lim (d + 1) _ (und_new hs2 _ _ _)).wh ?_
      simp -implicitDefEqProofs -dsimp only [↓reduceIte, ↓W_seq, go_sem, WR_nil, evNews, Nat.reduceEqDiff, Nat.reduceAdd, Nat.reduceMul, Nat.reduceLeDiff, Nat.reduceLT, Int.cast_ofNat_Int, Int.reduceBNe, Int.reduceToNat, Int.reduceLT, Int.reduceLE, Int.reduceAdd, Int.reduceNeg, Int.reduceEq, reduceCtorEq, enc, e3, e4, h9, h8, h7, h1, ho]
      refine ⟨k - 1, by omega, i + 1, m + grN l[i], by omega, by simp, rfl, ?_, by omega, hs, und_new hs2 _ _ _⟩
      omega
    · have e1 : ¬ ((i : Int) < (l.length : Int)) := by omega
      simp -implicitDefEqProofs -dsimp only [↓reduceIte, ↓W_seq, go_sem, WR_nil, evNews, Nat.reduceEqDiff, Nat.reduceAdd, Nat.reduceMul, Nat.reduceLeDiff, Nat.reduceLT, Int.cast_ofNat_Int, Int.reduceBNe, Int.reduceToNat, Int.reduceLT, Int.reduceLE, Int.reduceAdd, Int.reduceNeg, Int.reduceEq, reduceCtorEq, enc, e1, h9, h8, h7, h3, h1, ho, encs_at]
      rw [List.drop_eq_nil_of_le (by omega), grsN, Nat.add_zero] at hc
      subst hc
      by_cases h6 : kind = 6
      · subst h6
        have e4 : IntKind.i64.wrap ((grsN l : Int) + 1) = ((1 + grsN l : Nat) : Int) := by rw [wr64 _ (by omega) (by omega)]; omega
        simp -implicitDefEqProofs -dsimp only [↓reduceIte, ↓W_seq, go_sem, WR_nil, evNews, Nat.reduceEqDiff, Nat.reduceAdd, Nat.reduceMul, Nat.reduceLeDiff, Nat.reduceLT, Int.cast_ofNat_Int, Int.reduceBNe, Int.reduceToNat, Int.reduceLT, Int.reduceLE, Int.reduceAdd, Int.reduceNeg, Int.reduceEq, reduceCtorEq, enc, grN, e4, hs]
      · have e6 : (kind == 6) = false := by rw [beq_eq_false_iff_ne]; exact h6
        simp -implicitDefEqProofs -dsimp only [↓reduceIte, ↓W_seq, go_sem, WR_nil, evNews, Nat.reduceEqDiff, Nat.reduceAdd, Nat.reduceMul, Nat.reduceLeDiff, Nat.reduceLT, Int.cast_ofNat_Int, Int.reduceBNe, Int.reduceToNat, Int.reduceLT, Int.reduceLE, Int.reduceAdd, Int.reduceNeg, Int.reduceEq, reduceCtorEq, enc, grN, hs, e6, h6, Nat.zero_add]
  · refine ⟨0, 0, Nat.zero_add _, rfl, congrArg (fun (n : Nat) => MV.int .i64 n) (encs_len l), rfl, rfl, rfl, ?_, ?_, by rw [List.drop_zero, Nat.zero_add], ?_, und_new (und_succ hu) _ _ _⟩
    · simp -implicitDefEqProofs -dsimp only [↓reduceIte, ↓W_seq, go_sem, WR_nil, evNews, Nat.reduceEqDiff, Nat.reduceAdd, Nat.reduceMul, Nat.reduceLeDiff, Nat.reduceLT, Int.cast_ofNat_Int, Int.reduceBNe, Int.reduceToNat, Int.reduceLT, Int.reduceLE, Int.reduceAdd, Int.reduceNeg, Int.reduceEq, reduceCtorEq, enc]
    · simp -implicitDefEqProofs -dsimp only [↓reduceIte, ↓W_seq, go_sem, WR_nil, evNews, Nat.reduceEqDiff, Nat.reduceAdd, Nat.reduceMul, Nat.reduceLeDiff, Nat.reduceLT, Int.cast_ofNat_Int, Int.reduceBNe, Int.reduceToNat, Int.reduceLT, Int.reduceLE, Int.reduceAdd, Int.reduceNeg, Int.reduceEq, reduceCtorEq, enc]
    · simp only [go_sem, W_seq, WO_guard, cut_und _ _ hu]
theorem w697 : ∀ (x : Nd), sz x ≤ 1000000 → ∀ (lim d : Nat) (σ : Sto), σ.Und d → Ret lim d 51 [.agg (enc x)] σ (.int .i64 (grN x)) σ := by
  refine Nd.ind fun kind c s0 s1 s2 s3 n mn mx l ih hsz lim d σ hu => ?_
  have hl := len_le l
  have hgl := grsN_le l
  simp only [sz] at hsz
  have hun := und_succ hu
  unfold Ret
  rw [WF_body (C := X) rfl Go.Proofs.Tryz.func51 rfl (by kernel_rfl)]; simp only [Go.Proofs.Tryz.results51]
  by_cases h6 : kind = 6
  · subst h6
    simp -implicitDefEqProofs -dsimp only [↓reduceIte, ↓W_seq, go_sem, WR_nil, evNews, Nat.reduceEqDiff, Nat.reduceAdd, Nat.reduceMul, Nat.reduceLeDiff, Nat.reduceLT, Int.cast_ofNat_Int, Int.reduceBNe, Int.reduceToNat, Int.reduceLT, Int.reduceLE, Int.reduceAdd, Int.reduceNeg, Int.reduceEq, reduceCtorEq, enc]
    refine loop_h (I := fun k a s => ∃ (i : Nat) (m : Nat), i + k = l.length ∧ a 11 = .int .i64 i ∧ a 10 = .int .i64 l.length ∧ a 3 = .int .i64 m ∧ a 1 = .ptr ⟨d, 1, σ.ct d⟩ 0 ∧ s.ob ⟨d, 1, σ.ct d⟩ = some (enc (.mk 6 c s0 s1 s2 s3 n mn mx l)) ∧ m + grsN (l.drop i) = 1 + grsN l ∧ s.cut d = σ ∧ s.Und (d + 1)) ?_ l.length _ _ ?_
    · rintro k a s ⟨i, m, hk, h11, h10, h3, h1, ho, hc, hs, hs2⟩
      by_cases hi : i < l.length
      · have e1 : ((i : Int) < (l.length : Int)) := by omega
        have e2 : l[i]? = some l[i] := List.getElem?_eq_getElem hi
        have hm := List.getElem_mem hi
        have hy := sz_le l _ hm
        have e3 := wr64 ((i : Int) + 1) (by omega) (by omega)
        rw [List.drop_eq_getElem_cons hi, grsN] at hc
        have e4 : IntKind.i64.wrap ((m : Int) + (grN l[i] : Int)) = ((m + grN l[i] : Nat) : Int) := by rw [wr64 _ (by omega) (by omega)]; omega
        simp -implicitDefEqProofs -dsimp only [↓reduceIte, ↓W_seq, go_sem, WR_nil, evNews, Nat.reduceEqDiff, Nat.reduceAdd, Nat.reduceMul, Nat.reduceLeDiff, Nat.reduceLT, Int.cast_ofNat_Int, Int.reduceBNe, Int.reduceToNat, Int.reduceLT, Int.reduceLE, Int.reduceAdd, Int.reduceNeg, Int.reduceEq, reduceCtorEq, enc, e1, e2, h11, h10, h3, h1, ho, encs_at]
        refine (ih l[i] hm (by omega) lim (d + 1) _ hs2).wh ?_
        simp -implicitDefEqProofs -dsimp only [↓reduceIte, ↓W_seq, go_sem, WR_nil, evNews, Nat.reduceEqDiff, Nat.reduceAdd, Nat.reduceMul, Nat.reduceLeDiff, Nat.reduceLT, Int.cast_ofNat_Int, Int.reduceBNe, Int.reduceToNat, Int.reduceLT, Int.reduceLE, Int.reduceAdd, Int.reduceNeg, Int.reduceEq, reduceCtorEq, enc, e3, e4, h11, h10, h1, ho]
        exact ⟨k - 1, by omega, i + 1, m + grN l[i], by omega, by simp, rfl, by omega, hs, hs2⟩
      · have e1 : ¬ ((i : Int) < (l.length : Int)) := by omega
        rw [List.drop_eq_nil_of_le (by omega), grsN, Nat.add_zero] at hc
        subst hc
        simp -implicitDefEqProofs -dsimp only [↓reduceIte, ↓W_seq, go_sem, WR_nil, evNews, Nat.reduceEqDiff, Nat.reduceAdd, Nat.reduceMul, Nat.reduceLeDiff, Nat.reduceLT, Int.cast_ofNat_Int, Int.reduceBNe, Int.reduceToNat, Int.reduceLT, Int.reduceLE, Int.reduceAdd, Int.reduceNeg, Int.reduceEq, reduceCtorEq, enc, grN, e1, h11, h10, h3, h1, hs]
    · refine ⟨0, 1, Nat.zero_add _, ?_⟩
      simp -implicitDefEqProofs -dsimp only [↓reduceIte, ↓W_seq, go_sem, WR_nil, evNews, Nat.reduceEqDiff, Nat.reduceAdd, Nat.reduceMul, Nat.reduceLeDiff, Nat.reduceLT, Int.cast_ofNat_Int, Int.reduceBNe, Int.reduceToNat, Int.reduceLT, Int.reduceLE, Int.reduceAdd, Int.reduceNeg, Int.reduceEq, reduceCtorEq, enc, List.drop_zero, cut_und _ _ hu, encs_len]
      simp only [u_tick, u_mine]
      exact hun
  · have e6 : (kind == 6) = false := by rw [beq_eq_false_iff_ne]; exact h6
    simp -implicitDefEqProofs -dsimp only [↓reduceIte, ↓W_seq, go_sem, WR_nil, evNews, Nat.reduceEqDiff, Nat.reduceAdd, Nat.reduceMul, Nat.reduceLeDiff, Nat.reduceLT, Int.cast_ofNat_Int, Int.reduceBNe, Int.reduceToNat, Int.reduceLT, Int.reduceLE, Int.reduceAdd, Int.reduceNeg, Int.reduceEq, reduceCtorEq, enc, e6]
    refine loop_h (I := fun k a s => ∃ (i : Nat) (m : Nat), i + k = l.length ∧ a 11 = .int .i64 i ∧ a 10 = .int .i64 l.length ∧ a 3 = .int .i64 m ∧ a 1 = .ptr ⟨d, 1, σ.ct d⟩ 0 ∧ s.ob ⟨d, 1, σ.ct d⟩ = some (enc (.mk kind c s0 s1 s2 s3 n mn mx l)) ∧ m + grsN (l.drop i) = 0 + grsN l ∧ s.cut d = σ ∧ s.Und (d + 1)) ?_ l.length _ _ ?_
    · rintro k a s ⟨i, m, hk, h11, h10, h3, h1, ho, hc, hs, hs2⟩
      by_cases hi : i < l.length
      · have e1 : ((i : Int) < (l.length : Int)) := by omega
        have e2 : l[i]? = some l[i] := List.getElem?_eq_getElem hi
        have hm := List.getElem_mem hi
        have hy := sz_le l _ hm
        have e3 := wr64 ((i : Int) + 1) (by omega) (by omega)
        rw [List.drop_eq_getElem_cons hi, grsN] at hc
        have e4 : IntKind.i64.wrap ((m : Int) + (grN l[i] : Int)) = ((m + grN l[i] : Nat) : Int) := by rw [wr64 _ (by omega) (by omega)]; omega
        simp -implicitDefEqProofs -dsimp only [↓reduceIte, ↓W_seq, go_sem, WR_nil, evNews, Nat.reduceEqDiff, Nat.reduceAdd, Nat.reduceMul, Nat.reduceLeDiff, Nat.reduceLT, Int.cast_ofNat_Int, Int.reduceBNe, Int.reduceToNat, Int.reduceLT, Int.reduceLE, Int.reduceAdd, Int.reduceNeg, Int.reduceEq, reduceCtorEq, enc, e1, e2, h11, h10, h3, h1, ho, encs_at]
        refine (ih l[i] hm (by omega) lim (d + 1) _ hs2).wh ?_
        simp -implicitDefEqProofs -dsimp only [↓reduceIte, ↓W_seq, go_sem, WR_nil, evNews, Nat.reduceEqDiff, Nat.reduceAdd, Nat.reduceMul, Nat.reduceLeDiff, Nat.reduceLT, Int.cast_ofNat_Int, Int.reduceBNe, Int.reduceToNat, Int.reduceLT, Int.reduceLE, Int.reduceAdd, Int.reduceNeg, Int.reduceEq, reduceCtorEq, enc, e3, e4, h11, h10, h1, ho]
        exact ⟨k - 1, by omega, i + 1, m + grN l[i], by omega, by simp, rfl, by omega, hs, hs2⟩
      · have e1 : ¬ ((i : Int) < (l.length : Int)) := by omega
        rw [List.drop_eq_nil_of_le (by omega), grsN, Nat.add_zero] at hc
        subst hc
        simp -implicitDefEqProofs -dsimp only [↓reduceIte, ↓W_seq, go_sem, WR_nil, evNews, Nat.reduceEqDiff, Nat.reduceAdd, Nat.reduceMul, Nat.reduceLeDiff, Nat.reduceLT, Int.cast_ofNat_Int, Int.reduceBNe, Int.reduceToNat, Int.reduceLT, Int.reduceLE, Int.reduceAdd, Int.reduceNeg, Int.reduceEq, reduceCtorEq, enc, grN, e1, h11, h10, h3, h1, hs, h6]
    · refine ⟨0, 0, Nat.zero_add _, ?_⟩
      simp -implicitDefEqProofs -dsimp only [↓reduceIte, ↓W_seq, go_sem, WR_nil, evNews, Nat.reduceEqDiff, Nat.reduceAdd, Nat.reduceMul, Nat.reduceLeDiff, Nat.reduceLT, Int.cast_ofNat_Int, Int.reduceBNe, Int.reduceToNat, Int.reduceLT, Int.reduceLE, Int.reduceAdd, Int.reduceNeg, Int.reduceEq, reduceCtorEq, enc, List.drop_zero, cut_und _ _ hu, encs_len]
      simp only [u_tick, u_mine]
      exact hun
def lackB (k : Int) (x : Nd) (ps : List Pt) : Bool := k == 3 && decide ((grN x : Int) < grt 0 ps)
theorem w686 (k v : Int) (x : Nd) (hx : sz x ≤ 1000000) (ps : List Pt) (hp : ps.length ≤ 1000000) (lim d : Nat) (σ : Sto) (hu : σ.Und d) : Ret lim d 70 [.agg (encA k v x), .sl .no (encPs ps)] σ (.bool (lackB k x ps)) σ := by
  have hun := und_succ hu
  have hg := w13 x hx
  unfold lackB
  unfold Ret
  generalize grN x = g at hg ⊢
  obtain ⟨x0, x1, x2, x3, x4, x5, x6, x7, x8, x9⟩ := x
  rw [WF_body (C := X) rfl Go.Proofs.Tryz.func70 rfl (by kernel_rfl)]; simp only [Go.Proofs.Tryz.results70]
  simp -implicitDefEqProofs -dsimp only [↓reduceIte, ↓W_seq, go_sem, WR_nil, evNews, Nat.reduceEqDiff, Nat.reduceAdd, Nat.reduceMul, Nat.reduceLeDiff, Nat.reduceLT, Int.cast_ofNat_Int, Int.reduceBNe, Int.reduceToNat, Int.reduceLT, Int.reduceLE, Int.reduceAdd, Int.reduceNeg, Int.reduceEq, reduceCtorEq, enc, encA, List.cons_append, List.nil_append]
  rw [D_dr (by kernel_rfl) rfl]
  cases h1 : k == 3
  · simp -implicitDefEqProofs -dsimp only [↓reduceIte, ↓W_seq, go_sem, WR_nil, evNews, Nat.reduceEqDiff, Nat.reduceAdd, Nat.reduceMul, Nat.reduceLeDiff, Nat.reduceLT, Int.cast_ofNat_Int, Int.reduceBNe, Int.reduceToNat, Int.reduceLT, Int.reduceLE, Int.reduceAdd, Int.reduceNeg, Int.reduceEq, reduceCtorEq, enc, h1, cut_und _ _ hu, Bool.false_and]
  simp -implicitDefEqProofs -dsimp only [↓reduceIte, ↓W_seq, go_sem, WR_nil, evNews, Nat.reduceEqDiff, Nat.reduceAdd, Nat.reduceMul, Nat.reduceLeDiff, Nat.reduceLT, Int.cast_ofNat_Int, Int.reduceBNe, Int.reduceToNat, Int.reduceLT, Int.reduceLE, Int.reduceAdd, Int.reduceNeg, Int.reduceEq, reduceCtorEq, enc, h1]
  refine (w687 ps hp (d + 1) (d + 1) _ (by simp only [u_tick, u_mine]; exact hun)).wh ?_
  simp -implicitDefEqProofs -dsimp only [↓reduceIte, ↓W_seq, go_sem, WR_nil, evNews, Nat.reduceEqDiff, Nat.reduceAdd, Nat.reduceMul, Nat.reduceLeDiff, Nat.reduceLT, Int.cast_ofNat_Int, Int.reduceBNe, Int.reduceToNat, Int.reduceLT, Int.reduceLE, Int.reduceAdd, Int.reduceNeg, Int.reduceEq, reduceCtorEq, enc, h1, encA, List.cons_append, List.nil_append]
  refine (hg (d + 1) (d + 1) _ (by simp only [u_tick, u_mine]; exact hun)).wh ?_
  by_cases h2 : (g : Int) < grt 0 ps
  · simp -implicitDefEqProofs -dsimp only [↓reduceIte, ↓W_seq, go_sem, WR_nil, evNews, Nat.reduceEqDiff, Nat.reduceAdd, Nat.reduceMul, Nat.reduceLeDiff, Nat.reduceLT, Int.cast_ofNat_Int, Int.reduceBNe, Int.reduceToNat, Int.reduceLT, Int.reduceLE, Int.reduceAdd, Int.reduceNeg, Int.reduceEq, reduceCtorEq, enc, h2, cut_und _ _ hu, Bool.true_and]
  · simp -implicitDefEqProofs -dsimp only [↓reduceIte, ↓W_seq, go_sem, WR_nil, evNews, Nat.reduceEqDiff, Nat.reduceAdd, Nat.reduceMul, Nat.reduceLeDiff, Nat.reduceLT, Int.cast_ofNat_Int, Int.reduceBNe, Int.reduceToNat, Int.reduceLT, Int.reduceLE, Int.reduceAdd, Int.reduceNeg, Int.reduceEq, reduceCtorEq, enc, h2, cut_und _ _ hu, Bool.true_and]
end Go.Proofs.Tryz.E
