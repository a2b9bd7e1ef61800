/- Walks: what the functions compute. -/
import Derived.Test.YtklnfgmfcpcfcaaGreatDoorU7
import Derived.Test.YtklnfgmfcpcfcaaGreatDoorT3
import Derived.Test.YtklnfgmfcpcfcaaGreatDoorE38c
set_option linter.unusedVariables false
set_option linter.unusedSimpArgs false
/- The law CommandForms: what it computes. -/
namespace Go.Proofs.Tryz.E
open Go.Mv
set_option maxHeartbeats 4000000
set_option maxRecDepth 20000
theorem whmF {lim d : Nat} {f : FuncId} {args : List MV} {σ : Sto} {Q P : MV → Sto → Prop} (h : WF X lim d f args σ Q) (hq : ∀ v s, Q v s → P v s) : WFh X lim d f args σ (TagF P) := WF.mono h hq
theorem w655F (c : Cm) (lim d : Nat) (σ : Sto) (hlim : lim ≤ d) (hu : σ.Und d) : WF X lim d 11 [.agg (encM c)] σ fun v s' => (∃ f : Bool, v = .bool f ∧ (f = true → few c.x = true ∧ few c.y = true ∧ few c.px = true ∧ c.ps.length ≤ 60 ∧ c.frm.length ≤ 600)) ∧ s' = σ := by
  have hun := und_succ hu
  obtain ⟨nmA, kA, vA, ⟨xA0, xA1, xA2, xA3, xA4, xA5, xA6, xA7, xA8, xA9⟩, mA, uA, ⟨yA0, yA1, yA2, yA3, yA4, yA5, yA6, yA7, yA8, yA9⟩, bA, labA, txtA, filA, pkA, pvA, ⟨zA0, zA1, zA2, zA3, zA4, zA5, zA6, zA7, zA8, zA9⟩, psA, nthA, allA, prtA, frmA, ttoA, posA⟩ := c
  rw [WF_body (C := X) rfl Go.Proofs.Tryz.func11 rfl (by kernel_rfl)]; simp only [Go.Proofs.Tryz.results11]
  simp -implicitDefEqProofs -dsimp only [↓reduceIte, ↓W_seq, go_sem, WR_nil, evNews, Nat.reduceEqDiff, Nat.reduceAdd, Nat.reduceMul, Nat.reduceLeDiff, Nat.reduceLT, Int.cast_ofNat_Int, Int.reduceBNe, Int.reduceToNat, Int.reduceLT, Int.reduceLE, Int.reduceAdd, Int.reduceNeg, Int.reduceEq, reduceCtorEq, enc, encM, encG, encA, List.cons_append, List.nil_append, encPs_len]
  refine loop_h (I := fun k a s => ∃ (i : Nat) (m : Int), i + k = psA.length ∧ i ≤ 60 ∧ a 8 = .int .i64 i ∧ a 7 = .int .i64 psA.length ∧ a 3 = .int .i64 m ∧ a 1 = .ptr ⟨d, 1, σ.ct d⟩ 0 ∧ s.ob ⟨d, 1, σ.ct d⟩ = some (encM ⟨nmA, kA, vA, ⟨xA0, xA1, xA2, xA3, xA4, xA5, xA6, xA7, xA8, xA9⟩, mA, uA, ⟨yA0, yA1, yA2, yA3, yA4, yA5, yA6, yA7, yA8, yA9⟩, bA, labA, txtA, filA, pkA, pvA, ⟨zA0, zA1, zA2, zA3, zA4, zA5, zA6, zA7, zA8, zA9⟩, psA, nthA, allA, prtA, frmA, ttoA, posA⟩) ∧ s.cut d = σ ∧ s.Und (d + 1)) ?_ psA.length _ _ ?_
  · rintro k a s ⟨i, m, hk, hi60, h8, h7, h3, h1, o1, hs, hs2⟩
    simp only [encM, encG, encA, List.cons_append, List.nil_append, enc] at o1
    by_cases hi : i < psA.length
    · have e1 : ((i : Int) < (psA.length : Int)) := by omega
      have y7 := wr64 ((i : Int) + 1) (by omega) (by omega)
      by_cases h60 : 60 ≤ i
      · have e2 : ((60 : Int) ≤ (i : Int)) := by omega
        simp -implicitDefEqProofs -dsimp only [↓reduceIte, ↓W_seq, go_sem, WR_nil, evNews, Nat.reduceEqDiff, Nat.reduceAdd, Nat.reduceMul, Nat.reduceLeDiff, Nat.reduceLT, Int.cast_ofNat_Int, Int.reduceBNe, Int.reduceToNat, Int.reduceLT, Int.reduceLE, Int.reduceAdd, Int.reduceNeg, Int.reduceEq, reduceCtorEq, enc, e1, e2, h8, h7, h3, h1, o1, encPs_at hi, encPt, hs]
        exact ⟨false, rfl, fun q => by cases q⟩
      · have e2 : ¬ ((60 : Int) ≤ (i : Int)) := by omega
        by_cases hgt : (3000 : Int) < IntKind.i64.wrap (m + (psA[i].2.length : Int))
        · simp -implicitDefEqProofs -dsimp only [↓reduceIte, ↓W_seq, go_sem, WR_nil, evNews, Nat.reduceEqDiff, Nat.reduceAdd, Nat.reduceMul, Nat.reduceLeDiff, Nat.reduceLT, Int.cast_ofNat_Int, Int.reduceBNe, Int.reduceToNat, Int.reduceLT, Int.reduceLE, Int.reduceAdd, Int.reduceNeg, Int.reduceEq, reduceCtorEq, enc, e1, e2, hgt, h8, h7, h3, h1, o1, encPs_at hi, encPt, hs]
          exact ⟨false, rfl, fun q => by cases q⟩
        · simp -implicitDefEqProofs -dsimp only [↓reduceIte, ↓W_seq, go_sem, WR_nil, evNews, Nat.reduceEqDiff, Nat.reduceAdd, Nat.reduceMul, Nat.reduceLeDiff, Nat.reduceLT, Int.cast_ofNat_Int, Int.reduceBNe, Int.reduceToNat, Int.reduceLT, Int.reduceLE, Int.reduceAdd, Int.reduceNeg, Int.reduceEq, reduceCtorEq, enc, e1, e2, hgt, h8, h7, h3, h1, o1, encPs_at hi, encPt, y7]
          exact ⟨k - 1, by omega, i + 1, _, by omega, by omega, rfl, rfl, by simp only [encM, encG, encA, List.cons_append, List.nil_append, enc], hs, hs2⟩
    · have e1 : ¬ ((i : Int) < (psA.length : Int)) := by omega
      have hpl : psA.length ≤ 60 := by omega
      simp -implicitDefEqProofs -dsimp only [↓reduceIte, ↓W_seq, go_sem, WR_nil, evNews, Nat.reduceEqDiff, Nat.reduceAdd, Nat.reduceMul, Nat.reduceLeDiff, Nat.reduceLT, Int.cast_ofNat_Int, Int.reduceBNe, Int.reduceToNat, Int.reduceLT, Int.reduceLE, Int.reduceAdd, Int.reduceNeg, Int.reduceEq, reduceCtorEq, enc, e1, h8, h7, h3, h1, o1]
      refine (w403 kA vA (.mk xA0 xA1 xA2 xA3 xA4 xA5 xA6 xA7 xA8 xA9) mA uA (.mk yA0 yA1 yA2 yA3 yA4 yA5 yA6 yA7 yA8 yA9) bA lim (d + 1) _ (by omega) hs2).wh ?_
      cases hf1 : few (.mk xA0 xA1 xA2 xA3 xA4 xA5 xA6 xA7 xA8 xA9) && few (.mk yA0 yA1 yA2 yA3 yA4 yA5 yA6 yA7 yA8 yA9)
      · simp -implicitDefEqProofs -dsimp only [↓reduceIte, ↓W_seq, go_sem, WR_nil, evNews, Nat.reduceEqDiff, Nat.reduceAdd, Nat.reduceMul, Nat.reduceLeDiff, Nat.reduceLT, Int.cast_ofNat_Int, Int.reduceBNe, Int.reduceToNat, Int.reduceLT, Int.reduceLE, Int.reduceAdd, Int.reduceNeg, Int.reduceEq, reduceCtorEq, enc, hf1, hs]
        exact ⟨false, rfl, fun q => by cases q⟩
      simp -implicitDefEqProofs -dsimp only [↓reduceIte, ↓W_seq, go_sem, WR_nil, evNews, Nat.reduceEqDiff, Nat.reduceAdd, Nat.reduceMul, Nat.reduceLeDiff, Nat.reduceLT, Int.cast_ofNat_Int, Int.reduceBNe, Int.reduceToNat, Int.reduceLT, Int.reduceLE, Int.reduceAdd, Int.reduceNeg, Int.reduceEq, reduceCtorEq, enc, hf1, h8, h7, h3, h1, o1]
      refine (w410 (.mk zA0 zA1 zA2 zA3 zA4 zA5 zA6 zA7 zA8 zA9) lim (d + 1) _ (by omega) hs2).wh ?_
      cases hf2 : few (.mk zA0 zA1 zA2 zA3 zA4 zA5 zA6 zA7 zA8 zA9)
      · have hf2' := hf2
        simp only [few] at hf2'
        simp -implicitDefEqProofs -dsimp only [↓reduceIte, ↓W_seq, go_sem, WR_nil, evNews, Nat.reduceEqDiff, Nat.reduceAdd, Nat.reduceMul, Nat.reduceLeDiff, Nat.reduceLT, Int.cast_ofNat_Int, Int.reduceBNe, Int.reduceToNat, Int.reduceLT, Int.reduceLE, Int.reduceAdd, Int.reduceNeg, Int.reduceEq, reduceCtorEq, enc, hf2', hs]
        exact ⟨false, rfl, fun q => by cases q⟩
      have hf2' := hf2
      simp only [few] at hf2'
      simp only [Bool.and_eq_true] at hf1
      by_cases hfr : (frmA.length : Int) ≤ 600
      · simp -implicitDefEqProofs -dsimp only [↓reduceIte, ↓W_seq, go_sem, WR_nil, evNews, Nat.reduceEqDiff, Nat.reduceAdd, Nat.reduceMul, Nat.reduceLeDiff, Nat.reduceLT, Int.cast_ofNat_Int, Int.reduceBNe, Int.reduceToNat, Int.reduceLT, Int.reduceLE, Int.reduceAdd, Int.reduceNeg, Int.reduceEq, reduceCtorEq, enc, hf2', h8, h7, h3, h1, o1, hs]
        exact ⟨_, rfl, fun _ => ⟨hf1.1, hf1.2, hpl, by omega⟩⟩
      · simp -implicitDefEqProofs -dsimp only [↓reduceIte, ↓W_seq, go_sem, WR_nil, evNews, Nat.reduceEqDiff, Nat.reduceAdd, Nat.reduceMul, Nat.reduceLeDiff, Nat.reduceLT, Int.cast_ofNat_Int, Int.reduceBNe, Int.reduceToNat, Int.reduceLT, Int.reduceLE, Int.reduceAdd, Int.reduceNeg, Int.reduceEq, reduceCtorEq, enc, hf2', hfr, h8, h7, h3, h1, o1, hs, Bool.and_false, Bool.false_and]
        exact ⟨false, rfl, fun q => by cases q⟩
  · refine ⟨0, 0, Nat.zero_add _, ?_⟩
    simp -implicitDefEqProofs -dsimp only [↓reduceIte, ↓W_seq, go_sem, WR_nil, evNews, Nat.reduceEqDiff, Nat.reduceAdd, Nat.reduceMul, Nat.reduceLeDiff, Nat.reduceLT, Int.cast_ofNat_Int, Int.reduceBNe, Int.reduceToNat, Int.reduceLT, Int.reduceLE, Int.reduceAdd, Int.reduceNeg, Int.reduceEq, reduceCtorEq, enc, encM, encG, encA, List.cons_append, List.nil_append, cut_und _ _ hu, u_tick, u_mine, hun]
theorem awkF_ev (A : List MV) : tells (mev X 60 2 2 6 [] ((s0.set ⟨1, 1, 0⟩ A).tick 1)) = some true := by kernel_rfl
theorem w654F (A : List MV) (lim d : Nat) (hlim : lim = 0) (hd : d = 2) : Ret lim d 6 [] ((s0.set ⟨1, 1, 0⟩ A).tick 1) (.bool true) ((s0.set ⟨1, 1, 0⟩ A).tick 1) := by
  subst hlim hd
  exact closed_wf X_ok.keep X_lm rfl (by simp only [u_tick, u_mine]; exact und0 2) (by omega) (awkF_ev A)
theorem w652 (a : Cm) (lim d : Nat) (hlim : lim = 0) (hd : d = 1) : Ret lim d 5 [.agg (encM a)] s0 (.bool true) s0 := by
  have hu : s0.Und 1 := und0 1
  have hun : s0.Und 2 := und0 2
  have hct : s0.ct 1 = 0 := rfl
  have hlen : ∀ c, (encM c).length = 48 := encM_len
  have hdat : ∀ c, (encM c).all MV.data = true := encM_data
  have hera : ∀ c, (encM c).map MV.era = encM c := encM_era
  have htak : ∀ c, (encM c).take 48 = encM c := encM_take
  have hA := w654F (encM a) 0 2 rfl rfl
  have hFa := w655F a 0 2
  unfold Ret
  subst hlim hd
  rw [WF_body (C := X) rfl Go.Proofs.Tryz.func5 rfl (by kernel_rfl)]; simp only [Go.Proofs.Tryz.results5]
  simp -implicitDefEqProofs -dsimp only [↓reduceIte, ↓W_seq, go_sem, WR_nil, evNews, Nat.reduceEqDiff, Nat.reduceAdd, Nat.reduceMul, Nat.reduceLeDiff, Nat.reduceLT, Int.cast_ofNat_Int, Int.reduceBNe, Int.reduceToNat, Int.reduceLT, Int.reduceLE, Int.reduceAdd, Int.reduceNeg, Int.reduceEq, reduceCtorEq, enc, hct, hlen, hdat, hera]
  refine hA.wh ?_
  simp -implicitDefEqProofs -dsimp only [↓reduceIte, ↓W_seq, go_sem, WR_nil, evNews, Nat.reduceEqDiff, Nat.reduceAdd, Nat.reduceMul, Nat.reduceLeDiff, Nat.reduceLT, Int.cast_ofNat_Int, Int.reduceBNe, Int.reduceToNat, Int.reduceLT, Int.reduceLE, Int.reduceAdd, Int.reduceNeg, Int.reduceEq, reduceCtorEq, enc, hct, hlen, hdat, hera, htak, List.drop_zero]
  refine whmF (hFa _ (by omega) (by simp only [u_tick, u_mine]; exact hun)) fun v s he => ?_
  obtain ⟨⟨f, rfl, hf⟩, rfl⟩ := he
  cases f
  · simp -implicitDefEqProofs -dsimp only [↓reduceIte, ↓W_seq, go_sem, WR_nil, evNews, Nat.reduceEqDiff, Nat.reduceAdd, Nat.reduceMul, Nat.reduceLeDiff, Nat.reduceLT, Int.cast_ofNat_Int, Int.reduceBNe, Int.reduceToNat, Int.reduceLT, Int.reduceLE, Int.reduceAdd, Int.reduceNeg, Int.reduceEq, reduceCtorEq, enc, hct, hlen, hdat, hera, htak, List.drop_zero]
    refine hA.wh ?_
    simp -implicitDefEqProofs -dsimp only [↓reduceIte, ↓W_seq, go_sem, WR_nil, evNews, Nat.reduceEqDiff, Nat.reduceAdd, Nat.reduceMul, Nat.reduceLeDiff, Nat.reduceLT, Int.cast_ofNat_Int, Int.reduceBNe, Int.reduceToNat, Int.reduceLT, Int.reduceLE, Int.reduceAdd, Int.reduceNeg, Int.reduceEq, reduceCtorEq, enc, cut_und _ _ hu]
  obtain ⟨ax, ay, az, ap, at'⟩ := hf rfl
  have sx := few_sz ax
  have sy := few_sz ay
  have sz' := few_sz az
  simp -implicitDefEqProofs -dsimp only [↓reduceIte, ↓W_seq, go_sem, WR_nil, evNews, Nat.reduceEqDiff, Nat.reduceAdd, Nat.reduceMul, Nat.reduceLeDiff, Nat.reduceLT, Int.cast_ofNat_Int, Int.reduceBNe, Int.reduceToNat, Int.reduceLT, Int.reduceLE, Int.reduceAdd, Int.reduceNeg, Int.reduceEq, reduceCtorEq, enc, hct, hlen, hdat, hera, htak, List.drop_zero]
  rw [D_dr (by kernel_rfl) rfl]
  simp -implicitDefEqProofs -dsimp only [↓reduceIte, ↓W_seq, go_sem, WR_nil, evNews, Nat.reduceEqDiff, Nat.reduceAdd, Nat.reduceMul, Nat.reduceLeDiff, Nat.reduceLT, Int.cast_ofNat_Int, Int.reduceBNe, Int.reduceToNat, Int.reduceLT, Int.reduceLE, Int.reduceAdd, Int.reduceNeg, Int.reduceEq, reduceCtorEq, enc, hct, hlen, hdat, hera, htak, List.drop_zero]
  refine (w656 a sx sy sz' ap 2 2 _ (Nat.le_refl _) (by simp only [u_tick, u_mine]; exact hun)).wh ?_
  simp -implicitDefEqProofs -dsimp only [↓reduceIte, ↓W_seq, go_sem, WR_nil, evNews, Nat.reduceEqDiff, Nat.reduceAdd, Nat.reduceMul, Nat.reduceLeDiff, Nat.reduceLT, Int.cast_ofNat_Int, Int.reduceBNe, Int.reduceToNat, Int.reduceLT, Int.reduceLE, Int.reduceAdd, Int.reduceNeg, Int.reduceEq, reduceCtorEq, enc, hct, hlen, hdat, hera, htak, List.drop_zero]
  refine (w684 a sx sy sz' (by omega) (by omega) 2 2 _ (Nat.le_refl _) (by simp only [u_tick, u_mine]; exact hun)).wh ?_
  simp -implicitDefEqProofs -dsimp only [↓reduceIte, ↓W_seq, go_sem, WR_nil, evNews, Nat.reduceEqDiff, Nat.reduceAdd, Nat.reduceMul, Nat.reduceLeDiff, Nat.reduceLT, Int.cast_ofNat_Int, Int.reduceBNe, Int.reduceToNat, Int.reduceLT, Int.reduceLE, Int.reduceAdd, Int.reduceNeg, Int.reduceEq, reduceCtorEq, enc, hct, hlen, hdat, hera, htak, List.drop_zero]
  refine (w688 a sx sy sz' (by omega) (by omega) 2 2 _ (Nat.le_refl _) (by simp only [u_tick, u_mine]; exact hun)).wh ?_
  simp -implicitDefEqProofs -dsimp only [↓reduceIte, ↓W_seq, go_sem, WR_nil, evNews, Nat.reduceEqDiff, Nat.reduceAdd, Nat.reduceMul, Nat.reduceLeDiff, Nat.reduceLT, Int.cast_ofNat_Int, Int.reduceBNe, Int.reduceToNat, Int.reduceLT, Int.reduceLE, Int.reduceAdd, Int.reduceNeg, Int.reduceEq, reduceCtorEq, enc, hct, hlen, hdat, hera, htak, List.drop_zero, form_eq, beq_self_eq_true, cut_und _ _ hu]
end Go.Proofs.Tryz.E
