/- Walks: what the functions compute. -/
import Derived.Test.YtklnfgmfcpcfcaaGreatDoorT3
import Derived.Test.YtklnfgmfcpcfcaaGreatDoorE38c
set_option linter.unusedVariables false
set_option linter.unusedSimpArgs false
/- The law CommandEqual: what it computes. -/
namespace Go.Proofs.Tryz.E
open Go.Mv
set_option maxHeartbeats 4000000
set_option maxRecDepth 20000
theorem whmT {lim d : Nat} {f : FuncId} {args : List MV} {σ : Sto} {Q P : MV → Sto → Prop} (h : WF X lim d f args σ Q) (hq : ∀ v s, Q v s → P v s) : WFh X lim d f args σ (TagF P) := WF.mono h hq
theorem same_reflT : ∀ x : Nd, sameB x x = true := by
  refine Nd.ind fun kd c s0 s1 s2 s3 n mn mx l ih => ?_
  have : ∀ l : List Nd, (∀ y ∈ l, sameB y y = true) → samesB l l = true := by
    intro l
    induction l with
    | nil => intro _; rfl
    | cons y l ih => intro h; simp only [samesB, h y (List.mem_cons_self ..), ih fun z hz => h z (List.mem_cons_of_mem _ hz), Bool.and_self]
  simp only [sameB, beq_self_eq_true, Bool.and_self, this l ih]
theorem likeM_refl (a : Cm) (p : Int) : likeM a { a with pos := p } = true := by
  simp only [likeM, likeG, likeA, beq_self_eq_true, Bool.and_self, Bool.true_and, Bool.and_true, same_reflT, decide_true]
theorem encM_pos (a : Cm) (p : Int) : putC (encM a) [.int .i64 p] 47 = encM { a with pos := p } := by
  obtain ⟨nm, k, v, ⟨x0, x1, x2, x3, x4, x5, x6, x7, x8, x9⟩, m, u, ⟨y0, y1, y2, y3, y4, y5, y6, y7, y8, y9⟩, b, lab, txt, fil, pk, pv, ⟨z0, z1, z2, z3, z4, z5, z6, z7, z8, z9⟩, ps, nth, all, prt, frm, tto, pos⟩ := a
  rfl
theorem awk_ev (A B : List MV) : tells (mev X 60 2 2 6 [] ((((s0.set ⟨1, 3, 0⟩ A).set ⟨1, 4, 1⟩ B).tick 1).tick 1)) = some true := by kernel_rfl
theorem w654 (A B : List MV) (lim d : Nat) (hlim : lim = 0) (hd : d = 2) : Ret lim d 6 [] ((((s0.set ⟨1, 3, 0⟩ A).set ⟨1, 4, 1⟩ B).tick 1).tick 1) (.bool true) ((((s0.set ⟨1, 3, 0⟩ A).set ⟨1, 4, 1⟩ B).tick 1).tick 1) := by
  subst hlim hd
  exact closed_wf X_ok.keep X_lm rfl (by simp only [u_tick, u_mine]; exact und0 2) (by omega) (awk_ev A B)
theorem w651 (a b : Cm) (at' : Int) (lim d : Nat) (hlim : lim = 0) (hd : d = 1) : Ret lim d 4 [.agg (encM a), .agg (encM b), .int .i64 at'] s0 (.bool true) s0 := by
  have hu : s0.Und 1 := und0 1
  have hun : s0.Und 2 := und0 2
  have hct : s0.ct 1 = 0 := rfl
  have hlen : ∀ c, (encM c).length = 48 := encM_len
  have hdat : ∀ c, (encM c).all MV.data = true := encM_data
  have hera : ∀ c, (encM c).map MV.era = encM c := encM_era
  have htak : ∀ c, (encM c).take 48 = encM c := encM_take
  have hA := w654 (encM a) (encM b) 0 2 rfl rfl
  have hFa := w655 a 0 2
  have hFb := w655 b 0 2
  unfold Ret
  subst hlim hd
  rw [WF_body (C := X) rfl Go.Proofs.Tryz.func4 rfl (by kernel_rfl)]; simp only [Go.Proofs.Tryz.results4]
  simp -implicitDefEqProofs -dsimp only [↓reduceIte, ↓W_seq, go_sem, WR_nil, evNews, Nat.reduceEqDiff, Nat.reduceAdd, Nat.reduceMul, Nat.reduceLeDiff, Nat.reduceLT, Int.cast_ofNat_Int, Int.reduceBNe, Int.reduceToNat, Int.reduceLT, Int.reduceLE, Int.reduceAdd, Int.reduceNeg, Int.reduceEq, reduceCtorEq, enc, hct, hlen, hdat, hera]
  refine hA.wh ?_
  simp -implicitDefEqProofs -dsimp only [↓reduceIte, ↓W_seq, go_sem, WR_nil, evNews, Nat.reduceEqDiff, Nat.reduceAdd, Nat.reduceMul, Nat.reduceLeDiff, Nat.reduceLT, Int.cast_ofNat_Int, Int.reduceBNe, Int.reduceToNat, Int.reduceLT, Int.reduceLE, Int.reduceAdd, Int.reduceNeg, Int.reduceEq, reduceCtorEq, enc, hct, hlen, hdat, hera, htak, List.drop_zero]
  refine whmT (hFa _ (by omega) (by simp only [u_tick, u_mine]; exact hun)) fun v s he => ?_
  obtain ⟨⟨f, rfl, hf⟩, rfl⟩ := he
  cases f
  · simp -implicitDefEqProofs -dsimp only [↓reduceIte, ↓W_seq, go_sem, WR_nil, evNews, Nat.reduceEqDiff, Nat.reduceAdd, Nat.reduceMul, Nat.reduceLeDiff, Nat.reduceLT, Int.cast_ofNat_Int, Int.reduceBNe, Int.reduceToNat, Int.reduceLT, Int.reduceLE, Int.reduceAdd, Int.reduceNeg, Int.reduceEq, reduceCtorEq, enc, hct, hlen, hdat, hera, htak, List.drop_zero]
    refine hA.wh ?_
    simp -implicitDefEqProofs -dsimp only [↓reduceIte, ↓W_seq, go_sem, WR_nil, evNews, Nat.reduceEqDiff, Nat.reduceAdd, Nat.reduceMul, Nat.reduceLeDiff, Nat.reduceLT, Int.cast_ofNat_Int, Int.reduceBNe, Int.reduceToNat, Int.reduceLT, Int.reduceLE, Int.reduceAdd, Int.reduceNeg, Int.reduceEq, reduceCtorEq, enc, cut_und _ _ hu]
  simp -implicitDefEqProofs -dsimp only [↓reduceIte, ↓W_seq, go_sem, WR_nil, evNews, Nat.reduceEqDiff, Nat.reduceAdd, Nat.reduceMul, Nat.reduceLeDiff, Nat.reduceLT, Int.cast_ofNat_Int, Int.reduceBNe, Int.reduceToNat, Int.reduceLT, Int.reduceLE, Int.reduceAdd, Int.reduceNeg, Int.reduceEq, reduceCtorEq, enc, hct, hlen, hdat, hera, htak, List.drop_zero]
  refine whmT (hFb _ (by omega) (by simp only [u_tick, u_mine]; exact hun)) fun v s he => ?_
  obtain ⟨⟨f, rfl, hf'⟩, rfl⟩ := he
  cases f
  · simp -implicitDefEqProofs -dsimp only [↓reduceIte, ↓W_seq, go_sem, WR_nil, evNews, Nat.reduceEqDiff, Nat.reduceAdd, Nat.reduceMul, Nat.reduceLeDiff, Nat.reduceLT, Int.cast_ofNat_Int, Int.reduceBNe, Int.reduceToNat, Int.reduceLT, Int.reduceLE, Int.reduceAdd, Int.reduceNeg, Int.reduceEq, reduceCtorEq, enc, hct, hlen, hdat, hera, htak, List.drop_zero]
    refine hA.wh ?_
    simp -implicitDefEqProofs -dsimp only [↓reduceIte, ↓W_seq, go_sem, WR_nil, evNews, Nat.reduceEqDiff, Nat.reduceAdd, Nat.reduceMul, Nat.reduceLeDiff, Nat.reduceLT, Int.cast_ofNat_Int, Int.reduceBNe, Int.reduceToNat, Int.reduceLT, Int.reduceLE, Int.reduceAdd, Int.reduceNeg, Int.reduceEq, reduceCtorEq, enc, cut_und _ _ hu]
  obtain ⟨ax, ay, az, ap⟩ := hf rfl
  obtain ⟨bx, bY, bz, bp⟩ := hf' rfl
  simp -implicitDefEqProofs -dsimp only [↓reduceIte, ↓W_seq, go_sem, WR_nil, evNews, Nat.reduceEqDiff, Nat.reduceAdd, Nat.reduceMul, Nat.reduceLeDiff, Nat.reduceLT, Int.cast_ofNat_Int, Int.reduceBNe, Int.reduceToNat, Int.reduceLT, Int.reduceLE, Int.reduceAdd, Int.reduceNeg, Int.reduceEq, reduceCtorEq, enc, hct, hlen, hdat, hera, htak, List.drop_zero]
  rw [putC_whole _ _ (by rw [encM_len]; rfl), encM_pos]
  refine ⟨by rw [encM_len]; omega, ?_⟩
  have sx := few_sz ax
  have sy := few_sz ay
  have sz' := few_sz az
  have tx := few_sz bx
  have ty := few_sz bY
  have tz := few_sz bz
  rw [D_dr (by kernel_rfl) rfl]
  simp -implicitDefEqProofs -dsimp only [↓reduceIte, ↓W_seq, go_sem, WR_nil, evNews, Nat.reduceEqDiff, Nat.reduceAdd, Nat.reduceMul, Nat.reduceLeDiff, Nat.reduceLT, Int.cast_ofNat_Int, Int.reduceBNe, Int.reduceToNat, Int.reduceLT, Int.reduceLE, Int.reduceAdd, Int.reduceNeg, Int.reduceEq, reduceCtorEq, enc, hct, hlen, hdat, hera, htak, List.drop_zero]
  refine (w656 a sx sy sz' ap 2 2 _ (Nat.le_refl _) (by simp only [u_tick, u_mine]; exact hun)).wh ?_
  simp -implicitDefEqProofs -dsimp only [↓reduceIte, ↓W_seq, go_sem, WR_nil, evNews, Nat.reduceEqDiff, Nat.reduceAdd, Nat.reduceMul, Nat.reduceLeDiff, Nat.reduceLT, Int.cast_ofNat_Int, Int.reduceBNe, Int.reduceToNat, Int.reduceLT, Int.reduceLE, Int.reduceAdd, Int.reduceNeg, Int.reduceEq, reduceCtorEq, enc, hct, hlen, hdat, hera, htak, List.drop_zero]
  refine (w656 b tx ty tz bp 2 2 _ (Nat.le_refl _) (by simp only [u_tick, u_mine]; exact hun)).wh ?_
  simp -implicitDefEqProofs -dsimp only [↓reduceIte, ↓W_seq, go_sem, WR_nil, evNews, Nat.reduceEqDiff, Nat.reduceAdd, Nat.reduceMul, Nat.reduceLeDiff, Nat.reduceLT, Int.cast_ofNat_Int, Int.reduceBNe, Int.reduceToNat, Int.reduceLT, Int.reduceLE, Int.reduceAdd, Int.reduceNeg, Int.reduceEq, reduceCtorEq, enc, hct, hlen, hdat, hera, htak, List.drop_zero]
  refine (w658 a b sx sy sz' (by omega) 2 2 _ (Nat.le_refl _) (by simp only [u_tick, u_mine]; exact hun)).wh ?_
  simp -implicitDefEqProofs -dsimp only [↓reduceIte, ↓W_seq, go_sem, WR_nil, evNews, Nat.reduceEqDiff, Nat.reduceAdd, Nat.reduceMul, Nat.reduceLeDiff, Nat.reduceLT, Int.cast_ofNat_Int, Int.reduceBNe, Int.reduceToNat, Int.reduceLT, Int.reduceLE, Int.reduceAdd, Int.reduceNeg, Int.reduceEq, reduceCtorEq, enc, hct, hlen, hdat, hera, htak, List.drop_zero]
  refine (w659 a b sx sy sz' (by omega) 2 2 _ (Nat.le_refl _) (by simp only [u_tick, u_mine]; exact hun)).wh ?_
  simp -implicitDefEqProofs -dsimp only [↓reduceIte, ↓W_seq, go_sem, WR_nil, evNews, Nat.reduceEqDiff, Nat.reduceAdd, Nat.reduceMul, Nat.reduceLeDiff, Nat.reduceLT, Int.cast_ofNat_Int, Int.reduceBNe, Int.reduceToNat, Int.reduceLT, Int.reduceLE, Int.reduceAdd, Int.reduceNeg, Int.reduceEq, reduceCtorEq, enc, hct, hlen, hdat, hera, htak, List.drop_zero, beq_self_eq_true]
  refine (w656 a sx sy sz' ap 2 2 _ (Nat.le_refl _) (by simp only [u_tick, u_mine]; exact hun)).wh ?_
  simp -implicitDefEqProofs -dsimp only [↓reduceIte, ↓W_seq, go_sem, WR_nil, evNews, Nat.reduceEqDiff, Nat.reduceAdd, Nat.reduceMul, Nat.reduceLeDiff, Nat.reduceLT, Int.cast_ofNat_Int, Int.reduceBNe, Int.reduceToNat, Int.reduceLT, Int.reduceLE, Int.reduceAdd, Int.reduceNeg, Int.reduceEq, reduceCtorEq, enc, hct, hlen, hdat, hera, htak, List.drop_zero, beq_self_eq_true]
  refine (w656 { a with pos := at' } sx sy sz' ap 2 2 _ (Nat.le_refl _) (by simp only [u_tick, u_mine]; exact hun)).wh ?_
  simp -implicitDefEqProofs -dsimp only [↓reduceIte, ↓W_seq, go_sem, WR_nil, evNews, Nat.reduceEqDiff, Nat.reduceAdd, Nat.reduceMul, Nat.reduceLeDiff, Nat.reduceLT, Int.cast_ofNat_Int, Int.reduceBNe, Int.reduceToNat, Int.reduceLT, Int.reduceLE, Int.reduceAdd, Int.reduceNeg, Int.reduceEq, reduceCtorEq, enc, hct, hlen, hdat, hera, htak, List.drop_zero, beq_self_eq_true]
  refine (w658 a { a with pos := at' } sx sy sz' (by omega) 2 2 _ (Nat.le_refl _) (by simp only [u_tick, u_mine]; exact hun)).wh ?_
  simp -implicitDefEqProofs -dsimp only [↓reduceIte, ↓W_seq, go_sem, WR_nil, evNews, Nat.reduceEqDiff, Nat.reduceAdd, Nat.reduceMul, Nat.reduceLeDiff, Nat.reduceLT, Int.cast_ofNat_Int, Int.reduceBNe, Int.reduceToNat, Int.reduceLT, Int.reduceLE, Int.reduceAdd, Int.reduceNeg, Int.reduceEq, reduceCtorEq, enc, likeM_refl, cut_und _ _ hu]
end Go.Proofs.Tryz.E
