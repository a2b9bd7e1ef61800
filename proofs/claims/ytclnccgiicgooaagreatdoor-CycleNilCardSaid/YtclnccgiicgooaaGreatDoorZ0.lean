/- Walks: what the functions compute. -/
import Derived.Test.YtclnccgiicgooaaGreatDoorE7
import Derived.Test.YtclnccgiicgooaaGreatDoorE38z
set_option linter.unusedVariables false
set_option linter.unusedSimpArgs false
/- A nil run: the law CycleNil, as it is computed. -/
namespace Go.Proofs.Tryz.E
open Go.Mv
set_option maxHeartbeats 4000000
set_option maxRecDepth 20000
theorem awake20_ev : tells (mev X 60 2 2 8 [] s0) = some true := by kernel_rfl
theorem w736 (lim d : Nat) (hlim : lim = 0) (hd : d = 2) : Ret lim d 8 [] s0 (.bool true) s0 := by
  subst hlim hd
  exact closed_wf X_ok.keep X_lm rfl (und0 2) (by omega) awake20_ev
@[go_sem] theorem bin_run : binO X.P X.eqT .eql 23 .nilp .nilp = some (.bool true) := by kernel_rfl
@[go_sem] theorem bin_space : binO X.P X.eqT .eql 27 .nilp .nilp = some (.bool true) := by kernel_rfl
/-- A nil run has no cycle. -/
theorem w737_nil (lim d : Nat) (σ : Sto) (hu : σ.Und d) : Ret lim d 9 [.nilp] σ (.tup [.bool false, .int .i64 1]) σ := by
  unfold Ret
  rw [WF_body (C := X) rfl Go.Proofs.Tryz.func9 rfl (by kernel_rfl)]; simp only [Go.Proofs.Tryz.results9]
  simp -implicitDefEqProofs -dsimp only [↓reduceIte, ↓W_seq, go_sem, enc, cut_und _ _ hu]
theorem w738_nil (lim d : Nat) (σ : Sto) (hu : σ.Und d) : Ret lim d 10 [.nilp] σ .nilp σ := by
  unfold Ret
  rw [WF_body (C := X) rfl Go.Proofs.Tryz.func10 rfl (by kernel_rfl)]; simp only [Go.Proofs.Tryz.results10]
  simp -implicitDefEqProofs -dsimp only [↓reduceIte, ↓W_seq, go_sem, enc, cut_und _ _ hu]
theorem w739_nil (lim d : Nat) (hlim : lim = 0) (hd : d = 2) : Ret lim d 11 [.nilp] s0 (.bool true) s0 := by
  subst hlim hd
  exact closed_wf X_ok.keep X_lm rfl (und0 2) (by omega) (show tells (mev X 60 2 2 11 [.nilp] s0) = some true by kernel_rfl)
theorem rem3 (n : Int) : binO X.P X.eqT .rem 5 (.int .u8 n) (.int .u8 3) = some (.int .u8 (n.tmod 3)) := by
  unfold binO
  rw [und_5]
  rfl
theorem w731 (n : Int) (h0 : 0 ≤ n) (h1 : n < 256) (lim d : Nat) (hlim : lim = 0) (hd : d = 1) : Ret lim d 3 [.int .u8 n] s0 (.bool true) s0 := by
  have hu : s0.Und 1 := und0 1
  have hun : s0.Und 2 := und0 2
  have hA := w736 0 2 rfl rfl
  have hC := w737_nil 0 2 s0 hun
  have hS := w738_nil 0 2 s0 hun
  have hO := w739_nil 0 2 rfl rfl
  unfold Ret
  subst hlim hd
  have k1 : IntKind.u8.wrap 1 = 1 := by decide
  have k2 : IntKind.u8.wrap 2 = 2 := by decide
  have l0 : ((0 : Int) < 0) = False := by decide
  have l1 : ((0 : Int) < 1) = True := by decide
  have l2 : ((1 : Int) < 1) = False := by decide
  have l3 : ((0 : Int) < 2) = True := by decide
  have l4 : ((1 : Int) < 2) = True := by decide
  have l5 : ((2 : Int) < 2) = False := by decide
  have a1 : (0 : Int) + 1 = 1 := rfl
  have a2 : (1 : Int) + 1 = 2 := rfl
  have hm : n.tmod 3 = 0 ∨ n.tmod 3 = 1 ∨ n.tmod 3 = 2 := by
    have := Int.tmod_nonneg 3 h0
    have := Int.tmod_lt_of_pos n (show (0 : Int) < 3 by decide)
    omega
  rw [WF_body (C := X) rfl Go.Proofs.Tryz.func3 rfl (by kernel_rfl)]; simp only [Go.Proofs.Tryz.results3]
  simp -implicitDefEqProofs -dsimp only [↓reduceIte, ↓W_seq, go_sem, enc]
  refine hA.wh ?_
  simp -implicitDefEqProofs -dsimp only [↓reduceIte, ↓W_seq, go_sem, enc, rem3]
  rcases hm with hm | hm | hm <;> rw [hm]
  · rw [WL_h]
    simp -implicitDefEqProofs -dsimp only [↓reduceIte, ↓W_seq, go_sem, enc, l0]
    refine hC.wh ?_
    simp -implicitDefEqProofs -dsimp only [↓reduceIte, ↓W_seq, go_sem, enc]
    refine hS.wh ?_
    simp -implicitDefEqProofs -dsimp only [↓reduceIte, ↓W_seq, go_sem, enc, bin_space]
    refine hO.wh ?_
    simp -implicitDefEqProofs -dsimp only [↓reduceIte, ↓W_seq, go_sem, enc, cut_und _ _ hu]
  · rw [WL_h]
    simp -implicitDefEqProofs -dsimp only [↓reduceIte, ↓W_seq, go_sem, enc, l1]
    refine hC.wh ?_
    simp -implicitDefEqProofs -dsimp only [↓reduceIte, ↓W_seq, go_sem, enc, a1, k1]
    rw [WL_h]
    simp -implicitDefEqProofs -dsimp only [↓reduceIte, ↓W_seq, go_sem, enc, l2]
    refine hC.wh ?_
    simp -implicitDefEqProofs -dsimp only [↓reduceIte, ↓W_seq, go_sem, enc]
    refine hS.wh ?_
    simp -implicitDefEqProofs -dsimp only [↓reduceIte, ↓W_seq, go_sem, enc, bin_space]
    refine hO.wh ?_
    simp -implicitDefEqProofs -dsimp only [↓reduceIte, ↓W_seq, go_sem, enc, cut_und _ _ hu]
  · rw [WL_h]
    simp -implicitDefEqProofs -dsimp only [↓reduceIte, ↓W_seq, go_sem, enc, l3]
    refine hC.wh ?_
    simp -implicitDefEqProofs -dsimp only [↓reduceIte, ↓W_seq, go_sem, enc, a1, k1]
    rw [WL_h]
    simp -implicitDefEqProofs -dsimp only [↓reduceIte, ↓W_seq, go_sem, enc, l4]
    refine hC.wh ?_
    simp -implicitDefEqProofs -dsimp only [↓reduceIte, ↓W_seq, go_sem, enc, a2, k2]
    rw [WL_h]
    simp -implicitDefEqProofs -dsimp only [↓reduceIte, ↓W_seq, go_sem, enc, l5]
    refine hC.wh ?_
    simp -implicitDefEqProofs -dsimp only [↓reduceIte, ↓W_seq, go_sem, enc]
    refine hS.wh ?_
    simp -implicitDefEqProofs -dsimp only [↓reduceIte, ↓W_seq, go_sem, enc, bin_space]
    refine hO.wh ?_
    simp -implicitDefEqProofs -dsimp only [↓reduceIte, ↓W_seq, go_sem, enc, cut_und _ _ hu]
end Go.Proofs.Tryz.E
