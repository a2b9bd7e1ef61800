/- Walks: what the functions compute. -/
import Derived.Test.YtklnfgmfcpcfcaaGreatDoorA4
set_option linter.unusedVariables false
set_option linter.unusedSimpArgs false
/- Addresses: whether they are formed, how many they are. -/
namespace Go.Proofs.Tryz.E
open Go.Mv
set_option maxHeartbeats 4000000
set_option maxRecDepth 20000
section
variable {C : Cfg} {lim d : Nat} {a : Nat → MV} {σ : Sto} {Q : (Nat → MV) → Sto → Prop} {l : List Oper} {b : Bool} {ops : Array Oper} {dst : Option Tmp} {op : Op} {ty : TypeId} {pos : String} {aft : Array Edge} {j : Nat} {w : Bool} {P : Program} {t : TypeId} {x y v : MV} {e : TypeId → Option (List Sh)}
@[go_sem] theorem g_build {ps : Array (Nat × Operand)} : WO C lim d ops (⟨dst, .build t ps, ty, pos, aft, some (j, w)⟩ :: l) a σ Q ↔ Opt (gdT ops a j w) fun b => Opt (gvO b (buildO C.P t (ps.toList.map fun p => (p.1, valO a p.2)))) fun v => WO C lim d ops l (putD a dst v) σ Q := WO_gp fun _ => rfl
end
def zn : Nd := .mk 0 0 0 0 0 0 0 0 0 []
/-- An address is formed. -/
def formA (k v : Int) (x : Nd) : Bool := if k = 3 then v == 0 && formedB x else if k = 1 then decide (0 ≤ v) && (decide (v ≤ 1000000000) && sameB x zn) else if k = 0 ∨ k = 2 ∨ k = 4 then v == 0 && sameB x zn else false
theorem w414 (k v : Int) (x : Nd) (hx : sz x ≤ 1000000) (lim d : Nat) (σ : Sto) (hlim : lim ≤ d) (hu : σ.Und d) : Ret lim d 64 [.agg (encA k v x)] σ (.bool (formA k v x)) σ := by
  have hun := und_succ hu
  unfold Ret
  obtain ⟨kd, c, s0, s1, s2, s3, n, mn, mx, l⟩ := x
  have h12 := w12 (.mk kd c s0 s1 s2 s3 n mn mx l) hx lim (d + 1)
  have h16 := w16g (.mk kd c s0 s1 s2 s3 n mn mx l) hx zn lim (d + 1)
  unfold formA
  rw [WF_body (C := X) rfl Go.Proofs.Tryz.func64 rfl (by kernel_rfl)]; simp only [Go.Proofs.Tryz.results64]
  by_cases h3 : k = 3
  · subst h3
    cases h4 : v == 0
    · simp -implicitDefEqProofs -dsimp only [↓reduceIte, ↓W_seq, go_sem, WR_nil, evNews, Nat.reduceEqDiff, Nat.reduceAdd, Nat.reduceMul, Nat.reduceLeDiff, Nat.reduceLT, Int.cast_ofNat_Int, Int.reduceBNe, Int.reduceToNat, Int.reduceLT, Int.reduceLE, Int.reduceAdd, Int.reduceNeg, Int.reduceEq, reduceCtorEq, enc, encA, h4, beq_self_eq_true, cut_und _ _ hu, Bool.false_and]
    simp -implicitDefEqProofs -dsimp only [↓reduceIte, ↓W_seq, go_sem, WR_nil, evNews, Nat.reduceEqDiff, Nat.reduceAdd, Nat.reduceMul, Nat.reduceLeDiff, Nat.reduceLT, Int.cast_ofNat_Int, Int.reduceBNe, Int.reduceToNat, Int.reduceLT, Int.reduceLE, Int.reduceAdd, Int.reduceNeg, Int.reduceEq, reduceCtorEq, enc, encA, h4, beq_self_eq_true]
    refine (h12 _ (by omega) (by simp only [u_tick, u_mine]; exact hun)).wh ?_
    simp -implicitDefEqProofs -dsimp only [↓reduceIte, ↓W_seq, go_sem, WR_nil, evNews, Nat.reduceEqDiff, Nat.reduceAdd, Nat.reduceMul, Nat.reduceLeDiff, Nat.reduceLT, Int.cast_ofNat_Int, Int.reduceBNe, Int.reduceToNat, Int.reduceLT, Int.reduceLE, Int.reduceAdd, Int.reduceNeg, Int.reduceEq, reduceCtorEq, enc, cut_und _ _ hu, Bool.true_and]
  have e3 := beq_ne h3
  by_cases h1 : k = 1
  · subst h1
    cases h4 : decide (0 ≤ v)
    · have h4' : ¬ 0 ≤ v := of_decide_eq_false h4
      simp -implicitDefEqProofs -dsimp only [↓reduceIte, ↓W_seq, go_sem, WR_nil, evNews, Nat.reduceEqDiff, Nat.reduceAdd, Nat.reduceMul, Nat.reduceLeDiff, Nat.reduceLT, Int.cast_ofNat_Int, Int.reduceBNe, Int.reduceToNat, Int.reduceLT, Int.reduceLE, Int.reduceAdd, Int.reduceNeg, Int.reduceEq, reduceCtorEq, enc, encA, h4, h4', e3, beq_self_eq_true, cut_und _ _ hu, Bool.false_and]
    · have h4' : 0 ≤ v := of_decide_eq_true h4
      cases h5 : decide (v ≤ 1000000000)
      · have h5' : ¬ v ≤ 1000000000 := of_decide_eq_false h5
        simp -implicitDefEqProofs -dsimp only [↓reduceIte, ↓W_seq, go_sem, WR_nil, evNews, Nat.reduceEqDiff, Nat.reduceAdd, Nat.reduceMul, Nat.reduceLeDiff, Nat.reduceLT, Int.cast_ofNat_Int, Int.reduceBNe, Int.reduceToNat, Int.reduceLT, Int.reduceLE, Int.reduceAdd, Int.reduceNeg, Int.reduceEq, reduceCtorEq, enc, encA, h4, h4', h5, h5', e3, beq_self_eq_true, cut_und _ _ hu, Bool.false_and, Bool.true_and]
      · have h5' : v ≤ 1000000000 := of_decide_eq_true h5
        simp -implicitDefEqProofs -dsimp only [↓reduceIte, ↓W_seq, go_sem, WR_nil, evNews, Nat.reduceEqDiff, Nat.reduceAdd, Nat.reduceMul, Nat.reduceLeDiff, Nat.reduceLT, Int.cast_ofNat_Int, Int.reduceBNe, Int.reduceToNat, Int.reduceLT, Int.reduceLE, Int.reduceAdd, Int.reduceNeg, Int.reduceEq, reduceCtorEq, enc, encA, h4, h4', h5, h5', e3, beq_self_eq_true, cut_und _ _ hu, Bool.false_and, Bool.true_and]
        refine (h16 _ (by omega) (by simp only [u_tick, u_mine]; exact hun)).wh ?_
        simp -implicitDefEqProofs -dsimp only [↓reduceIte, ↓W_seq, go_sem, WR_nil, evNews, Nat.reduceEqDiff, Nat.reduceAdd, Nat.reduceMul, Nat.reduceLeDiff, Nat.reduceLT, Int.cast_ofNat_Int, Int.reduceBNe, Int.reduceToNat, Int.reduceLT, Int.reduceLE, Int.reduceAdd, Int.reduceNeg, Int.reduceEq, reduceCtorEq, enc, cut_und _ _ hu]
  have e1 := beq_ne h1
  rw [if_neg h3, if_neg h1]
  cases h4 : v == 0
  · simp -implicitDefEqProofs -dsimp only [↓reduceIte, ↓W_seq, go_sem, WR_nil, evNews, Nat.reduceEqDiff, Nat.reduceAdd, Nat.reduceMul, Nat.reduceLeDiff, Nat.reduceLT, Int.cast_ofNat_Int, Int.reduceBNe, Int.reduceToNat, Int.reduceLT, Int.reduceLE, Int.reduceAdd, Int.reduceNeg, Int.reduceEq, reduceCtorEq, enc, encA, h4, e1, e3, cut_und _ _ hu, Bool.false_and, ite_self]
  · by_cases q : k = 0 ∨ k = 2 ∨ k = 4
    · rw [if_pos q]
      have g1 : (0 : Int) ≤ k := by omega
      have g2 : k ≤ 4 := by omega
      simp -implicitDefEqProofs -dsimp only [↓reduceIte, ↓W_seq, go_sem, WR_nil, evNews, Nat.reduceEqDiff, Nat.reduceAdd, Nat.reduceMul, Nat.reduceLeDiff, Nat.reduceLT, Int.cast_ofNat_Int, Int.reduceBNe, Int.reduceToNat, Int.reduceLT, Int.reduceLE, Int.reduceAdd, Int.reduceNeg, Int.reduceEq, reduceCtorEq, enc, encA, h4, e1, e3, g1, g2, Bool.true_and]
      refine (h16 _ (by omega) (by simp only [u_tick, u_mine]; exact hun)).wh ?_
      simp -implicitDefEqProofs -dsimp only [↓reduceIte, ↓W_seq, go_sem, WR_nil, evNews, Nat.reduceEqDiff, Nat.reduceAdd, Nat.reduceMul, Nat.reduceLeDiff, Nat.reduceLT, Int.cast_ofNat_Int, Int.reduceBNe, Int.reduceToNat, Int.reduceLT, Int.reduceLE, Int.reduceAdd, Int.reduceNeg, Int.reduceEq, reduceCtorEq, enc, cut_und _ _ hu]
    · rw [if_neg q]
      by_cases g1 : (0 : Int) ≤ k
      · have g2 : ¬ k ≤ 4 := by omega
        simp -implicitDefEqProofs -dsimp only [↓reduceIte, ↓W_seq, go_sem, WR_nil, evNews, Nat.reduceEqDiff, Nat.reduceAdd, Nat.reduceMul, Nat.reduceLeDiff, Nat.reduceLT, Int.cast_ofNat_Int, Int.reduceBNe, Int.reduceToNat, Int.reduceLT, Int.reduceLE, Int.reduceAdd, Int.reduceNeg, Int.reduceEq, reduceCtorEq, enc, encA, h4, e1, e3, g1, g2, cut_und _ _ hu]
      · simp -implicitDefEqProofs -dsimp only [↓reduceIte, ↓W_seq, go_sem, WR_nil, evNews, Nat.reduceEqDiff, Nat.reduceAdd, Nat.reduceMul, Nat.reduceLeDiff, Nat.reduceLT, Int.cast_ofNat_Int, Int.reduceBNe, Int.reduceToNat, Int.reduceLT, Int.reduceLE, Int.reduceAdd, Int.reduceNeg, Int.reduceEq, reduceCtorEq, enc, encA, h4, e1, e3, g1, cut_und _ _ hu]
theorem w415 (k v : Int) (x : Nd) (hx : sz x ≤ 1000000) (lim d : Nat) (σ : Sto) (hlim : lim ≤ d) (hu : σ.Und d) : Ret lim d 48 [.agg (encA k v x)] σ (.bool (formA k v x)) σ := by
  have hun := und_succ hu
  unfold Ret
  obtain ⟨kd, c, s0, s1, s2, s3, n, mn, mx, l⟩ := x
  have h25 := w25 (.mk kd c s0 s1 s2 s3 n mn mx l) hx lim (d + 1)
  have h10 := w10g (.mk kd c s0 s1 s2 s3 n mn mx l) hx zn lim (d + 1)
  unfold formA
  rw [WF_body (C := X) rfl Go.Proofs.Tryz.func48 rfl (by kernel_rfl)]; simp only [Go.Proofs.Tryz.results48]
  simp -implicitDefEqProofs -dsimp only [↓reduceIte, ↓W_seq, go_sem, WR_nil, evNews, Nat.reduceEqDiff, Nat.reduceAdd, Nat.reduceMul, Nat.reduceLeDiff, Nat.reduceLT, Int.cast_ofNat_Int, Int.reduceBNe, Int.reduceToNat, Int.reduceLT, Int.reduceLE, Int.reduceAdd, Int.reduceNeg, Int.reduceEq, reduceCtorEq, enc, encA]
  refine (h10 _ (by omega) (by simp only [u_tick, u_mine]; exact hun)).wh ?_
  generalize sameB (.mk kd c s0 s1 s2 s3 n mn mx l) zn = z
  by_cases h1 : k = 1
  · subst h1
    cases h4 : decide (0 ≤ v)
    · have h4' : ¬ 0 ≤ v := of_decide_eq_false h4
      simp -implicitDefEqProofs -dsimp only [↓reduceIte, ↓W_seq, go_sem, WR_nil, evNews, Nat.reduceEqDiff, Nat.reduceAdd, Nat.reduceMul, Nat.reduceLeDiff, Nat.reduceLT, Int.cast_ofNat_Int, Int.reduceBNe, Int.reduceToNat, Int.reduceLT, Int.reduceLE, Int.reduceAdd, Int.reduceNeg, Int.reduceEq, reduceCtorEq, enc, h4, h4', cut_und _ _ hu, Bool.false_and, beq_self_eq_true]
    · have h4' : 0 ≤ v := of_decide_eq_true h4
      cases h5 : decide (v ≤ 1000000000)
      · have h5' : ¬ v ≤ 1000000000 := of_decide_eq_false h5
        simp -implicitDefEqProofs -dsimp only [↓reduceIte, ↓W_seq, go_sem, WR_nil, evNews, Nat.reduceEqDiff, Nat.reduceAdd, Nat.reduceMul, Nat.reduceLeDiff, Nat.reduceLT, Int.cast_ofNat_Int, Int.reduceBNe, Int.reduceToNat, Int.reduceLT, Int.reduceLE, Int.reduceAdd, Int.reduceNeg, Int.reduceEq, reduceCtorEq, enc, h4, h4', h5, h5', cut_und _ _ hu, Bool.false_and, Bool.true_and, beq_self_eq_true]
      · have h5' : v ≤ 1000000000 := of_decide_eq_true h5
        simp -implicitDefEqProofs -dsimp only [↓reduceIte, ↓W_seq, go_sem, WR_nil, evNews, Nat.reduceEqDiff, Nat.reduceAdd, Nat.reduceMul, Nat.reduceLeDiff, Nat.reduceLT, Int.cast_ofNat_Int, Int.reduceBNe, Int.reduceToNat, Int.reduceLT, Int.reduceLE, Int.reduceAdd, Int.reduceNeg, Int.reduceEq, reduceCtorEq, enc, h4, h4', h5, h5', cut_und _ _ hu, Bool.false_and, Bool.true_and, beq_self_eq_true]
  have e1 := beq_ne h1
  by_cases h3 : k = 3
  · subst h3
    cases h4 : v == 0
    · simp -implicitDefEqProofs -dsimp only [↓reduceIte, ↓W_seq, go_sem, WR_nil, evNews, Nat.reduceEqDiff, Nat.reduceAdd, Nat.reduceMul, Nat.reduceLeDiff, Nat.reduceLT, Int.cast_ofNat_Int, Int.reduceBNe, Int.reduceToNat, Int.reduceLT, Int.reduceLE, Int.reduceAdd, Int.reduceNeg, Int.reduceEq, reduceCtorEq, enc, h4, beq_self_eq_true, e1, cut_und _ _ hu, Bool.false_and]
    simp -implicitDefEqProofs -dsimp only [↓reduceIte, ↓W_seq, go_sem, WR_nil, evNews, Nat.reduceEqDiff, Nat.reduceAdd, Nat.reduceMul, Nat.reduceLeDiff, Nat.reduceLT, Int.cast_ofNat_Int, Int.reduceBNe, Int.reduceToNat, Int.reduceLT, Int.reduceLE, Int.reduceAdd, Int.reduceNeg, Int.reduceEq, reduceCtorEq, enc, h4, beq_self_eq_true, e1]
    refine (h25 _ (by omega) (by simp only [u_tick, u_mine]; exact hun)).wh ?_
    simp -implicitDefEqProofs -dsimp only [↓reduceIte, ↓W_seq, go_sem, WR_nil, evNews, Nat.reduceEqDiff, Nat.reduceAdd, Nat.reduceMul, Nat.reduceLeDiff, Nat.reduceLT, Int.cast_ofNat_Int, Int.reduceBNe, Int.reduceToNat, Int.reduceLT, Int.reduceLE, Int.reduceAdd, Int.reduceNeg, Int.reduceEq, reduceCtorEq, enc, cut_und _ _ hu, Bool.true_and]
  have e3 := beq_ne h3
  rw [if_neg h3, if_neg h1]
  by_cases q0 : k = 0
  · subst q0
    cases h4 : v == 0
    · simp -implicitDefEqProofs -dsimp only [↓reduceIte, ↓W_seq, go_sem, WR_nil, evNews, Nat.reduceEqDiff, Nat.reduceAdd, Nat.reduceMul, Nat.reduceLeDiff, Nat.reduceLT, Int.cast_ofNat_Int, Int.reduceBNe, Int.reduceToNat, Int.reduceLT, Int.reduceLE, Int.reduceAdd, Int.reduceNeg, Int.reduceEq, reduceCtorEq, enc, h4, beq_self_eq_true, e1, e3, cut_und _ _ hu, Bool.false_and, true_or]
    · simp -implicitDefEqProofs -dsimp only [↓reduceIte, ↓W_seq, go_sem, WR_nil, evNews, Nat.reduceEqDiff, Nat.reduceAdd, Nat.reduceMul, Nat.reduceLeDiff, Nat.reduceLT, Int.cast_ofNat_Int, Int.reduceBNe, Int.reduceToNat, Int.reduceLT, Int.reduceLE, Int.reduceAdd, Int.reduceNeg, Int.reduceEq, reduceCtorEq, enc, h4, beq_self_eq_true, e1, e3, cut_und _ _ hu, Bool.true_and, true_or]
  have e0 := beq_ne q0
  by_cases q2 : k = 2
  · subst q2
    cases h4 : v == 0
    · simp -implicitDefEqProofs -dsimp only [↓reduceIte, ↓W_seq, go_sem, WR_nil, evNews, Nat.reduceEqDiff, Nat.reduceAdd, Nat.reduceMul, Nat.reduceLeDiff, Nat.reduceLT, Int.cast_ofNat_Int, Int.reduceBNe, Int.reduceToNat, Int.reduceLT, Int.reduceLE, Int.reduceAdd, Int.reduceNeg, Int.reduceEq, reduceCtorEq, enc, h4, beq_self_eq_true, e0, e1, e3, cut_und _ _ hu, Bool.false_and, true_or, or_true]
    · simp -implicitDefEqProofs -dsimp only [↓reduceIte, ↓W_seq, go_sem, WR_nil, evNews, Nat.reduceEqDiff, Nat.reduceAdd, Nat.reduceMul, Nat.reduceLeDiff, Nat.reduceLT, Int.cast_ofNat_Int, Int.reduceBNe, Int.reduceToNat, Int.reduceLT, Int.reduceLE, Int.reduceAdd, Int.reduceNeg, Int.reduceEq, reduceCtorEq, enc, h4, beq_self_eq_true, e0, e1, e3, cut_und _ _ hu, Bool.true_and, true_or, or_true]
  have e2 := beq_ne q2
  by_cases q4 : k = 4
  · subst q4
    cases h4 : v == 0
    · simp -implicitDefEqProofs -dsimp only [↓reduceIte, ↓W_seq, go_sem, WR_nil, evNews, Nat.reduceEqDiff, Nat.reduceAdd, Nat.reduceMul, Nat.reduceLeDiff, Nat.reduceLT, Int.cast_ofNat_Int, Int.reduceBNe, Int.reduceToNat, Int.reduceLT, Int.reduceLE, Int.reduceAdd, Int.reduceNeg, Int.reduceEq, reduceCtorEq, enc, h4, beq_self_eq_true, e0, e2, e1, e3, cut_und _ _ hu, Bool.false_and, or_true]
    · simp -implicitDefEqProofs -dsimp only [↓reduceIte, ↓W_seq, go_sem, WR_nil, evNews, Nat.reduceEqDiff, Nat.reduceAdd, Nat.reduceMul, Nat.reduceLeDiff, Nat.reduceLT, Int.cast_ofNat_Int, Int.reduceBNe, Int.reduceToNat, Int.reduceLT, Int.reduceLE, Int.reduceAdd, Int.reduceNeg, Int.reduceEq, reduceCtorEq, enc, h4, beq_self_eq_true, e0, e2, e1, e3, cut_und _ _ hu, Bool.true_and, or_true]
  have e4 := beq_ne q4
  simp -implicitDefEqProofs -dsimp only [↓reduceIte, ↓W_seq, go_sem, WR_nil, evNews, Nat.reduceEqDiff, Nat.reduceAdd, Nat.reduceMul, Nat.reduceLeDiff, Nat.reduceLT, Int.cast_ofNat_Int, Int.reduceBNe, Int.reduceToNat, Int.reduceLT, Int.reduceLE, Int.reduceAdd, Int.reduceNeg, Int.reduceEq, reduceCtorEq, enc, e0, e1, e2, e3, e4, q0, q2, q4, or_self, cut_und _ _ hu]
def formG (k v : Int) (x : Nd) (k2 v2 : Int) (y : Nd) : Bool := formA k v x && (formA k2 v2 y && (k != 0 || k2 == 0))
theorem w407 (k v : Int) (x : Nd) (hx : sz x ≤ 1000000) (k2 v2 : Int) (y : Nd) (hy : sz y ≤ 1000000) (b : Bool) (lim d : Nat) (σ : Sto) (hlim : lim ≤ d) (hu : σ.Und d) : Ret lim d 34 [.agg (encG k v x k2 v2 y b)] σ (.bool (formG k v x k2 v2 y)) σ := by
  have hun := und_succ hu
  unfold Ret formG
  have h1 := w414 k v x hx lim (d + 1)
  have h2 := w414 k2 v2 y hy lim (d + 1)
  obtain ⟨kd, c, s0, s1, s2, s3, n, mn, mx, l⟩ := x
  obtain ⟨kd', c', t0, t1, t2, t3, n', mn', mx', l'⟩ := y
  rw [WF_body (C := X) rfl Go.Proofs.Tryz.func34 rfl (by kernel_rfl)]; simp only [Go.Proofs.Tryz.results34]
  simp -implicitDefEqProofs -dsimp only [↓reduceIte, ↓W_seq, go_sem, WR_nil, evNews, Nat.reduceEqDiff, Nat.reduceAdd, Nat.reduceMul, Nat.reduceLeDiff, Nat.reduceLT, Int.cast_ofNat_Int, Int.reduceBNe, Int.reduceToNat, Int.reduceLT, Int.reduceLE, Int.reduceAdd, Int.reduceNeg, Int.reduceEq, reduceCtorEq, enc, encG, encA, List.cons_append, List.nil_append]
  refine (h1 _ (by omega) (by simp only [u_tick, u_mine]; exact hun)).wh ?_
  cases formA k v (.mk kd c s0 s1 s2 s3 n mn mx l)
  · simp -implicitDefEqProofs -dsimp only [↓reduceIte, ↓W_seq, go_sem, WR_nil, evNews, Nat.reduceEqDiff, Nat.reduceAdd, Nat.reduceMul, Nat.reduceLeDiff, Nat.reduceLT, Int.cast_ofNat_Int, Int.reduceBNe, Int.reduceToNat, Int.reduceLT, Int.reduceLE, Int.reduceAdd, Int.reduceNeg, Int.reduceEq, reduceCtorEq, enc, cut_und _ _ hu, Bool.false_and]
  simp -implicitDefEqProofs -dsimp only [↓reduceIte, ↓W_seq, go_sem, WR_nil, evNews, Nat.reduceEqDiff, Nat.reduceAdd, Nat.reduceMul, Nat.reduceLeDiff, Nat.reduceLT, Int.cast_ofNat_Int, Int.reduceBNe, Int.reduceToNat, Int.reduceLT, Int.reduceLE, Int.reduceAdd, Int.reduceNeg, Int.reduceEq, reduceCtorEq, enc, Bool.true_and]
  refine (h2 _ (by omega) (by simp only [u_tick, u_mine]; exact hun)).wh ?_
  cases formA k2 v2 (.mk kd' c' t0 t1 t2 t3 n' mn' mx' l')
  · simp -implicitDefEqProofs -dsimp only [↓reduceIte, ↓W_seq, go_sem, WR_nil, evNews, Nat.reduceEqDiff, Nat.reduceAdd, Nat.reduceMul, Nat.reduceLeDiff, Nat.reduceLT, Int.cast_ofNat_Int, Int.reduceBNe, Int.reduceToNat, Int.reduceLT, Int.reduceLE, Int.reduceAdd, Int.reduceNeg, Int.reduceEq, reduceCtorEq, enc, cut_und _ _ hu, Bool.false_and]
  cases hk : k != 0
  · simp -implicitDefEqProofs -dsimp only [↓reduceIte, ↓W_seq, go_sem, WR_nil, evNews, Nat.reduceEqDiff, Nat.reduceAdd, Nat.reduceMul, Nat.reduceLeDiff, Nat.reduceLT, Int.cast_ofNat_Int, Int.reduceBNe, Int.reduceToNat, Int.reduceLT, Int.reduceLE, Int.reduceAdd, Int.reduceNeg, Int.reduceEq, reduceCtorEq, enc, hk, Bool.true_and, Bool.false_or, cut_und _ _ hu]
  · simp -implicitDefEqProofs -dsimp only [↓reduceIte, ↓W_seq, go_sem, WR_nil, evNews, Nat.reduceEqDiff, Nat.reduceAdd, Nat.reduceMul, Nat.reduceLeDiff, Nat.reduceLT, Int.cast_ofNat_Int, Int.reduceBNe, Int.reduceToNat, Int.reduceLT, Int.reduceLE, Int.reduceAdd, Int.reduceNeg, Int.reduceEq, reduceCtorEq, enc, hk, Bool.true_and, Bool.true_or, cut_und _ _ hu]
theorem w408 (k v : Int) (x : Nd) (hx : sz x ≤ 1000000) (k2 v2 : Int) (y : Nd) (hy : sz y ≤ 1000000) (b : Bool) (lim d : Nat) (σ : Sto) (hlim : lim ≤ d) (hu : σ.Und d) : Ret lim d 41 [.agg (encG k v x k2 v2 y b)] σ (.bool (formG k v x k2 v2 y)) σ := by
  have hun := und_succ hu
  unfold Ret formG
  have h1 := w415 k v x hx lim (d + 1)
  have h2 := w415 k2 v2 y hy lim (d + 1)
  obtain ⟨kd, c, s0, s1, s2, s3, n, mn, mx, l⟩ := x
  obtain ⟨kd', c', t0, t1, t2, t3, n', mn', mx', l'⟩ := y
  rw [WF_body (C := X) rfl Go.Proofs.Tryz.func41 rfl (by kernel_rfl)]; simp only [Go.Proofs.Tryz.results41]
  simp -implicitDefEqProofs -dsimp only [↓reduceIte, ↓W_seq, go_sem, WR_nil, evNews, Nat.reduceEqDiff, Nat.reduceAdd, Nat.reduceMul, Nat.reduceLeDiff, Nat.reduceLT, Int.cast_ofNat_Int, Int.reduceBNe, Int.reduceToNat, Int.reduceLT, Int.reduceLE, Int.reduceAdd, Int.reduceNeg, Int.reduceEq, reduceCtorEq, enc, encG, encA, List.cons_append, List.nil_append]
  refine (h1 _ (by omega) (by simp only [u_tick, u_mine]; exact hun)).wh ?_
  cases formA k v (.mk kd c s0 s1 s2 s3 n mn mx l)
  · simp -implicitDefEqProofs -dsimp only [↓reduceIte, ↓W_seq, go_sem, WR_nil, evNews, Nat.reduceEqDiff, Nat.reduceAdd, Nat.reduceMul, Nat.reduceLeDiff, Nat.reduceLT, Int.cast_ofNat_Int, Int.reduceBNe, Int.reduceToNat, Int.reduceLT, Int.reduceLE, Int.reduceAdd, Int.reduceNeg, Int.reduceEq, reduceCtorEq, enc, cut_und _ _ hu, Bool.false_and]
  simp -implicitDefEqProofs -dsimp only [↓reduceIte, ↓W_seq, go_sem, WR_nil, evNews, Nat.reduceEqDiff, Nat.reduceAdd, Nat.reduceMul, Nat.reduceLeDiff, Nat.reduceLT, Int.cast_ofNat_Int, Int.reduceBNe, Int.reduceToNat, Int.reduceLT, Int.reduceLE, Int.reduceAdd, Int.reduceNeg, Int.reduceEq, reduceCtorEq, enc, Bool.true_and]
  refine (h2 _ (by omega) (by simp only [u_tick, u_mine]; exact hun)).wh ?_
  cases formA k2 v2 (.mk kd' c' t0 t1 t2 t3 n' mn' mx' l')
  · simp -implicitDefEqProofs -dsimp only [↓reduceIte, ↓W_seq, go_sem, WR_nil, evNews, Nat.reduceEqDiff, Nat.reduceAdd, Nat.reduceMul, Nat.reduceLeDiff, Nat.reduceLT, Int.cast_ofNat_Int, Int.reduceBNe, Int.reduceToNat, Int.reduceLT, Int.reduceLE, Int.reduceAdd, Int.reduceNeg, Int.reduceEq, reduceCtorEq, enc, cut_und _ _ hu, Bool.false_and]
  cases hk : k != 0
  · simp -implicitDefEqProofs -dsimp only [↓reduceIte, ↓W_seq, go_sem, WR_nil, evNews, Nat.reduceEqDiff, Nat.reduceAdd, Nat.reduceMul, Nat.reduceLeDiff, Nat.reduceLT, Int.cast_ofNat_Int, Int.reduceBNe, Int.reduceToNat, Int.reduceLT, Int.reduceLE, Int.reduceAdd, Int.reduceNeg, Int.reduceEq, reduceCtorEq, enc, hk, Bool.true_and, Bool.false_or, cut_und _ _ hu]
  · simp -implicitDefEqProofs -dsimp only [↓reduceIte, ↓W_seq, go_sem, WR_nil, evNews, Nat.reduceEqDiff, Nat.reduceAdd, Nat.reduceMul, Nat.reduceLeDiff, Nat.reduceLT, Int.cast_ofNat_Int, Int.reduceBNe, Int.reduceToNat, Int.reduceLT, Int.reduceLE, Int.reduceAdd, Int.reduceNeg, Int.reduceEq, reduceCtorEq, enc, hk, Bool.true_and, Bool.true_or, cut_und _ _ hu]
def manyG (k k2 : Int) : Int := if k = 0 then 0 else if k2 = 0 then 1 else 2
theorem w307g (k v : Int) (x : Nd) (k2 v2 : Int) (y : Nd) (b : Bool) (lim d : Nat) (σ : Sto) (hu : σ.Und d) : Ret lim d 63 [.agg (encG k v x k2 v2 y b)] σ (.int .i64 (manyG k k2)) σ := by
  have w1 := wr64 1 (by omega) (by omega)
  have w2 := wr64 2 (by omega) (by omega)
  unfold Ret manyG
  obtain ⟨kd, c, s0, s1, s2, s3, n, mn, mx, l⟩ := x
  obtain ⟨kd', c', t0, t1, t2, t3, n', mn', mx', l'⟩ := y
  rw [WF_body (C := X) rfl Go.Proofs.Tryz.func63 rfl (by kernel_rfl)]; simp only [Go.Proofs.Tryz.results63]
  by_cases h1 : k = 0
  · subst h1
    simp -implicitDefEqProofs -dsimp only [↓reduceIte, ↓W_seq, go_sem, WR_nil, evNews, Nat.reduceEqDiff, Nat.reduceAdd, Nat.reduceMul, Nat.reduceLeDiff, Nat.reduceLT, Int.cast_ofNat_Int, Int.reduceBNe, Int.reduceToNat, Int.reduceLT, Int.reduceLE, Int.reduceAdd, Int.reduceNeg, Int.reduceEq, reduceCtorEq, enc, encG, encA, List.cons_append, List.nil_append, bne_self_i, cut_und _ _ hu]
  by_cases h2 : k2 = 0
  · subst h2
    simp -implicitDefEqProofs -dsimp only [↓reduceIte, ↓W_seq, go_sem, WR_nil, evNews, Nat.reduceEqDiff, Nat.reduceAdd, Nat.reduceMul, Nat.reduceLeDiff, Nat.reduceLT, Int.cast_ofNat_Int, Int.reduceBNe, Int.reduceToNat, Int.reduceLT, Int.reduceLE, Int.reduceAdd, Int.reduceNeg, Int.reduceEq, reduceCtorEq, enc, encG, encA, List.cons_append, List.nil_append, bne_self_i, bne_ne h1, h1, w1, cut_und _ _ hu]
  simp -implicitDefEqProofs -dsimp only [↓reduceIte, ↓W_seq, go_sem, WR_nil, evNews, Nat.reduceEqDiff, Nat.reduceAdd, Nat.reduceMul, Nat.reduceLeDiff, Nat.reduceLT, Int.cast_ofNat_Int, Int.reduceBNe, Int.reduceToNat, Int.reduceLT, Int.reduceLE, Int.reduceAdd, Int.reduceNeg, Int.reduceEq, reduceCtorEq, enc, encG, encA, List.cons_append, List.nil_append, bne_ne h1, bne_ne h2, h1, h2, w1, w2, cut_und _ _ hu]
theorem w409 (k v : Int) (x : Nd) (k2 v2 : Int) (y : Nd) (b : Bool) (lim d : Nat) (σ : Sto) (hu : σ.Und d) : Ret lim d 42 [.agg (encG k v x k2 v2 y b)] σ (.int .i64 (manyG k k2)) σ := by
  unfold Ret manyG
  obtain ⟨kd, c, s0, s1, s2, s3, n, mn, mx, l⟩ := x
  obtain ⟨kd', c', t0, t1, t2, t3, n', mn', mx', l'⟩ := y
  rw [WF_body (C := X) rfl Go.Proofs.Tryz.func42 rfl (by kernel_rfl)]; simp only [Go.Proofs.Tryz.results42]
  by_cases h1 : k = 0
  · subst h1
    simp -implicitDefEqProofs -dsimp only [↓reduceIte, ↓W_seq, go_sem, WR_nil, evNews, Nat.reduceEqDiff, Nat.reduceAdd, Nat.reduceMul, Nat.reduceLeDiff, Nat.reduceLT, Int.cast_ofNat_Int, Int.reduceBNe, Int.reduceToNat, Int.reduceLT, Int.reduceLE, Int.reduceAdd, Int.reduceNeg, Int.reduceEq, reduceCtorEq, enc, encG, encA, List.cons_append, List.nil_append, beq_self_eq_true, cut_und _ _ hu]
  by_cases h2 : k2 = 0
  · subst h2
    simp -implicitDefEqProofs -dsimp only [↓reduceIte, ↓W_seq, go_sem, WR_nil, evNews, Nat.reduceEqDiff, Nat.reduceAdd, Nat.reduceMul, Nat.reduceLeDiff, Nat.reduceLT, Int.cast_ofNat_Int, Int.reduceBNe, Int.reduceToNat, Int.reduceLT, Int.reduceLE, Int.reduceAdd, Int.reduceNeg, Int.reduceEq, reduceCtorEq, enc, encG, encA, List.cons_append, List.nil_append, beq_self_eq_true, beq_ne h1, h1, cut_und _ _ hu]
  simp -implicitDefEqProofs -dsimp only [↓reduceIte, ↓W_seq, go_sem, WR_nil, evNews, Nat.reduceEqDiff, Nat.reduceAdd, Nat.reduceMul, Nat.reduceLeDiff, Nat.reduceLT, Int.cast_ofNat_Int, Int.reduceBNe, Int.reduceToNat, Int.reduceLT, Int.reduceLE, Int.reduceAdd, Int.reduceNeg, Int.reduceEq, reduceCtorEq, enc, encG, encA, List.cons_append, List.nil_append, beq_ne h1, beq_ne h2, h1, h2, cut_und _ _ hu]
end Go.Proofs.Tryz.E
