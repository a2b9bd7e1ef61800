/- Walks: what the functions compute. -/
import Derived.Test.YtklnfgmfcpcfcaaGreatDoorU1
import Derived.Test.YtklnfgmfcpcfcaaGreatDoorT2
set_option linter.unusedVariables false
set_option linter.unusedSimpArgs false
/- A command with just what its name needs. -/
namespace Go.Proofs.Tryz.E
open Go.Mv
set_option maxHeartbeats 4000000
set_option maxRecDepth 20000
def bareZ (c : Cm) (p : Int) : Cm := ⟨c.nm, c.k, c.v, c.x, c.k2, c.v2, c.y, c.b, [], [], [], 0, 0, zn, [], 0, false, false, [], [], p⟩
def bareL (c : Cm) (p : Int) : Cm := ⟨c.nm, c.k, c.v, c.x, c.k2, c.v2, c.y, c.b, c.lab, [], [], 0, 0, zn, [], 0, false, false, [], [], p⟩
def bareT (c : Cm) (p : Int) : Cm := ⟨c.nm, c.k, c.v, c.x, c.k2, c.v2, c.y, c.b, [], c.txt, [], 0, 0, zn, [], 0, false, false, [], [], p⟩
def bareF (c : Cm) (p : Int) : Cm := ⟨c.nm, c.k, c.v, c.x, c.k2, c.v2, c.y, c.b, [], [], c.fil, 0, 0, zn, [], 0, false, false, [], [], p⟩
def bareS (c : Cm) (p : Int) : Cm := ⟨c.nm, c.k, c.v, c.x, c.k2, c.v2, c.y, c.b, [], [], c.fil, c.pk, c.pv, c.px, c.ps, c.nth, c.all, c.prt, [], [], p⟩
def bareY (c : Cm) (p : Int) : Cm := ⟨c.nm, c.k, c.v, c.x, c.k2, c.v2, c.y, c.b, [], [], [], 0, 0, zn, [], 0, false, false, c.frm, c.tto, p⟩
/-- By what a name needs. -/
def bareC (n : Int) (c : Cm) (p : Int) : Cm := if n = 1 then bareL c p else if n = 2 then bareL c p else if n = 3 then bareT c p else if n = 4 then bareF c p else if n = 5 then bareS c p else if n = 6 then bareY c p else bareZ c p
/-- By the name itself. -/
def bareR (c : Cm) : Cm := if inS [97, 105, 99] c.nm = true then bareT c c.pos else if inS [58, 98, 116] c.nm = true then bareL c c.pos else if inS [114, 119] c.nm = true then bareF c c.pos else if (c.nm == 115) = true then bareS c c.pos else if (c.nm == 121) = true then bareY c c.pos else bareZ c c.pos
theorem bare_eq (c : Cm) : bareR c = bareC (kindN c.nm).1 c c.pos := by
  obtain ⟨_, _, _, _, _, h3, h4, h5, h6, h12⟩ := nm_ok c.nm
  unfold bareR
  rw [← h3, ← h12, ← h4, ← h5, ← h6]
  generalize (kindN c.nm).1 = n
  unfold bareC
  by_cases e1 : n = 1
  · subst e1; rfl
  by_cases e2 : n = 2
  · subst e2; rfl
  by_cases e3 : n = 3
  · subst e3; rfl
  by_cases e4 : n = 4
  · subst e4; rfl
  by_cases e5 : n = 5
  · subst e5; rfl
  by_cases e6 : n = 6
  · subst e6; rfl
  simp [e1, e2, e3, e4, e5, e6]
theorem bare_pos (a : Cm) (n : Int) (c : Cm) (p q : Int) : likeM a (bareC n c p) = likeM a (bareC n c q) := by
  unfold bareC
  repeat' split
  all_goals rfl
theorem bare_sz (n : Int) (c : Cm) (p : Int) (hx : sz c.x ≤ 1000000) (hy : sz c.y ≤ 1000000) (hz : sz c.px ≤ 1000000) : sz (bareC n c p).x ≤ 1000000 ∧ sz (bareC n c p).y ≤ 1000000 ∧ sz (bareC n c p).px ≤ 1000000 := by
  have hzn : sz zn ≤ 1000000 := by decide
  unfold bareC
  repeat' split
  all_goals exact ⟨hx, hy, by first | exact hz | exact hzn⟩
@[go_sem] theorem encs_nil0 : encs [] = [] := rfl
@[go_sem] theorem encPs_nil0 : encPs [] = [] := rfl
section
set_option maxHeartbeats 16000000
theorem w679 (c : Cm) (lim d : Nat) (σ : Sto) (hu : σ.Und d) : Ret lim d 35 [.agg (encM c)] σ (.agg (encM (bareC (kindN c.nm).1 c 0))) σ := by
  have hun := und_succ hu
  have hw := w677 c.nm lim (d + 1)
  unfold Ret
  generalize kindN c.nm = q at hw ⊢
  obtain ⟨n, q⟩ := q
  simp only at hw ⊢
  obtain ⟨nm, k, v, ⟨x0, x1, x2, x3, x4, x5, x6, x7, x8, x9⟩, m, u, ⟨y0, y1, y2, y3, y4, y5, y6, y7, y8, y9⟩, b, lab, txt, fil, pk, pv, ⟨z0, z1, z2, z3, z4, z5, z6, z7, z8, z9⟩, ps, nth, all, prt, frm, tto, pos⟩ := c
  simp only at hw ⊢
  rw [WF_body (C := X) rfl Go.Proofs.Tryz.func35 rfl (by kernel_rfl)]; simp only [Go.Proofs.Tryz.results35]
  simp -implicitDefEqProofs -dsimp only [↓reduceIte, ↓W_seq, go_sem, WR_nil, evNews, Nat.reduceEqDiff, Nat.reduceAdd, Nat.reduceMul, Nat.reduceLeDiff, Nat.reduceLT, Int.cast_ofNat_Int, Int.reduceBNe, Int.reduceToNat, Int.reduceLT, Int.reduceLE, Int.reduceAdd, Int.reduceNeg, Int.reduceEq, reduceCtorEq, enc, encM, encG, encA, List.cons_append, List.nil_append, zn]
  refine (hw _ (by simp only [u_tick, u_mine]; exact hun)).wh ?_
  by_cases h1 : n = 1
  · subst h1
    have hB : ∀ c : Cm, bareC 1 c 0 = bareL c 0 := fun _ => rfl
    rw [hB]
    simp -implicitDefEqProofs -dsimp only [↓reduceIte, ↓W_seq, go_sem, WR_nil, evNews, Nat.reduceEqDiff, Nat.reduceAdd, Nat.reduceMul, Nat.reduceLeDiff, Nat.reduceLT, Int.cast_ofNat_Int, Int.reduceBNe, Int.reduceToNat, Int.reduceLT, Int.reduceLE, Int.reduceAdd, Int.reduceNeg, Int.reduceEq, reduceCtorEq, enc, encM, encG, encA, List.cons_append, List.nil_append, zn, bareL, cut_und _ _ hu]
  have e1 : (n == 1) = false := by rw [beq_eq_false_iff_ne]; exact h1
  by_cases h2 : n = 2
  · subst h2
    have hB : ∀ c : Cm, bareC 2 c 0 = bareL c 0 := fun _ => rfl
    rw [hB]
    simp -implicitDefEqProofs -dsimp only [↓reduceIte, ↓W_seq, go_sem, WR_nil, evNews, Nat.reduceEqDiff, Nat.reduceAdd, Nat.reduceMul, Nat.reduceLeDiff, Nat.reduceLT, Int.cast_ofNat_Int, Int.reduceBNe, Int.reduceToNat, Int.reduceLT, Int.reduceLE, Int.reduceAdd, Int.reduceNeg, Int.reduceEq, reduceCtorEq, enc, encM, encG, encA, List.cons_append, List.nil_append, zn, bareL, cut_und _ _ hu]
  have e2 : (n == 2) = false := by rw [beq_eq_false_iff_ne]; exact h2
  by_cases h3 : n = 3
  · subst h3
    have hB : ∀ c : Cm, bareC 3 c 0 = bareT c 0 := fun _ => rfl
    rw [hB]
    simp -implicitDefEqProofs -dsimp only [↓reduceIte, ↓W_seq, go_sem, WR_nil, evNews, Nat.reduceEqDiff, Nat.reduceAdd, Nat.reduceMul, Nat.reduceLeDiff, Nat.reduceLT, Int.cast_ofNat_Int, Int.reduceBNe, Int.reduceToNat, Int.reduceLT, Int.reduceLE, Int.reduceAdd, Int.reduceNeg, Int.reduceEq, reduceCtorEq, enc, encM, encG, encA, List.cons_append, List.nil_append, zn, bareT, cut_und _ _ hu]
  have e3 : (n == 3) = false := by rw [beq_eq_false_iff_ne]; exact h3
  by_cases h4 : n = 4
  · subst h4
    have hB : ∀ c : Cm, bareC 4 c 0 = bareF c 0 := fun _ => rfl
    rw [hB]
    simp -implicitDefEqProofs -dsimp only [↓reduceIte, ↓W_seq, go_sem, WR_nil, evNews, Nat.reduceEqDiff, Nat.reduceAdd, Nat.reduceMul, Nat.reduceLeDiff, Nat.reduceLT, Int.cast_ofNat_Int, Int.reduceBNe, Int.reduceToNat, Int.reduceLT, Int.reduceLE, Int.reduceAdd, Int.reduceNeg, Int.reduceEq, reduceCtorEq, enc, encM, encG, encA, List.cons_append, List.nil_append, zn, bareF, cut_und _ _ hu]
  have e4 : (n == 4) = false := by rw [beq_eq_false_iff_ne]; exact h4
  by_cases h5 : n = 5
  · subst h5
    have hB : ∀ c : Cm, bareC 5 c 0 = bareS c 0 := fun _ => rfl
    rw [hB]
    simp -implicitDefEqProofs -dsimp only [↓reduceIte, ↓W_seq, go_sem, WR_nil, evNews, Nat.reduceEqDiff, Nat.reduceAdd, Nat.reduceMul, Nat.reduceLeDiff, Nat.reduceLT, Int.cast_ofNat_Int, Int.reduceBNe, Int.reduceToNat, Int.reduceLT, Int.reduceLE, Int.reduceAdd, Int.reduceNeg, Int.reduceEq, reduceCtorEq, enc, encM, encG, encA, List.cons_append, List.nil_append, zn, bareS]
    rw [D_lx [.tmp 38, .tmp 40, .tmp 42, .tmp 44, .tmp 46] (by kernel_rfl) (by kernel_rfl)]; simp -implicitDefEqProofs -dsimp only [↓reduceIte, ↓W_seq, go_sem, WR_nil, evNews, Nat.reduceEqDiff, Nat.reduceAdd, Nat.reduceMul, Nat.reduceLeDiff, Nat.reduceLT, Int.cast_ofNat_Int, Int.reduceBNe, Int.reduceToNat, Int.reduceLT, Int.reduceLE, Int.reduceAdd, Int.reduceNeg, Int.reduceEq, reduceCtorEq, enc, List.takeWhile_cons, List.dropWhile_cons, List.takeWhile_nil, List.dropWhile_nil, isTail, evNews, List.mem_cons, List.not_mem_nil, or_false, false_or, not_false_eq_true, not_true_eq_false, decide_true, decide_false, Bool.not_true, Bool.not_false, if_true, if_false, forall_eq, forall_eq_or_imp, false_imp_iff, implies_true, ne_eq, ct_lt1, ct_lt2, ct_lt3, ct_lt4, ct_lt5, encM, encG, encA, List.cons_append, List.nil_append, zn, bareS, cut_und _ _ hu]
  have e5 : (n == 5) = false := by rw [beq_eq_false_iff_ne]; exact h5
  by_cases h6 : n = 6
  · subst h6
    have hB : ∀ c : Cm, bareC 6 c 0 = bareY c 0 := fun _ => rfl
    rw [hB]
    simp -implicitDefEqProofs -dsimp only [↓reduceIte, ↓W_seq, go_sem, WR_nil, evNews, Nat.reduceEqDiff, Nat.reduceAdd, Nat.reduceMul, Nat.reduceLeDiff, Nat.reduceLT, Int.cast_ofNat_Int, Int.reduceBNe, Int.reduceToNat, Int.reduceLT, Int.reduceLE, Int.reduceAdd, Int.reduceNeg, Int.reduceEq, reduceCtorEq, enc, encM, encG, encA, List.cons_append, List.nil_append, zn, bareY]
    rw [D_lx [.tmp 58] (by kernel_rfl) (by kernel_rfl)]; simp -implicitDefEqProofs -dsimp only [↓reduceIte, ↓W_seq, go_sem, WR_nil, evNews, Nat.reduceEqDiff, Nat.reduceAdd, Nat.reduceMul, Nat.reduceLeDiff, Nat.reduceLT, Int.cast_ofNat_Int, Int.reduceBNe, Int.reduceToNat, Int.reduceLT, Int.reduceLE, Int.reduceAdd, Int.reduceNeg, Int.reduceEq, reduceCtorEq, enc, List.takeWhile_cons, List.dropWhile_cons, List.takeWhile_nil, List.dropWhile_nil, isTail, evNews, List.mem_cons, List.not_mem_nil, or_false, false_or, not_false_eq_true, not_true_eq_false, decide_true, decide_false, Bool.not_true, Bool.not_false, if_true, if_false, forall_eq, forall_eq_or_imp, false_imp_iff, implies_true, ne_eq, ct_lt1, ct_lt2, ct_lt3, ct_lt4, ct_lt5, encM, encG, encA, List.cons_append, List.nil_append, zn, bareY, cut_und _ _ hu]
  have e6 : (n == 6) = false := by rw [beq_eq_false_iff_ne]; exact h6
  have hB : ∀ c : Cm, bareC n c 0 = bareZ c 0 := fun _ => by simp only [bareC, h1, h2, h3, h4, h5, h6, if_false]
  rw [hB]
  simp -implicitDefEqProofs -dsimp only [↓reduceIte, ↓W_seq, go_sem, WR_nil, evNews, Nat.reduceEqDiff, Nat.reduceAdd, Nat.reduceMul, Nat.reduceLeDiff, Nat.reduceLT, Int.cast_ofNat_Int, Int.reduceBNe, Int.reduceToNat, Int.reduceLT, Int.reduceLE, Int.reduceAdd, Int.reduceNeg, Int.reduceEq, reduceCtorEq, enc, encM, encG, encA, List.cons_append, List.nil_append, zn, bareZ, e1, e2, e3, e4, e5, e6, cut_und _ _ hu]
theorem w690 (c : Cm) (lim d : Nat) (σ : Sto) (hu : σ.Und d) : Ret lim d 43 [.agg (encM c)] σ (.agg (encM (bareR c))) σ := by
  have hun := und_succ hu
  have hw1 := fun σ h => w692 [97, 105, 99] c.nm (by decide) lim (d + 1) σ h
  have hw2 := fun σ h => w692 [58, 98, 116] c.nm (by decide) lim (d + 1) σ h
  have hw3 := fun σ h => w692 [114, 119] c.nm (by decide) lim (d + 1) σ h
  unfold Ret
  unfold bareR
  generalize inS [97, 105, 99] c.nm = q1 at hw1 ⊢
  generalize inS [58, 98, 116] c.nm = q2 at hw2 ⊢
  generalize inS [114, 119] c.nm = q3 at hw3 ⊢
  obtain ⟨nm, k, v, ⟨x0, x1, x2, x3, x4, x5, x6, x7, x8, x9⟩, m, u, ⟨y0, y1, y2, y3, y4, y5, y6, y7, y8, y9⟩, b, lab, txt, fil, pk, pv, ⟨z0, z1, z2, z3, z4, z5, z6, z7, z8, z9⟩, ps, nth, all, prt, frm, tto, pos⟩ := c
  simp only at hw1 hw2 hw3 ⊢
  rw [WF_body (C := X) rfl Go.Proofs.Tryz.func43 rfl (by kernel_rfl)]; simp only [Go.Proofs.Tryz.results43]
  simp -implicitDefEqProofs -dsimp only [↓reduceIte, ↓W_seq, go_sem, WR_nil, evNews, Nat.reduceEqDiff, Nat.reduceAdd, Nat.reduceMul, Nat.reduceLeDiff, Nat.reduceLT, Int.cast_ofNat_Int, Int.reduceBNe, Int.reduceToNat, Int.reduceLT, Int.reduceLE, Int.reduceAdd, Int.reduceNeg, Int.reduceEq, reduceCtorEq, enc, encM, encG, encA, List.cons_append, List.nil_append, zn]
  refine (hw1 _ (by simp only [u_tick, u_mine]; exact hun)).wh ?_
  cases q1
  rotate_left
  · simp -implicitDefEqProofs -dsimp only [↓reduceIte, ↓W_seq, go_sem, WR_nil, evNews, Nat.reduceEqDiff, Nat.reduceAdd, Nat.reduceMul, Nat.reduceLeDiff, Nat.reduceLT, Int.cast_ofNat_Int, Int.reduceBNe, Int.reduceToNat, Int.reduceLT, Int.reduceLE, Int.reduceAdd, Int.reduceNeg, Int.reduceEq, reduceCtorEq, enc, encM, encG, encA, List.cons_append, List.nil_append, zn, bareT, cut_und _ _ hu]
  simp -implicitDefEqProofs -dsimp only [↓reduceIte, ↓W_seq, go_sem, WR_nil, evNews, Nat.reduceEqDiff, Nat.reduceAdd, Nat.reduceMul, Nat.reduceLeDiff, Nat.reduceLT, Int.cast_ofNat_Int, Int.reduceBNe, Int.reduceToNat, Int.reduceLT, Int.reduceLE, Int.reduceAdd, Int.reduceNeg, Int.reduceEq, reduceCtorEq, enc, encM, encG, encA, List.cons_append, List.nil_append, zn]
  refine (hw2 _ (by simp only [u_tick, u_mine]; exact hun)).wh ?_
  cases q2
  rotate_left
  · simp -implicitDefEqProofs -dsimp only [↓reduceIte, ↓W_seq, go_sem, WR_nil, evNews, Nat.reduceEqDiff, Nat.reduceAdd, Nat.reduceMul, Nat.reduceLeDiff, Nat.reduceLT, Int.cast_ofNat_Int, Int.reduceBNe, Int.reduceToNat, Int.reduceLT, Int.reduceLE, Int.reduceAdd, Int.reduceNeg, Int.reduceEq, reduceCtorEq, enc, encM, encG, encA, List.cons_append, List.nil_append, zn, bareL, cut_und _ _ hu]
  simp -implicitDefEqProofs -dsimp only [↓reduceIte, ↓W_seq, go_sem, WR_nil, evNews, Nat.reduceEqDiff, Nat.reduceAdd, Nat.reduceMul, Nat.reduceLeDiff, Nat.reduceLT, Int.cast_ofNat_Int, Int.reduceBNe, Int.reduceToNat, Int.reduceLT, Int.reduceLE, Int.reduceAdd, Int.reduceNeg, Int.reduceEq, reduceCtorEq, enc, encM, encG, encA, List.cons_append, List.nil_append, zn]
  refine (hw3 _ (by simp only [u_tick, u_mine]; exact hun)).wh ?_
  cases q3
  rotate_left
  · simp -implicitDefEqProofs -dsimp only [↓reduceIte, ↓W_seq, go_sem, WR_nil, evNews, Nat.reduceEqDiff, Nat.reduceAdd, Nat.reduceMul, Nat.reduceLeDiff, Nat.reduceLT, Int.cast_ofNat_Int, Int.reduceBNe, Int.reduceToNat, Int.reduceLT, Int.reduceLE, Int.reduceAdd, Int.reduceNeg, Int.reduceEq, reduceCtorEq, enc, encM, encG, encA, List.cons_append, List.nil_append, zn, bareF, cut_und _ _ hu]
  cases q4 : nm == 115
  rotate_left
  · simp -implicitDefEqProofs -dsimp only [↓reduceIte, ↓W_seq, go_sem, WR_nil, evNews, Nat.reduceEqDiff, Nat.reduceAdd, Nat.reduceMul, Nat.reduceLeDiff, Nat.reduceLT, Int.cast_ofNat_Int, Int.reduceBNe, Int.reduceToNat, Int.reduceLT, Int.reduceLE, Int.reduceAdd, Int.reduceNeg, Int.reduceEq, reduceCtorEq, enc, encM, encG, encA, List.cons_append, List.nil_append, zn, bareS, q4]
    rw [D_lx [.tmp 38, .tmp 40, .tmp 42, .tmp 44, .tmp 46] (by kernel_rfl) (by kernel_rfl)]; simp -implicitDefEqProofs -dsimp only [↓reduceIte, ↓W_seq, go_sem, WR_nil, evNews, Nat.reduceEqDiff, Nat.reduceAdd, Nat.reduceMul, Nat.reduceLeDiff, Nat.reduceLT, Int.cast_ofNat_Int, Int.reduceBNe, Int.reduceToNat, Int.reduceLT, Int.reduceLE, Int.reduceAdd, Int.reduceNeg, Int.reduceEq, reduceCtorEq, enc, List.takeWhile_cons, List.dropWhile_cons, List.takeWhile_nil, List.dropWhile_nil, isTail, evNews, List.mem_cons, List.not_mem_nil, or_false, false_or, not_false_eq_true, not_true_eq_false, decide_true, decide_false, Bool.not_true, Bool.not_false, if_true, if_false, forall_eq, forall_eq_or_imp, false_imp_iff, implies_true, ne_eq, ct_lt1, ct_lt2, ct_lt3, ct_lt4, ct_lt5, encM, encG, encA, List.cons_append, List.nil_append, zn, bareS, q4, cut_und _ _ hu]
  cases q5 : nm == 121
  rotate_left
  · simp -implicitDefEqProofs -dsimp only [↓reduceIte, ↓W_seq, go_sem, WR_nil, evNews, Nat.reduceEqDiff, Nat.reduceAdd, Nat.reduceMul, Nat.reduceLeDiff, Nat.reduceLT, Int.cast_ofNat_Int, Int.reduceBNe, Int.reduceToNat, Int.reduceLT, Int.reduceLE, Int.reduceAdd, Int.reduceNeg, Int.reduceEq, reduceCtorEq, enc, encM, encG, encA, List.cons_append, List.nil_append, zn, bareY, q4, q5]
    rw [D_lx [.tmp 60] (by kernel_rfl) (by kernel_rfl)]; simp -implicitDefEqProofs -dsimp only [↓reduceIte, ↓W_seq, go_sem, WR_nil, evNews, Nat.reduceEqDiff, Nat.reduceAdd, Nat.reduceMul, Nat.reduceLeDiff, Nat.reduceLT, Int.cast_ofNat_Int, Int.reduceBNe, Int.reduceToNat, Int.reduceLT, Int.reduceLE, Int.reduceAdd, Int.reduceNeg, Int.reduceEq, reduceCtorEq, enc, List.takeWhile_cons, List.dropWhile_cons, List.takeWhile_nil, List.dropWhile_nil, isTail, evNews, List.mem_cons, List.not_mem_nil, or_false, false_or, not_false_eq_true, not_true_eq_false, decide_true, decide_false, Bool.not_true, Bool.not_false, if_true, if_false, forall_eq, forall_eq_or_imp, false_imp_iff, implies_true, ne_eq, ct_lt1, ct_lt2, ct_lt3, ct_lt4, ct_lt5, encM, encG, encA, List.cons_append, List.nil_append, zn, bareY, q4, q5, cut_und _ _ hu]
  simp -implicitDefEqProofs -dsimp only [↓reduceIte, ↓W_seq, go_sem, WR_nil, evNews, Nat.reduceEqDiff, Nat.reduceAdd, Nat.reduceMul, Nat.reduceLeDiff, Nat.reduceLT, Int.cast_ofNat_Int, Int.reduceBNe, Int.reduceToNat, Int.reduceLT, Int.reduceLE, Int.reduceAdd, Int.reduceNeg, Int.reduceEq, reduceCtorEq, enc, encM, encG, encA, List.cons_append, List.nil_append, zn, bareZ, q4, q5, cut_und _ _ hu]
end
end Go.Proofs.Tryz.E
