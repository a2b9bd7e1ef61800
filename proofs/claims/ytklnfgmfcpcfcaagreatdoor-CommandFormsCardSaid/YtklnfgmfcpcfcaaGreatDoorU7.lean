/- Walks: what the functions compute. -/
import Derived.Test.YtklnfgmfcpcfcaaGreatDoorU6
set_option linter.unusedVariables false
set_option linter.unusedSimpArgs false
/- Formed, FormedCommand. -/
namespace Go.Proofs.Tryz.E
open Go.Mv
set_option maxHeartbeats 4000000
set_option maxRecDepth 20000
def tailB (n : Int) (c : Cm) : Bool := if n = 1 then labB c.lab else if n = 2 then (c.lab == [] || labB c.lab) else if n = 4 then filB c.fil else if n = 5 then subB c else if n = 6 then (c.frm.length == c.tto.length && !twB c.frm) else true
def formC (c : Cm) : Bool := !((kindN c.nm).1 == 7) && (!(c.nm == 125) && (allowB c.nm c.k c.k2 c.b && (formG c.k c.v c.x c.k2 c.v2 c.y && (likeM c (bareC (kindN c.nm).1 c 0) && tailB (kindN c.nm).1 c))))
def tailR (c : Cm) : Bool := if (c.nm == 58) = true then labB c.lab else if inS [98, 116] c.nm = true then (c.lab == [] || labB c.lab) else if inS [114, 119] c.nm = true then filB c.fil else if (c.nm == 121) = true then (c.frm.length == c.tto.length && !twB c.frm) else if (c.nm == 115) = true then subB c else true
def formR (c : Cm) : Bool := !(c.nm == 125) && (!(c.nm == 35) && (!decide (mostN c.nm < 0) && (formG c.k c.v c.x c.k2 c.v2 c.y && (!decide (mostN c.nm < manyG c.k c.k2) && (!(mostN c.nm == 0 && c.b) && (likeM c (bareR c) && tailR c))))))
theorem tail_eq (c : Cm) : tailB (kindN c.nm).1 c = tailR c := by
  obtain ⟨_, _, _, h1, h2, _, h4, h5, h6, _⟩ := nm_ok c.nm
  unfold tailR
  rw [← h1, ← h2, ← h4, ← h5, ← h6]
  generalize (kindN c.nm).1 = n
  unfold tailB
  by_cases e1 : n = 1
  · subst e1; rfl
  by_cases e2 : n = 2
  · subst e2; rfl
  by_cases e4 : n = 4
  · subst e4; rfl
  by_cases e5 : n = 5
  · subst e5; rfl
  by_cases e6 : n = 6
  · subst e6; rfl
  simp [e1, e2, e4, e5, e6]
/-- The law: both tell the same. -/
theorem form_eq (c : Cm) : formC c = formR c := by
  have hn := nm_ok c.nm
  have hg : 0 ≤ manyG c.k c.k2 := by unfold manyG; repeat' split
                                     all_goals decide
  have hb : likeM c (bareR c) = likeM c (bareC (kindN c.nm).1 c 0) := by rw [bare_eq]; exact bare_pos ..
  unfold formC formR
  rw [hb, ← tail_eq, hn.n7, ← hn.n8]
  unfold allowB
  cases h8 : (kindN c.nm).1 == 8
  · rw [← hn.ms h8]
    have hm : 0 ≤ mostN c.nm := by
      have := hn.n8
      rw [h8] at this
      have := of_decide_eq_false this.symm
      omega
    generalize mostN c.nm = M at hm ⊢
    generalize manyG c.k c.k2 = G at hg ⊢
    have e1 : (!decide (M < G)) = decide (G ≤ M) := by by_cases h : G ≤ M <;> simp [h] <;> omega
    have e2 : (!(M == 0 && c.b)) = (decide (0 < M) || !c.b) := by
      by_cases h : M = 0
      · subst h; cases c.b <;> rfl
      · have h1 : (M == 0) = false := by rw [beq_eq_false_iff_ne]; exact h
        have h2 : 0 < M := by omega
        simp [h1, h2]
    rw [e1, e2]
    generalize (c.nm == 35) = a1
    generalize (c.nm == 125) = a2
    generalize decide (G ≤ M) = a3
    generalize (decide (0 < M) || !c.b) = a4
    generalize formG c.k c.v c.x c.k2 c.v2 c.y = a5
    cases a1 <;> cases a2 <;> cases a3 <;> cases a4 <;> cases a5 <;> rfl
  · simp
theorem or_ifU {a b : Bool} (h : (a || b) = true) : (if a = true then true else b) = true := by
  cases a
  · rw [Bool.false_or] at h; exact h
  · rfl
section
set_option maxHeartbeats 16000000
theorem w684 (c : Cm) (hx : sz c.x ≤ 1000000) (hy : sz c.y ≤ 1000000) (hz : sz c.px ≤ 1000000) (hp : c.ps.length ≤ 1000000) (ht : c.frm.length ≤ 1000000) (lim d : Nat) (σ : Sto) (hlim : lim ≤ d) (hu : σ.Und d) : Ret lim d 15 [.agg (encM c)] σ (.bool (formC c)) σ := by
  have hun := und_succ hu
  have hk := fun σ h => w677 c.nm lim (d + 1) σ h
  have ha := fun σ h => w678 c.nm c.k c.v c.x c.k2 c.v2 c.y c.b (d + 1) (d + 1) σ h
  have hf := fun σ h => w407 c.k c.v c.x hx c.k2 c.v2 c.y hy c.b (d + 1) (d + 1) σ (Nat.le_refl _) h
  have hb := fun σ h => w679 c (d + 1) (d + 1) σ h
  have hE := fun σ h => w658 c (bareC (kindN c.nm).1 c 0) hx hy hz hp (d + 1) (d + 1) σ (Nat.le_refl _) h
  have hs := fun σ h => w682 c hx hy hz hp ht lim (d + 1) σ (by omega) h
  have hl := fun σ h => w680 c.lab lim (d + 1) σ h
  have hfi := fun σ h => w681 c.fil lim (d + 1) σ h
  have htw := fun σ h => w683 c.frm ht lim (d + 1) σ h
  have hera := encM_era (bareC (kindN c.nm).1 c 0)
  unfold formC tailB
  generalize likeM c (bareC (kindN c.nm).1 c 0) = qE at hE ⊢
  generalize bareC (kindN c.nm).1 c 0 = B at hb hE hera
  generalize encM B = MB at hb hE hera
  generalize kindN c.nm = q at hk ⊢
  obtain ⟨n, q⟩ := q
  generalize allowB c.nm c.k c.k2 c.b = qa at ha ⊢
  generalize formG c.k c.v c.x c.k2 c.v2 c.y = qf at hf ⊢
  generalize subB c = qs at hs ⊢
  generalize labB c.lab = ql at hl ⊢
  generalize filB c.fil = qi at hfi ⊢
  generalize twB c.frm = qt at htw ⊢
  unfold Ret
  obtain ⟨nm, k, v, ⟨x0, x1, x2, x3, x4, x5, x6, x7, x8, x9⟩, m, u, ⟨y0, y1, y2, y3, y4, y5, y6, y7, y8, y9⟩, b, lab, txt, fil, pk, pv, ⟨z0, z1, z2, z3, z4, z5, z6, z7, z8, z9⟩, ps, nth, all, prt, frm, tto, pos⟩ := c
  try simp only at hk
  try simp only at ha
  try simp only at hf
  try simp only at hl
  try simp only at hfi
  try simp only at htw
  try simp only
  rw [WF_body (C := X) rfl Go.Proofs.Tryz.func15 rfl (by kernel_rfl)]; simp only [Go.Proofs.Tryz.results15]
  simp -implicitDefEqProofs -dsimp only [↓reduceIte, ↓W_seq, go_sem, WR_nil, evNews, Nat.reduceEqDiff, Nat.reduceAdd, Nat.reduceMul, Nat.reduceLeDiff, Nat.reduceLT, Int.cast_ofNat_Int, Int.reduceBNe, Int.reduceToNat, Int.reduceLT, Int.reduceLE, Int.reduceAdd, Int.reduceNeg, Int.reduceEq, reduceCtorEq, enc, encM, encG, encA, List.cons_append, List.nil_append]
  refine (hk _ (by simp only [u_tick, u_mine]; exact hun)).wh ?_
  simp -implicitDefEqProofs -dsimp only [↓reduceIte, ↓W_seq, go_sem, WR_nil, evNews, Nat.reduceEqDiff, Nat.reduceAdd, Nat.reduceMul, Nat.reduceLeDiff, Nat.reduceLT, Int.cast_ofNat_Int, Int.reduceBNe, Int.reduceToNat, Int.reduceLT, Int.reduceLE, Int.reduceAdd, Int.reduceNeg, Int.reduceEq, reduceCtorEq, enc, encM, encG, encA, List.cons_append, List.nil_append]
  rw [D_dr (by kernel_rfl) rfl]
  cases h1 : n == 7
  rotate_left
  · simp -implicitDefEqProofs -dsimp only [↓reduceIte, ↓W_seq, go_sem, WR_nil, evNews, Nat.reduceEqDiff, Nat.reduceAdd, Nat.reduceMul, Nat.reduceLeDiff, Nat.reduceLT, Int.cast_ofNat_Int, Int.reduceBNe, Int.reduceToNat, Int.reduceLT, Int.reduceLE, Int.reduceAdd, Int.reduceNeg, Int.reduceEq, reduceCtorEq, enc, encM, encG, encA, List.cons_append, List.nil_append, h1, cut_und _ _ hu, Bool.false_and]
  cases h2 : nm == 125
  rotate_left
  · simp -implicitDefEqProofs -dsimp only [↓reduceIte, ↓W_seq, go_sem, WR_nil, evNews, Nat.reduceEqDiff, Nat.reduceAdd, Nat.reduceMul, Nat.reduceLeDiff, Nat.reduceLT, Int.cast_ofNat_Int, Int.reduceBNe, Int.reduceToNat, Int.reduceLT, Int.reduceLE, Int.reduceAdd, Int.reduceNeg, Int.reduceEq, reduceCtorEq, enc, encM, encG, encA, List.cons_append, List.nil_append, h1, h2, cut_und _ _ hu, Bool.false_and, Bool.true_and]
  simp -implicitDefEqProofs -dsimp only [↓reduceIte, ↓W_seq, go_sem, WR_nil, evNews, Nat.reduceEqDiff, Nat.reduceAdd, Nat.reduceMul, Nat.reduceLeDiff, Nat.reduceLT, Int.cast_ofNat_Int, Int.reduceBNe, Int.reduceToNat, Int.reduceLT, Int.reduceLE, Int.reduceAdd, Int.reduceNeg, Int.reduceEq, reduceCtorEq, enc, encM, encG, encA, List.cons_append, List.nil_append, h1, h2]
  refine (ha _ (by simp only [u_tick, u_mine]; exact hun)).wh ?_
  cases qa
  · simp -implicitDefEqProofs -dsimp only [↓reduceIte, ↓W_seq, go_sem, WR_nil, evNews, Nat.reduceEqDiff, Nat.reduceAdd, Nat.reduceMul, Nat.reduceLeDiff, Nat.reduceLT, Int.cast_ofNat_Int, Int.reduceBNe, Int.reduceToNat, Int.reduceLT, Int.reduceLE, Int.reduceAdd, Int.reduceNeg, Int.reduceEq, reduceCtorEq, enc, cut_und _ _ hu, Bool.false_and, Bool.true_and]
  simp -implicitDefEqProofs -dsimp only [↓reduceIte, ↓W_seq, go_sem, WR_nil, evNews, Nat.reduceEqDiff, Nat.reduceAdd, Nat.reduceMul, Nat.reduceLeDiff, Nat.reduceLT, Int.cast_ofNat_Int, Int.reduceBNe, Int.reduceToNat, Int.reduceLT, Int.reduceLE, Int.reduceAdd, Int.reduceNeg, Int.reduceEq, reduceCtorEq, enc, encM, encG, encA, List.cons_append, List.nil_append, h1, h2]
  refine (hf _ (by simp only [u_tick, u_mine]; exact hun)).wh ?_
  cases qf
  · simp -implicitDefEqProofs -dsimp only [↓reduceIte, ↓W_seq, go_sem, WR_nil, evNews, Nat.reduceEqDiff, Nat.reduceAdd, Nat.reduceMul, Nat.reduceLeDiff, Nat.reduceLT, Int.cast_ofNat_Int, Int.reduceBNe, Int.reduceToNat, Int.reduceLT, Int.reduceLE, Int.reduceAdd, Int.reduceNeg, Int.reduceEq, reduceCtorEq, enc, cut_und _ _ hu, Bool.false_and, Bool.true_and]
  simp -implicitDefEqProofs -dsimp only [↓reduceIte, ↓W_seq, go_sem, WR_nil, evNews, Nat.reduceEqDiff, Nat.reduceAdd, Nat.reduceMul, Nat.reduceLeDiff, Nat.reduceLT, Int.cast_ofNat_Int, Int.reduceBNe, Int.reduceToNat, Int.reduceLT, Int.reduceLE, Int.reduceAdd, Int.reduceNeg, Int.reduceEq, reduceCtorEq, enc, encM, encG, encA, List.cons_append, List.nil_append, h1, h2]
  refine (hb _ (by simp only [u_tick, u_mine]; exact hun)).wh ?_
  simp -implicitDefEqProofs -dsimp only [↓reduceIte, ↓W_seq, go_sem, WR_nil, evNews, Nat.reduceEqDiff, Nat.reduceAdd, Nat.reduceMul, Nat.reduceLeDiff, Nat.reduceLT, Int.cast_ofNat_Int, Int.reduceBNe, Int.reduceToNat, Int.reduceLT, Int.reduceLE, Int.reduceAdd, Int.reduceNeg, Int.reduceEq, reduceCtorEq, enc, encM, encG, encA, List.cons_append, List.nil_append, h1, h2, hera]
  refine (hE _ (by simp only [u_tick, u_mine]; exact hun)).wh ?_
  cases qE
  · simp -implicitDefEqProofs -dsimp only [↓reduceIte, ↓W_seq, go_sem, WR_nil, evNews, Nat.reduceEqDiff, Nat.reduceAdd, Nat.reduceMul, Nat.reduceLeDiff, Nat.reduceLT, Int.cast_ofNat_Int, Int.reduceBNe, Int.reduceToNat, Int.reduceLT, Int.reduceLE, Int.reduceAdd, Int.reduceNeg, Int.reduceEq, reduceCtorEq, enc, cut_und _ _ hu, Bool.false_and, Bool.true_and]
  by_cases e1 : n = 1
  · subst e1
    simp -implicitDefEqProofs -dsimp only [↓reduceIte, ↓W_seq, go_sem, WR_nil, evNews, Nat.reduceEqDiff, Nat.reduceAdd, Nat.reduceMul, Nat.reduceLeDiff, Nat.reduceLT, Int.cast_ofNat_Int, Int.reduceBNe, Int.reduceToNat, Int.reduceLT, Int.reduceLE, Int.reduceAdd, Int.reduceNeg, Int.reduceEq, reduceCtorEq, enc, encM, encG, encA, List.cons_append, List.nil_append, Bool.true_and]
    refine (hl _ (by simp only [u_tick, u_mine]; exact hun)).wh ?_
    simp -implicitDefEqProofs -dsimp only [↓reduceIte, ↓W_seq, go_sem, WR_nil, evNews, Nat.reduceEqDiff, Nat.reduceAdd, Nat.reduceMul, Nat.reduceLeDiff, Nat.reduceLT, Int.cast_ofNat_Int, Int.reduceBNe, Int.reduceToNat, Int.reduceLT, Int.reduceLE, Int.reduceAdd, Int.reduceNeg, Int.reduceEq, reduceCtorEq, enc, cut_und _ _ hu]
  have f1 : (n == 1) = false := by rw [beq_eq_false_iff_ne]; exact e1
  by_cases e2 : n = 2
  · subst e2
    cases h3 : lab == []
    · simp -implicitDefEqProofs -dsimp only [↓reduceIte, ↓W_seq, go_sem, WR_nil, evNews, Nat.reduceEqDiff, Nat.reduceAdd, Nat.reduceMul, Nat.reduceLeDiff, Nat.reduceLT, Int.cast_ofNat_Int, Int.reduceBNe, Int.reduceToNat, Int.reduceLT, Int.reduceLE, Int.reduceAdd, Int.reduceNeg, Int.reduceEq, reduceCtorEq, enc, encM, encG, encA, List.cons_append, List.nil_append, h3, Bool.true_and]
      refine (hl _ (by simp only [u_tick, u_mine]; exact hun)).wh ?_
      simp -implicitDefEqProofs -dsimp only [↓reduceIte, ↓W_seq, go_sem, WR_nil, evNews, Nat.reduceEqDiff, Nat.reduceAdd, Nat.reduceMul, Nat.reduceLeDiff, Nat.reduceLT, Int.cast_ofNat_Int, Int.reduceBNe, Int.reduceToNat, Int.reduceLT, Int.reduceLE, Int.reduceAdd, Int.reduceNeg, Int.reduceEq, reduceCtorEq, enc, cut_und _ _ hu]
    · simp -implicitDefEqProofs -dsimp only [↓reduceIte, ↓W_seq, go_sem, WR_nil, evNews, Nat.reduceEqDiff, Nat.reduceAdd, Nat.reduceMul, Nat.reduceLeDiff, Nat.reduceLT, Int.cast_ofNat_Int, Int.reduceBNe, Int.reduceToNat, Int.reduceLT, Int.reduceLE, Int.reduceAdd, Int.reduceNeg, Int.reduceEq, reduceCtorEq, enc, encM, encG, encA, List.cons_append, List.nil_append, h3, cut_und _ _ hu, Bool.true_and]
  have f2 : (n == 2) = false := by rw [beq_eq_false_iff_ne]; exact e2
  by_cases e4 : n = 4
  · subst e4
    simp -implicitDefEqProofs -dsimp only [↓reduceIte, ↓W_seq, go_sem, WR_nil, evNews, Nat.reduceEqDiff, Nat.reduceAdd, Nat.reduceMul, Nat.reduceLeDiff, Nat.reduceLT, Int.cast_ofNat_Int, Int.reduceBNe, Int.reduceToNat, Int.reduceLT, Int.reduceLE, Int.reduceAdd, Int.reduceNeg, Int.reduceEq, reduceCtorEq, enc, encM, encG, encA, List.cons_append, List.nil_append, Bool.true_and]
    refine (hfi _ (by simp only [u_tick, u_mine]; exact hun)).wh ?_
    simp -implicitDefEqProofs -dsimp only [↓reduceIte, ↓W_seq, go_sem, WR_nil, evNews, Nat.reduceEqDiff, Nat.reduceAdd, Nat.reduceMul, Nat.reduceLeDiff, Nat.reduceLT, Int.cast_ofNat_Int, Int.reduceBNe, Int.reduceToNat, Int.reduceLT, Int.reduceLE, Int.reduceAdd, Int.reduceNeg, Int.reduceEq, reduceCtorEq, enc, cut_und _ _ hu]
  have f4 : (n == 4) = false := by rw [beq_eq_false_iff_ne]; exact e4
  by_cases e5 : n = 5
  · subst e5
    simp -implicitDefEqProofs -dsimp only [↓reduceIte, ↓W_seq, go_sem, WR_nil, evNews, Nat.reduceEqDiff, Nat.reduceAdd, Nat.reduceMul, Nat.reduceLeDiff, Nat.reduceLT, Int.cast_ofNat_Int, Int.reduceBNe, Int.reduceToNat, Int.reduceLT, Int.reduceLE, Int.reduceAdd, Int.reduceNeg, Int.reduceEq, reduceCtorEq, enc, encM, encG, encA, List.cons_append, List.nil_append, Bool.true_and]
    refine (hs _ (by simp only [u_tick, u_mine]; exact hun)).wh ?_
    simp -implicitDefEqProofs -dsimp only [↓reduceIte, ↓W_seq, go_sem, WR_nil, evNews, Nat.reduceEqDiff, Nat.reduceAdd, Nat.reduceMul, Nat.reduceLeDiff, Nat.reduceLT, Int.cast_ofNat_Int, Int.reduceBNe, Int.reduceToNat, Int.reduceLT, Int.reduceLE, Int.reduceAdd, Int.reduceNeg, Int.reduceEq, reduceCtorEq, enc, cut_und _ _ hu]
  have f5 : (n == 5) = false := by rw [beq_eq_false_iff_ne]; exact e5
  by_cases e6 : n = 6
  · subst e6
    by_cases h4 : frm.length = tto.length
    · have g4 : ((frm.length : Int) == (tto.length : Int)) = true := by rw [beq_iff_eq]; omega
      have g5 : (frm.length == tto.length) = true := by rw [beq_iff_eq]; exact h4
      simp -implicitDefEqProofs -dsimp only [↓reduceIte, ↓W_seq, go_sem, WR_nil, evNews, Nat.reduceEqDiff, Nat.reduceAdd, Nat.reduceMul, Nat.reduceLeDiff, Nat.reduceLT, Int.cast_ofNat_Int, Int.reduceBNe, Int.reduceToNat, Int.reduceLT, Int.reduceLE, Int.reduceAdd, Int.reduceNeg, Int.reduceEq, reduceCtorEq, enc, encM, encG, encA, List.cons_append, List.nil_append, g4, g5, Bool.true_and]
      refine (htw _ (by simp only [u_tick, u_mine]; exact hun)).wh ?_
      cases qt
      · simp -implicitDefEqProofs -dsimp only [↓reduceIte, ↓W_seq, go_sem, WR_nil, evNews, Nat.reduceEqDiff, Nat.reduceAdd, Nat.reduceMul, Nat.reduceLeDiff, Nat.reduceLT, Int.cast_ofNat_Int, Int.reduceBNe, Int.reduceToNat, Int.reduceLT, Int.reduceLE, Int.reduceAdd, Int.reduceNeg, Int.reduceEq, reduceCtorEq, enc, cut_und _ _ hu, g5, Bool.true_and]
      · simp -implicitDefEqProofs -dsimp only [↓reduceIte, ↓W_seq, go_sem, WR_nil, evNews, Nat.reduceEqDiff, Nat.reduceAdd, Nat.reduceMul, Nat.reduceLeDiff, Nat.reduceLT, Int.cast_ofNat_Int, Int.reduceBNe, Int.reduceToNat, Int.reduceLT, Int.reduceLE, Int.reduceAdd, Int.reduceNeg, Int.reduceEq, reduceCtorEq, enc, cut_und _ _ hu, g5, Bool.true_and]
    · have g4 : ((frm.length : Int) == (tto.length : Int)) = false := by rw [beq_eq_false_iff_ne]; omega
      have g5 : (frm.length == tto.length) = false := by rw [beq_eq_false_iff_ne]; exact h4
      simp -implicitDefEqProofs -dsimp only [↓reduceIte, ↓W_seq, go_sem, WR_nil, evNews, Nat.reduceEqDiff, Nat.reduceAdd, Nat.reduceMul, Nat.reduceLeDiff, Nat.reduceLT, Int.cast_ofNat_Int, Int.reduceBNe, Int.reduceToNat, Int.reduceLT, Int.reduceLE, Int.reduceAdd, Int.reduceNeg, Int.reduceEq, reduceCtorEq, enc, encM, encG, encA, List.cons_append, List.nil_append, g4, g5, cut_und _ _ hu, Bool.true_and]
  have f6 : (n == 6) = false := by rw [beq_eq_false_iff_ne]; exact e6
  simp -implicitDefEqProofs -dsimp only [↓reduceIte, ↓W_seq, go_sem, WR_nil, evNews, Nat.reduceEqDiff, Nat.reduceAdd, Nat.reduceMul, Nat.reduceLeDiff, Nat.reduceLT, Int.cast_ofNat_Int, Int.reduceBNe, Int.reduceToNat, Int.reduceLT, Int.reduceLE, Int.reduceAdd, Int.reduceNeg, Int.reduceEq, reduceCtorEq, enc, encM, encG, encA, List.cons_append, List.nil_append, f1, f2, f4, f5, f6, e1, e2, e4, e5, e6, cut_und _ _ hu, Bool.true_and]
theorem w688 (c : Cm) (hx : sz c.x ≤ 1000000) (hy : sz c.y ≤ 1000000) (hz : sz c.px ≤ 1000000) (hp : c.ps.length ≤ 1000000) (ht : c.frm.length ≤ 1000000) (lim d : Nat) (σ : Sto) (hlim : lim ≤ d) (hu : σ.Und d) : Ret lim d 16 [.agg (encM c)] σ (.bool (formR c)) σ := by
  have hun := und_succ hu
  have hm := fun σ h => w689 c.nm (d + 1) (d + 1) σ h
  have hf := fun σ h => w408 c.k c.v c.x hx c.k2 c.v2 c.y hy c.b (d + 1) (d + 1) σ (Nat.le_refl _) h
  have hc := fun σ h => w409 c.k c.v c.x c.k2 c.v2 c.y c.b (d + 1) (d + 1) σ h
  have hb := fun σ h => w690 c (d + 1) (d + 1) σ h
  have hE := fun σ h => w659 c (bareR c) hx hy hz hp (d + 1) (d + 1) σ (Nat.le_refl _) h
  have hl := fun σ h => w691 c.lab lim (d + 1) σ h
  have hfi := fun σ h => w693 c.fil lim (d + 1) σ h
  have hfd := fun σ h => w693 c.fil (d + 1) (d + 1) σ h
  have htw := fun σ h => w694 c.frm ht lim (d + 1) σ h
  have hi1 := fun σ h => w692 [98, 116] c.nm (by decide) lim (d + 1) σ h
  have hi2 := fun σ h => w692 [114, 119] c.nm (by decide) lim (d + 1) σ h
  have ha := fun σ h => w415 c.pk c.pv c.px hz (d + 1) (d + 1) σ (Nat.le_refl _) h
  have ho := fun σ h => w695 c.ps hp (d + 1) (d + 1) σ h
  have hg := fun σ h => w696 c.ps hp (d + 1) (d + 1) σ h
  have hG := fun σ h => w697 c.px hz (d + 1) (d + 1) σ h
  have hera := encM_era (bareR c)
  unfold formR tailR subB lackB
  generalize likeM c (bareR c) = qE at hE ⊢
  generalize bareR c = B at hb hE hera
  generalize encM B = MB at hb hE hera
  generalize mostN c.nm = M at hm ⊢
  generalize manyG c.k c.k2 = G at hc ⊢
  generalize formG c.k c.v c.x c.k2 c.v2 c.y = qf at hf ⊢
  generalize formA c.pk c.pv c.px = qa at ha ⊢
  generalize okF false c.ps = qo at ho ⊢
  generalize grt 0 c.ps = gg at hg ⊢
  generalize grN c.px = gn at hG ⊢
  generalize labB c.lab = ql at hl ⊢
  generalize filB c.fil = qi at hfi hfd ⊢
  generalize twB c.frm = qt at htw ⊢
  generalize inS [98, 116] c.nm = i1 at hi1 ⊢
  generalize inS [114, 119] c.nm = i2 at hi2 ⊢
  unfold Ret
  obtain ⟨nm, k, v, ⟨x0, x1, x2, x3, x4, x5, x6, x7, x8, x9⟩, m, u, ⟨y0, y1, y2, y3, y4, y5, y6, y7, y8, y9⟩, b, lab, txt, fil, pk, pv, ⟨z0, z1, z2, z3, z4, z5, z6, z7, z8, z9⟩, ps, nth, all, prt, frm, tto, pos⟩ := c
  try simp only at hm
  try simp only at hc
  try simp only at hf
  try simp only at ha
  try simp only at ho
  try simp only at hg
  try simp only at hG
  try simp only at hl
  try simp only at hfi
  try simp only at hfd
  try simp only at htw
  try simp only at hi1
  try simp only at hi2
  try simp only
  rw [WF_body (C := X) rfl Go.Proofs.Tryz.func16 rfl (by kernel_rfl)]; simp only [Go.Proofs.Tryz.results16]
  simp -implicitDefEqProofs -dsimp only [↓reduceIte, ↓W_seq, go_sem, WR_nil, evNews, Nat.reduceEqDiff, Nat.reduceAdd, Nat.reduceMul, Nat.reduceLeDiff, Nat.reduceLT, Int.cast_ofNat_Int, Int.reduceBNe, Int.reduceToNat, Int.reduceLT, Int.reduceLE, Int.reduceAdd, Int.reduceNeg, Int.reduceEq, reduceCtorEq, enc, encM, encG, encA, List.cons_append, List.nil_append]
  rw [D_dr (by kernel_rfl) rfl]
  cases h1 : nm == 125
  rotate_left
  · simp -implicitDefEqProofs -dsimp only [↓reduceIte, ↓W_seq, go_sem, WR_nil, evNews, Nat.reduceEqDiff, Nat.reduceAdd, Nat.reduceMul, Nat.reduceLeDiff, Nat.reduceLT, Int.cast_ofNat_Int, Int.reduceBNe, Int.reduceToNat, Int.reduceLT, Int.reduceLE, Int.reduceAdd, Int.reduceNeg, Int.reduceEq, reduceCtorEq, enc, encM, encG, encA, List.cons_append, List.nil_append, h1, cut_und _ _ hu, Bool.false_and]
  cases h2 : nm == 35
  rotate_left
  · simp -implicitDefEqProofs -dsimp only [↓reduceIte, ↓W_seq, go_sem, WR_nil, evNews, Nat.reduceEqDiff, Nat.reduceAdd, Nat.reduceMul, Nat.reduceLeDiff, Nat.reduceLT, Int.cast_ofNat_Int, Int.reduceBNe, Int.reduceToNat, Int.reduceLT, Int.reduceLE, Int.reduceAdd, Int.reduceNeg, Int.reduceEq, reduceCtorEq, enc, encM, encG, encA, List.cons_append, List.nil_append, h1, h2, cut_und _ _ hu, Bool.false_and, Bool.true_and]
  simp -implicitDefEqProofs -dsimp only [↓reduceIte, ↓W_seq, go_sem, WR_nil, evNews, Nat.reduceEqDiff, Nat.reduceAdd, Nat.reduceMul, Nat.reduceLeDiff, Nat.reduceLT, Int.cast_ofNat_Int, Int.reduceBNe, Int.reduceToNat, Int.reduceLT, Int.reduceLE, Int.reduceAdd, Int.reduceNeg, Int.reduceEq, reduceCtorEq, enc, encM, encG, encA, List.cons_append, List.nil_append, h1, h2]
  refine (hm _ (by simp only [u_tick, u_mine]; exact hun)).wh ?_
  by_cases h3 : M < 0
  · simp -implicitDefEqProofs -dsimp only [↓reduceIte, ↓W_seq, go_sem, WR_nil, evNews, Nat.reduceEqDiff, Nat.reduceAdd, Nat.reduceMul, Nat.reduceLeDiff, Nat.reduceLT, Int.cast_ofNat_Int, Int.reduceBNe, Int.reduceToNat, Int.reduceLT, Int.reduceLE, Int.reduceAdd, Int.reduceNeg, Int.reduceEq, reduceCtorEq, enc, h3, cut_und _ _ hu, Bool.false_and, Bool.true_and]
  simp -implicitDefEqProofs -dsimp only [↓reduceIte, ↓W_seq, go_sem, WR_nil, evNews, Nat.reduceEqDiff, Nat.reduceAdd, Nat.reduceMul, Nat.reduceLeDiff, Nat.reduceLT, Int.cast_ofNat_Int, Int.reduceBNe, Int.reduceToNat, Int.reduceLT, Int.reduceLE, Int.reduceAdd, Int.reduceNeg, Int.reduceEq, reduceCtorEq, enc, encM, encG, encA, List.cons_append, List.nil_append, h1, h2, h3]
  refine (hf _ (by simp only [u_tick, u_mine]; exact hun)).wh ?_
  cases qf
  · simp -implicitDefEqProofs -dsimp only [↓reduceIte, ↓W_seq, go_sem, WR_nil, evNews, Nat.reduceEqDiff, Nat.reduceAdd, Nat.reduceMul, Nat.reduceLeDiff, Nat.reduceLT, Int.cast_ofNat_Int, Int.reduceBNe, Int.reduceToNat, Int.reduceLT, Int.reduceLE, Int.reduceAdd, Int.reduceNeg, Int.reduceEq, reduceCtorEq, enc, cut_und _ _ hu, Bool.false_and, Bool.true_and]
  simp -implicitDefEqProofs -dsimp only [↓reduceIte, ↓W_seq, go_sem, WR_nil, evNews, Nat.reduceEqDiff, Nat.reduceAdd, Nat.reduceMul, Nat.reduceLeDiff, Nat.reduceLT, Int.cast_ofNat_Int, Int.reduceBNe, Int.reduceToNat, Int.reduceLT, Int.reduceLE, Int.reduceAdd, Int.reduceNeg, Int.reduceEq, reduceCtorEq, enc, encM, encG, encA, List.cons_append, List.nil_append, h1, h2, h3]
  refine (hc _ (by simp only [u_tick, u_mine]; exact hun)).wh ?_
  simp -implicitDefEqProofs -dsimp only [↓reduceIte, ↓W_seq, go_sem, WR_nil, evNews, Nat.reduceEqDiff, Nat.reduceAdd, Nat.reduceMul, Nat.reduceLeDiff, Nat.reduceLT, Int.cast_ofNat_Int, Int.reduceBNe, Int.reduceToNat, Int.reduceLT, Int.reduceLE, Int.reduceAdd, Int.reduceNeg, Int.reduceEq, reduceCtorEq, enc, encM, encG, encA, List.cons_append, List.nil_append, h1, h2, h3]
  refine (hm _ (by simp only [u_tick, u_mine]; exact hun)).wh ?_
  by_cases h4 : M < G
  · simp -implicitDefEqProofs -dsimp only [↓reduceIte, ↓W_seq, go_sem, WR_nil, evNews, Nat.reduceEqDiff, Nat.reduceAdd, Nat.reduceMul, Nat.reduceLeDiff, Nat.reduceLT, Int.cast_ofNat_Int, Int.reduceBNe, Int.reduceToNat, Int.reduceLT, Int.reduceLE, Int.reduceAdd, Int.reduceNeg, Int.reduceEq, reduceCtorEq, enc, h4, cut_und _ _ hu, Bool.false_and, Bool.true_and]
  simp -implicitDefEqProofs -dsimp only [↓reduceIte, ↓W_seq, go_sem, WR_nil, evNews, Nat.reduceEqDiff, Nat.reduceAdd, Nat.reduceMul, Nat.reduceLeDiff, Nat.reduceLT, Int.cast_ofNat_Int, Int.reduceBNe, Int.reduceToNat, Int.reduceLT, Int.reduceLE, Int.reduceAdd, Int.reduceNeg, Int.reduceEq, reduceCtorEq, enc, encM, encG, encA, List.cons_append, List.nil_append, h1, h2, h3, h4]
  refine (hm _ (by simp only [u_tick, u_mine]; exact hun)).wh ?_
  cases h5 : (M == 0 && b)
  rotate_left
  · obtain ⟨h6, h7⟩ := (Bool.and_eq_true _ _).mp h5
    subst h7
    simp -implicitDefEqProofs -dsimp only [↓reduceIte, ↓W_seq, go_sem, WR_nil, evNews, Nat.reduceEqDiff, Nat.reduceAdd, Nat.reduceMul, Nat.reduceLeDiff, Nat.reduceLT, Int.cast_ofNat_Int, Int.reduceBNe, Int.reduceToNat, Int.reduceLT, Int.reduceLE, Int.reduceAdd, Int.reduceNeg, Int.reduceEq, reduceCtorEq, enc, encM, encG, encA, List.cons_append, List.nil_append, h6, cut_und _ _ hu, Bool.false_and, Bool.true_and]
  simp -implicitDefEqProofs -dsimp only [↓reduceIte, ↓W_seq, go_sem, WR_nil, evNews, Nat.reduceEqDiff, Nat.reduceAdd, Nat.reduceMul, Nat.reduceLeDiff, Nat.reduceLT, Int.cast_ofNat_Int, Int.reduceBNe, Int.reduceToNat, Int.reduceLT, Int.reduceLE, Int.reduceAdd, Int.reduceNeg, Int.reduceEq, reduceCtorEq, enc, encM, encG, encA, List.cons_append, List.nil_append, h1, h2, h3, h4, h5]
  refine (hb _ (by simp only [u_tick, u_mine]; exact hun)).wh ?_
  simp -implicitDefEqProofs -dsimp only [↓reduceIte, ↓W_seq, go_sem, WR_nil, evNews, Nat.reduceEqDiff, Nat.reduceAdd, Nat.reduceMul, Nat.reduceLeDiff, Nat.reduceLT, Int.cast_ofNat_Int, Int.reduceBNe, Int.reduceToNat, Int.reduceLT, Int.reduceLE, Int.reduceAdd, Int.reduceNeg, Int.reduceEq, reduceCtorEq, enc, encM, encG, encA, List.cons_append, List.nil_append, h1, h2, h3, h4, h5, hera]
  refine (hE _ (by simp only [u_tick, u_mine]; exact hun)).wh ?_
  cases qE
  · simp -implicitDefEqProofs -dsimp only [↓reduceIte, ↓W_seq, go_sem, WR_nil, evNews, Nat.reduceEqDiff, Nat.reduceAdd, Nat.reduceMul, Nat.reduceLeDiff, Nat.reduceLT, Int.cast_ofNat_Int, Int.reduceBNe, Int.reduceToNat, Int.reduceLT, Int.reduceLE, Int.reduceAdd, Int.reduceNeg, Int.reduceEq, reduceCtorEq, enc, cut_und _ _ hu, h1, h2, h3, h4, h5, Bool.false_and, Bool.and_false, Bool.true_and]
  cases k1 : nm == 58
  rotate_left
  · simp -implicitDefEqProofs -dsimp only [↓reduceIte, ↓W_seq, go_sem, WR_nil, evNews, Nat.reduceEqDiff, Nat.reduceAdd, Nat.reduceMul, Nat.reduceLeDiff, Nat.reduceLT, Int.cast_ofNat_Int, Int.reduceBNe, Int.reduceToNat, Int.reduceLT, Int.reduceLE, Int.reduceAdd, Int.reduceNeg, Int.reduceEq, reduceCtorEq, enc, encM, encG, encA, List.cons_append, List.nil_append, k1, h1, h2, h3, h4, h5, Bool.true_and]
    refine (hl _ (by simp only [u_tick, u_mine]; exact hun)).wh ?_
    simp -implicitDefEqProofs -dsimp only [↓reduceIte, ↓W_seq, go_sem, WR_nil, evNews, Nat.reduceEqDiff, Nat.reduceAdd, Nat.reduceMul, Nat.reduceLeDiff, Nat.reduceLT, Int.cast_ofNat_Int, Int.reduceBNe, Int.reduceToNat, Int.reduceLT, Int.reduceLE, Int.reduceAdd, Int.reduceNeg, Int.reduceEq, reduceCtorEq, enc, cut_und _ _ hu, k1, h1, h2, h3, h4, h5, Bool.true_and]
  simp -implicitDefEqProofs -dsimp only [↓reduceIte, ↓W_seq, go_sem, WR_nil, evNews, Nat.reduceEqDiff, Nat.reduceAdd, Nat.reduceMul, Nat.reduceLeDiff, Nat.reduceLT, Int.cast_ofNat_Int, Int.reduceBNe, Int.reduceToNat, Int.reduceLT, Int.reduceLE, Int.reduceAdd, Int.reduceNeg, Int.reduceEq, reduceCtorEq, enc, encM, encG, encA, List.cons_append, List.nil_append, k1]
  refine (hi1 _ (by simp only [u_tick, u_mine]; exact hun)).wh ?_
  cases i1
  rotate_left
  · cases k2 : lab == []
    · simp -implicitDefEqProofs -dsimp only [↓reduceIte, ↓W_seq, go_sem, WR_nil, evNews, Nat.reduceEqDiff, Nat.reduceAdd, Nat.reduceMul, Nat.reduceLeDiff, Nat.reduceLT, Int.cast_ofNat_Int, Int.reduceBNe, Int.reduceToNat, Int.reduceLT, Int.reduceLE, Int.reduceAdd, Int.reduceNeg, Int.reduceEq, reduceCtorEq, enc, encM, encG, encA, List.cons_append, List.nil_append, k2]
      refine (hl _ (by simp only [u_tick, u_mine]; exact hun)).wh ?_
      simp -implicitDefEqProofs -dsimp only [↓reduceIte, ↓W_seq, go_sem, WR_nil, evNews, Nat.reduceEqDiff, Nat.reduceAdd, Nat.reduceMul, Nat.reduceLeDiff, Nat.reduceLT, Int.cast_ofNat_Int, Int.reduceBNe, Int.reduceToNat, Int.reduceLT, Int.reduceLE, Int.reduceAdd, Int.reduceNeg, Int.reduceEq, reduceCtorEq, enc, cut_und _ _ hu, k1, k2, h1, h2, h3, h4, h5, Bool.true_and]
    · simp -implicitDefEqProofs -dsimp only [↓reduceIte, ↓W_seq, go_sem, WR_nil, evNews, Nat.reduceEqDiff, Nat.reduceAdd, Nat.reduceMul, Nat.reduceLeDiff, Nat.reduceLT, Int.cast_ofNat_Int, Int.reduceBNe, Int.reduceToNat, Int.reduceLT, Int.reduceLE, Int.reduceAdd, Int.reduceNeg, Int.reduceEq, reduceCtorEq, enc, encM, encG, encA, List.cons_append, List.nil_append, k1, k2, h1, h2, h3, h4, h5, cut_und _ _ hu, Bool.true_and]
  simp -implicitDefEqProofs -dsimp only [↓reduceIte, ↓W_seq, go_sem, WR_nil, evNews, Nat.reduceEqDiff, Nat.reduceAdd, Nat.reduceMul, Nat.reduceLeDiff, Nat.reduceLT, Int.cast_ofNat_Int, Int.reduceBNe, Int.reduceToNat, Int.reduceLT, Int.reduceLE, Int.reduceAdd, Int.reduceNeg, Int.reduceEq, reduceCtorEq, enc, encM, encG, encA, List.cons_append, List.nil_append, k1]
  refine (hi2 _ (by simp only [u_tick, u_mine]; exact hun)).wh ?_
  cases i2
  rotate_left
  · simp -implicitDefEqProofs -dsimp only [↓reduceIte, ↓W_seq, go_sem, WR_nil, evNews, Nat.reduceEqDiff, Nat.reduceAdd, Nat.reduceMul, Nat.reduceLeDiff, Nat.reduceLT, Int.cast_ofNat_Int, Int.reduceBNe, Int.reduceToNat, Int.reduceLT, Int.reduceLE, Int.reduceAdd, Int.reduceNeg, Int.reduceEq, reduceCtorEq, enc, encM, encG, encA, List.cons_append, List.nil_append]
    refine (hfi _ (by simp only [u_tick, u_mine]; exact hun)).wh ?_
    simp -implicitDefEqProofs -dsimp only [↓reduceIte, ↓W_seq, go_sem, WR_nil, evNews, Nat.reduceEqDiff, Nat.reduceAdd, Nat.reduceMul, Nat.reduceLeDiff, Nat.reduceLT, Int.cast_ofNat_Int, Int.reduceBNe, Int.reduceToNat, Int.reduceLT, Int.reduceLE, Int.reduceAdd, Int.reduceNeg, Int.reduceEq, reduceCtorEq, enc, cut_und _ _ hu, k1, h1, h2, h3, h4, h5, Bool.true_and]
  cases k4 : nm == 121
  rotate_left
  · by_cases g3 : frm.length = tto.length
    · have g4 : ((frm.length : Int) == (tto.length : Int)) = true := by rw [beq_iff_eq]; omega
      have g5 : (frm.length == tto.length) = true := by rw [beq_iff_eq]; exact g3
      simp -implicitDefEqProofs -dsimp only [↓reduceIte, ↓W_seq, go_sem, WR_nil, evNews, Nat.reduceEqDiff, Nat.reduceAdd, Nat.reduceMul, Nat.reduceLeDiff, Nat.reduceLT, Int.cast_ofNat_Int, Int.reduceBNe, Int.reduceToNat, Int.reduceLT, Int.reduceLE, Int.reduceAdd, Int.reduceNeg, Int.reduceEq, reduceCtorEq, enc, encM, encG, encA, List.cons_append, List.nil_append, k4, g4]
      refine (htw _ (by simp only [u_tick, u_mine]; exact hun)).wh ?_
      cases qt
      · simp -implicitDefEqProofs -dsimp only [↓reduceIte, ↓W_seq, go_sem, WR_nil, evNews, Nat.reduceEqDiff, Nat.reduceAdd, Nat.reduceMul, Nat.reduceLeDiff, Nat.reduceLT, Int.cast_ofNat_Int, Int.reduceBNe, Int.reduceToNat, Int.reduceLT, Int.reduceLE, Int.reduceAdd, Int.reduceNeg, Int.reduceEq, reduceCtorEq, enc, cut_und _ _ hu, g5, k1, k4, h1, h2, h3, h4, h5, Bool.true_and]
      · simp -implicitDefEqProofs -dsimp only [↓reduceIte, ↓W_seq, go_sem, WR_nil, evNews, Nat.reduceEqDiff, Nat.reduceAdd, Nat.reduceMul, Nat.reduceLeDiff, Nat.reduceLT, Int.cast_ofNat_Int, Int.reduceBNe, Int.reduceToNat, Int.reduceLT, Int.reduceLE, Int.reduceAdd, Int.reduceNeg, Int.reduceEq, reduceCtorEq, enc, cut_und _ _ hu, g5, k1, k4, h1, h2, h3, h4, h5, Bool.true_and]
    · have g4 : ((frm.length : Int) == (tto.length : Int)) = false := by rw [beq_eq_false_iff_ne]; omega
      have g5 : (frm.length == tto.length) = false := by rw [beq_eq_false_iff_ne]; exact g3
      simp -implicitDefEqProofs -dsimp only [↓reduceIte, ↓W_seq, go_sem, WR_nil, evNews, Nat.reduceEqDiff, Nat.reduceAdd, Nat.reduceMul, Nat.reduceLeDiff, Nat.reduceLT, Int.cast_ofNat_Int, Int.reduceBNe, Int.reduceToNat, Int.reduceLT, Int.reduceLE, Int.reduceAdd, Int.reduceNeg, Int.reduceEq, reduceCtorEq, enc, encM, encG, encA, List.cons_append, List.nil_append, k1, k4, g4, g5, h1, h2, h3, h4, h5, cut_und _ _ hu, Bool.true_and]
  cases k5 : nm == 115
  · simp -implicitDefEqProofs -dsimp only [↓reduceIte, ↓W_seq, go_sem, WR_nil, evNews, Nat.reduceEqDiff, Nat.reduceAdd, Nat.reduceMul, Nat.reduceLeDiff, Nat.reduceLT, Int.cast_ofNat_Int, Int.reduceBNe, Int.reduceToNat, Int.reduceLT, Int.reduceLE, Int.reduceAdd, Int.reduceNeg, Int.reduceEq, reduceCtorEq, enc, encM, encG, encA, List.cons_append, List.nil_append, k1, k4, k5, h1, h2, h3, h4, h5, cut_und _ _ hu, Bool.true_and]
  simp only [k1, k4, h1, h2, h5, h3, h4, decide_false, Bool.false_eq_true, if_false, if_true, Bool.true_and, Bool.not_false, Bool.not_true, Bool.and_false, Bool.false_and, Bool.and_true]
  simp -implicitDefEqProofs -dsimp only [↓reduceIte, ↓W_seq, go_sem, WR_nil, evNews, Nat.reduceEqDiff, Nat.reduceAdd, Nat.reduceMul, Nat.reduceLeDiff, Nat.reduceLT, Int.cast_ofNat_Int, Int.reduceBNe, Int.reduceToNat, Int.reduceLT, Int.reduceLE, Int.reduceAdd, Int.reduceNeg, Int.reduceEq, reduceCtorEq, enc, encM, encG, encA, List.cons_append, List.nil_append, k4, k5]
  rw [D_dr (by kernel_rfl) rfl]
  cases c0 : (pk == 3 || pk == 4)
  · obtain ⟨c1, c2⟩ := (Bool.or_eq_false_iff).1 c0
    simp -implicitDefEqProofs -dsimp only [↓reduceIte, ↓W_seq, go_sem, WR_nil, evNews, Nat.reduceEqDiff, Nat.reduceAdd, Nat.reduceMul, Nat.reduceLeDiff, Nat.reduceLT, Int.cast_ofNat_Int, Int.reduceBNe, Int.reduceToNat, Int.reduceLT, Int.reduceLE, Int.reduceAdd, Int.reduceNeg, Int.reduceEq, reduceCtorEq, enc, encM, encG, encA, List.cons_append, List.nil_append, c1, c2, cut_und _ _ hu, Bool.false_and, Bool.and_false, Bool.true_and]
  have c0f : (if (pk == 3) = true then true else pk == 4) = true := or_ifU c0
  simp -implicitDefEqProofs -dsimp only [↓reduceIte, ↓W_seq, go_sem, WR_nil, evNews, Nat.reduceEqDiff, Nat.reduceAdd, Nat.reduceMul, Nat.reduceLeDiff, Nat.reduceLT, Int.cast_ofNat_Int, Int.reduceBNe, Int.reduceToNat, Int.reduceLT, Int.reduceLE, Int.reduceAdd, Int.reduceNeg, Int.reduceEq, reduceCtorEq, enc, encM, encG, encA, List.cons_append, List.nil_append, c0f]
  refine (ha _ (by simp only [u_tick, u_mine]; exact hun)).wh ?_
  cases qa
  · simp -implicitDefEqProofs -dsimp only [↓reduceIte, ↓W_seq, go_sem, WR_nil, evNews, Nat.reduceEqDiff, Nat.reduceAdd, Nat.reduceMul, Nat.reduceLeDiff, Nat.reduceLT, Int.cast_ofNat_Int, Int.reduceBNe, Int.reduceToNat, Int.reduceLT, Int.reduceLE, Int.reduceAdd, Int.reduceNeg, Int.reduceEq, reduceCtorEq, enc, cut_und _ _ hu, Bool.false_and, Bool.and_false, Bool.true_and]
  simp -implicitDefEqProofs -dsimp only [↓reduceIte, ↓W_seq, go_sem, WR_nil, evNews, Nat.reduceEqDiff, Nat.reduceAdd, Nat.reduceMul, Nat.reduceLeDiff, Nat.reduceLT, Int.cast_ofNat_Int, Int.reduceBNe, Int.reduceToNat, Int.reduceLT, Int.reduceLE, Int.reduceAdd, Int.reduceNeg, Int.reduceEq, reduceCtorEq, enc, encM, encG, encA, List.cons_append, List.nil_append]
  refine (ho _ (by simp only [u_tick, u_mine]; exact hun)).wh ?_
  cases qo
  · simp -implicitDefEqProofs -dsimp only [↓reduceIte, ↓W_seq, go_sem, WR_nil, evNews, Nat.reduceEqDiff, Nat.reduceAdd, Nat.reduceMul, Nat.reduceLeDiff, Nat.reduceLT, Int.cast_ofNat_Int, Int.reduceBNe, Int.reduceToNat, Int.reduceLT, Int.reduceLE, Int.reduceAdd, Int.reduceNeg, Int.reduceEq, reduceCtorEq, enc, cut_und _ _ hu, Bool.false_and, Bool.and_false, Bool.true_and]
  by_cases d3 : 0 ≤ nth
  rotate_left
  · simp -implicitDefEqProofs -dsimp only [↓reduceIte, ↓W_seq, go_sem, WR_nil, evNews, Nat.reduceEqDiff, Nat.reduceAdd, Nat.reduceMul, Nat.reduceLeDiff, Nat.reduceLT, Int.cast_ofNat_Int, Int.reduceBNe, Int.reduceToNat, Int.reduceLT, Int.reduceLE, Int.reduceAdd, Int.reduceNeg, Int.reduceEq, reduceCtorEq, enc, encM, encG, encA, List.cons_append, List.nil_append, d3, cut_und _ _ hu, Bool.false_and, Bool.and_false, Bool.true_and]
  by_cases d4 : nth ≤ 1000000000
  rotate_left
  · simp -implicitDefEqProofs -dsimp only [↓reduceIte, ↓W_seq, go_sem, WR_nil, evNews, Nat.reduceEqDiff, Nat.reduceAdd, Nat.reduceMul, Nat.reduceLeDiff, Nat.reduceLT, Int.cast_ofNat_Int, Int.reduceBNe, Int.reduceToNat, Int.reduceLT, Int.reduceLE, Int.reduceAdd, Int.reduceNeg, Int.reduceEq, reduceCtorEq, enc, encM, encG, encA, List.cons_append, List.nil_append, d3, d4, cut_und _ _ hu, Bool.false_and, Bool.and_false, Bool.true_and]
  cases d5 : fil == []
  · simp -implicitDefEqProofs -dsimp only [↓reduceIte, ↓W_seq, go_sem, WR_nil, evNews, Nat.reduceEqDiff, Nat.reduceAdd, Nat.reduceMul, Nat.reduceLeDiff, Nat.reduceLT, Int.cast_ofNat_Int, Int.reduceBNe, Int.reduceToNat, Int.reduceLT, Int.reduceLE, Int.reduceAdd, Int.reduceNeg, Int.reduceEq, reduceCtorEq, enc, encM, encG, encA, List.cons_append, List.nil_append, d3, d4, d5]
    refine (hfd _ (by simp only [u_tick, u_mine]; exact hun)).wh ?_
    cases qi
    · simp -implicitDefEqProofs -dsimp only [↓reduceIte, ↓W_seq, go_sem, WR_nil, evNews, Nat.reduceEqDiff, Nat.reduceAdd, Nat.reduceMul, Nat.reduceLeDiff, Nat.reduceLT, Int.cast_ofNat_Int, Int.reduceBNe, Int.reduceToNat, Int.reduceLT, Int.reduceLE, Int.reduceAdd, Int.reduceNeg, Int.reduceEq, reduceCtorEq, enc, cut_und _ _ hu, d3, d4, Bool.false_and, Bool.and_false, Bool.true_and]
    cases c1 : pk == 3
    · have cne : (pk != 3) = true := by rw [bne, c1]; rfl
      simp -implicitDefEqProofs -dsimp only [↓reduceIte, ↓W_seq, go_sem, WR_nil, evNews, Nat.reduceEqDiff, Nat.reduceAdd, Nat.reduceMul, Nat.reduceLeDiff, Nat.reduceLT, Int.cast_ofNat_Int, Int.reduceBNe, Int.reduceToNat, Int.reduceLT, Int.reduceLE, Int.reduceAdd, Int.reduceNeg, Int.reduceEq, reduceCtorEq, enc, encM, encG, encA, List.cons_append, List.nil_append, d5, d3, d4, cne, c1, cut_und _ _ hu, Bool.false_and, Bool.and_false, Bool.true_and]
    · have cne : (pk != 3) = false := by rw [bne, c1]; rfl
      simp -implicitDefEqProofs -dsimp only [↓reduceIte, ↓W_seq, go_sem, WR_nil, evNews, Nat.reduceEqDiff, Nat.reduceAdd, Nat.reduceMul, Nat.reduceLeDiff, Nat.reduceLT, Int.cast_ofNat_Int, Int.reduceBNe, Int.reduceToNat, Int.reduceLT, Int.reduceLE, Int.reduceAdd, Int.reduceNeg, Int.reduceEq, reduceCtorEq, enc, encM, encG, encA, List.cons_append, List.nil_append, d5, d3, d4, cne]
      refine (hg _ (by simp only [u_tick, u_mine]; exact hun)).wh ?_
      simp -implicitDefEqProofs -dsimp only [↓reduceIte, ↓W_seq, go_sem, WR_nil, evNews, Nat.reduceEqDiff, Nat.reduceAdd, Nat.reduceMul, Nat.reduceLeDiff, Nat.reduceLT, Int.cast_ofNat_Int, Int.reduceBNe, Int.reduceToNat, Int.reduceLT, Int.reduceLE, Int.reduceAdd, Int.reduceNeg, Int.reduceEq, reduceCtorEq, enc, encM, encG, encA, List.cons_append, List.nil_append]
      refine (hG _ (by simp only [u_tick, u_mine]; exact hun)).wh ?_
      by_cases d6 : gg ≤ (gn : Int)
      · have d7 : ¬ ((gn : Int) < gg) := by omega
        simp -implicitDefEqProofs -dsimp only [↓reduceIte, ↓W_seq, go_sem, WR_nil, evNews, Nat.reduceEqDiff, Nat.reduceAdd, Nat.reduceMul, Nat.reduceLeDiff, Nat.reduceLT, Int.cast_ofNat_Int, Int.reduceBNe, Int.reduceToNat, Int.reduceLT, Int.reduceLE, Int.reduceAdd, Int.reduceNeg, Int.reduceEq, reduceCtorEq, enc, d6, d7, d3, d4, c1, d5, cut_und _ _ hu, Bool.false_and, Bool.and_false, Bool.true_and]
      · have d7 : (gn : Int) < gg := by omega
        simp -implicitDefEqProofs -dsimp only [↓reduceIte, ↓W_seq, go_sem, WR_nil, evNews, Nat.reduceEqDiff, Nat.reduceAdd, Nat.reduceMul, Nat.reduceLeDiff, Nat.reduceLT, Int.cast_ofNat_Int, Int.reduceBNe, Int.reduceToNat, Int.reduceLT, Int.reduceLE, Int.reduceAdd, Int.reduceNeg, Int.reduceEq, reduceCtorEq, enc, d6, d7, d3, d4, c1, d5, cut_und _ _ hu, Bool.false_and, Bool.and_false, Bool.true_and]
  · cases c1 : pk == 3
    · have cne : (pk != 3) = true := by rw [bne, c1]; rfl
      simp -implicitDefEqProofs -dsimp only [↓reduceIte, ↓W_seq, go_sem, WR_nil, evNews, Nat.reduceEqDiff, Nat.reduceAdd, Nat.reduceMul, Nat.reduceLeDiff, Nat.reduceLT, Int.cast_ofNat_Int, Int.reduceBNe, Int.reduceToNat, Int.reduceLT, Int.reduceLE, Int.reduceAdd, Int.reduceNeg, Int.reduceEq, reduceCtorEq, enc, encM, encG, encA, List.cons_append, List.nil_append, d5, d3, d4, cne, c1, cut_und _ _ hu, Bool.false_and, Bool.and_false, Bool.true_and]
    · have cne : (pk != 3) = false := by rw [bne, c1]; rfl
      simp -implicitDefEqProofs -dsimp only [↓reduceIte, ↓W_seq, go_sem, WR_nil, evNews, Nat.reduceEqDiff, Nat.reduceAdd, Nat.reduceMul, Nat.reduceLeDiff, Nat.reduceLT, Int.cast_ofNat_Int, Int.reduceBNe, Int.reduceToNat, Int.reduceLT, Int.reduceLE, Int.reduceAdd, Int.reduceNeg, Int.reduceEq, reduceCtorEq, enc, encM, encG, encA, List.cons_append, List.nil_append, d5, d3, d4, cne]
      refine (hg _ (by simp only [u_tick, u_mine]; exact hun)).wh ?_
      simp -implicitDefEqProofs -dsimp only [↓reduceIte, ↓W_seq, go_sem, WR_nil, evNews, Nat.reduceEqDiff, Nat.reduceAdd, Nat.reduceMul, Nat.reduceLeDiff, Nat.reduceLT, Int.cast_ofNat_Int, Int.reduceBNe, Int.reduceToNat, Int.reduceLT, Int.reduceLE, Int.reduceAdd, Int.reduceNeg, Int.reduceEq, reduceCtorEq, enc, encM, encG, encA, List.cons_append, List.nil_append]
      refine (hG _ (by simp only [u_tick, u_mine]; exact hun)).wh ?_
      by_cases d6 : gg ≤ (gn : Int)
      · have d7 : ¬ ((gn : Int) < gg) := by omega
        simp -implicitDefEqProofs -dsimp only [↓reduceIte, ↓W_seq, go_sem, WR_nil, evNews, Nat.reduceEqDiff, Nat.reduceAdd, Nat.reduceMul, Nat.reduceLeDiff, Nat.reduceLT, Int.cast_ofNat_Int, Int.reduceBNe, Int.reduceToNat, Int.reduceLT, Int.reduceLE, Int.reduceAdd, Int.reduceNeg, Int.reduceEq, reduceCtorEq, enc, d6, d7, d3, d4, c1, d5, cut_und _ _ hu, Bool.false_and, Bool.and_false, Bool.true_and]
      · have d7 : (gn : Int) < gg := by omega
        simp -implicitDefEqProofs -dsimp only [↓reduceIte, ↓W_seq, go_sem, WR_nil, evNews, Nat.reduceEqDiff, Nat.reduceAdd, Nat.reduceMul, Nat.reduceLeDiff, Nat.reduceLT, Int.cast_ofNat_Int, Int.reduceBNe, Int.reduceToNat, Int.reduceLT, Int.reduceLE, Int.reduceAdd, Int.reduceNeg, Int.reduceEq, reduceCtorEq, enc, d6, d7, d3, d4, c1, d5, cut_und _ _ hu, Bool.false_and, Bool.and_false, Bool.true_and]
end
end Go.Proofs.Tryz.E
