/- Walks: what the functions compute. -/
import Derived.Test.YthmgjkngkhdjjaaGreatDoorWE11
set_option linter.unusedVariables false
set_option linter.unusedSimpArgs false
/- Whether a node is formed: the other side's walk. -/
namespace Go.Proofs.Tryz.E
open Go.Mv
set_option maxHeartbeats 4000000
set_option maxRecDepth 20000
def encE (e : List Bool) : List MV := e.map MV.bool
theorem encE_len (e : List Bool) : (encE e).length = e.length := by simp [encE]
theorem encE_take (e : List Bool) (h : e.length = 10) : (encE e).take 10 = encE e := by rw [← h, ← encE_len]; simp
theorem encE_era (e : List Bool) : (encE e).map MV.era = encE e := by simp [encE, MV.era]
theorem encE_data (e : List Bool) : (encE e).all MV.data = true := by simp [encE, MV.data]
theorem encE_frz (σ : Sto) (d : Nat) (e : List Bool) : (encE e).mapM (MV.frz σ d) = some (encE e) := by
 induction e with
 | nil => rfl
 | cons b e ih =>
  rw [show encE (b :: e) = .bool b :: encE e from rfl, mapM_cons', ih]
  rfl
theorem encE_put (cs : List MV) (e : List Bool) (h : cs.length = e.length) : putC cs (encE e) 0 = encE e := putC_whole _ _ (by rw [encE_len, h])
theorem encE_set (e : List Bool) (b : Bool) (i : Nat) (h : i < e.length) : putC (encE e) [.bool b] i = encE (e.set i b) := by
 rw [putC_set _ _ _ (by rw [encE_len]; omega), encE, encE, List.map_set]
theorem encE_at (e : List Bool) (i : Nat) (h : i < e.length) : (encE e)[i]? = some (.bool (e.getD i false)) := by simp [encE, h]
attribute [go_sem] encE_len encE_era encE_data encE_frz
structure P37 (x : Nd) (d c0 : Nat) (σ : Sto) (g : Int) (e : List Bool) (a : Nat → MV) (s : Sto) : Prop where
 a1 : a 1 = .int .i64 g
 a3 : a 3 = .ptr ⟨d, 3, c0⟩ 0
 a5 : a 5 = .ptr ⟨d, 5, c0 + 1⟩ 0
 a7 : a 7 = .ptr ⟨d, 7, c0 + 1 + 1⟩ 0
 o3 : s.ob ⟨d, 3, c0⟩ = some (enc x)
 o5 : s.ob ⟨d, 5, c0 + 1⟩ = some (encE e)
 o7 : ∃ z, s.ob ⟨d, 7, c0 + 1 + 1⟩ = some z ∧ z.length = 10
 cut : s.cut d = σ
 und : s.Und (d + 1)
 ct : c0 + 3 ≤ s.ct d
 le : e.length = 10
def Ans (σ : Sto) (r : Ck) (v : MV) (s : Sto) : Prop := v = .tup [.int .i64 r.2.1, .agg (encE r.2.2), .bool r.1] ∧ s = σ
theorem chks_len (kd : Int) : ∀ (l : List Nd) (g : Int) (e : List Bool), (∀ y ∈ l, ∀ (g : Int) (e : List Bool), (chk y g e).2.2.length = e.length) → (chks kd l g e).2.2.length = e.length
 | [], g, e, _ => rfl
 | y :: l, g, e, ih => by
  simp only [chks]
  split
  ·rfl
  split
  ·rw [chks_len kd l _ _ fun z hz => ih z (List.mem_cons_of_mem _ hz)]
   exact ih y (List.mem_cons_self ..) g e
  ·exact ih y (List.mem_cons_self ..) g e
theorem chk_len : ∀ (x : Nd) (g : Int) (e : List Bool), (chk x g e).2.2.length = e.length := by
 refine Nd.ind fun kd c s0 s1 s2 s3 n mn mx l ih g e => ?_
 have hc := fun g e => chks_len kd l g e ih
 simp only [chk]
 split
 ·split
  ·simp only
   split <;> simp [hc]
  ·exact hc _ _
 ·rfl
theorem w37 : ∀ (x : Nd), sz x ≤ 1000000 → ∀ (lim d : Nat) (σ : Sto) (g : Int) (e : List Bool), lim ≤ d → σ.Und d → e.length = 10 → 0 ≤ g → g ≤ 9 →
  Ret lim d 32 [.agg (enc x), .int .i64 g, .agg (encE e)] σ (.tup [.int .i64 (chk x g e).2.1, .agg (encE (chk x g e).2.2), .bool (chk x g e).1]) σ := by
 refine Nd.ind fun kd c s0 s1 s2 s3 n mn mx l ih hsz lim d σ g e hlim hu he hg hg9 => ?_
 have hl := len_le l
 simp only [sz] at hsz
 have hun := und_succ hu
 unfold Ret
 rw [WF_body (C := X) rfl func32 rfl (by kernel_rfl)]; simp only [results32]
 refine seq_cut (P := P37 (.mk kd c s0 s1 s2 s3 n mn mx l) d (σ.ct d) σ g e) ?_ ?_
 rotate_left
 ·simp -implicitDefEqProofs -dsimp only [go_sem, enc]
  refine ⟨rfl, rfl, rfl, rfl, ?_, ?_, ?_, ?_, ?_, ?_, he⟩
  ·simp -implicitDefEqProofs -dsimp only [go_sem, enc]
  ·simp -implicitDefEqProofs -dsimp only [go_sem]
  ·exact ⟨List.replicate 10 (.bool false), by simp only [go_sem, Nat.reduceEqDiff, and_false, false_and, if_false, if_true, List.replicate_succ, List.replicate_zero], rfl⟩
  ·simp -implicitDefEqProofs -dsimp only [go_sem, cut_und _ _ hu]
  ·simp only [go_sem, u_tick, u_mine]; exact hun
  ·simp only [go_sem]; first | done | omega
 intro a s p
 refine seq_cut (P := fun a s => plainB (.mk kd c s0 s1 s2 s3 n mn mx l) = true ∧ P37 (.mk kd c s0 s1 s2 s3 n mn mx l) d (σ.ct d) σ g e a s) ?_ ?_
 rotate_left
 ·obtain ⟨z, hz, hzl⟩ := p.o7
  simp -implicitDefEqProofs -dsimp only [go_sem, enc, p.a3, p.o3]
  refine (w48 kd c s0 s1 s2 s3 n mn mx l lim (d + 1) _ p.und).wh ?_
  cases hpl : plainB (.mk kd c s0 s1 s2 s3 n mn mx l)
  ·simp -implicitDefEqProofs -dsimp only [go_sem]
   rw [D_lx [.tmp 5] (by kernel_rfl) (by kernel_rfl)]; simp -implicitDefEqProofs -dsimp only [go_sem, List.takeWhile_cons, List.dropWhile_cons, isTail, evNews, List.mem_cons, List.not_mem_nil, or_false, false_or, not_false_eq_true, not_true_eq_false, decide_true, Bool.not_true, Bool.not_false, forall_eq, ne_eq, p.a1, p.a5, p.a7, p.o5, hz, hzl, he, encE_take e p.le, encE_put]
   have hw : ownB (.mk kd c s0 s1 s2 s3 n mn mx l) g e = false := by simp only [ownB, hpl, Bool.false_and]
   refine ⟨by have := p.ct; omega, ?_, p.cut⟩
   simp only [chk, hw, ownG, hpl, Bool.false_eq_true, false_and, if_false]
  ·simp -implicitDefEqProofs -dsimp only [go_sem]
   refine ⟨p.a1, p.a3, p.a5, p.a7, p.o3, p.o5, p.o7, p.cut, p.und, p.ct, p.le⟩
 rintro a s ⟨hpl, p⟩
 refine seq_cut (P := fun a s => ownB (.mk kd c s0 s1 s2 s3 n mn mx l) g e = true ∧ P37 (.mk kd c s0 s1 s2 s3 n mn mx l) d (σ.ct d) σ (ownG (.mk kd c s0 s1 s2 s3 n mn mx l) g) e a s) ?_ ?_
 rotate_left
 ·obtain ⟨z, hz, hzl⟩ := p.o7
  have hct := p.ct
  have hpe := p.le
  have hco := p.cut
  by_cases h6 : kd = 6
  ·subst h6
   simp -implicitDefEqProofs -dsimp only [go_sem, enc, p.a1, p.a3, p.o3]
   cases hw : ownB (.mk 6 c s0 s1 s2 s3 n mn mx l) g e
   ·refine (if_pos ?_).mpr ?_
    ·revert hw
     simp only [ownB, boundsB, hpl, Bool.true_and, Int.reduceEq, if_true, if_false, Bool.and_eq_false_iff, decide_eq_true_eq, decide_eq_false_iff_not, beq_eq_false_iff_ne, bne_iff_ne, ne_eq, wr64 (g + 1) (by omega) (by omega), Bool.ite_eq_true_distrib, if_true_left]
     omega
    rw [D_lx [.tmp 5] (by kernel_rfl) (by kernel_rfl)]; simp -implicitDefEqProofs -dsimp only [go_sem, List.takeWhile_cons, List.dropWhile_cons, isTail, evNews, List.mem_cons, List.not_mem_nil, or_false, false_or, not_false_eq_true, not_true_eq_false, decide_true, Bool.not_true, Bool.not_false, forall_eq, ne_eq, p.a5, p.a7, p.o5, hz, hzl, he, encE_take e p.le, encE_put, wr64 (g + 1) (by omega) (by omega)]
    refine ⟨by omega, ?_, hco⟩
    simp only [chk, hw, Bool.false_eq_true, if_false, ownG, hpl, Nd.kind, and_self, if_true]
   ·refine (if_neg ?_).mpr ?_
    ·revert hw
     simp only [ownB, boundsB, hpl, Bool.true_and, Int.reduceEq, if_true, if_false, Bool.and_eq_true, decide_eq_true_eq, beq_iff_eq, bne_iff_ne, ne_eq, wr64 (g + 1) (by omega) (by omega), Bool.ite_eq_true_distrib, if_true_left]
     omega
    simp -implicitDefEqProofs -dsimp only [go_sem]
    first | refine ⟨?_, p.a3, p.a5, p.a7, p.o3, p.o5, p.o7, hco, p.und, hct, hpe⟩ | refine ⟨hw, ?_, p.a3, p.a5, p.a7, p.o3, p.o5, p.o7, hco, p.und, hct, hpe⟩
    simp only [ownG, hpl, Nd.kind, and_self, if_true, if_false, wr64 (g + 1) (by omega) (by omega), go_sem, Nat.reduceEqDiff, p.a1]
  by_cases h7 : kd = 7
  ·subst h7
   by_cases n1 : n < 1
   ·have hw : ownB (.mk 7 c s0 s1 s2 s3 n mn mx l) g e = false := by simp [ownB, show ¬ 0 < n by omega]
    simp -implicitDefEqProofs -dsimp only [go_sem, enc, p.a3, p.a5, p.o3, n1]
    rw [D_lx [.tmp 5] (by kernel_rfl) (by kernel_rfl)]; simp -implicitDefEqProofs -dsimp only [go_sem, List.takeWhile_cons, List.dropWhile_cons, isTail, evNews, List.mem_cons, List.not_mem_nil, or_false, false_or, not_false_eq_true, not_true_eq_false, decide_true, Bool.not_true, Bool.not_false, forall_eq, ne_eq, p.a1, p.a5, p.a7, p.o5, hz, hzl, he, encE_take e p.le, encE_put]
    refine ⟨by omega, ?_, hco⟩
    simp only [chk, hw, Bool.false_eq_true, if_false, ownG, hpl, Nd.kind, Int.reduceEq, and_false]
   by_cases n2 : 9 < n
   ·have hw : ownB (.mk 7 c s0 s1 s2 s3 n mn mx l) g e = false := by simp [ownB, show ¬ n ≤ 9 by omega]
    simp -implicitDefEqProofs -dsimp only [go_sem, enc, p.a3, p.a5, p.o3, n1, n2]
    rw [D_lx [.tmp 5] (by kernel_rfl) (by kernel_rfl)]; simp -implicitDefEqProofs -dsimp only [go_sem, List.takeWhile_cons, List.dropWhile_cons, isTail, evNews, List.mem_cons, List.not_mem_nil, or_false, false_or, not_false_eq_true, not_true_eq_false, decide_true, Bool.not_true, Bool.not_false, forall_eq, ne_eq, p.a1, p.a5, p.a7, p.o5, hz, hzl, he, encE_take e p.le, encE_put]
    refine ⟨by omega, ?_, hco⟩
    simp only [chk, hw, Bool.false_eq_true, if_false, ownG, hpl, Nd.kind, Int.reduceEq, and_false]
   have n3 : 0 ≤ n := by omega
   have n4 : n < 10 := by omega
   have n5 := encE_at e n.toNat (by omega)
   simp -implicitDefEqProofs -dsimp only [go_sem, enc, p.a3, p.a5, p.o3, p.o5, n1, n2, n3, n4, Nat.mul_one, n5]
   have hq : ownB (.mk 7 c s0 s1 s2 s3 n mn mx l) g e = e.getD n.toNat false := by simp [ownB, hpl, show 0 < n by omega, show n ≤ 9 by omega]
   cases hw : e.getD n.toNat false
   ·rw [hw] at hq
    simp -implicitDefEqProofs -dsimp only [go_sem]
    rw [D_lx [.tmp 5] (by kernel_rfl) (by kernel_rfl)]; simp -implicitDefEqProofs -dsimp only [go_sem, List.takeWhile_cons, List.dropWhile_cons, isTail, evNews, List.mem_cons, List.not_mem_nil, or_false, false_or, not_false_eq_true, not_true_eq_false, decide_true, Bool.not_true, Bool.not_false, forall_eq, ne_eq, p.a1, p.a5, p.a7, p.o5, hz, hzl, he, encE_take e p.le, encE_put]
    refine ⟨by omega, ?_, hco⟩
    simp only [chk, hq, Bool.false_eq_true, if_false, ownG, hpl, Nd.kind, Int.reduceEq, and_false]
   ·rw [hw] at hq
    simp -implicitDefEqProofs -dsimp only [go_sem]
    first | refine ⟨?_, p.a3, p.a5, p.a7, p.o3, p.o5, p.o7, hco, p.und, hct, hpe⟩ | refine ⟨hq, ?_, p.a3, p.a5, p.a7, p.o3, p.o5, p.o7, hco, p.und, hct, hpe⟩
    simp only [ownG, hpl, Nd.kind, Int.reduceEq, and_false, if_false, go_sem, Nat.reduceEqDiff, p.a1]
  by_cases h8 : kd = 8
  ·subst h8
   simp -implicitDefEqProofs -dsimp only [go_sem, enc, p.a3, p.o3, encs_len]
   cases hw : ownB (.mk 8 c s0 s1 s2 s3 n mn mx l) g e
   ·refine (if_pos ?_).mpr ?_
    ·revert hw
     simp only [ownB, boundsB, hpl, Bool.true_and, Int.reduceEq, if_true, if_false, beq_iff_eq, bne_eq_false_iff_eq]
     omega
    rw [D_lx [.tmp 5] (by kernel_rfl) (by kernel_rfl)]; simp -implicitDefEqProofs -dsimp only [go_sem, List.takeWhile_cons, List.dropWhile_cons, isTail, evNews, List.mem_cons, List.not_mem_nil, or_false, false_or, not_false_eq_true, not_true_eq_false, decide_true, Bool.not_true, Bool.not_false, forall_eq, ne_eq, p.a1, p.a5, p.a7, p.o5, hz, hzl, he, encE_take e p.le, encE_put]
    refine ⟨by omega, ?_, hco⟩
    simp only [chk, hw, Bool.false_eq_true, if_false, ownG, hpl, Nd.kind, Int.reduceEq, and_false]
   ·refine (if_neg ?_).mpr ?_
    ·revert hw
     simp only [ownB, boundsB, hpl, Bool.true_and, Int.reduceEq, if_true, if_false, beq_iff_eq, bne_iff_ne, ne_eq]
     omega
    simp -implicitDefEqProofs -dsimp only [go_sem]
    first | refine ⟨?_, p.a3, p.a5, p.a7, p.o3, p.o5, p.o7, hco, p.und, hct, hpe⟩ | refine ⟨hw, ?_, p.a3, p.a5, p.a7, p.o3, p.o5, p.o7, hco, p.und, hct, hpe⟩
    simp only [ownG, hpl, Nd.kind, Int.reduceEq, and_false, if_false, go_sem, Nat.reduceEqDiff, p.a1]
  by_cases h9 : kd = 9
  ·subst h9
   simp -implicitDefEqProofs -dsimp only [go_sem, enc, p.a3, p.o3, encs_len]
   cases hw : ownB (.mk 9 c s0 s1 s2 s3 n mn mx l) g e
   ·refine (if_pos ?_).mpr ?_
    ·revert hw
     simp only [ownB, boundsB, hpl, Bool.true_and, Int.reduceEq, if_true, if_false, decide_eq_true_eq, decide_eq_false_iff_not]
     omega
    rw [D_lx [.tmp 5] (by kernel_rfl) (by kernel_rfl)]; simp -implicitDefEqProofs -dsimp only [go_sem, List.takeWhile_cons, List.dropWhile_cons, isTail, evNews, List.mem_cons, List.not_mem_nil, or_false, false_or, not_false_eq_true, not_true_eq_false, decide_true, Bool.not_true, Bool.not_false, forall_eq, ne_eq, p.a1, p.a5, p.a7, p.o5, hz, hzl, he, encE_take e p.le, encE_put]
    refine ⟨by omega, ?_, hco⟩
    simp only [chk, hw, Bool.false_eq_true, if_false, ownG, hpl, Nd.kind, Int.reduceEq, and_false]
   ·refine (if_neg ?_).mpr ?_
    ·revert hw
     simp only [ownB, boundsB, hpl, Bool.true_and, Int.reduceEq, if_true, if_false, decide_eq_true_eq]
     omega
    simp -implicitDefEqProofs -dsimp only [go_sem]
    first | refine ⟨?_, p.a3, p.a5, p.a7, p.o3, p.o5, p.o7, hco, p.und, hct, hpe⟩ | refine ⟨hw, ?_, p.a3, p.a5, p.a7, p.o3, p.o5, p.o7, hco, p.und, hct, hpe⟩
    simp only [ownG, hpl, Nd.kind, Int.reduceEq, and_false, if_false, go_sem, Nat.reduceEqDiff, p.a1]
  by_cases h10 : kd = 10
  ·subst h10
   have hl1 : l.length = 1 := by
    simp only [plainB, Bool.and_eq_true, Int.reduceEq, or_true, if_true, beq_iff_eq] at hpl
    exact hpl.2
   obtain ⟨y, rfl⟩ := List.length_eq_one_iff.1 hl1
   simp -implicitDefEqProofs -dsimp only [go_sem, enc, p.a3, p.o3, encs, enc_kind]
   cases hw : ownB (.mk 10 c s0 s1 s2 s3 n mn mx [y]) g e
   ·refine (if_pos ?_).mpr ?_
    ·revert hw
     simp only [ownB, boundsB, hpl, Bool.true_and, Int.reduceEq, if_true, if_false, Bool.and_eq_true, Bool.and_eq_false_iff, decide_eq_true_eq, decide_eq_false_iff_not, beq_iff_eq, beq_eq_false_iff_ne, bne_iff_ne, ne_eq, Bool.not_eq_false', Bool.or_eq_true, Bool.or_eq_false_iff, Bool.ite_eq_true_distrib, if_true_left]
     omega
    rw [D_lx [.tmp 5] (by kernel_rfl) (by kernel_rfl)]; simp -implicitDefEqProofs -dsimp only [go_sem, List.takeWhile_cons, List.dropWhile_cons, isTail, evNews, List.mem_cons, List.not_mem_nil, or_false, false_or, not_false_eq_true, not_true_eq_false, decide_true, Bool.not_true, Bool.not_false, forall_eq, ne_eq, p.a1, p.a5, p.a7, p.o5, hz, hzl, he, encE_take e p.le, encE_put]
    refine ⟨by omega, ?_, hco⟩
    simp only [chk, hw, Bool.false_eq_true, if_false, ownG, hpl, Nd.kind, Int.reduceEq, and_false]
   ·refine (if_neg ?_).mpr ?_
    ·revert hw
     simp only [ownB, boundsB, hpl, Bool.true_and, Int.reduceEq, if_true, if_false, Bool.and_eq_true, decide_eq_true_eq, beq_iff_eq, beq_eq_false_iff_ne, bne_iff_ne, ne_eq, Bool.not_eq_true', Bool.or_eq_true, Bool.or_eq_false_iff, Bool.ite_eq_true_distrib, if_true_left]
     omega
    simp -implicitDefEqProofs -dsimp only [go_sem]
    first | refine ⟨?_, p.a3, p.a5, p.a7, p.o3, p.o5, p.o7, hco, p.und, hct, hpe⟩ | refine ⟨hw, ?_, p.a3, p.a5, p.a7, p.o3, p.o5, p.o7, hco, p.und, hct, hpe⟩
    simp only [ownG, hpl, Nd.kind, Int.reduceEq, and_false, if_false, go_sem, Nat.reduceEqDiff, p.a1]
  simp -implicitDefEqProofs -dsimp only [go_sem, enc, p.a3, p.o3, (beq_eq_false_iff_ne.2 h6 : (kd == 6) = false), (beq_eq_false_iff_ne.2 h7 : (kd == 7) = false), (beq_eq_false_iff_ne.2 h8 : (kd == 8) = false), (beq_eq_false_iff_ne.2 h9 : (kd == 9) = false), (beq_eq_false_iff_ne.2 h10 : (kd == 10) = false)]
  refine ⟨by simp only [ownB, hpl, h6, h7, h8, h9, h10, if_false, Bool.and_self], ?_, p.a3, p.a5, p.a7, p.o3, p.o5, p.o7, hco, p.und, hct, hpe⟩
  simp only [ownG, Nd.kind, h6, and_false, if_false, go_sem, Nat.reduceEqDiff, p.a1]
 rintro a s ⟨hown, p⟩
 obtain ⟨q1, q2, q3⟩ := ownB_g hown hg hg9
 simp only [chk, hown, if_true]
 generalize hg' : ownG (.mk kd c s0 s1 s2 s3 n mn mx l) g = g' at q1 q2 p
 have hct := p.ct
 have hpe := p.le
 have hco := p.cut
 obtain ⟨z, hz, hzl⟩ := p.o7
 refine seq_cut (P := fun a s => ∃ gi ei, P37 (.mk kd c s0 s1 s2 s3 n mn mx l) d (σ.ct d) σ gi ei a s ∧ (true, gi, ei) = chks kd l g' e) ?_ ?_
 rotate_left
 ·simp -implicitDefEqProofs -dsimp only [go_sem, enc, p.a3, p.o3, encs_len]
  refine loop_h (I := fun k a s => ∃ (i : Nat) (gi : Int) (ei : List Bool), i + k = l.length ∧ a 117 = .int .i64 i ∧ a 116 = .int .i64 l.length ∧ P37 (.mk kd c s0 s1 s2 s3 n mn mx l) d (σ.ct d) σ gi ei a s ∧ 0 ≤ gi ∧ gi ≤ 9 ∧ chks kd (l.drop i) gi ei = chks kd l g' e) ?_ l.length _ _ ?_
  ·rintro k a s ⟨i, gi, ei, hk, h1, h2, p, b1, b2, hc⟩
   have hct := p.ct
   have hpe := p.le
   have hco := p.cut
   obtain ⟨z, hz, hzl⟩ := p.o7
   by_cases hi : i < l.length
   ·have e1 : ((i : Int) < (l.length : Int)) := by omega
    have e2 : l[i]? = some l[i] := List.getElem?_eq_getElem hi
    have hm := List.getElem_mem hi
    have hy := sz_le l _ hm
    rw [chks_at hi] at hc
    simp -implicitDefEqProofs -dsimp only [go_sem, e1, h1, h2]
    rw [D_dr (by kernel_rfl) rfl]
    by_cases hkk : l[i].kind = kd ∧ (kd = 8 ∨ kd = 9)
    ·rw [if_pos hkk] at hc
     obtain ⟨k1, k2⟩ := hkk
     have k3 : (if (kd == 8) = true then true else kd == 9) = true := by rcases k2 with k2 | k2 <;> simp [k2]
     simp -implicitDefEqProofs -dsimp only [go_sem, enc, e2, p.a3, p.o3, encs_at, k3, k1, enc_kind]
     rw [D_lx [.tmp 5] (by kernel_rfl) (by kernel_rfl)]; simp -implicitDefEqProofs -dsimp only [go_sem, List.takeWhile_cons, List.dropWhile_cons, isTail, evNews, List.mem_cons, List.not_mem_nil, or_false, false_or, not_false_eq_true, not_true_eq_false, decide_true, Bool.not_true, Bool.not_false, forall_eq, ne_eq, p.a1, p.a5, p.a7, p.o5, hz, hzl, p.le, encE_take ei p.le, encE_put]
     refine ⟨by omega, ?_, hco⟩
     simp only [← hc, Bool.false_eq_true, if_false]
    rw [if_neg hkk] at hc
    have hB : ((if (kd == 8) = true then true else kd == 9) && l[i].kind == kd) = false := by
     by_cases a1 : l[i].kind = kd
     ·have : ¬ kd = 8 ∧ ¬ kd = 9 := ⟨fun q => hkk ⟨a1, .inl q⟩, fun q => hkk ⟨a1, .inr q⟩⟩
      simp [this]
     ·simp [a1]
    simp -implicitDefEqProofs -dsimp only [go_sem, enc, e2, p.a3, p.o3, encs_at, enc_kind, hB]
    rw [D_lx [] (by kernel_rfl) (by kernel_rfl)]; simp -implicitDefEqProofs -dsimp only [go_sem, enc, List.takeWhile_cons, List.dropWhile_cons, isTail, evNews, List.not_mem_nil, decide_false, Bool.not_true, Bool.not_false, false_imp_iff, implies_true, ne_eq, e2, p.a1, p.a3, p.o3, p.a5, p.o5, p.le, encs_at, encE_take ei p.le]
    refine (ih l[i] hm (by omega) (d + 1) (d + 1) _ gi ei (Nat.le_refl _) p.und p.le b1 b2).wh ?_
    cases hck : (chk l[i] gi ei).1
    ·rw [hck] at hc
     simp only [Bool.false_eq_true, if_false] at hc
     rw [← hc]
     simp -implicitDefEqProofs -dsimp only [go_sem, List.not_mem_nil, not_false_eq_true, decide_true, Bool.not_false, p.a5, p.o5, p.le]
     have hcl : (chk l[i] gi ei).2.2.length = 10 := by rw [chk_len]; exact hpe
     refine ⟨hcl, ?_⟩
     rw [D_lx [.tmp 5] (by kernel_rfl) (by kernel_rfl)]; simp -implicitDefEqProofs -dsimp only [go_sem, List.takeWhile_cons, List.dropWhile_cons, isTail, evNews, List.mem_cons, List.not_mem_nil, or_false, false_or, not_false_eq_true, not_true_eq_false, decide_true, Bool.not_true, Bool.not_false, forall_eq, ne_eq, p.a5, p.a7, hz, hzl, hcl, encE_take _ hcl, encE_put, p.le]
     exact ⟨by omega, by simp only [hck, Bool.false_eq_true, if_false], hco⟩
    ·rw [hck] at hc
     simp only [if_true] at hc
     obtain ⟨c1, c2, c3⟩ := chk_inv l[i] gi ei b1 b2 p.le hck
     simp -implicitDefEqProofs -dsimp only [go_sem, List.not_mem_nil, not_false_eq_true, decide_true, Bool.not_true, h1, h2, p.a5, p.o5, p.le]
     have hcl : (chk l[i] gi ei).2.2.length = 10 := by rw [chk_len]; exact hpe
     refine ⟨hcl, k - 1, by omega, i + 1, _, _, by omega, by rw [wr64 _ (by omega) (by omega)]; rfl, ⟨rfl, p.a3, p.a5, p.a7, ?_, ?_, ⟨z, ?_, hzl⟩, ?_, ?_, hct, hcl⟩, c1, c2, hc⟩
     ·simp only [go_sem, Nat.reduceEqDiff, and_false, false_and, if_false, p.o3]
     ·simp only [go_sem, if_true, encE_put _ _ (show (encE ei).length = _ by rw [encE_len, hcl, p.le])]
     ·simp only [go_sem, Nat.reduceEqDiff, and_false, false_and, if_false, hz]
     ·simp only [go_sem, hco]
     ·simp only [u_mine]; exact p.und
   ·have e1 : ¬ ((i : Int) < (l.length : Int)) := by omega
    rw [List.drop_eq_nil_of_le (by omega), chks] at hc
    simp -implicitDefEqProofs -dsimp only [go_sem, e1, h1, h2]
    exact ⟨gi, ei, ⟨p.a1, p.a3, p.a5, p.a7, p.o3, p.o5, p.o7, p.cut, p.und, p.ct, p.le⟩, hc⟩
  ·exact ⟨0, g', e, Nat.zero_add _, rfl, rfl, ⟨p.a1, p.a3, p.a5, p.a7, p.o3, p.o5, p.o7, p.cut, p.und, p.ct, p.le⟩, q1, q2, rfl⟩
 ·rintro a s ⟨gi, ei, p, hc⟩
  simp only [← hc, if_true]
  have hct := p.ct
  have hpe := p.le
  have hco := p.cut
  obtain ⟨z, hz, hzl⟩ := p.o7
  by_cases h6 : kd = 6
  ·subst h6
   obtain ⟨n1, n2⟩ := q3 rfl
   have n3 : 0 ≤ n := by omega
   have n4 : n < 10 := by omega
   simp -implicitDefEqProofs -dsimp only [go_sem, enc, p.a3, p.o3, p.a5, p.o5, n3, n4, Nat.mul_one]
   rw [encE_set _ _ _ (by omega)]
   refine ⟨by omega, ?_⟩
   have hsl : (ei.set n.toNat true).length = 10 := by rw [List.length_set]; exact hpe
   rw [D_lx [.tmp 5] (by kernel_rfl) (by kernel_rfl)]; simp -implicitDefEqProofs -dsimp only [go_sem, List.takeWhile_cons, List.dropWhile_cons, isTail, evNews, List.mem_cons, List.not_mem_nil, or_false, false_or, not_false_eq_true, not_true_eq_false, decide_true, Bool.not_true, Bool.not_false, forall_eq, ne_eq, p.a1, p.a5, p.a7, hz, hzl, hsl, encE_take _ hsl, encE_put]
   exact ⟨by omega, hco⟩
  ·simp -implicitDefEqProofs -dsimp only [go_sem, enc, p.a3, p.o3, (beq_eq_false_iff_ne.2 h6 : (kd == 6) = false)]
   rw [D_lx [.tmp 5] (by kernel_rfl) (by kernel_rfl)]; simp -implicitDefEqProofs -dsimp only [go_sem, List.takeWhile_cons, List.dropWhile_cons, isTail, evNews, List.mem_cons, List.not_mem_nil, or_false, false_or, not_false_eq_true, not_true_eq_false, decide_true, Bool.not_true, Bool.not_false, forall_eq, ne_eq, p.a1, p.a5, p.a7, p.o5, hz, hzl, p.le, encE_take ei p.le, encE_put, h6]
   exact ⟨by omega, hco⟩
theorem w25 (x : Nd) (hsz : sz x ≤ 1000000) (lim d : Nat) (σ : Sto) (hlim : lim ≤ d) (hu : σ.Und d) : Ret lim d 18 [.agg (enc x)] σ (.bool (formedB x)) σ := by
 have hun := und_succ hu
 unfold Ret
 rw [WF_body (C := X) rfl func18 rfl (by kernel_rfl)]; simp only [results18]
 simp -implicitDefEqProofs -dsimp only [go_sem]
 refine (w35 x hsz lim (d + 1) _ ?_).wh ?_
 ·simp only [go_sem, u_tick, u_mine]; exact hun
 unfold formedB
 by_cases h1 : cnt x ≤ 200
 ·have h1' : ¬ 200 < cnt x := by omega
  rw [decide_eq_true h1]
  simp -implicitDefEqProofs -dsimp only [go_sem, h1']
  refine (w36 x hsz lim (d + 1) _ ?_).wh ?_
  ·simp only [go_sem, u_tick, u_mine]; exact hun
  by_cases h2 : dep x ≤ 10
  ·have h2' : ¬ 10 < dep x := by omega
   rw [decide_eq_true h2]
   simp -implicitDefEqProofs -dsimp only [go_sem, h2']
   have hw := w37 x hsz lim (d + 1)
   refine (hw _ 0 (List.replicate 10 false) (by omega) ?_ rfl (by decide) (by decide)).wh ?_
   ·simp only [go_sem, u_tick, u_mine]; exact hun
   simp -implicitDefEqProofs -dsimp only [go_sem, cut_und _ _ hu, chk_len]
   rfl
  ·have h2' : 10 < dep x := by omega
   rw [decide_eq_false h2]
   simp -implicitDefEqProofs -dsimp only [go_sem, h2', cut_und _ _ hu]
 ·have h1' : 200 < cnt x := by omega
  rw [decide_eq_false h1]
  simp -implicitDefEqProofs -dsimp only [go_sem, h1', cut_und _ _ hu]
end Go.Proofs.Tryz.E
