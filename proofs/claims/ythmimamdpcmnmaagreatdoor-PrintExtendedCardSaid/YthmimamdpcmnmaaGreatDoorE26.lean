/- Walks: what the functions compute. -/
import Derived.Test.YthmimamdpcmnmaaGreatDoorWE25
set_option linter.unusedVariables false
set_option linter.unusedSimpArgs false
/- The reader: walks of group, atom, piece. -/
namespace Go.Proofs.Tryz.E
open Go.Mv
set_option maxHeartbeats 4000000
set_option maxRecDepth 20000
section
variable {s : List UInt8} {k : Nat} {rec : Rd → Nd × Rd} (H : HR s k rec)
include H
theorem w62 (r : Rd) (hs : s.length ≤ 100000) (hr : r.at' < s.length) (hb : r.bad = false) (h9 : r.g ≤ 9) (hk : 10 ≤ k + 1 + r.g) (p : Mv.Loc) (lim d : Nat) (hp : p.d < d) (hlim : lim ≤ p.d) (σ : Sto) (hu : σ.Und d) (ho : σ.ob p = some (encP s r)) :
    Ret lim d 91 [.ptr p 0] σ (.agg (enc (groupS s rec r).1)) (σ.set p (encP s (groupS s rec r).2)) := by
  have hun := und_succ hu
  have hne := ne_my hp
  have hmy := my_ne hp
  have hp1 := Nat.lt_succ_of_lt hp
  have ho2 := ho
  rw [encP_good s r hb] at ho2
  have x1 := wr64 ((r.at' : Int) + 1) (by omega) (by omega)
  have x2 := wr64 ((r.g : Int) + 1) (by omega) (by omega)
  have hun1 : ∀ (t c : Nat) (cs : List MV), ((σ.set ⟨d, t, c⟩ cs).tick d).Und (d + 1) := fun t c cs => by simp only [u_tick, u_mine]; exact hun
  have hob1 : ∀ (t c : Nat) (cs : List MV), ((σ.set ⟨d, t, c⟩ cs).tick d).ob p = some (encP s r) := fun t c cs => by simp only [go_sem, hne, if_false]; exact ho
  unfold Ret
  rw [WF_body (C := X) rfl Go.Proofs.Tryz.func91 rfl (by kernel_rfl)]; simp only [Go.Proofs.Tryz.results91]
  unfold groupS
  by_cases hg : r.g = 9
  · have e1 : ((r.g : Int) == 9) = true := by rw [hg]; rfl
    rw [if_pos hg]
    simp -implicitDefEqProofs -dsimp only [↓reduceIte, ↓W_seq, go_sem, WR_nil, evNews, Nat.reduceEqDiff, Nat.reduceAdd, Nat.reduceMul, Nat.reduceLeDiff, Nat.reduceLT, Int.cast_ofNat_Int, Int.reduceBNe, Int.reduceToNat, Int.reduceLT, Int.reduceLE, Int.reduceAdd, Int.reduceNeg, Int.reduceEq, reduceCtorEq, enc, ho2, hne, hmy, e1]
    refine (w21 s r p lim (d + 1) hp1 hlim _ (hun1 ..) (hob1 ..)).wh ?_
    simp -implicitDefEqProofs -dsimp only [↓reduceIte, ↓W_seq, go_sem, WR_nil, evNews, Nat.reduceEqDiff, Nat.reduceAdd, Nat.reduceMul, Nat.reduceLeDiff, Nat.reduceLT, Int.cast_ofNat_Int, Int.reduceBNe, Int.reduceToNat, Int.reduceLT, Int.reduceLE, Int.reduceAdd, Int.reduceNeg, Int.reduceEq, reduceCtorEq, enc, hmy, cut_set _ _ _ _ hp, cut_und _ _ hu]
  · have e1 : ((r.g : Int) == 9) = false := by rw [beq_eq_false_iff_ne]; omega
    rw [if_neg hg]
    have hR : [MV.str s, .int .i64 ((r.at' : Int) + 1), .int .i64 ((r.g : Int) + 1), .int .i64 (-1)] = encP s ⟨r.at' + 1, r.g + 1, r.bad⟩ := by rw [hb]; rfl
    obtain ⟨G, hw⟩ := H ⟨r.at' + 1, r.g + 1, r.bad⟩ hb (by simp only; omega) (by simp only; omega) (by simp only; omega)
    generalize rec ⟨r.at' + 1, r.g + 1, r.bad⟩ = x at G hw
    have g2 := G.in'
    have g4 := G.g9
    simp -implicitDefEqProofs -dsimp only [↓reduceIte, ↓W_seq, go_sem, WR_nil, evNews, Nat.reduceEqDiff, Nat.reduceAdd, Nat.reduceMul, Nat.reduceLeDiff, Nat.reduceLT, Int.cast_ofNat_Int, Int.reduceBNe, Int.reduceToNat, Int.reduceLT, Int.reduceLE, Int.reduceAdd, Int.reduceNeg, Int.reduceEq, reduceCtorEq, enc, ho2, hne, hmy, e1, x1, x2, hp, hlim, set_set, encs]
    rw [hR]
    refine (hw lim (d + 1) p _ hp1 hlim ?_ ?_).wh ?_
    · simp only [u_tick, u_set _ _ _ _ hp1, u_mine]; exact hun
    · simp only [go_sem, if_true]
    simp -implicitDefEqProofs -dsimp only [↓reduceIte, ↓W_seq, go_sem, WR_nil, evNews, Nat.reduceEqDiff, Nat.reduceAdd, Nat.reduceMul, Nat.reduceLeDiff, Nat.reduceLT, Int.cast_ofNat_Int, Int.reduceBNe, Int.reduceToNat, Int.reduceLT, Int.reduceLE, Int.reduceAdd, Int.reduceNeg, Int.reduceEq, reduceCtorEq, enc, hmy, hne]
    have hob : ∀ (S : Sto) (R : List MV), (S.set p R).ob p = some R := fun S R => by simp only [go_sem, if_true]
    refine (w31 s x.2 [41] (by omega) p lim (d + 1) hp1 _ ?_ ?_).wh ?_
    · simp only [u_tick, u_own, u_set _ _ _ _ hp1, u_mine]; exact hun
    · simp only [go_sem, hne, hmy, if_true, if_false]
    rw [isS_one]
    cases h41 : x.2.nx s == some 41
    · have h41' : ¬ x.2.nx s = some 41 := by rw [beq_eq_false_iff_ne] at h41; exact h41
      rw [if_neg h41']
      simp -implicitDefEqProofs -dsimp only [↓reduceIte, ↓W_seq, go_sem, WR_nil, evNews, Nat.reduceEqDiff, Nat.reduceAdd, Nat.reduceMul, Nat.reduceLeDiff, Nat.reduceLT, Int.cast_ofNat_Int, Int.reduceBNe, Int.reduceToNat, Int.reduceLT, Int.reduceLE, Int.reduceAdd, Int.reduceNeg, Int.reduceEq, reduceCtorEq, enc, hmy, hne]
      refine (w21 s x.2 p lim (d + 1) hp1 hlim _ ?_ ?_).wh ?_
      · simp only [u_tick, u_own, u_set _ _ _ _ hp1, u_mine]; exact hun
      · simp only [go_sem, hne, hmy, if_true, if_false]
      simp -implicitDefEqProofs -dsimp only [↓reduceIte, ↓W_seq, go_sem, WR_nil, evNews, Nat.reduceEqDiff, Nat.reduceAdd, Nat.reduceMul, Nat.reduceLeDiff, Nat.reduceLT, Int.cast_ofNat_Int, Int.reduceBNe, Int.reduceToNat, Int.reduceLT, Int.reduceLE, Int.reduceAdd, Int.reduceNeg, Int.reduceEq, reduceCtorEq, enc, hmy, hne, cut_set _ _ _ _ hp, cut_und _ _ hu]
    · have h41' := isS_nx h41
      rw [if_pos h41']
      obtain ⟨b1, b2, b3⟩ := nx_some h41'
      have x3 := wr64 ((x.2.at' : Int) + 1) (by omega) (by omega)
      simp -implicitDefEqProofs -dsimp only [↓reduceIte, ↓W_seq, go_sem, WR_nil, evNews, Nat.reduceEqDiff, Nat.reduceAdd, Nat.reduceMul, Nat.reduceLeDiff, Nat.reduceLT, Int.cast_ofNat_Int, Int.reduceBNe, Int.reduceToNat, Int.reduceLT, Int.reduceLE, Int.reduceAdd, Int.reduceNeg, Int.reduceEq, reduceCtorEq, enc, hmy, hne, encP_good s x.2 b1, x3, hp, hlim, encP_go s x.2 _ b1, cut_set _ _ _ _ hp, cut_und _ _ hu, Int.natCast_add, encs]
theorem w53 (r : Rd) (hs : s.length ≤ 100000) (hr : r.at' < s.length) (hb : r.bad = false) (h9 : r.g ≤ 9) (hk : 10 ≤ k + 1 + r.g) (p : Mv.Loc) (lim d : Nat) (hp : p.d < d) (hlim : lim ≤ p.d) (σ : Sto) (hu : σ.Und d) (ho : σ.ob p = some (encP s r)) :
    Ret lim d 78 [.ptr p 0] σ (.agg (enc (atomS s rec r).1)) (σ.set p (encP s (atomS s rec r).2)) := by
  have hun := und_succ hu
  have hne := ne_my hp
  have hmy := my_ne hp
  have hp1 := Nat.lt_succ_of_lt hp
  have ho2 := ho
  rw [encP_good s r hb] at ho2
  have x1 := wr64 ((r.at' : Int) + 1) (by omega) (by omega)
  have hun1 : ∀ (t c : Nat) (cs : List MV), ((σ.set ⟨d, t, c⟩ cs).tick d).Und (d + 1) := fun t c cs => by simp only [u_tick, u_mine]; exact hun
  have hob1 : ∀ (t c : Nat) (cs : List MV), ((σ.set ⟨d, t, c⟩ cs).tick d).ob p = some (encP s r) := fun t c cs => by simp only [go_sem, hne, if_false]; exact ho
  have g0 : s[r.at']? = some s[r.at'] := List.getElem?_eq_getElem hr
  have hnx : r.nx s = some s[r.at'] := by simp [Rd.nx, hb]
  unfold Ret
  rw [WF_body (C := X) rfl Go.Proofs.Tryz.func78 rfl (by kernel_rfl)]; simp only [Go.Proofs.Tryz.results78]
  unfold atomS
  simp -implicitDefEqProofs -dsimp only [↓reduceIte, ↓W_seq, go_sem, WR_nil, evNews, Nat.reduceEqDiff, Nat.reduceAdd, Nat.reduceMul, Nat.reduceLeDiff, Nat.reduceLT, Int.cast_ofNat_Int, Int.reduceBNe, Int.reduceToNat, Int.reduceLT, Int.reduceLE, Int.reduceAdd, Int.reduceNeg, Int.reduceEq, reduceCtorEq, enc]
  refine (w20 s r (by omega) p lim (d + 1) hp1 _ (hun1 ..) (hob1 ..)).wh ?_
  rw [hnx, g0]
  simp only
  generalize s[r.at'] = c at g0
  cases h40 : c == 40
  · have h40' : ¬ c = 40 := by simpa using h40
    rw [if_neg h40']
    cases h92 : c == 92
    · have h92' : ¬ c = 92 := by simpa using h92
      rw [if_neg h92']
      cases h91 : c == 91
      · have h91' : ¬ c = 91 := by simpa using h91
        rw [if_neg h91']
        cases h10 : c == 10
        · have h10' : ¬ c = 10 := by simpa using h10
          rw [if_neg h10']
          simp -implicitDefEqProofs -dsimp only [↓reduceIte, ↓W_seq, go_sem, WR_nil, evNews, Nat.reduceEqDiff, Nat.reduceAdd, Nat.reduceMul, Nat.reduceLeDiff, Nat.reduceLT, Int.cast_ofNat_Int, Int.reduceBNe, Int.reduceToNat, Int.reduceLT, Int.reduceLE, Int.reduceAdd, Int.reduceNeg, Int.reduceEq, reduceCtorEq, enc, pkV_some, h40, h92, h91, h10, ho2, hne, hmy, x1, hp, hlim]
          refine (w65 c lim (d + 1) _ ?_).wh ?_
          · simp only [u_tick, u_set _ _ _ _ hp1, u_mine]; exact hun
          simp -implicitDefEqProofs -dsimp only [↓reduceIte, ↓W_seq, go_sem, WR_nil, evNews, Nat.reduceEqDiff, Nat.reduceAdd, Nat.reduceMul, Nat.reduceLeDiff, Nat.reduceLT, Int.cast_ofNat_Int, Int.reduceBNe, Int.reduceToNat, Int.reduceLT, Int.reduceLE, Int.reduceAdd, Int.reduceNeg, Int.reduceEq, reduceCtorEq, enc, hmy, encP_go s r _ hb, cut_set _ _ _ _ hp, cut_und _ _ hu, Int.natCast_add]
        · have h10' : c = 10 := by simpa using h10
          rw [if_pos h10']
          simp -implicitDefEqProofs -dsimp only [↓reduceIte, ↓W_seq, go_sem, WR_nil, evNews, Nat.reduceEqDiff, Nat.reduceAdd, Nat.reduceMul, Nat.reduceLeDiff, Nat.reduceLT, Int.cast_ofNat_Int, Int.reduceBNe, Int.reduceToNat, Int.reduceLT, Int.reduceLE, Int.reduceAdd, Int.reduceNeg, Int.reduceEq, reduceCtorEq, enc, pkV_some, h40, h92, h91, h10]
          refine (w21 s r p lim (d + 1) hp1 hlim _ (hun1 ..) (hob1 ..)).wh ?_
          simp -implicitDefEqProofs -dsimp only [↓reduceIte, ↓W_seq, go_sem, WR_nil, evNews, Nat.reduceEqDiff, Nat.reduceAdd, Nat.reduceMul, Nat.reduceLeDiff, Nat.reduceLT, Int.cast_ofNat_Int, Int.reduceBNe, Int.reduceToNat, Int.reduceLT, Int.reduceLE, Int.reduceAdd, Int.reduceNeg, Int.reduceEq, reduceCtorEq, enc, hmy, cut_set _ _ _ _ hp, cut_und _ _ hu]
      · have h91' : c = 91 := by simpa using h91
        rw [if_pos h91']
        subst h91'
        simp -implicitDefEqProofs -dsimp only [↓reduceIte, ↓W_seq, go_sem, WR_nil, evNews, Nat.reduceEqDiff, Nat.reduceAdd, Nat.reduceMul, Nat.reduceLeDiff, Nat.reduceLT, Int.cast_ofNat_Int, Int.reduceBNe, Int.reduceToNat, Int.reduceLT, Int.reduceLE, Int.reduceAdd, Int.reduceNeg, Int.reduceEq, reduceCtorEq, enc, pkV_some, h40, h92, h91]
        rw [D_lx [] (by kernel_rfl) (by kernel_rfl)]; simp -implicitDefEqProofs -dsimp only [↓reduceIte, ↓W_seq, go_sem, WR_nil, evNews, Nat.reduceEqDiff, Nat.reduceAdd, Nat.reduceMul, Nat.reduceLeDiff, Nat.reduceLT, Int.cast_ofNat_Int, Int.reduceBNe, Int.reduceToNat, Int.reduceLT, Int.reduceLE, Int.reduceAdd, Int.reduceNeg, Int.reduceEq, reduceCtorEq, enc, List.takeWhile_cons, List.dropWhile_cons, List.takeWhile_nil, List.dropWhile_nil, isTail, evNews, List.mem_cons, List.not_mem_nil, or_false, false_or, not_false_eq_true, not_true_eq_false, decide_true, decide_false, Bool.not_true, Bool.not_false, if_true, if_false, forall_eq, forall_eq_or_imp, false_imp_iff, implies_true, ne_eq, ct_lt1, ct_lt2, ct_lt3, ct_lt4, ct_lt5, ho2, hne]
        refine (w64 s r.at' (by omega) g0 (d + 1) (d + 1) (Nat.le_refl _) _ (hun1 ..)).wh ?_
        cases hbr : bracketS (s.drop (r.at' + 1)) with
        | none =>
          simp -implicitDefEqProofs -dsimp only [↓reduceIte, ↓W_seq, go_sem, WR_nil, evNews, Nat.reduceEqDiff, Nat.reduceAdd, Nat.reduceMul, Nat.reduceLeDiff, Nat.reduceLT, Int.cast_ofNat_Int, Int.reduceBNe, Int.reduceToNat, Int.reduceLT, Int.reduceLE, Int.reduceAdd, Int.reduceNeg, Int.reduceEq, reduceCtorEq, enc, List.takeWhile_cons, List.dropWhile_cons, List.takeWhile_nil, List.dropWhile_nil, isTail, evNews, List.mem_cons, List.not_mem_nil, or_false, false_or, not_false_eq_true, not_true_eq_false, decide_true, decide_false, Bool.not_true, Bool.not_false, if_true, if_false, forall_eq, forall_eq_or_imp, false_imp_iff, implies_true, ne_eq, ct_lt1, ct_lt2, ct_lt3, ct_lt4, ct_lt5, brkV_none, hmy]
          refine ⟨rfl, (w21 s r p lim (d + 1) hp1 hlim _ ?_ ?_).wh ?_⟩
          · simp only [u_tick, u_mine]; exact hun
          · simp only [go_sem, hne, if_false]; exact ho
          simp -implicitDefEqProofs -dsimp only [↓reduceIte, ↓W_seq, go_sem, WR_nil, evNews, Nat.reduceEqDiff, Nat.reduceAdd, Nat.reduceMul, Nat.reduceLeDiff, Nat.reduceLT, Int.cast_ofNat_Int, Int.reduceBNe, Int.reduceToNat, Int.reduceLT, Int.reduceLE, Int.reduceAdd, Int.reduceNeg, Int.reduceEq, reduceCtorEq, enc, hmy, cut_set _ _ _ _ hp, cut_und _ _ hu]
        | some x =>
          have hq := (bracket_le _ _ hbr).2.2
          obtain ⟨q0, q1, q2, q3, hqe⟩ := ln4 hq
          rw [hqe] at hq
          simp -implicitDefEqProofs -dsimp only [↓reduceIte, ↓W_seq, go_sem, WR_nil, evNews, Nat.reduceEqDiff, Nat.reduceAdd, Nat.reduceMul, Nat.reduceLeDiff, Nat.reduceLT, Int.cast_ofNat_Int, Int.reduceBNe, Int.reduceToNat, Int.reduceLT, Int.reduceLE, Int.reduceAdd, Int.reduceNeg, Int.reduceEq, reduceCtorEq, enc, List.takeWhile_cons, List.dropWhile_cons, List.takeWhile_nil, List.dropWhile_nil, isTail, evNews, List.mem_cons, List.not_mem_nil, or_false, false_or, not_false_eq_true, not_true_eq_false, decide_true, decide_false, Bool.not_true, Bool.not_false, if_true, if_false, forall_eq, forall_eq_or_imp, false_imp_iff, implies_true, ne_eq, ct_lt1, ct_lt2, ct_lt3, ct_lt4, ct_lt5, brkV_some, hmy, hne, hqe, encS, ho2, hp, hlim, inN, encs, encP_go s r _ hb, cut_set _ _ _ _ hp, cut_und _ _ hu, List.getD_cons_zero, List.getD_cons_succ]
    · have h92' : c = 92 := by simpa using h92
      rw [if_pos h92']
      simp -implicitDefEqProofs -dsimp only [↓reduceIte, ↓W_seq, go_sem, WR_nil, evNews, Nat.reduceEqDiff, Nat.reduceAdd, Nat.reduceMul, Nat.reduceLeDiff, Nat.reduceLT, Int.cast_ofNat_Int, Int.reduceBNe, Int.reduceToNat, Int.reduceLT, Int.reduceLE, Int.reduceAdd, Int.reduceNeg, Int.reduceEq, reduceCtorEq, enc, pkV_some, h40, h92]
      refine (w63 s r (by omega) hr hb p lim (d + 1) hp1 hlim _ (hun1 ..) (hob1 ..)).wh ?_
      simp -implicitDefEqProofs -dsimp only [↓reduceIte, ↓W_seq, go_sem, WR_nil, evNews, Nat.reduceEqDiff, Nat.reduceAdd, Nat.reduceMul, Nat.reduceLeDiff, Nat.reduceLT, Int.cast_ofNat_Int, Int.reduceBNe, Int.reduceToNat, Int.reduceLT, Int.reduceLE, Int.reduceAdd, Int.reduceNeg, Int.reduceEq, reduceCtorEq, enc, hmy, cut_set _ _ _ _ hp, cut_und _ _ hu]
  · have h40' : c = 40 := by simpa using h40
    rw [if_pos h40']
    simp -implicitDefEqProofs -dsimp only [↓reduceIte, ↓W_seq, go_sem, WR_nil, evNews, Nat.reduceEqDiff, Nat.reduceAdd, Nat.reduceMul, Nat.reduceLeDiff, Nat.reduceLT, Int.cast_ofNat_Int, Int.reduceBNe, Int.reduceToNat, Int.reduceLT, Int.reduceLE, Int.reduceAdd, Int.reduceNeg, Int.reduceEq, reduceCtorEq, enc, pkV_some, h40]
    refine (w62 H r hs hr hb h9 hk p lim (d + 1) hp1 hlim _ (hun1 ..) (hob1 ..)).wh ?_
    simp -implicitDefEqProofs -dsimp only [↓reduceIte, ↓W_seq, go_sem, WR_nil, evNews, Nat.reduceEqDiff, Nat.reduceAdd, Nat.reduceMul, Nat.reduceLeDiff, Nat.reduceLT, Int.cast_ofNat_Int, Int.reduceBNe, Int.reduceToNat, Int.reduceLT, Int.reduceLE, Int.reduceAdd, Int.reduceNeg, Int.reduceEq, reduceCtorEq, enc, hmy, cut_set _ _ _ _ hp, cut_und _ _ hu]
theorem w40 (r : Rd) (hs : s.length ≤ 100000) (hr : r.at' < s.length) (hb : r.bad = false) (h9 : r.g ≤ 9) (hk : 10 ≤ k + 1 + r.g) (p : Mv.Loc) (lim d : Nat) (hp : p.d < d) (hlim : lim ≤ p.d) (σ : Sto) (hu : σ.Und d) (ho : σ.ob p = some (encP s r)) :
    Ret lim d 63 [.ptr p 0] σ (.agg (enc (pieceS s rec r).1)) (σ.set p (encP s (pieceS s rec r).2)) := by
  have hun := und_succ hu
  have hne := ne_my hp
  have hmy := my_ne hp
  have hp1 := Nat.lt_succ_of_lt hp
  have hun1 : ∀ (t c : Nat) (cs : List MV), ((σ.set ⟨d, t, c⟩ cs).tick d).Und (d + 1) := fun t c cs => by simp only [u_tick, u_mine]; exact hun
  have hob1 : ∀ (t c : Nat) (cs : List MV), ((σ.set ⟨d, t, c⟩ cs).tick d).ob p = some (encP s r) := fun t c cs => by simp only [go_sem, hne, if_false]; exact ho
  have G := gd_atom H hr hb h9 hk
  unfold Ret
  rw [WF_body (C := X) rfl Go.Proofs.Tryz.func63 rfl (by kernel_rfl)]; simp only [Go.Proofs.Tryz.results63]
  unfold pieceS
  simp -implicitDefEqProofs -dsimp only [↓reduceIte, ↓W_seq, go_sem, WR_nil, evNews, Nat.reduceEqDiff, Nat.reduceAdd, Nat.reduceMul, Nat.reduceLeDiff, Nat.reduceLT, Int.cast_ofNat_Int, Int.reduceBNe, Int.reduceToNat, Int.reduceLT, Int.reduceLE, Int.reduceAdd, Int.reduceNeg, Int.reduceEq, reduceCtorEq, enc]
  refine (w53 H r hs hr hb h9 hk p lim (d + 1) hp1 hlim _ (hun1 ..) (hob1 ..)).wh ?_
  simp only
  generalize atomS s rec r = x at G
  obtain ⟨y, r2⟩ := x
  have g2 := G.in'
  simp only at g2 ⊢
  simp -implicitDefEqProofs -dsimp only [↓reduceIte, ↓W_seq, go_sem, WR_nil, evNews, Nat.reduceEqDiff, Nat.reduceAdd, Nat.reduceMul, Nat.reduceLeDiff, Nat.reduceLT, Int.cast_ofNat_Int, Int.reduceBNe, Int.reduceToNat, Int.reduceLT, Int.reduceLE, Int.reduceAdd, Int.reduceNeg, Int.reduceEq, reduceCtorEq, enc, hmy, ba_data]
  have hob : ∀ (S : Sto) (R : List MV), (S.set p R).ob p = some R := fun S R => by simp only [go_sem, if_true]
  refine (w31 s r2 _ (by omega) p lim (d + 1) hp1 _ ?_ ?_).wh ?_
  · simp only [u_tick, u_own, u_set _ _ _ _ hp1, u_mine]; exact hun
  · simp only [go_sem, hne, hmy, if_true, if_false]
  have hrp : ∀ o, isS [42, 43, 63, 123] o = isRep o := fun o => by
    cases o with
    | none => rfl
    | some c =>
      rw [isS_some]
      simp only [isRep, List.contains_cons, List.contains_nil, Bool.or_false]
      rw [Bool.eq_iff_iff]; simp [or_assoc]
  rw [hrp]
  unfold repS
  cases hrep : isRep (r2.nx s)
  · rw [if_pos rfl]
    simp -implicitDefEqProofs -dsimp only [↓reduceIte, ↓W_seq, go_sem, WR_nil, evNews, Nat.reduceEqDiff, Nat.reduceAdd, Nat.reduceMul, Nat.reduceLeDiff, Nat.reduceLT, Int.cast_ofNat_Int, Int.reduceBNe, Int.reduceToNat, Int.reduceLT, Int.reduceLE, Int.reduceAdd, Int.reduceNeg, Int.reduceEq, reduceCtorEq, enc, hmy, hne, cut_set _ _ _ _ hp, cut_und _ _ hu]
  · rw [if_neg (by simp)]
    obtain ⟨c, hc⟩ : ∃ c, r2.nx s = some c := by
      cases h : r2.nx s with
      | none => rw [h] at hrep; cases hrep
      | some c => exact ⟨c, rfl⟩
    obtain ⟨b1, b2, b3⟩ := nx_some hc
    by_cases hk4 : y.kind = 4 ∨ y.kind = 5
    · rw [if_pos hk4]
      have hkk : (if (y.kind == 4) = true then true else y.kind == 5) = true := by rcases hk4 with h | h <;> simp [h]
      simp -implicitDefEqProofs -dsimp only [↓reduceIte, ↓W_seq, go_sem, WR_nil, evNews, Nat.reduceEqDiff, Nat.reduceAdd, Nat.reduceMul, Nat.reduceLeDiff, Nat.reduceLT, Int.cast_ofNat_Int, Int.reduceBNe, Int.reduceToNat, Int.reduceLT, Int.reduceLE, Int.reduceAdd, Int.reduceNeg, Int.reduceEq, reduceCtorEq, enc, hmy, hne, enc_kind, hkk]
      refine (w21 s r2 p lim (d + 1) hp1 hlim _ ?_ ?_).wh ?_
      · simp only [u_tick, u_own, u_set _ _ _ _ hp1, u_mine]; exact hun
      · simp only [go_sem, hne, hmy, if_true, if_false]
      simp -implicitDefEqProofs -dsimp only [↓reduceIte, ↓W_seq, go_sem, WR_nil, evNews, Nat.reduceEqDiff, Nat.reduceAdd, Nat.reduceMul, Nat.reduceLeDiff, Nat.reduceLT, Int.cast_ofNat_Int, Int.reduceBNe, Int.reduceToNat, Int.reduceLT, Int.reduceLE, Int.reduceAdd, Int.reduceNeg, Int.reduceEq, reduceCtorEq, enc, hmy, hne, cut_set _ _ _ _ hp, cut_und _ _ hu]
    · rw [if_neg hk4]
      have hkk : (if (y.kind == 4) = true then true else y.kind == 5) = false := by
        have h4 : (y.kind == 4) = false := by rw [beq_eq_false_iff_ne]; exact fun h => hk4 (.inl h)
        have h5 : (y.kind == 5) = false := by rw [beq_eq_false_iff_ne]; exact fun h => hk4 (.inr h)
        rw [h4, h5]; rfl
      simp -implicitDefEqProofs -dsimp only [↓reduceIte, ↓W_seq, go_sem, WR_nil, evNews, Nat.reduceEqDiff, Nat.reduceAdd, Nat.reduceMul, Nat.reduceLeDiff, Nat.reduceLT, Int.cast_ofNat_Int, Int.reduceBNe, Int.reduceToNat, Int.reduceLT, Int.reduceLE, Int.reduceAdd, Int.reduceNeg, Int.reduceEq, reduceCtorEq, enc, hmy, hne, enc_kind, hkk]
      refine (w54 s r2 (by omega) b3 b1 p lim (d + 1) hp1 hlim _ ?_ ?_).wh ?_
      · simp only [u_tick, u_own, u_set _ _ _ _ hp1, u_mine]; exact hun
      · simp only [go_sem, hne, hmy, if_true, if_false]
      cases hbd : boundsS s r2.at' with
      | none =>
        simp -implicitDefEqProofs -dsimp only [↓reduceIte, ↓W_seq, go_sem, WR_nil, evNews, Nat.reduceEqDiff, Nat.reduceAdd, Nat.reduceMul, Nat.reduceLeDiff, Nat.reduceLT, Int.cast_ofNat_Int, Int.reduceBNe, Int.reduceToNat, Int.reduceLT, Int.reduceLE, Int.reduceAdd, Int.reduceNeg, Int.reduceEq, reduceCtorEq, enc, brcV_none, brcR_none]
        refine (w21 s r2 p lim (d + 1) hp1 hlim _ ?_ ?_).wh ?_
        · simp only [u_tick, u_own, u_set _ _ _ _ hp1, u_mine]; exact hun
        · simp only [go_sem, hne, hmy, if_true, if_false]
        simp -implicitDefEqProofs -dsimp only [↓reduceIte, ↓W_seq, go_sem, WR_nil, evNews, Nat.reduceEqDiff, Nat.reduceAdd, Nat.reduceMul, Nat.reduceLeDiff, Nat.reduceLT, Int.cast_ofNat_Int, Int.reduceBNe, Int.reduceToNat, Int.reduceLT, Int.reduceLE, Int.reduceAdd, Int.reduceNeg, Int.reduceEq, reduceCtorEq, enc, hmy, hne, cut_set _ _ _ _ hp, cut_und _ _ hu]
      | some x =>
        have hy := bnd_go s _ b3 x hbd
        simp -implicitDefEqProofs -dsimp only [↓reduceIte, ↓W_seq, go_sem, WR_nil, evNews, Nat.reduceEqDiff, Nat.reduceAdd, Nat.reduceMul, Nat.reduceLeDiff, Nat.reduceLT, Int.cast_ofNat_Int, Int.reduceBNe, Int.reduceToNat, Int.reduceLT, Int.reduceLE, Int.reduceAdd, Int.reduceNeg, Int.reduceEq, reduceCtorEq, enc, brcV_some, brcR_some, ba_data]
        refine (w31 s (r2.go x.2.2) _ (by omega) p lim (d + 1) hp1 _ ?_ ?_).wh ?_
        · simp only [u_tick, u_own, u_set _ _ _ _ hp1, u_mine]; exact hun
        · simp only [go_sem, hne, hmy, if_true, if_false]
        rw [hrp]
        cases hr3 : isRep ((r2.go x.2.2).nx s)
        · simp -implicitDefEqProofs -dsimp only [↓reduceIte, ↓W_seq, go_sem, WR_nil, evNews, Nat.reduceEqDiff, Nat.reduceAdd, Nat.reduceMul, Nat.reduceLeDiff, Nat.reduceLT, Int.cast_ofNat_Int, Int.reduceBNe, Int.reduceToNat, Int.reduceLT, Int.reduceLE, Int.reduceAdd, Int.reduceNeg, Int.reduceEq, reduceCtorEq, enc, hmy, hne, hr3, encs, cut_set _ _ _ _ hp, cut_und _ _ hu]
        · simp -implicitDefEqProofs -dsimp only [↓reduceIte, ↓W_seq, go_sem, WR_nil, evNews, Nat.reduceEqDiff, Nat.reduceAdd, Nat.reduceMul, Nat.reduceLeDiff, Nat.reduceLT, Int.cast_ofNat_Int, Int.reduceBNe, Int.reduceToNat, Int.reduceLT, Int.reduceLE, Int.reduceAdd, Int.reduceNeg, Int.reduceEq, reduceCtorEq, enc, hmy, hne, hr3]
          refine (w21 s (r2.go x.2.2) p lim (d + 1) hp1 hlim _ ?_ ?_).wh ?_
          · simp only [u_tick, u_own, u_set _ _ _ _ hp1, u_mine]; exact hun
          · simp only [go_sem, hne, hmy, if_true, if_false]
          simp -implicitDefEqProofs -dsimp only [↓reduceIte, ↓W_seq, go_sem, WR_nil, evNews, Nat.reduceEqDiff, Nat.reduceAdd, Nat.reduceMul, Nat.reduceLeDiff, Nat.reduceLT, Int.cast_ofNat_Int, Int.reduceBNe, Int.reduceToNat, Int.reduceLT, Int.reduceLE, Int.reduceAdd, Int.reduceNeg, Int.reduceEq, reduceCtorEq, enc, hmy, hne, hr3, cut_set _ _ _ _ hp, cut_und _ _ hu]
end
end Go.Proofs.Tryz.E
