/- Walks: what the functions compute. Walks: what the functions compute. -/
import Derived.Test.YtadeobleehcaaaaGreatDoorWC0
set_option linter.unusedVariables false
set_option linter.unusedSimpArgs false
/- The other reader, of basic patterns: how often; what is escaped, what is repeated. -/
namespace Go.Proofs.Tryz.E
open Go.Mv
set_option maxHeartbeats 4000000
set_option maxRecDepth 20000
theorem v60 (s : List UInt8) (r : Rd) (hs : s.length ≤ 1000000) (hrep : isRepB s r = true) (p : Mv.Loc) (lim d : Nat) (hp : p.d < d) (σ : Sto) (hu : σ.Und d) (ho : σ.ob p = some (encT s r)) : Ret lim d 131 [.ptr p 0] σ (timV (timesB s r)) σ := by
 have hun := und_succ hu
 have hp1 := Nat.lt_succ_of_lt hp
 have hnd : ¬ p.d = d := by omega
 obtain ⟨hb, hlt⟩ := repB_some hrep
 have ho2 := ho
 rw [encT_good s r hb] at ho2
 have x1 := wr64 ((r.at' : Int) + 1) (by omega) (by omega)
 have x1' := wr64 ((r.at' : Int) + 2) (by omega) (by omega)
 unfold Ret
 rw [WF_body (C := X) rfl func131 rfl (by kernel_rfl)]; simp only [results131]
 simp -implicitDefEqProofs -dsimp only [↓reduceIte, ↓W_seq, go_sem, reduceCtorEq]
 refine (k1 s r 42 hs (by omega) p lim (d + 1) hp1 σ hun ho).wh ?_
 unfold timesB
 cases h42 : r.nx s == some 42
 case true =>
  have h42' : r.nx s = some 42 := by simpa using h42
  rw [if_pos h42']
  simp -implicitDefEqProofs -dsimp only [↓reduceIte, ↓W_seq, go_sem, Int.reduceNeg]
  rw [D_lx [.tmp 15] (by kernel_rfl) (by kernel_rfl)]; simp -implicitDefEqProofs -dsimp only [↓reduceIte, ↓W_seq, go_sem, evNews, Nat.reduceEqDiff, Int.reduceNeg, reduceCtorEq, List.takeWhile_cons, List.dropWhile_cons, isTail, evNews, List.mem_cons, List.not_mem_nil, or_false, not_false_eq_true, Bool.not_true, Bool.not_false, forall_eq, ne_eq, ho2, x1, hnd, true_or]
  simp -implicitDefEqProofs -dsimp only [go_sem, Int.cast_ofNat_Int, Int.reduceNeg, timV_some, cut_und _ _ hu, Int.natCast_add]
 have h42' : ¬ r.nx s = some 42 := by rw [beq_eq_false_iff_ne] at h42; exact h42
 rw [if_neg h42']
 have hE : hasE s r 123 = true := by simpa [isRepB, h42] using hrep
 obtain ⟨-, h2⟩ := hasE_lt hE
 simp -implicitDefEqProofs -dsimp only [↓reduceIte, ↓W_seq, go_sem, Nat.reduceEqDiff, reduceCtorEq, ho2]
 rw [D_lx [] (by kernel_rfl) (by kernel_rfl)]; simp -implicitDefEqProofs -dsimp only [↓reduceIte, ↓W_seq, go_sem, evNews, Nat.reduceEqDiff, Nat.reduceAdd, Int.cast_ofNat_Int, reduceCtorEq, List.takeWhile_cons, List.dropWhile_cons, isTail, evNews, List.not_mem_nil, decide_false, Bool.not_true, Bool.not_false, false_imp_iff, implies_true, ne_eq, ho2]
 refine (v56 s r p (d + 1) (d + 1) hp1 σ hun ho).wh ?_
 simp -implicitDefEqProofs -dsimp only [↓reduceIte, go_sem, Nat.reduceEqDiff, Nat.reduceAdd, Int.cast_ofNat_Int, reduceCtorEq, x1']
 refine (w72 s (r.at' + 2) hs (by omega) (d + 1) (d + 1) σ hun).wh ?_
 have hA := digs_len s (r.at' + 2)
 rw [dgV_eq]
 have hBu := brcB_eq s r.at'
 generalize bracesB s r.at' = B at hBu ⊢
 generalize digsAt s (r.at' + 2) = A at hA hBu ⊢
 generalize hP : r.at' + 2 + A.length = P at hBu ⊢
 have hPl : P ≤ s.length := by omega
 by_cases hA0 : A = []
 ·rw [if_pos (.inl hA0)] at hBu
  subst hA0
  simp -implicitDefEqProofs -dsimp only [↓reduceIte, go_sem, Nat.reduceEqDiff, Int.reduceLT, Int.reduceNeg, reduceCtorEq, decide_true, hBu, timV_none, cut_und _ _ hu]
 by_cases hbig : 255 < numV A
 ·rw [if_pos (.inr hbig)] at hBu
  simp -implicitDefEqProofs -dsimp only [↓reduceIte, go_sem, Nat.reduceEqDiff, Int.reduceLT, Int.reduceNeg, reduceCtorEq, decide_true, hA0, hbig, hBu, timV_none, cut_und _ _ hu]
 rw [if_neg (by simp [hA0, hbig])] at hBu
 have e3 : ¬ ((numV A : Int) < 0) := by omega
 by_cases h44 : s[P]? = some 44
 ·rw [if_pos h44] at hBu
  have hlt2 : P < s.length := by
   rcases Nat.lt_or_ge P s.length with h | h
   ·exact h
   ·rw [List.getElem?_eq_none h] at h44; cases h44
  have e4 : ((P : Int) < (s.length : Int)) := by omega
  have x3 := wr64 ((P : Int) + 1) (by omega) (by omega)
  have e44 : ((44 : UInt8) == 44) = true := rfl
  simp -implicitDefEqProofs -dsimp only [↓reduceIte, go_sem, Nat.reduceEqDiff, reduceCtorEq, decide_true, decide_false, ho2, hA0, hbig, e3, e4, h44, e44, x3]
  refine (w72 s (P + 1) hs (by omega) lim (d + 1) σ hun).wh ?_
  rw [dgV_eq]
  have hC := digs_len s (P + 1)
  generalize digsAt s (P + 1) = C at hC hBu ⊢
  generalize hQ : P + 1 + C.length = Q at hBu ⊢
  have hQl : Q ≤ s.length := by omega
  by_cases hbc : C ≠ [] ∧ (255 < numV C ∨ numV C < numV A)
  ·rw [if_neg (fun h => by rcases h.2 with h | h; exact hbc.1 h; omega)] at hBu
   by_cases hbb : 255 < numV C
   ·simp -implicitDefEqProofs -dsimp only [↓reduceIte, ↓W_seq, go_sem, Nat.reduceEqDiff, Int.reduceNeg, reduceCtorEq, hbc.1, hbb, hBu, timV_none, cut_und _ _ hu]
   ·have f1 : ((numV C : Int) == -2) = false := by rw [beq_eq_false_iff_ne]; omega
    have f2 : (0 : Int) ≤ (numV C : Int) := by omega
    have f3 : (numV C : Int) < (numV A : Int) := by omega
    simp -implicitDefEqProofs -dsimp only [↓reduceIte, ↓W_seq, go_sem, Nat.reduceEqDiff, Int.reduceNeg, reduceCtorEq, hbc.1, hbb, f1, f2, f3, hBu, timV_none, cut_und _ _ hu]
  ·have hk : ∃ k : Int, (if C = [] then (-1 : Int) else if 255 < numV C then -2 else (numV C : Int)) = k ∧ (if C = [] then (-1 : Int) else (numV C : Int)) = k ∧ (k == -2) = false ∧ (if (decide (0 ≤ k)) = true then decide (k < (numV A : Int)) else false) = false := by
    by_cases hC0 : C = []
    ·exact ⟨-1, by rw [if_pos hC0], by rw [if_pos hC0], rfl, rfl⟩
    ·have hbc' : ¬ 255 < numV C ∧ ¬ numV C < numV A := by
      constructor
      ·exact fun h => hbc ⟨hC0, .inl h⟩
      ·exact fun h => hbc ⟨hC0, .inr h⟩
     refine ⟨numV C, by rw [if_neg hC0, if_neg hbc'.1], by rw [if_neg hC0], by rw [beq_eq_false_iff_ne]; omega, ?_⟩
     have : ¬ (numV C : Int) < (numV A : Int) := by omega
     simp [this]
   obtain ⟨k, k1, k2, k3, k4⟩ := hk
   rw [k1]
   rw [k2] at hBu
   have hiff : (closeB s Q = true ∧ (C = [] ∨ numV C ≤ 255 ∧ numV A ≤ numV C)) ↔ closeB s Q = true := by
    refine ⟨fun h => h.1, fun h => ⟨h, ?_⟩⟩
    by_cases hC0 : C = []
    ·exact .inl hC0
    ·right
     by_cases q1 : 255 < numV C
     ·exact absurd ⟨hC0, .inl q1⟩ hbc
     ·by_cases q2 : numV C < numV A
      ·exact absurd ⟨hC0, .inr q2⟩ hbc
      ·omega
   simp only [hiff] at hBu
   clear hiff k1 k2
   by_cases hlt3 : Q + 1 < s.length
   ·have e5 : ¬ ((s.length : Int) - Q < 2) := by omega
    have x4 := wr64 ((s.length : Int) - Q) (by omega) (by omega)
    have x5 := wr64 ((Q : Int) + 2) (by omega) (by omega)
    by_cases k0 : 0 ≤ k
    ·simp only [k0, decide_true, if_true] at k4
     simp -implicitDefEqProofs -dsimp only [↓reduceIte, ↓W_seq, go_sem, Nat.reduceEqDiff, Nat.reduceAdd, Int.cast_ofNat_Int, Int.reduceNeg, reduceCtorEq, ho2, k3, k0, k4, e5, x4, x5]
     exact tim_clo2 s Q hlt3 _ k B hBu (cut_und _ _ hu)
    ·simp -implicitDefEqProofs -dsimp only [↓reduceIte, ↓W_seq, go_sem, Nat.reduceEqDiff, Nat.reduceAdd, Int.cast_ofNat_Int, Int.reduceNeg, reduceCtorEq, ho2, k3, k0, e5, x4, x5]
     exact tim_clo2 s Q hlt3 _ k B hBu (cut_und _ _ hu)
   ·have e5 : ((s.length : Int) - Q < 2) := by omega
    have x4 := wr64 ((s.length : Int) - Q) (by omega) (by omega)
    rw [close_end hlt3, if_neg (by decide)] at hBu
    by_cases k0 : 0 ≤ k
    ·simp only [k0, decide_true, if_true] at k4
     simp -implicitDefEqProofs -dsimp only [↓reduceIte, ↓W_seq, go_sem, Nat.reduceEqDiff, Nat.reduceAdd, Int.cast_ofNat_Int, Int.reduceNeg, reduceCtorEq, ho2, k3, k0, k4, e5, x4, hBu, timV_none, cut_und _ _ hu]
    ·simp -implicitDefEqProofs -dsimp only [↓reduceIte, ↓W_seq, go_sem, Nat.reduceEqDiff, Nat.reduceAdd, Int.cast_ofNat_Int, Int.reduceNeg, reduceCtorEq, ho2, k3, k0, e5, x4, hBu, timV_none, cut_und _ _ hu]
 ·rw [if_neg h44] at hBu
  by_cases hlt2 : P + 1 < s.length
  ·have g1 : s[P]? = some s[P] := List.getElem?_eq_getElem (by omega)
   have e4 : ((P : Int) < (s.length : Int)) := by omega
   have e5 : ¬ ((s.length : Int) - P < 2) := by omega
   have x2 := wr64 ((s.length : Int) - P) (by omega) (by omega)
   have x3 := wr64 ((P : Int) + 2) (by omega) (by omega)
   have h44' : (s[P] == 44) = false := by rw [g1] at h44; simpa using h44
   generalize s[P] = b at g1 h44'
   simp -implicitDefEqProofs -dsimp only [↓reduceIte, go_sem, Nat.reduceEqDiff, Nat.reduceAdd, Int.cast_ofNat_Int, reduceCtorEq, decide_true, decide_false, Bool.not_false, ho2, hA0, hbig, e3, e4, g1, h44', e5, x2, x3]
   exact tim_clo2 s P hlt2 _ _ B hBu (cut_und _ _ hu)
  ·rw [close_end hlt2, if_neg (by decide)] at hBu
   have e5 : ((s.length : Int) - P < 2) := by omega
   have x2 := wr64 ((s.length : Int) - P) (by omega) (by omega)
   by_cases hlt3 : P < s.length
   ·have g1 : s[P]? = some s[P] := List.getElem?_eq_getElem hlt3
    have e4 : ((P : Int) < (s.length : Int)) := by omega
    have h44' : (s[P] == 44) = false := by rw [g1] at h44; simpa using h44
    generalize s[P] = b at g1 h44'
    simp -implicitDefEqProofs -dsimp only [↓reduceIte, go_sem, Nat.reduceEqDiff, reduceCtorEq, decide_true, decide_false, Bool.not_false, ho2, hA0, hbig, e3, e4, g1, h44', e5, x2, hBu, timV_none, cut_und _ _ hu]
   ·have e4 : ¬ ((P : Int) < (s.length : Int)) := by omega
    simp -implicitDefEqProofs -dsimp only [↓reduceIte, go_sem, Nat.reduceEqDiff, reduceCtorEq, decide_true, decide_false, Bool.not_false, ho2, hA0, hbig, e3, e4, e5, x2, hBu, timV_none, cut_und _ _ hu]
theorem v58 (s : List UInt8) (r : Rd) (hs : s.length ≤ 1000000) (hr : r.at' < s.length) (hb : r.bad = false) (p : Mv.Loc) (lim d : Nat) (hp : p.d < d) (hlim : lim ≤ p.d) (σ : Sto) (hu : σ.Und d) (ho : σ.ob p = some (encT s r)) :
  Ret lim d 129 [.ptr p 0] σ (.agg (enc (escB s r).1)) (σ.set p (encT s (escB s r).2)) := by
 have hun := und_succ hu
 have hne := ne_my hp
 have hmy := my_ne hp
 have hp1 := Nat.lt_succ_of_lt hp
 have ho2 := ho
 rw [encT_good s r hb] at ho2
 have hun1 : ∀ (t c : Nat) (cs : List MV), ((σ.set ⟨d, t, c⟩ cs).tick d).Und (d + 1) := fun t c cs => by simp only [u_tick, u_mine]; exact hun
 have hob1 : ∀ (t c : Nat) (cs : List MV), ((σ.set ⟨d, t, c⟩ cs).tick d).ob p = some (encT s r) := fun t c cs => by simp only [go_sem, hne, if_false]; exact ho
 have x0 := wr64 ((s.length : Int) - r.at') (by omega) (by omega)
 have x1 := wr64 ((r.at' : Int) + 1) (by omega) (by omega)
 have x2 := wr64 ((r.at' : Int) + 2) (by omega) (by omega)
 have t1 : ((r.at' : Int) + 1).toNat = r.at' + 1 := by omega
 have p1 : (0 : Int) ≤ (r.at' : Int) + 1 := by omega
 unfold Ret
 rw [WF_body (C := X) rfl func129 rfl (by kernel_rfl)]; simp only [results129]
 unfold escB
 simp -implicitDefEqProofs -dsimp only [↓reduceIte, ↓W_seq, go_sem, Nat.reduceEqDiff, Nat.reduceAdd, Nat.reduceLT]
 rw [D_dr (by kernel_rfl) rfl]
 by_cases hl : r.at' + 1 < s.length
 ·have e1 : ¬ ((s.length : Int) - r.at' < 2) := by omega
  have g1 : s[r.at' + 1]? = some s[r.at' + 1] := List.getElem?_eq_getElem hl
  rw [g1]
  simp only
  generalize s[r.at' + 1] = c at g1
  simp -implicitDefEqProofs -dsimp only [↓reduceIte, ↓W_seq, go_sem, evNews, Nat.reduceEqDiff, reduceCtorEq, ho2, hne, x0, e1]
  rw [D_dr (by kernel_rfl) rfl]
  by_cases h49 : 49 ≤ c.toNat ∧ c.toNat ≤ 57
  ·have e2 : ((49 : Int) ≤ (c.toNat : Int)) := by omega
   have e3 : ((c.toNat : Int) ≤ 57) := by omega
   have y1 := wru8 ((c.toNat : Int) - 48) (by omega) (by omega)
   have y2 := wr64 ((c.toNat : Int) - 48) (by omega) (by omega)
   rw [if_pos h49]
   simp -implicitDefEqProofs -dsimp only [↓reduceIte, ↓W_seq, go_sem, evNews, Nat.reduceEqDiff, Nat.reduceAdd, Nat.reduceLeDiff, Nat.reduceLT, Int.cast_ofNat_Int, reduceCtorEq, enc, ho2, hne, hmy, x1, x2, t1, p1, g1, e2, e3, y1, y2, hp, hlim, encs, encT_go s r _ hb, cut_set _ _ _ _ hp, cut_und _ _ hu, Int.natCast_add]
  ·rw [if_neg h49]
   by_cases h110 : c = 110
   ·subst h110
    rw [if_pos rfl]
    simp -implicitDefEqProofs -dsimp only [↓reduceIte, ↓W_seq, go_sem, evNews, Nat.reduceEqDiff, Nat.reduceAdd, Nat.reduceLeDiff, Nat.reduceLT, Int.cast_ofNat_Int, reduceCtorEq, enc, ho2, hne, hmy, x1, x2, t1, p1, g1, show ¬ (((110 : UInt8).toNat : Int) ≤ 57) by decide, show (49 : Int) ≤ ((110 : UInt8).toNat : Int) by decide, show ((110 : UInt8) == 110) = true from rfl, hp, hlim, lit, encs, encT_go s r _ hb, cut_set _ _ _ _ hp, cut_und _ _ hu, Int.natCast_add]
   ·have h110' : (c == 110) = false := by simpa using h110
    rw [if_neg h110]
    unfold itselfB
    by_cases e2 : 49 ≤ c.toNat
    ·have e2' : ((49 : Int) ≤ (c.toNat : Int)) := by omega
     have e3 : ¬ ((c.toNat : Int) ≤ 57) := by omega
     simp -implicitDefEqProofs -dsimp only [↓reduceIte, ↓W_seq, go_sem, evNews, Nat.reduceEqDiff, Nat.reduceAdd, Nat.reduceLeDiff, Nat.reduceLT, reduceCtorEq, ho2, hne, x1, t1, p1, g1, h110', e2', e3]
     refine (w68 _ c (by simp) lim (d + 1) _ ?_).wh ?_
     ·simp only [go_sem, u_tick, u_mine]; exact hun
     cases hc1 : ([46, 91, 93, 42, 94, 36, 47, 92, 38, 45] : List UInt8).contains c
     ·simp -implicitDefEqProofs -dsimp only [↓reduceIte, ↓W_seq, go_sem, Nat.reduceEqDiff, reduceCtorEq, ho2, hne]
      refine (v24 s r p lim (d + 1) hp1 hlim _ ?_ ?_).wh ?_
      ·simp only [go_sem, u_tick, u_mine]; exact hun
      ·simp only [go_sem, hne, if_false]; exact ho
      simp -implicitDefEqProofs -dsimp only [↓reduceIte, go_sem, Nat.reduceEqDiff, Nat.reduceAdd, hmy, cut_set _ _ _ _ hp, cut_und _ _ hu, Bool.false_eq_true]
     ·simp -implicitDefEqProofs -dsimp only [↓reduceIte, ↓W_seq, go_sem, Nat.reduceEqDiff, Nat.reduceAdd, Nat.reduceLeDiff, Int.cast_ofNat_Int, reduceCtorEq, enc, ho2, hne, hmy, x2, hp, hlim, lit, encs, encT_go s r _ hb, cut_set _ _ _ _ hp, cut_und _ _ hu, Int.natCast_add]
    ·have e2' : ¬ ((49 : Int) ≤ (c.toNat : Int)) := by omega
     simp -implicitDefEqProofs -dsimp only [↓reduceIte, ↓W_seq, go_sem, evNews, Nat.reduceEqDiff, Nat.reduceAdd, Nat.reduceLeDiff, Nat.reduceLT, reduceCtorEq, ho2, hne, x1, t1, p1, g1, h110', e2']
     refine (w68 _ c (by simp) lim (d + 1) _ ?_).wh ?_
     ·simp only [go_sem, u_tick, u_mine]; exact hun
     cases hc1 : ([46, 91, 93, 42, 94, 36, 47, 92, 38, 45] : List UInt8).contains c
     ·simp -implicitDefEqProofs -dsimp only [↓reduceIte, ↓W_seq, go_sem, Nat.reduceEqDiff, reduceCtorEq, ho2, hne]
      refine (v24 s r p lim (d + 1) hp1 hlim _ ?_ ?_).wh ?_
      ·simp only [go_sem, u_tick, u_mine]; exact hun
      ·simp only [go_sem, hne, if_false]; exact ho
      simp -implicitDefEqProofs -dsimp only [↓reduceIte, go_sem, Nat.reduceEqDiff, Nat.reduceAdd, hmy, cut_set _ _ _ _ hp, cut_und _ _ hu, Bool.false_eq_true]
     ·simp -implicitDefEqProofs -dsimp only [↓reduceIte, ↓W_seq, go_sem, Nat.reduceEqDiff, Nat.reduceAdd, Nat.reduceLeDiff, Int.cast_ofNat_Int, reduceCtorEq, enc, ho2, hne, hmy, x2, hp, hlim, lit, encs, encT_go s r _ hb, cut_set _ _ _ _ hp, cut_und _ _ hu, Int.natCast_add]
 ·have e1 : ((s.length : Int) - r.at' < 2) := by omega
  rw [List.getElem?_eq_none (by omega)]
  simp only
  simp -implicitDefEqProofs -dsimp only [↓reduceIte, ↓W_seq, go_sem, evNews, Nat.reduceEqDiff, reduceCtorEq, ho2, hne, x0, e1]
  refine (v24 s r p lim (d + 1) hp1 hlim _ (hun1 ..) (hob1 ..)).wh ?_
  simp -implicitDefEqProofs -dsimp only [↓reduceIte, go_sem, Nat.reduceEqDiff, Nat.reduceAdd, reduceCtorEq, hmy, cut_set _ _ _ _ hp, cut_und _ _ hu]
theorem repT_bad {s : List UInt8} {r : Rd} (h : r.bad = true) : isRepB s r = false := by simp [isRepB, nx_bad h, hasE]
theorem v45 (s : List UInt8) (r : Rd) (y : Nd) (hs : s.length ≤ 1000000) (hr : r.at' ≤ s.length) (p : Mv.Loc) (lim d : Nat) (hp : p.d < d) (hlim : lim ≤ p.d) (σ : Sto) (hu : σ.Und d) (ho : σ.ob p = some (encT s r)) :
  Ret lim d 109 [.ptr p 0, .agg (enc y)] σ (.agg (enc (repB s y r).1)) (σ.set p (encT s (repB s y r).2)) := by
 have hun := und_succ hu
 have hne := ne_my hp
 have hmy := my_ne hp
 have hp1 := Nat.lt_succ_of_lt hp
 have ho2 := ho
 rw [encT_eq] at ho2
 have hself := set_same ho
 unfold Ret
 rw [WF_body (C := X) rfl func109 rfl (by kernel_rfl)]; simp only [results109]
 unfold repB
 cases hb : r.bad
 case true =>
  rw [if_pos (repT_bad hb)]
  rw [hb] at ho2
  simp -implicitDefEqProofs -dsimp only [↓reduceIte, ↓W_seq, go_sem, Nat.reduceEqDiff, Nat.reduceAdd, Nat.reduceLT, reduceCtorEq, ho2, hne, enc_take, hself, cut_und _ _ hu]
 case false =>
  rw [hb] at ho2
  simp -implicitDefEqProofs -dsimp only [↓reduceIte, ↓W_seq, go_sem, Nat.reduceEqDiff, Nat.reduceAdd, Nat.reduceLT, reduceCtorEq, ho2, hne]
  refine (v43 s r hs hr p lim (d + 1) hp1 _ ?_ ?_).wh ?_
  ·simp only [u_tick, u_mine]; exact hun
  ·simp only [go_sem, hne, if_false]; exact ho
  cases hrep : isRepB s r
  ·rw [if_pos rfl]
   simp -implicitDefEqProofs -dsimp only [↓reduceIte, ↓W_seq, go_sem, Nat.reduceEqDiff, Nat.reduceAdd, enc_take, hself, cut_und _ _ hu]
  ·rw [if_neg (by simp)]
   obtain ⟨b1, b3⟩ := repB_some hrep
   by_cases hk4 : y.kind = 4 ∨ y.kind = 5
   ·rw [if_pos hk4]
    have hkk : (if (y.kind == 4) = true then true else y.kind == 5) = true := by rcases hk4 with h | h <;> simp [h]
    by_cases h4 : y.kind = 4
    ·have h4' : (y.kind == 4) = true := by simpa using h4
     simp -implicitDefEqProofs -dsimp only [↓reduceIte, ↓W_seq, go_sem, Nat.reduceEqDiff, reduceCtorEq, enc_kind, h4']
     refine (v24 s r p lim (d + 1) hp1 hlim _ ?_ ?_).wh ?_
     ·simp only [u_tick, u_mine]; exact hun
     ·simp only [go_sem, hne, if_false]; exact ho
     simp -implicitDefEqProofs -dsimp only [↓reduceIte, go_sem, Nat.reduceEqDiff, Nat.reduceAdd, hmy, cut_set _ _ _ _ hp, cut_und _ _ hu]
    ·have h4' : (y.kind == 4) = false := by simpa using h4
     have h5' : (y.kind == 5) = true := by rw [h4'] at hkk; simpa using hkk
     simp -implicitDefEqProofs -dsimp only [↓reduceIte, ↓W_seq, go_sem, Nat.reduceEqDiff, reduceCtorEq, enc_kind, h4', h5']
     refine (v24 s r p lim (d + 1) hp1 hlim _ ?_ ?_).wh ?_
     ·simp only [u_tick, u_mine]; exact hun
     ·simp only [go_sem, hne, if_false]; exact ho
     simp -implicitDefEqProofs -dsimp only [↓reduceIte, go_sem, Nat.reduceEqDiff, Nat.reduceAdd, hmy, cut_set _ _ _ _ hp, cut_und _ _ hu]
   ·rw [if_neg hk4]
    have h4' : (y.kind == 4) = false := by rw [beq_eq_false_iff_ne]; exact fun h => hk4 (.inl h)
    have h5' : (y.kind == 5) = false := by rw [beq_eq_false_iff_ne]; exact fun h => hk4 (.inr h)
    simp -implicitDefEqProofs -dsimp only [↓reduceIte, ↓W_seq, go_sem, Nat.reduceEqDiff, reduceCtorEq, enc_kind, h4', h5']
    refine (v60 s r hs hrep p lim (d + 1) hp1 _ ?_ ?_).wh ?_
    ·simp only [u_tick, u_mine]; exact hun
    ·simp only [go_sem, hne, if_false]; exact ho
    cases hbd : timesB s r with
    | none =>
     simp -implicitDefEqProofs -dsimp only [↓reduceIte, ↓W_seq, go_sem, Nat.reduceEqDiff, reduceCtorEq, timV_none]
     refine (v24 s r p lim (d + 1) hp1 hlim _ ?_ ?_).wh ?_
     ·simp only [u_tick, u_mine]; exact hun
     ·simp only [go_sem, hne, if_false]; exact ho
     simp -implicitDefEqProofs -dsimp only [↓reduceIte, go_sem, Nat.reduceEqDiff, Nat.reduceAdd, hmy, cut_set _ _ _ _ hp, cut_und _ _ hu]
    | some x =>
     have hy := timB_go s _ b3 x hbd
     have hR : [MV.str s, .int .i64 x.2.2, .bool false, .int .i64 r.g, .bool false] = encT s (r.go x.2.2) := (encT_go s r _ hb).symm
     simp -implicitDefEqProofs -dsimp only [↓reduceIte, ↓W_seq, go_sem, Nat.reduceEqDiff, Nat.reduceAdd, Nat.reduceLeDiff, reduceCtorEq, timV_some, ho2, hne, hp, hlim, hR]
     refine (v43 s (r.go x.2.2) hs hy.2 p lim (d + 1) hp1 _ ?_ ?_).wh ?_
     ·simp only [u_tick, u_set _ _ _ _ hp1, u_mine]; exact hun
     ·simp only [go_sem, hne, if_true, if_false]
     cases hr3 : isRepB s (r.go x.2.2)
     ·simp -implicitDefEqProofs -dsimp only [↓reduceIte, ↓W_seq, go_sem, Nat.reduceEqDiff, Nat.reduceAdd, Nat.reduceMul, Nat.reduceLeDiff, Nat.reduceLT, enc, hmy, hr3, encs, cut_set _ _ _ _ hp, cut_und _ _ hu, enc_take, Bool.false_eq_true]
     ·simp -implicitDefEqProofs -dsimp only [↓reduceIte, ↓W_seq, go_sem, reduceCtorEq]
      refine (v24 s (r.go x.2.2) p lim (d + 1) hp1 hlim _ ?_ ?_).wh ?_
      ·simp only [u_tick, u_set _ _ _ _ hp1, u_mine]; exact hun
      ·simp only [go_sem, hne, if_true, if_false]
      simp -implicitDefEqProofs -dsimp only [↓reduceIte, go_sem, Nat.reduceEqDiff, Nat.reduceAdd, hmy, hr3, cut_set _ _ _ _ hp, cut_und _ _ hu]
end Go.Proofs.Tryz.E
