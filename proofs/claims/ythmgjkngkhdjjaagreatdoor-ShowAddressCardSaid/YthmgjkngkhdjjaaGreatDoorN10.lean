/- Walks: what the functions compute. -/
import Derived.Test.YthmgjkngkhdjjaaGreatDoorWN9c
set_option linter.unusedVariables false
set_option linter.unusedSimpArgs false
/- Addresses: the reference's reader. -/
namespace Go.Proofs.Tryz.E
open Go.Mv
set_option maxHeartbeats 4000000
set_option maxRecDepth 20000
theorem secR_9 {ext : Bool} {s : List UInt8} {n : Nat} (h : (oneR ext s n).1.2 = 0 ∧ (oneR ext s n).1.1.1 = 0) : secR ext s n = (((oneR ext s n).1.1, 9), (oneR ext s n).2) := if_pos h
theorem secR_s {ext : Bool} {s : List UInt8} {n : Nat} (h : ¬ ((oneR ext s n).1.2 = 0 ∧ (oneR ext s n).1.1.1 = 0)) : secR ext s n = oneR ext s n := if_neg h
theorem decN {a b : Nat} (h : ¬ a ≤ b) : decide (a ≤ b) = false := decide_eq_false h
theorem decY {a b : Nat} (h : a ≤ b) : decide (a ≤ b) = true := decide_eq_true h
section
variable (s : List UInt8) (hs : s.length ≤ 100000)
include hs
theorem w619 (ext : Bool) (c : UInt8) (hc : c ≠ 92 ∧ c ≠ 10) (n : Nat) (hn : n ≤ s.length) (p : Mv.Loc) (lim d : Nat) (hp : p.d < d) (hlim : lim ≤ p.d) (σ : Sto) (hu : σ.Und d) (ho : σ.ob p = some (encL s n)) :
  Ret lim d 35 [.ptr p 0, .int .u8 c.toNat, .bool ext] σ (oneV (delR ext s n c).1) (σ.set p (encL s (delR ext s n c).2)) := by
 have hun := und_succ hu
 have hne := ne_my hp
 have hmy := my_ne hp
 have hp1 := Nat.lt_succ_of_lt hp
 have hl := (delA_le c s n hn).2
 have hob : ∀ (t c : Nat) (cs : List MV), ((σ.set ⟨d, t, c⟩ cs).tick d).ob p = some (encL s n) := fun t c cs => by simp only [go_sem, hne, if_false]; exact ho
 rw [delR_snd]
 unfold Ret delR oneV
 rw [WF_body (C := X) rfl func35 rfl (by kernel_rfl)]; simp only [results35]
 simp -implicitDefEqProofs -dsimp only [go_sem]
 refine (w620 s (by omega) c hc n hn p lim (d + 1) hp1 hlim _ (by simp only [u_tick, u_mine]; exact hun) (hob ..)).wh ?_
 unfold dlV
 generalize delA c s n = D at hl ⊢
 obtain ⟨o, m⟩ := D
 cases o with
 | none =>
  simp -implicitDefEqProofs -dsimp only [go_sem, hmy, cut_set _ _ _ _ hp, cut_und _ _ hu]
  rfl
 | some t =>
  have ht := hl t rfl
  unfold patR
  by_cases h0 : t = []
  ·have e0 : (t == []) = true := by simpa using h0
   simp -implicitDefEqProofs -dsimp only [go_sem, h0, hmy, cut_set _ _ _ _ hp, cut_und _ _ hu]
   rfl
  ·have e0 : (t == []) = false := by simpa using h0
   have h9 : ∀ σ' : Sto, σ'.Und (d + 1) → Ret lim (d + 1) 50 [.str t, .bool ext] σ' (parseBV (rdP ext t)) σ' := fun σ' h => by
    cases ext
    ·exact v9 t (by omega) lim (d + 1) (by omega) σ' h
    ·exact w9 t (by omega) lim (d + 1) (by omega) σ' h
   have hz := rdP_sz ext t (by omega)
   simp -implicitDefEqProofs -dsimp only [go_sem, e0]
   refine (h9 _ (by simp only [u_set _ _ _ _ hp1, u_tick, u_mine]; exact hun)).wh ?_
   unfold parseBV
   obtain ⟨⟨x, a, e⟩, hR⟩ : ∃ y, rdP ext t = y := ⟨_, rfl⟩
   rw [hR]
   by_cases he : e = 0
   ·subst he
    simp -implicitDefEqProofs -dsimp only [go_sem, hmy, enc_take, cut_set _ _ _ _ hp, cut_und _ _ hu]
    simp only [if_neg h0, hR]
    rfl
   ·have e1 : (e != 0) = true := by simpa using he
    simp -implicitDefEqProofs -dsimp only [go_sem, e1, hmy, cut_set _ _ _ _ hp, cut_und _ _ hu]
    simp only [if_neg h0, hR]
    rw [if_pos he]
    rfl
theorem w612 (ext : Bool) (n : Nat) (hn : n ≤ s.length) (p : Mv.Loc) (lim d : Nat) (hp : p.d < d) (hlim : lim ≤ p.d) (σ : Sto) (hu : σ.Und d) (ho : σ.ob p = some (encL s n)) :
  Ret lim d 19 [.ptr p 0, .bool ext] σ (oneV (oneR ext s n).1) (σ.set p (encL s (oneR ext s n).2)) := by
 have hun := und_succ hu
 have hne := ne_my hp
 have hmy := my_ne hp
 have hp1 := Nat.lt_succ_of_lt hp
 have hob1 : ∀ (t c : Nat) (cs : List MV), ((σ.set ⟨d, t, c⟩ cs).tick d).ob p = some (encL s n) := fun t c cs => by simp only [go_sem, hne, if_false]; exact ho
 unfold Ret
 rw [WF_body (C := X) rfl func19 rfl (by kernel_rfl)]; simp only [results19]
 simp -implicitDefEqProofs -dsimp only [go_sem]
 refine (w613 s n p lim (d + 1) hp1 _ (by simp only [u_tick, u_mine]; exact hun) (hob1 ..)).wh ?_
 simp -implicitDefEqProofs -dsimp only [go_sem]
 refine (w616 (pkL s n) lim (d + 1) _ (by simp only [u_tick, u_mine]; exact hun)).wh ?_
 by_cases hd : dig (pkL s n) = true
 ·rw [oneR_dig hd]
  simp -implicitDefEqProofs -dsimp only [go_sem, hd]
  refine (w617 s (by omega) n hn p lim (d + 1) hp1 hlim _ (by simp only [u_tick, u_mine]; exact hun) (hob1 ..)).wh ?_
  unfold numT numP
  by_cases hz : dgL s n = 0 ∨ 1000000000 < numW s n
  ·simp only [if_pos hz]
   simp -implicitDefEqProofs -dsimp only [go_sem, hmy, cut_set _ _ _ _ hp, cut_und _ _ hu]
   rfl
  ·simp only [if_neg hz]
   simp -implicitDefEqProofs -dsimp only [go_sem, hmy, Bool.not_true, cut_set _ _ _ _ hp, cut_und _ _ hu]
   rfl
 have hdg : dig (pkL s n) = false := by simpa using hd
 by_cases h36 : pkL s n = 36
 ·have hlt := pk_lt (s := s) (n := n) (by rw [h36]; decide)
  have q36 : (((pkL s n).toNat : Int) == 36) = true := byY h36
  rw [oneR_36 h36]
  simp -implicitDefEqProofs -dsimp only [go_sem, hdg, q36]
  refine (w618 s n p lim (d + 1) hp1 _ (by simp only [u_tick, u_mine]; exact hun) (hob1 ..)).wh ?_
  simp -implicitDefEqProofs -dsimp only [go_sem, decN (Nat.not_le.2 hlt)]
  refine (w614 s (by omega) n hlt p lim (d + 1) hp1 hlim _ (by simp only [u_tick, u_mine]; exact hun) (hob1 ..)).wh ?_
  simp -implicitDefEqProofs -dsimp only [go_sem, hmy, cut_set _ _ _ _ hp, cut_und _ _ hu]
  rfl
 have q36 : (((pkL s n).toNat : Int) == 36) = false := byN h36
 by_cases h47 : pkL s n = 47
 ·have hlt := pk_lt (s := s) (n := n) (by rw [h47]; decide)
  have q47 : (((pkL s n).toNat : Int) == 47) = true := byY h47
  rw [oneR_47 h47]
  simp -implicitDefEqProofs -dsimp only [go_sem, hdg, q36, q47]
  refine (w614 s (by omega) n hlt p lim (d + 1) hp1 hlim _ (by simp only [u_tick, u_mine]; exact hun) (hob1 ..)).wh ?_
  simp -implicitDefEqProofs -dsimp only [go_sem]
  refine (w619 s hs ext 47 ⟨by decide, by decide⟩ (n + 1) (by omega) p lim (d + 1) hp1 hlim _ (by simp only [u_set _ _ _ _ hp1, u_tick, u_mine]; exact hun) (by simp only [go_sem, hne, if_false, if_true])).wh ?_
  generalize delR ext s (n + 1) 47 = R
  obtain ⟨⟨⟨k, v, nd⟩, e⟩, m⟩ := R
  simp only [oneV, adV, encA]
  simp -implicitDefEqProofs -dsimp only [go_sem, hmy, cut_set _ _ _ _ hp, cut_und _ _ hu]
 have q47 : (((pkL s n).toNat : Int) == 47) = false := byN h47
 by_cases h92 : pkL s n = 92
 ·have hlt := pk_lt (s := s) (n := n) (by rw [h92]; decide)
  have q92 : (((pkL s n).toNat : Int) == 92) = true := byY h92
  rw [oneR_92 h92]
  simp -implicitDefEqProofs -dsimp only [go_sem, hdg, q36, q47, q92]
  refine (w614 s (by omega) n hlt p lim (d + 1) hp1 hlim _ (by simp only [u_tick, u_mine]; exact hun) (hob1 ..)).wh ?_
  simp -implicitDefEqProofs -dsimp only [go_sem]
  refine (w618 s (n + 1) p lim (d + 1) hp1 _ (by simp only [u_set _ _ _ _ hp1, u_tick, u_mine]; exact hun) (by simp only [go_sem, hne, if_false, if_true])).wh ?_
  by_cases hb : s.length ≤ n + 1
  ·rw [if_pos (Or.inl hb)]
   simp -implicitDefEqProofs -dsimp only [go_sem, decY hb, hmy, cut_set _ _ _ _ hp, cut_und _ _ hu]
   rfl
  simp -implicitDefEqProofs -dsimp only [go_sem, decN hb]
  refine (w613 s (n + 1) p lim (d + 1) hp1 _ (by simp only [u_set _ _ _ _ hp1, u_tick, u_mine]; exact hun) (by simp only [go_sem, hne, if_false, if_true])).wh ?_
  by_cases hb1 : pkL s (n + 1) = 92
  ·have r92 : (((pkL s (n + 1)).toNat : Int) == 92) = true := byY hb1
   rw [if_pos (Or.inr (Or.inl hb1))]
   simp -implicitDefEqProofs -dsimp only [go_sem, r92, hmy, cut_set _ _ _ _ hp, cut_und _ _ hu]
   rfl
  have r92 : (((pkL s (n + 1)).toNat : Int) == 92) = false := byN hb1
  by_cases hb2 : pkL s (n + 1) = 10
  ·have r10 : (((pkL s (n + 1)).toNat : Int) == 10) = true := byY hb2
   rw [if_pos (Or.inr (Or.inr hb2))]
   simp -implicitDefEqProofs -dsimp only [go_sem, r92, r10, hmy, cut_set _ _ _ _ hp, cut_und _ _ hu]
   rfl
  have r10 : (((pkL s (n + 1)).toNat : Int) == 10) = false := byN hb2
  rw [if_neg (fun q => q.elim hb fun q => q.elim hb1 hb2)]
  simp -implicitDefEqProofs -dsimp only [go_sem, r92, r10]
  refine (w614 s (by omega) (n + 1) (by omega) p lim (d + 1) hp1 hlim _ (by simp only [u_set _ _ _ _ hp1, u_tick, u_mine]; exact hun) (by simp only [go_sem, hne, if_false, if_true])).wh ?_
  simp -implicitDefEqProofs -dsimp only [go_sem]
  refine (w619 s hs ext (pkL s (n + 1)) ⟨hb1, hb2⟩ (n + 2) (by omega) p lim (d + 1) hp1 hlim _ (by simp only [u_set _ _ _ _ hp1, u_tick, u_mine]; exact hun) (by simp only [go_sem, hne, if_false, if_true])).wh ?_
  generalize delR ext s (n + 2) (pkL s (n + 1)) = R
  obtain ⟨⟨⟨k, v, nd⟩, e⟩, m⟩ := R
  simp only [oneV, adV, encA]
  simp -implicitDefEqProofs -dsimp only [go_sem, hmy, cut_set _ _ _ _ hp, cut_und _ _ hu]
 have q92 : (((pkL s n).toNat : Int) == 92) = false := byN h92
 rw [oneR_no hd h36 h47 h92, set_self ho]
 simp -implicitDefEqProofs -dsimp only [go_sem, hdg, q36, q47, q92, cut_und _ _ hu]
 rfl
theorem w611 (ext : Bool) (n : Nat) (hn : n ≤ s.length) (p : Mv.Loc) (lim d : Nat) (hp : p.d < d) (hlim : lim ≤ p.d) (σ : Sto) (hu : σ.Und d) (ho : σ.ob p = some (encL s n)) :
  Ret lim d 9 [.ptr p 0, .bool ext] σ (rgT (rangeR ext s n).1) (σ.set p (encL s (rangeR ext s n).2)) := by
 have hun := und_succ hu
 have hne := ne_my hp
 have hmy := my_ne hp
 have hp1 := Nat.lt_succ_of_lt hp
 have hm := oneR_le ext s n hn
 unfold Ret
 rw [WF_body (C := X) rfl func9 rfl (by kernel_rfl)]; simp only [results9]
 simp -implicitDefEqProofs -dsimp only [go_sem]
 refine (w612 s hs ext n hn p lim (d + 1) hp1 hlim _ (by simp only [u_tick, u_mine]; exact hun) (by simp only [go_sem, hne, if_false]; exact ho)).wh ?_
 by_cases he : (oneR ext s n).1.2 = 0
 rotate_left
 ·rw [rangeR_e he]
  generalize oneR ext s n = R at he ⊢
  obtain ⟨⟨⟨k, v, kd, c, a0, a1, a2, a3, nn, mn, mx, l⟩, e⟩, m⟩ := R
  simp only at he
  have e1 : (e != 0) = true := by simpa using he
  simp only [oneV, adV, encA]
  simp -implicitDefEqProofs -dsimp only [go_sem, enc, e1, hmy, cut_set _ _ _ _ hp, cut_und _ _ hu]
  rfl
 by_cases h2 : (oneR ext s n).1.1.1 ≠ 0 ∧ pkL s (oneR ext s n).2 = 44
 ·have hlt0 := pk_lt (s := s) (n := (oneR ext s n).2) (by rw [h2.2]; decide)
  have hb := blL_le s ((oneR ext s n).2 + 1) (by omega)
  have hm2 := oneR_le ext s _ hb
  have hW := w612 s hs ext ((oneR ext s n).2 + 1 + blL s ((oneR ext s n).2 + 1)) hb p lim (d + 1) hp1 hlim
  by_cases hs9 : (oneR ext s ((oneR ext s n).2 + 1 + blL s ((oneR ext s n).2 + 1))).1.2 = 0 ∧ (oneR ext s ((oneR ext s n).2 + 1 + blL s ((oneR ext s n).2 + 1))).1.1.1 = 0
  ·rw [rangeR_2 he h2, secR_9 hs9, if_pos (show (9 : Int) ≠ 0 by decide)]
   generalize oneR ext s ((oneR ext s n).2 + 1 + blL s ((oneR ext s n).2 + 1)) = R2 at hm2 hW hs9 ⊢
   generalize oneR ext s n = R at he h2 hm hlt0 hb hW ⊢
   obtain ⟨⟨⟨k, v, kd, c, a0, a1, a2, a3, nn, mn, mx, l⟩, e⟩, m⟩ := R
   obtain ⟨⟨⟨k2, v2, kd2, c2, b0, b1, b2, b3, nn2, mn2, mx2, l2⟩, f⟩, m2⟩ := R2
   simp only at he h2 hm hm2 hlt0 hb hW hs9
   subst he
   have k1 : (k != 0) = true := by simpa using h2.1
   have e44 : (((pkL s m).toNat : Int) == 44) = true := byY h2.2
   simp only [oneV, adV, encA] at hW ⊢
   simp -implicitDefEqProofs -dsimp only [go_sem, enc, hmy, k1]
   refine (w613 s m p lim (d + 1) hp1 _ (by simp only [u_set _ _ _ _ hp1, u_tick, u_mine]; exact hun) (by simp only [go_sem, hne, if_false, if_true])).wh ?_
   simp -implicitDefEqProofs -dsimp only [go_sem, enc, e44]
   refine (w614 s (by omega) m hlt0 p lim (d + 1) hp1 hlim _ (by simp only [u_set _ _ _ _ hp1, u_tick, u_mine]; exact hun) (by simp only [go_sem, hne, if_false, if_true])).wh ?_
   simp -implicitDefEqProofs -dsimp only [go_sem, enc]
   refine (w615 s (by omega) (m + 1) (by omega) p lim (d + 1) hp1 hlim _ (by simp only [u_set _ _ _ _ hp1, u_tick, u_mine]; exact hun) (by simp only [go_sem, hne, if_false, if_true])).wh ?_
   simp -implicitDefEqProofs -dsimp only [go_sem, enc]
   refine (hW _ (by simp only [u_set _ _ _ _ hp1, u_tick, u_mine]; exact hun) (by simp only [go_sem, hne, if_false, if_true])).wh ?_
   obtain ⟨rfl, rfl⟩ := hs9
   simp -implicitDefEqProofs -dsimp only [go_sem, enc, hmy, cut_set _ _ _ _ hp, cut_und _ _ hu]
   rfl
  rw [rangeR_2 he h2, secR_s hs9]
  generalize oneR ext s ((oneR ext s n).2 + 1 + blL s ((oneR ext s n).2 + 1)) = R2 at hm2 hW hs9 ⊢
  generalize oneR ext s n = R at he h2 hm hlt0 hb hW ⊢
  obtain ⟨⟨⟨k, v, kd, c, a0, a1, a2, a3, nn, mn, mx, l⟩, e⟩, m⟩ := R
  obtain ⟨⟨⟨k2, v2, kd2, c2, b0, b1, b2, b3, nn2, mn2, mx2, l2⟩, f⟩, m2⟩ := R2
  simp only at he h2 hm hm2 hlt0 hb hW hs9
  subst he
  have k1 : (k != 0) = true := by simpa using h2.1
  have e44 : (((pkL s m).toNat : Int) == 44) = true := byY h2.2
  simp only [oneV, adV, encA] at hW ⊢
  simp -implicitDefEqProofs -dsimp only [go_sem, enc, hmy, k1]
  refine (w613 s m p lim (d + 1) hp1 _ (by simp only [u_set _ _ _ _ hp1, u_tick, u_mine]; exact hun) (by simp only [go_sem, hne, if_false, if_true])).wh ?_
  simp -implicitDefEqProofs -dsimp only [go_sem, enc, e44]
  refine (w614 s (by omega) m hlt0 p lim (d + 1) hp1 hlim _ (by simp only [u_set _ _ _ _ hp1, u_tick, u_mine]; exact hun) (by simp only [go_sem, hne, if_false, if_true])).wh ?_
  simp -implicitDefEqProofs -dsimp only [go_sem, enc]
  refine (w615 s (by omega) (m + 1) (by omega) p lim (d + 1) hp1 hlim _ (by simp only [u_set _ _ _ _ hp1, u_tick, u_mine]; exact hun) (by simp only [go_sem, hne, if_false, if_true])).wh ?_
  simp -implicitDefEqProofs -dsimp only [go_sem, enc]
  refine (hW _ (by simp only [u_set _ _ _ _ hp1, u_tick, u_mine]; exact hun) (by simp only [go_sem, hne, if_false, if_true])).wh ?_
  by_cases hf : f = 0
  rotate_left
  ·have f1 : (f != 0) = true := by simpa using hf
   have f2 : (f == 0) = false := by simpa using hf
   simp -implicitDefEqProofs -dsimp only [go_sem, enc, f1, f2, hmy, cut_set _ _ _ _ hp, cut_und _ _ hu]
   rw [if_pos hf]
   exact ⟨rfl, rfl⟩
  subst hf
  have hk : ¬ k2 = 0 := fun q => hs9 ⟨rfl, q⟩
  have k2' : (k2 == 0) = false := by simpa using hk
  replace hm := hm2
  simp -implicitDefEqProofs -dsimp only [go_sem, enc, k2', hmy]
  refine (w615 s (by omega) m2 hm p lim (d + 1) hp1 hlim _ (by simp only [u_set _ _ _ _ hp1, u_tick, u_mine]; exact hun) (by simp only [go_sem, hne, if_false, if_true])).wh ?_
  have hm4 := blL_le s m2 hm
  simp -implicitDefEqProofs -dsimp only [go_sem, enc]
  refine (w613 s (m2 + blL s m2) p lim (d + 1) hp1 _ (by simp only [u_set _ _ _ _ hp1, u_tick, u_mine]; exact hun) (by simp only [go_sem, hne, if_false, if_true])).wh ?_
  unfold endR
  by_cases h33 : pkL s (m2 + blL s m2) = 33
  ·have e3 : (((pkL s (m2 + blL s m2)).toNat : Int) == 33) = true := byY h33
   have hlt := pk_lt (s := s) (n := m2 + blL s m2) (by rw [h33]; decide)
   have hm5 := blL_le s (m2 + blL s m2 + 1) (by omega)
   simp only [if_pos h33]
   simp -implicitDefEqProofs -dsimp only [go_sem, enc, e3]
   refine (w614 s (by omega) (m2 + blL s m2) hlt p lim (d + 1) hp1 hlim _ (by simp only [u_set _ _ _ _ hp1, u_tick, u_mine]; exact hun) (by simp only [go_sem, hne, if_false, if_true])).wh ?_
   simp -implicitDefEqProofs -dsimp only [go_sem, enc, hmy]
   refine (w615 s (by omega) (m2 + blL s m2 + 1) (by omega) p lim (d + 1) hp1 hlim _ (by simp only [u_set _ _ _ _ hp1, u_tick, u_mine]; exact hun) (by simp only [go_sem, hne, if_false, if_true])).wh ?_
   simp -implicitDefEqProofs -dsimp only [go_sem, enc, hmy, cut_set _ _ _ _ hp, cut_und _ _ hu]
   first | rfl | exact ⟨rfl, rfl⟩
  ·have e3 : (((pkL s (m2 + blL s m2)).toNat : Int) == 33) = false := byN h33
   simp only [if_neg h33]
   simp -implicitDefEqProofs -dsimp only [go_sem, enc, e3, hmy, cut_set _ _ _ _ hp, cut_und _ _ hu]
   first | rfl | exact ⟨rfl, rfl⟩
 ·rw [rangeR_1 he h2]
  generalize oneR ext s n = R at he h2 hm ⊢
  obtain ⟨⟨⟨k, v, kd, c, a0, a1, a2, a3, nn, mn, mx, l⟩, e⟩, m⟩ := R
  simp only at he h2 hm
  subst he
  simp only [oneV, adV, encA]
  by_cases hk : k = 0
  ·have k1 : (k != 0) = false := by simpa using hk
   simp -implicitDefEqProofs -dsimp only [go_sem, enc, hmy, k1]
   refine (w615 s (by omega) m hm p lim (d + 1) hp1 hlim _ (by simp only [u_set _ _ _ _ hp1, u_tick, u_mine]; exact hun) (by simp only [go_sem, hne, if_false, if_true])).wh ?_
   have hm4 := blL_le s m hm
   simp -implicitDefEqProofs -dsimp only [go_sem, enc]
   refine (w613 s (m + blL s m) p lim (d + 1) hp1 _ (by simp only [u_set _ _ _ _ hp1, u_tick, u_mine]; exact hun) (by simp only [go_sem, hne, if_false, if_true])).wh ?_
   unfold endR
   by_cases h33 : pkL s (m + blL s m) = 33
   ·have e3 : (((pkL s (m + blL s m)).toNat : Int) == 33) = true := byY h33
    have hlt := pk_lt (s := s) (n := m + blL s m) (by rw [h33]; decide)
    have hm5 := blL_le s (m + blL s m + 1) (by omega)
    simp only [if_pos h33]
    simp -implicitDefEqProofs -dsimp only [go_sem, enc, e3]
    refine (w614 s (by omega) (m + blL s m) hlt p lim (d + 1) hp1 hlim _ (by simp only [u_set _ _ _ _ hp1, u_tick, u_mine]; exact hun) (by simp only [go_sem, hne, if_false, if_true])).wh ?_
    simp -implicitDefEqProofs -dsimp only [go_sem, enc, hmy]
    refine (w615 s (by omega) (m + blL s m + 1) (by omega) p lim (d + 1) hp1 hlim _ (by simp only [u_set _ _ _ _ hp1, u_tick, u_mine]; exact hun) (by simp only [go_sem, hne, if_false, if_true])).wh ?_
    simp -implicitDefEqProofs -dsimp only [go_sem, enc, hmy, cut_set _ _ _ _ hp, cut_und _ _ hu]
    first | rfl | exact ⟨rfl, rfl⟩
   ·have e3 : (((pkL s (m + blL s m)).toNat : Int) == 33) = false := byN h33
    simp only [if_neg h33]
    simp -implicitDefEqProofs -dsimp only [go_sem, enc, e3, hmy, cut_set _ _ _ _ hp, cut_und _ _ hu]
    first | rfl | exact ⟨rfl, rfl⟩
  ·have k1 : (k != 0) = true := by simpa using hk
   have e44 : (((pkL s m).toNat : Int) == 44) = false := byN fun q => h2 ⟨hk, q⟩
   simp -implicitDefEqProofs -dsimp only [go_sem, enc, hmy, k1]
   refine (w613 s m p lim (d + 1) hp1 _ (by simp only [u_set _ _ _ _ hp1, u_tick, u_mine]; exact hun) (by simp only [go_sem, hne, if_false, if_true])).wh ?_
   simp -implicitDefEqProofs -dsimp only [go_sem, enc, e44]
   refine (w615 s (by omega) m hm p lim (d + 1) hp1 hlim _ (by simp only [u_set _ _ _ _ hp1, u_tick, u_mine]; exact hun) (by simp only [go_sem, hne, if_false, if_true])).wh ?_
   have hm4 := blL_le s m hm
   simp -implicitDefEqProofs -dsimp only [go_sem, enc]
   refine (w613 s (m + blL s m) p lim (d + 1) hp1 _ (by simp only [u_set _ _ _ _ hp1, u_tick, u_mine]; exact hun) (by simp only [go_sem, hne, if_false, if_true])).wh ?_
   unfold endR
   by_cases h33 : pkL s (m + blL s m) = 33
   ·have e3 : (((pkL s (m + blL s m)).toNat : Int) == 33) = true := byY h33
    have hlt := pk_lt (s := s) (n := m + blL s m) (by rw [h33]; decide)
    have hm5 := blL_le s (m + blL s m + 1) (by omega)
    simp only [if_pos h33]
    simp -implicitDefEqProofs -dsimp only [go_sem, enc, e3]
    refine (w614 s (by omega) (m + blL s m) hlt p lim (d + 1) hp1 hlim _ (by simp only [u_set _ _ _ _ hp1, u_tick, u_mine]; exact hun) (by simp only [go_sem, hne, if_false, if_true])).wh ?_
    simp -implicitDefEqProofs -dsimp only [go_sem, enc, hmy]
    refine (w615 s (by omega) (m + blL s m + 1) (by omega) p lim (d + 1) hp1 hlim _ (by simp only [u_set _ _ _ _ hp1, u_tick, u_mine]; exact hun) (by simp only [go_sem, hne, if_false, if_true])).wh ?_
    simp -implicitDefEqProofs -dsimp only [go_sem, enc, hmy, cut_set _ _ _ _ hp, cut_und _ _ hu]
    first | rfl | exact ⟨rfl, rfl⟩
   ·have e3 : (((pkL s (m + blL s m)).toNat : Int) == 33) = false := byN h33
    simp only [if_neg h33]
    simp -implicitDefEqProofs -dsimp only [go_sem, enc, e3, hmy, cut_set _ _ _ _ hp, cut_und _ _ hu]
    first | rfl | exact ⟨rfl, rfl⟩
end
end Go.Proofs.Tryz.E
