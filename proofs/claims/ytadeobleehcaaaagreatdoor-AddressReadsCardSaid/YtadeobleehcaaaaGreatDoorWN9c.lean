/- Walks: what the functions compute. Walks: what the functions compute. -/
import Derived.Test.YtadeobleehcaaaaGreatDoorWN9
set_option linter.unusedVariables false
set_option linter.unusedSimpArgs false
/- Addresses: the program's reader of one, of the second, of both. -/
namespace Go.Proofs.Tryz.E
open Go.Mv
set_option maxHeartbeats 4000000
set_option maxRecDepth 20000
theorem oneR_dig {ext : Bool} {s : List UInt8} {n : Nat} (h : dig (pkL s n) = true) : oneR ext s n = if dgL s n = 0 ∨ 1000000000 < numW s n then ((zAd, 9), n) else (((1, numW s n, zn), 0), n + dgL s n) := by unfold oneR; rw [if_pos h]
theorem oneR_36 {ext : Bool} {s : List UInt8} {n : Nat} (h : pkL s n = 36) : oneR ext s n = (((2, 0, zn), 0), n + 1) := by
 unfold oneR
 rw [if_neg (by rw [h]; decide), if_pos h]
theorem oneR_47 {ext : Bool} {s : List UInt8} {n : Nat} (h : pkL s n = 47) : oneR ext s n = delR ext s (n + 1) 47 := by
 unfold oneR
 rw [if_neg (by rw [h]; decide), if_neg (by rw [h]; decide), if_pos h]
theorem oneR_92 {ext : Bool} {s : List UInt8} {n : Nat} (h : pkL s n = 92) : oneR ext s n = if s.length ≤ n + 1 ∨ pkL s (n + 1) = 92 ∨ pkL s (n + 1) = 10 then ((zAd, 9), n + 1) else delR ext s (n + 2) (pkL s (n + 1)) := by
 unfold oneR
 rw [if_neg (by rw [h]; decide), if_neg (by rw [h]; decide), if_neg (by rw [h]; decide), if_pos h]
theorem oneR_no {ext : Bool} {s : List UInt8} {n : Nat} (h : ¬ dig (pkL s n) = true) (h1 : pkL s n ≠ 36) (h2 : pkL s n ≠ 47) (h3 : pkL s n ≠ 92) : oneR ext s n = ((zAd, 0), n) := by
 unfold oneR
 rw [if_neg h, if_neg h1, if_neg h2, if_neg h3]
section
variable (s : List UInt8) (hs : s.length ≤ 100000)
include hs
theorem w308g (ext : Bool) (n : Nat) (hn : n ≤ s.length) (p : Mv.Loc) (lim d : Nat) (hp : p.d < d) (hlim : lim ≤ p.d) (σ : Sto) (hu : σ.Und d) (ho : σ.ob p = some (encL s n)) :
  Ret lim d 14 [.ptr p 0, .bool ext] σ (oneV (oneR ext s n).1) (σ.set p (encL s (oneR ext s n).2)) := by
 have hun := und_succ hu
 have hne := ne_my hp
 have hmy := my_ne hp
 have hp1 := Nat.lt_succ_of_lt hp
 have hob1 : ∀ (t c : Nat) (cs : List MV), ((σ.set ⟨d, t, c⟩ cs).tick d).ob p = some (encL s n) := fun t c cs => by simp only [go_sem, hne, if_false]; exact ho
 unfold Ret
 rw [WF_body (C := X) rfl func14 rfl (by kernel_rfl)]; simp only [results14]
 simp -implicitDefEqProofs -dsimp only [↓reduceIte, ↓W_seq, go_sem, Nat.reduceEqDiff, Nat.reduceAdd, Nat.reduceLT, reduceCtorEq]
 refine (w309 s n hn p lim (d + 1) hp1 _ (by simp only [u_tick, u_mine]; exact hun) (hob1 ..)).wh ?_
 by_cases hd : dig (pkL s n) = true
 ·rw [oneR_dig hd]
  simp only [dig, Bool.and_eq_true, decide_eq_true_eq] at hd
  have e1 : (48 : Int) ≤ ((pkL s n).toNat : Int) := by omega
  have e2 : ((pkL s n).toNat : Int) ≤ 57 := by omega
  simp -implicitDefEqProofs -dsimp only [↓reduceIte, ↓W_seq, go_sem, Nat.reduceEqDiff, reduceCtorEq, e1, e2]
  refine (w313g s (by omega) n hn p lim (d + 1) hp1 hlim _ (by simp only [u_tick, u_mine]; exact hun) (hob1 ..)).wh ?_
  unfold numT numP
  by_cases hz : dgL s n = 0 ∨ 1000000000 < numW s n
  ·simp only [if_pos hz]
   simp -implicitDefEqProofs -dsimp only [↓reduceIte, ↓W_seq, go_sem, Nat.reduceEqDiff, Nat.reduceAdd, hmy, cut_set _ _ _ _ hp, cut_und _ _ hu]
   rfl
  ·simp only [if_neg hz]
   simp -implicitDefEqProofs -dsimp only [↓reduceIte, ↓W_seq, go_sem, Nat.reduceEqDiff, Nat.reduceAdd, Nat.reduceLeDiff, hmy, Bool.not_true, cut_set _ _ _ _ hp, cut_und _ _ hu]
   rfl
 have hgo : ∀ m, m ≤ s.length → ∀ (t c : Nat) (cs cs' : List MV), (((σ.set ⟨d, t, c⟩ cs).tick d).set p cs').Und (d + 1) := fun m hm t c cs cs' => by simp only [u_set _ _ _ _ hp1, u_tick, u_mine]; exact hun
 by_cases h36 : pkL s n = 36
 ·have hlt := pk_lt (s := s) (n := n) (by rw [h36]; decide)
  rw [oneR_36 h36]
  simp -implicitDefEqProofs -dsimp only [↓reduceIte, ↓W_seq, go_sem, Nat.reduceEqDiff, Int.cast_ofNat_Int, Int.reduceLE, reduceCtorEq, h36, UInt8.reduceToNat]
  refine (w312 s (by omega) n hlt p lim (d + 1) hp1 hlim _ (by simp only [u_tick, u_mine]; exact hun) (hob1 ..)).wh ?_
  simp -implicitDefEqProofs -dsimp only [↓reduceIte, ↓W_seq, go_sem, Nat.reduceEqDiff, Nat.reduceAdd, Nat.reduceLeDiff, hmy, cut_set _ _ _ _ hp, cut_und _ _ hu]
  rfl
 by_cases h47 : pkL s n = 47
 ·have hlt := pk_lt (s := s) (n := n) (by rw [h47]; decide)
  rw [oneR_47 h47]
  simp -implicitDefEqProofs -dsimp only [↓reduceIte, ↓W_seq, go_sem, Nat.reduceEqDiff, Int.cast_ofNat_Int, Int.reduceLE, reduceCtorEq, h47, UInt8.reduceToNat]
  refine (w312 s (by omega) n hlt p lim (d + 1) hp1 hlim _ (by simp only [u_tick, u_mine]; exact hun) (hob1 ..)).wh ?_
  simp -implicitDefEqProofs -dsimp only [↓reduceIte, go_sem, Nat.reduceEqDiff, Int.cast_ofNat_Int, h47, UInt8.reduceToNat]
  refine (w607 s hs ext 47 ⟨by decide, by decide⟩ (n + 1) (by omega) p lim (d + 1) hp1 hlim _ (by simp only [u_set _ _ _ _ hp1, u_tick, u_mine]; exact hun) (by simp only [go_sem, if_true])).wh ?_
  generalize delR ext s (n + 1) 47 = R
  obtain ⟨⟨⟨k, v, nd⟩, e⟩, m⟩ := R
  simp only [oneV, adV, encA]
  simp -implicitDefEqProofs -dsimp only [↓reduceIte, go_sem, Nat.reduceEqDiff, Nat.reduceAdd, hmy, cut_set _ _ _ _ hp, cut_und _ _ hu]
 by_cases h92 : pkL s n = 92
 ·have hlt := pk_lt (s := s) (n := n) (by rw [h92]; decide)
  rw [oneR_92 h92]
  simp -implicitDefEqProofs -dsimp only [↓reduceIte, ↓W_seq, go_sem, Nat.reduceEqDiff, Int.cast_ofNat_Int, Int.reduceLE, reduceCtorEq, h92, UInt8.reduceToNat]
  refine (w312 s (by omega) n hlt p lim (d + 1) hp1 hlim _ (by simp only [u_tick, u_mine]; exact hun) (hob1 ..)).wh ?_
  by_cases hb : s.length ≤ n + 1 ∨ pkL s (n + 1) = 92 ∨ pkL s (n + 1) = 10
  ·rw [if_pos hb]
   simp -implicitDefEqProofs -dsimp only [↓reduceIte, ↓W_seq, go_sem, reduceCtorEq]
   refine (w608n s (n + 1) (by omega) hb p lim (d + 1) hp1 _ (by simp only [u_set _ _ _ _ hp1, u_tick, u_mine]; exact hun) (by simp only [go_sem, if_true])).wh ?_
   simp -implicitDefEqProofs -dsimp only [↓reduceIte, ↓W_seq, go_sem, Nat.reduceEqDiff, Nat.reduceAdd, Int.reduceBNe, hmy, cut_set _ _ _ _ hp, cut_und _ _ hu]
   rfl
  ·rw [if_neg hb]
   simp only [not_or] at hb
   simp -implicitDefEqProofs -dsimp only [↓reduceIte, ↓W_seq, go_sem, reduceCtorEq]
   refine (w608y s hs (n + 1) (by omega) hb.2.1 hb.2.2 p lim (d + 1) hp1 hlim _ (by simp only [u_set _ _ _ _ hp1, u_tick, u_mine]; exact hun) (by simp only [go_sem, if_true])).wh ?_
   simp -implicitDefEqProofs -dsimp only [↓reduceIte, ↓W_seq, go_sem, Nat.reduceEqDiff, Int.reduceBNe, reduceCtorEq]
   refine (w607 s hs ext (pkL s (n + 1)) ⟨hb.2.1, hb.2.2⟩ (n + 2) (by omega) p lim (d + 1) hp1 hlim _ (by simp only [u_set _ _ _ _ hp1, u_tick, u_mine]; exact hun) (by simp only [go_sem, if_true])).wh ?_
   generalize delR ext s (n + 2) (pkL s (n + 1)) = R
   obtain ⟨⟨⟨k, v, nd⟩, e⟩, m⟩ := R
   simp only [oneV, adV, encA]
   simp -implicitDefEqProofs -dsimp only [↓reduceIte, go_sem, Nat.reduceEqDiff, Nat.reduceAdd, hmy, cut_set _ _ _ _ hp, cut_und _ _ hu]
 rw [oneR_no hd h36 h47 h92, set_self ho]
 have q36 : (((pkL s n).toNat : Int) == 36) = false := byN h36
 have q47 : (((pkL s n).toNat : Int) == 47) = false := byN h47
 have q92 : (((pkL s n).toNat : Int) == 92) = false := byN h92
 simp only [dig, Bool.and_eq_true, decide_eq_true_eq] at hd
 by_cases g1 : (48 : Int) ≤ ((pkL s n).toNat : Int)
 ·have g2 : ¬ ((pkL s n).toNat : Int) ≤ 57 := by omega
  simp -implicitDefEqProofs -dsimp only [↓reduceIte, ↓W_seq, go_sem, Nat.reduceEqDiff, Nat.reduceAdd, g1, g2, q36, q47, q92, cut_und _ _ hu]
  rfl
 ·simp -implicitDefEqProofs -dsimp only [↓reduceIte, ↓W_seq, go_sem, Nat.reduceEqDiff, Nat.reduceAdd, g1, q36, q47, q92, cut_und _ _ hu]
  rfl
theorem w310g (ext : Bool) (n : Nat) (hn : n < s.length) (p : Mv.Loc) (lim d : Nat) (hp : p.d < d) (hlim : lim ≤ p.d) (σ : Sto) (hu : σ.Und d) (ho : σ.ob p = some (encL s n)) :
  Ret lim d 16 [.ptr p 0, .bool ext] σ (oneV (secR ext s (n + 1 + blL s (n + 1))).1) (σ.set p (encL s (secR ext s (n + 1 + blL s (n + 1))).2)) := by
 have hun := und_succ hu
 have hne := ne_my hp
 have hmy := my_ne hp
 have hp1 := Nat.lt_succ_of_lt hp
 have hb : n + 1 + blL s (n + 1) ≤ s.length := by have := blL_le s (n + 1) (by omega); omega
 unfold Ret
 rw [WF_body (C := X) rfl func16 rfl (by kernel_rfl)]; simp only [results16]
 simp -implicitDefEqProofs -dsimp only [↓reduceIte, ↓W_seq, go_sem, Nat.reduceEqDiff, Nat.reduceAdd, Nat.reduceLT, reduceCtorEq]
 refine (w312 s (by omega) n hn p lim (d + 1) hp1 hlim _ (by simp only [u_tick, u_mine]; exact hun) (by simp only [go_sem, hne, if_false]; exact ho)).wh ?_
 simp -implicitDefEqProofs -dsimp only [↓reduceIte, ↓W_seq, go_sem, reduceCtorEq]
 refine (w311 s (by omega) (n + 1) (by omega) p lim (d + 1) hp1 hlim _ (by simp only [u_set _ _ _ _ hp1, u_tick, u_mine]; exact hun) (by simp only [go_sem, if_true])).wh ?_
 simp -implicitDefEqProofs -dsimp only [↓reduceIte, ↓W_seq, go_sem, Nat.reduceEqDiff, reduceCtorEq]
 refine (w308g s hs ext _ hb p lim (d + 1) hp1 hlim _ (by simp only [u_set _ _ _ _ hp1, u_tick, u_mine]; exact hun) (by simp only [go_sem, if_true])).wh ?_
 unfold secR
 generalize oneR ext s (n + 1 + blL s (n + 1)) = R
 obtain ⟨⟨⟨k, v, nd⟩, e⟩, m⟩ := R
 simp only [oneV, adV, encA]
 by_cases he : e = 0
 ·subst he
  by_cases hk : k = 0
  ·subst hk
   simp -implicitDefEqProofs -dsimp only [↓reduceIte, ↓W_seq, go_sem, Nat.reduceEqDiff, Nat.reduceAdd, Nat.reduceLT, hmy, cut_set _ _ _ _ hp, cut_und _ _ hu]
  ·have k1 : (k == 0) = false := by simpa using hk
   simp -implicitDefEqProofs -dsimp only [↓reduceIte, ↓W_seq, go_sem, Nat.reduceEqDiff, Nat.reduceAdd, Nat.reduceLT, hk, k1, hmy, cut_set _ _ _ _ hp, cut_und _ _ hu]
 ·have e1 : (e == 0) = false := by simpa using he
  simp -implicitDefEqProofs -dsimp only [↓reduceIte, ↓W_seq, go_sem, Nat.reduceEqDiff, Nat.reduceAdd, Nat.reduceLT, he, e1, hmy, cut_set _ _ _ _ hp, cut_und _ _ hu]
end
def rgT (x : Rg × Int) : MV := .tup [.agg (rgV x.1), .int .i64 x.2]
section
variable {ext : Bool} {s : List UInt8} {n : Nat}
theorem rangeR_e (h : (oneR ext s n).1.2 ≠ 0) : rangeR ext s n = ((zRg, (oneR ext s n).1.2), (oneR ext s n).2) := by
 unfold rangeR; simp only [if_pos h]
theorem rangeR_1 (h : (oneR ext s n).1.2 = 0) (h2 : ¬ ((oneR ext s n).1.1.1 ≠ 0 ∧ pkL s (oneR ext s n).2 = 44)) : rangeR ext s n = endR s (oneR ext s n).1.1 zAd (oneR ext s n).2 := by
 unfold rangeR; simp only [if_neg (fun q => q h : ¬ (oneR ext s n).1.2 ≠ 0), if_neg h2]
theorem rangeR_2 (h : (oneR ext s n).1.2 = 0) (h2 : (oneR ext s n).1.1.1 ≠ 0 ∧ pkL s (oneR ext s n).2 = 44) : rangeR ext s n =
  if (secR ext s ((oneR ext s n).2 + 1 + blL s ((oneR ext s n).2 + 1))).1.2 ≠ 0 then ((zRg, (secR ext s ((oneR ext s n).2 + 1 + blL s ((oneR ext s n).2 + 1))).1.2), (secR ext s ((oneR ext s n).2 + 1 + blL s ((oneR ext s n).2 + 1))).2) else endR s (oneR ext s n).1.1 (secR ext s ((oneR ext s n).2 + 1 + blL s ((oneR ext s n).2 + 1))).1.1 (secR ext s ((oneR ext s n).2 + 1 + blL s ((oneR ext s n).2 + 1))).2 := by
 unfold rangeR; simp only [if_neg (fun q => q h : ¬ (oneR ext s n).1.2 ≠ 0), if_pos h2]
end
section
variable (s : List UInt8) (hs : s.length ≤ 100000)
include hs
theorem w305g (ext : Bool) (n : Nat) (hn : n ≤ s.length) (p : Mv.Loc) (lim d : Nat) (hp : p.d < d) (hlim : lim ≤ p.d) (σ : Sto) (hu : σ.Und d) (ho : σ.ob p = some (encL s n)) :
  Ret lim d 6 [.ptr p 0, .bool ext] σ (rgT (rangeR ext s n).1) (σ.set p (encL s (rangeR ext s n).2)) := by
 have hun := und_succ hu
 have hne := ne_my hp
 have hmy := my_ne hp
 have hp1 := Nat.lt_succ_of_lt hp
 have hm := oneR_le ext s n hn
 unfold Ret
 rw [WF_body (C := X) rfl func6 rfl (by kernel_rfl)]; simp only [results6]
 simp -implicitDefEqProofs -dsimp only [↓reduceIte, ↓W_seq, go_sem, Nat.reduceEqDiff, Nat.reduceAdd, Nat.reduceLT, reduceCtorEq]
 refine (w308g s hs ext n hn p lim (d + 1) hp1 hlim _ (by simp only [u_tick, u_mine]; exact hun) (by simp only [go_sem, hne, if_false]; exact ho)).wh ?_
 by_cases he : (oneR ext s n).1.2 = 0
 rotate_left
 ·rw [rangeR_e he]
  generalize oneR ext s n = R at he ⊢
  obtain ⟨⟨⟨k, v, kd, c, a0, a1, a2, a3, nn, mn, mx, l⟩, e⟩, m⟩ := R
  simp only at he
  have e1 : (e != 0) = true := by simpa using he
  simp only [oneV, adV, encA]
  simp -implicitDefEqProofs -dsimp only [↓reduceIte, ↓W_seq, go_sem, Nat.reduceEqDiff, Nat.reduceAdd, Nat.reduceLeDiff, enc, e1, hmy, cut_set _ _ _ _ hp, cut_und _ _ hu]
  rfl
 by_cases h2 : (oneR ext s n).1.1.1 ≠ 0 ∧ pkL s (oneR ext s n).2 = 44
 ·have hlt0 := pk_lt (s := s) (n := (oneR ext s n).2) (by rw [h2.2]; decide)
  have hb := blL_le s ((oneR ext s n).2 + 1) (by omega)
  have hm2 := secR_le ext s _ hb
  rw [rangeR_2 he h2]
  have hW := w310g s hs ext (oneR ext s n).2 hlt0 p lim (d + 1) hp1 hlim
  generalize secR ext s ((oneR ext s n).2 + 1 + blL s ((oneR ext s n).2 + 1)) = R2 at hm2 hW ⊢
  generalize oneR ext s n = R at he h2 hm hlt0 hb hW ⊢
  obtain ⟨⟨⟨k, v, kd, c, a0, a1, a2, a3, nn, mn, mx, l⟩, e⟩, m⟩ := R
  obtain ⟨⟨⟨k2, v2, kd2, c2, b0, b1, b2, b3, nn2, mn2, mx2, l2⟩, f⟩, m2⟩ := R2
  simp only at he h2 hm hm2 hlt0 hW
  subst he
  have k1 : (k != 0) = true := by simpa using h2.1
  have e44 : (((pkL s m).toNat : Int) == 44) = true := byY h2.2
  simp only [oneV, adV, encA] at hW ⊢
  simp -implicitDefEqProofs -dsimp only [↓reduceIte, ↓W_seq, go_sem, Nat.reduceEqDiff, Nat.reduceAdd, Nat.reduceLeDiff, Int.reduceBNe, reduceCtorEq, enc, hmy, k1]
  refine (w309 s m hm p lim (d + 1) hp1 _ (by simp only [u_set _ _ _ _ hp1, u_tick, u_mine]; exact hun) (by simp only [go_sem, hne, if_false, if_true])).wh ?_
  simp -implicitDefEqProofs -dsimp only [↓reduceIte, ↓W_seq, go_sem, Nat.reduceEqDiff, reduceCtorEq, enc, e44]
  refine (hW _ (by simp only [u_set _ _ _ _ hp1, u_tick, u_mine]; exact hun) (by simp only [go_sem, hne, if_false, if_true])).wh ?_
  by_cases hf : f = 0
  rotate_left
  ·have f1 : (f != 0) = true := by simpa using hf
   rw [if_pos hf]
   simp -implicitDefEqProofs -dsimp only [↓reduceIte, ↓W_seq, go_sem, Nat.reduceEqDiff, Nat.reduceAdd, Nat.reduceLeDiff, enc, f1, hmy, cut_set _ _ _ _ hp, cut_und _ _ hu]
   rfl
  subst hf
  rw [if_neg (fun q => q rfl)]
  replace hm := hm2
  simp -implicitDefEqProofs -dsimp only [↓reduceIte, ↓W_seq, go_sem, Nat.reduceEqDiff, Nat.reduceAdd, Nat.reduceLeDiff, Int.reduceBNe, reduceCtorEq, enc, hmy]
  refine (w311 s (by omega) m2 hm p lim (d + 1) hp1 hlim _ (by simp only [u_set _ _ _ _ hp1, u_tick, u_mine]; exact hun) (by simp only [go_sem, hne, if_false, if_true])).wh ?_
  have hm4 := blL_le s m2 hm
  simp -implicitDefEqProofs -dsimp only [↓reduceIte, ↓W_seq, go_sem, reduceCtorEq, enc]
  refine (w309 s (m2 + blL s m2) (by omega) p lim (d + 1) hp1 _ (by simp only [u_set _ _ _ _ hp1, u_tick, u_mine]; exact hun) (by simp only [go_sem, hne, if_false, if_true])).wh ?_
  unfold endR
  by_cases h33 : pkL s (m2 + blL s m2) = 33
  ·have e3 : (((pkL s (m2 + blL s m2)).toNat : Int) == 33) = true := byY h33
   have hlt := pk_lt (s := s) (n := m2 + blL s m2) (by rw [h33]; decide)
   have hm5 := blL_le s (m2 + blL s m2 + 1) (by omega)
   simp only [if_pos h33]
   simp -implicitDefEqProofs -dsimp only [↓reduceIte, ↓W_seq, go_sem, Nat.reduceEqDiff, Nat.reduceAdd, reduceCtorEq, enc, e3, hmy]
   refine (w312 s (by omega) (m2 + blL s m2) hlt p lim (d + 1) hp1 hlim _ (by simp only [u_set _ _ _ _ hp1, u_tick, u_mine]; exact hun) (by simp only [go_sem, hne, if_false, if_true])).wh ?_
   simp -implicitDefEqProofs -dsimp only [↓reduceIte, go_sem, reduceCtorEq, enc]
   refine (w311 s (by omega) (m2 + blL s m2 + 1) (by omega) p lim (d + 1) hp1 hlim _ (by simp only [u_set _ _ _ _ hp1, u_tick, u_mine]; exact hun) (by simp only [go_sem, hne, if_false, if_true])).wh ?_
   simp -implicitDefEqProofs -dsimp only [↓reduceIte, ↓W_seq, go_sem, Nat.reduceEqDiff, Nat.reduceAdd, enc, hmy, cut_set _ _ _ _ hp, cut_und _ _ hu]
   rfl
  ·have e3 : (((pkL s (m2 + blL s m2)).toNat : Int) == 33) = false := byN h33
   simp only [if_neg h33]
   simp -implicitDefEqProofs -dsimp only [↓reduceIte, ↓W_seq, go_sem, Nat.reduceEqDiff, Nat.reduceAdd, enc, e3, hmy, cut_set _ _ _ _ hp, cut_und _ _ hu]
   rfl
 ·rw [rangeR_1 he h2]
  generalize oneR ext s n = R at he h2 hm ⊢
  obtain ⟨⟨⟨k, v, kd, c, a0, a1, a2, a3, nn, mn, mx, l⟩, e⟩, m⟩ := R
  simp only at he h2 hm
  subst he
  simp only [oneV, adV, encA]
  by_cases hk : k = 0
  ·have k1 : (k != 0) = false := by simpa using hk
   simp -implicitDefEqProofs -dsimp only [↓reduceIte, ↓W_seq, go_sem, Nat.reduceEqDiff, Nat.reduceAdd, Nat.reduceLeDiff, Int.reduceBNe, reduceCtorEq, enc, hmy, k1]
   refine (w311 s (by omega) m hm p lim (d + 1) hp1 hlim _ (by simp only [u_set _ _ _ _ hp1, u_tick, u_mine]; exact hun) (by simp only [go_sem, hne, if_false, if_true])).wh ?_
   have hm4 := blL_le s m hm
   simp -implicitDefEqProofs -dsimp only [↓reduceIte, ↓W_seq, go_sem, reduceCtorEq, enc]
   refine (w309 s (m + blL s m) (by omega) p lim (d + 1) hp1 _ (by simp only [u_set _ _ _ _ hp1, u_tick, u_mine]; exact hun) (by simp only [go_sem, hne, if_false, if_true])).wh ?_
   unfold endR
   by_cases h33 : pkL s (m + blL s m) = 33
   ·have e3 : (((pkL s (m + blL s m)).toNat : Int) == 33) = true := byY h33
    have hlt := pk_lt (s := s) (n := m + blL s m) (by rw [h33]; decide)
    have hm5 := blL_le s (m + blL s m + 1) (by omega)
    simp only [if_pos h33]
    simp -implicitDefEqProofs -dsimp only [↓reduceIte, ↓W_seq, go_sem, Nat.reduceEqDiff, Nat.reduceAdd, reduceCtorEq, enc, e3, hmy]
    refine (w312 s (by omega) (m + blL s m) hlt p lim (d + 1) hp1 hlim _ (by simp only [u_set _ _ _ _ hp1, u_tick, u_mine]; exact hun) (by simp only [go_sem, hne, if_false, if_true])).wh ?_
    simp -implicitDefEqProofs -dsimp only [↓reduceIte, go_sem, reduceCtorEq, enc]
    refine (w311 s (by omega) (m + blL s m + 1) (by omega) p lim (d + 1) hp1 hlim _ (by simp only [u_set _ _ _ _ hp1, u_tick, u_mine]; exact hun) (by simp only [go_sem, hne, if_false, if_true])).wh ?_
    simp -implicitDefEqProofs -dsimp only [↓reduceIte, ↓W_seq, go_sem, Nat.reduceEqDiff, Nat.reduceAdd, enc, hmy, cut_set _ _ _ _ hp, cut_und _ _ hu]
    rfl
   ·have e3 : (((pkL s (m + blL s m)).toNat : Int) == 33) = false := byN h33
    simp only [if_neg h33]
    simp -implicitDefEqProofs -dsimp only [↓reduceIte, ↓W_seq, go_sem, Nat.reduceEqDiff, Nat.reduceAdd, enc, e3, hmy, cut_set _ _ _ _ hp, cut_und _ _ hu]
    rfl
  ·have k1 : (k != 0) = true := by simpa using hk
   have e44 : (((pkL s m).toNat : Int) == 44) = false := byN fun q => h2 ⟨hk, q⟩
   simp -implicitDefEqProofs -dsimp only [↓reduceIte, ↓W_seq, go_sem, Nat.reduceEqDiff, Nat.reduceAdd, Nat.reduceLeDiff, Int.reduceBNe, reduceCtorEq, enc, hmy, k1]
   refine (w309 s m hm p lim (d + 1) hp1 _ (by simp only [u_set _ _ _ _ hp1, u_tick, u_mine]; exact hun) (by simp only [go_sem, hne, if_false, if_true])).wh ?_
   simp -implicitDefEqProofs -dsimp only [↓reduceIte, ↓W_seq, go_sem, Nat.reduceEqDiff, reduceCtorEq, enc, e44]
   refine (w311 s (by omega) m hm p lim (d + 1) hp1 hlim _ (by simp only [u_set _ _ _ _ hp1, u_tick, u_mine]; exact hun) (by simp only [go_sem, hne, if_false, if_true])).wh ?_
   have hm4 := blL_le s m hm
   simp -implicitDefEqProofs -dsimp only [↓reduceIte, ↓W_seq, go_sem, reduceCtorEq, enc]
   refine (w309 s (m + blL s m) (by omega) p lim (d + 1) hp1 _ (by simp only [u_set _ _ _ _ hp1, u_tick, u_mine]; exact hun) (by simp only [go_sem, hne, if_false, if_true])).wh ?_
   unfold endR
   by_cases h33 : pkL s (m + blL s m) = 33
   ·have e3 : (((pkL s (m + blL s m)).toNat : Int) == 33) = true := byY h33
    have hlt := pk_lt (s := s) (n := m + blL s m) (by rw [h33]; decide)
    have hm5 := blL_le s (m + blL s m + 1) (by omega)
    simp only [if_pos h33]
    simp -implicitDefEqProofs -dsimp only [↓reduceIte, ↓W_seq, go_sem, Nat.reduceEqDiff, Nat.reduceAdd, reduceCtorEq, enc, e3, hmy]
    refine (w312 s (by omega) (m + blL s m) hlt p lim (d + 1) hp1 hlim _ (by simp only [u_set _ _ _ _ hp1, u_tick, u_mine]; exact hun) (by simp only [go_sem, hne, if_false, if_true])).wh ?_
    simp -implicitDefEqProofs -dsimp only [↓reduceIte, go_sem, reduceCtorEq, enc]
    refine (w311 s (by omega) (m + blL s m + 1) (by omega) p lim (d + 1) hp1 hlim _ (by simp only [u_set _ _ _ _ hp1, u_tick, u_mine]; exact hun) (by simp only [go_sem, hne, if_false, if_true])).wh ?_
    simp -implicitDefEqProofs -dsimp only [↓reduceIte, ↓W_seq, go_sem, Nat.reduceEqDiff, Nat.reduceAdd, enc, hmy, cut_set _ _ _ _ hp, cut_und _ _ hu]
    rfl
   ·have e3 : (((pkL s (m + blL s m)).toNat : Int) == 33) = false := byN h33
    simp only [if_neg h33]
    simp -implicitDefEqProofs -dsimp only [↓reduceIte, ↓W_seq, go_sem, Nat.reduceEqDiff, Nat.reduceAdd, enc, e3, hmy, cut_set _ _ _ _ hp, cut_und _ _ hu]
    rfl
end
end Go.Proofs.Tryz.E
