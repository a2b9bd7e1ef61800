/- Walks: what the functions compute. Walks: what the functions compute. Walks: what the functions compute. -/
import Derived.Test.YthmgjkngkhdjjaaGreatDoorWE23
set_option linter.unusedVariables false
set_option linter.unusedSimpArgs false
/- The reader: bounds; what begins with a backslash; groups. -/
namespace Go.Proofs.Tryz.E
open Go.Mv
set_option maxHeartbeats 4000000
set_option maxRecDepth 20000
theorem brs_go (s : List UInt8) (n : Nat) (x : Int × Int × Nat) (h : bracesS s n = some x) : n < x.2.2 ∧ x.2.2 ≤ s.length := by
 unfold bracesS at h
 have l1 := digs_len s (n + 1)
 have l2 := digs_len s (n + 1 + (digsAt s (n + 1)).length + 1)
 have lt : ∀ k, s[k]? = some 125 → k < s.length := fun k hk => by
  rcases Nat.lt_or_ge k s.length with h | h
  ·exact h
  ·rw [List.getElem?_eq_none h] at hk; cases hk
 simp only at h
 split at h
 ·cases h
 ·split at h
  ·split at h
   ·rename_i h3; have := lt _ h3.1; cases h; simp only; omega
   ·cases h
  ·split at h
   ·rename_i h3; have := lt _ h3; cases h; simp only; omega
   ·cases h
theorem bnd_go (s : List UInt8) (n : Nat) (hn : n < s.length) (x : Int × Int × Nat) (h : boundsS s n = some x) : n < x.2.2 ∧ x.2.2 ≤ s.length := by
 unfold boundsS at h
 split at h
 ·exact brs_go s n x h
 ·split at h
  ·cases h; simp only; omega
  ·split at h <;> (cases h; simp only; omega)
theorem w54 (s : List UInt8) (r : Rd) (hs : s.length ≤ 1000000) (hr : r.at' < s.length) (hb : r.bad = false) (p : Mv.Loc) (lim d : Nat) (hp : p.d < d) (hlim : lim ≤ p.d) (σ : Sto) (hu : σ.Und d) (ho : σ.ob p = some (encP s r)) :
  Ret lim d 130 [.ptr p 0] σ (brcV (boundsS s r.at')) (σ.set p (encP s (brcR r (boundsS s r.at')))) := by
 have hun := und_succ hu
 have hp1 := Nat.lt_succ_of_lt hp
 have ho2 := ho
 rw [encP_good s r hb] at ho2
 have x1 := wr64 ((r.at' : Int) + 1) (by omega) (by omega)
 have g0 : s[r.at']? = some s[r.at'] := List.getElem?_eq_getElem hr
 have hnx : r.nx s = some s[r.at'] := by simp [Rd.nx, hb]
 unfold Ret
 rw [WF_body (C := X) rfl func130 rfl (by kernel_rfl)]; simp only [results130]
 simp -implicitDefEqProofs -dsimp only [go_sem]
 refine (w20 s r hs p lim (d + 1) hp1 _ hun ho).wh ?_
 rw [hnx]
 unfold boundsS
 rw [g0]
 cases h1 : s[r.at'] == 123
 ·have h1' : ¬ some s[r.at'] = some (123 : UInt8) := by simpa using h1
  rw [if_neg h1']
  cases h2 : s[r.at'] == 43
  ·have h2' : ¬ some s[r.at'] = some (43 : UInt8) := by simpa using h2
   rw [if_neg h2']
   cases h3 : s[r.at'] == 63
   ·have h3' : ¬ some s[r.at'] = some (63 : UInt8) := by simpa using h3
    rw [if_neg h3']
    simp -implicitDefEqProofs -dsimp only [go_sem, pkV_some, h1, h2, h3, ho2, x1, hp, hlim, brcV_some, brcR_some, encP_go s r _ hb, cut_set _ _ _ _ hp, cut_und _ _ hu, Int.natCast_add]
   ·have h3' : some s[r.at'] = some (63 : UInt8) := by simpa using h3
    rw [if_pos h3']
    simp -implicitDefEqProofs -dsimp only [go_sem, pkV_some, h1, h2, h3, ho2, x1, hp, hlim, brcV_some, brcR_some, encP_go s r _ hb, cut_set _ _ _ _ hp, cut_und _ _ hu, Int.natCast_add]
  ·have h2' : some s[r.at'] = some (43 : UInt8) := by simpa using h2
   rw [if_pos h2']
   simp -implicitDefEqProofs -dsimp only [go_sem, pkV_some, h1, h2, ho2, x1, hp, hlim, brcV_some, brcR_some, encP_go s r _ hb, cut_set _ _ _ _ hp, cut_und _ _ hu, Int.natCast_add]
 ·have h1' : some s[r.at'] = some (123 : UInt8) := by simpa using h1
  rw [if_pos h1']
  simp -implicitDefEqProofs -dsimp only [go_sem, pkV_some, h1]
  refine (w66 s r hs hr hb p lim (d + 1) hp1 hlim _ hun ho).wh ?_
  cases bracesS s r.at' with
  | none => simp -implicitDefEqProofs -dsimp only [go_sem, brcV_none, brcR_none, cut_set _ _ _ _ hp, cut_und _ _ hu]
  | some x => simp -implicitDefEqProofs -dsimp only [go_sem, brcV_some, brcR_some, cut_set _ _ _ _ hp, cut_und _ _ hu]
theorem its_is (b : UInt8) : ([46, 91, 93, 40, 41, 42, 43, 63, 123, 125, 124, 94, 36, 47, 92, 38, 45] : List UInt8).contains b = itselfS b := rfl
theorem idx_neg (t : List UInt8) (c : UInt8) : decide (idxB t c.toNat < 0) = !(t.contains c) := by
 rw [← idxB_in]
 by_cases h : idxB t c.toNat < 0
 ·have : ¬ (0 ≤ idxB t c.toNat) := by omega
  simp [h, this]
 ·have : (0 ≤ idxB t c.toNat) := by omega
  simp [h, this]
def NdR (s : List UInt8) (p : Mv.Loc) (σ : Sto) (x : Nd × Rd) (v : MV) (s' : Sto) : Prop := v = .agg (enc x.1) ∧ s' = σ.set p (encP s x.2)
theorem w63 (s : List UInt8) (r : Rd) (hs : s.length ≤ 1000000) (hr : r.at' < s.length) (hb : r.bad = false) (p : Mv.Loc) (lim d : Nat) (hp : p.d < d) (hlim : lim ≤ p.d) (σ : Sto) (hu : σ.Und d) (ho : σ.ob p = some (encP s r)) :
  Ret lim d 145 [.ptr p 0] σ (.agg (enc (escS s r).1)) (σ.set p (encP s (escS s r).2)) := by
 have hun := und_succ hu
 have hne := ne_my hp
 have hmy := my_ne hp
 have hp1 := Nat.lt_succ_of_lt hp
 have ho2 := ho
 rw [encP_good s r hb] at ho2
 have hun1 : ∀ (t c : Nat) (cs : List MV), ((σ.set ⟨d, t, c⟩ cs).tick d).Und (d + 1) := fun t c cs => by simp only [u_tick, u_mine]; exact hun
 have hob1 : ∀ (t c : Nat) (cs : List MV), ((σ.set ⟨d, t, c⟩ cs).tick d).ob p = some (encP s r) := fun t c cs => by simp only [go_sem, hne, if_false]; exact ho
 have x1 := wr64 ((r.at' : Int) + 1) (by omega) (by omega)
 have x2 := wr64 ((r.at' : Int) + 2) (by omega) (by omega)
 have t1 : ((r.at' : Int) + 1).toNat = r.at' + 1 := by omega
 have p1 : (0 : Int) ≤ (r.at' : Int) + 1 := by omega
 unfold Ret
 rw [WF_body (C := X) rfl func145 rfl (by kernel_rfl)]; simp only [results145]
 unfold escS
 simp -implicitDefEqProofs -dsimp only [go_sem]
 rw [D_dr (by kernel_rfl) rfl]
 by_cases hl : r.at' + 1 < s.length
 ·have e1 : ¬ ((s.length : Int) ≤ (r.at' : Int) + 1) := by omega
  have g1 : s[r.at' + 1]? = some s[r.at' + 1] := List.getElem?_eq_getElem hl
  rw [g1]
  simp only
  generalize s[r.at' + 1] = c at g1
  simp -implicitDefEqProofs -dsimp only [go_sem, ho2, hne, x1, e1]
  rw [D_dr (by kernel_rfl) rfl]
  cases h110 : c == 110
  ·have h110' : ¬ c = 110 := by simpa using h110
   rw [if_neg h110']
   by_cases h49 : 49 ≤ c.toNat ∧ c.toNat ≤ 57
   ·have e2 : ((49 : Int) ≤ (c.toNat : Int)) := by omega
    have e3 : ((c.toNat : Int) ≤ 57) := by omega
    have y1 := wru8 ((c.toNat : Int) - 48) (by omega) (by omega)
    have y2 := wr64 ((c.toNat : Int) - 48) (by omega) (by omega)
    rw [if_pos h49]
    simp -implicitDefEqProofs -dsimp only [go_sem, enc, ho2, hne, hmy, x1, x2, t1, p1, g1, h110, e2, e3, y1, y2, hp, hlim, encs, encP_go s r _ hb, cut_set _ _ _ _ hp, cut_und _ _ hu, Int.natCast_add]
   ·rw [if_neg h49]
    by_cases e2 : 49 ≤ c.toNat
    ·have e2' : ((49 : Int) ≤ (c.toNat : Int)) := by omega
     have e3 : ¬ ((c.toNat : Int) ≤ 57) := by omega
     cases hits : itselfS c
     ·simp -implicitDefEqProofs -dsimp only [go_sem, ho2, hne, x1, t1, p1, g1, h110, e2', e3]
      refine (w41 _ c lim (d + 1) _ ?_).wh ?_
      ·simp only [go_sem, u_tick, u_mine]; exact hun
      simp -implicitDefEqProofs -dsimp only [go_sem, idx_neg, its_is, hits]
      refine (w21 s r p lim (d + 1) hp1 hlim _ ?_ ?_).wh ?_
      ·simp only [go_sem, u_tick, u_mine]; exact hun
      ·simp only [go_sem, hne, if_false]; exact ho
      simp -implicitDefEqProofs -dsimp only [go_sem, hmy, cut_set _ _ _ _ hp, cut_und _ _ hu]
     ·simp -implicitDefEqProofs -dsimp only [go_sem, ho2, hne, x1, t1, p1, g1, h110, e2', e3]
      refine (w41 _ c lim (d + 1) _ ?_).wh ?_
      ·simp only [go_sem, u_tick, u_mine]; exact hun
      simp -implicitDefEqProofs -dsimp only [go_sem, enc, idx_neg, its_is, hits, ho2, hne, hmy, x2, hp, hlim, lit, encs, encP_go s r _ hb, cut_set _ _ _ _ hp, cut_und _ _ hu, Int.natCast_add]
    ·have e2' : ¬ ((49 : Int) ≤ (c.toNat : Int)) := by omega
     cases hits : itselfS c
     ·simp -implicitDefEqProofs -dsimp only [go_sem, ho2, hne, x1, t1, p1, g1, h110, e2']
      refine (w41 _ c lim (d + 1) _ ?_).wh ?_
      ·simp only [go_sem, u_tick, u_mine]; exact hun
      simp -implicitDefEqProofs -dsimp only [go_sem, idx_neg, its_is, hits]
      refine (w21 s r p lim (d + 1) hp1 hlim _ ?_ ?_).wh ?_
      ·simp only [go_sem, u_tick, u_mine]; exact hun
      ·simp only [go_sem, hne, if_false]; exact ho
      simp -implicitDefEqProofs -dsimp only [go_sem, hmy, cut_set _ _ _ _ hp, cut_und _ _ hu]
     ·simp -implicitDefEqProofs -dsimp only [go_sem, ho2, hne, x1, t1, p1, g1, h110, e2']
      refine (w41 _ c lim (d + 1) _ ?_).wh ?_
      ·simp only [go_sem, u_tick, u_mine]; exact hun
      simp -implicitDefEqProofs -dsimp only [go_sem, enc, idx_neg, its_is, hits, ho2, hne, hmy, x2, hp, hlim, lit, encs, encP_go s r _ hb, cut_set _ _ _ _ hp, cut_und _ _ hu, Int.natCast_add]
  ·have h110' : c = 110 := by simpa using h110
   rw [if_pos h110']
   simp -implicitDefEqProofs -dsimp only [go_sem, enc, ho2, hne, hmy, x1, x2, t1, p1, g1, h110, hp, hlim, lit, encs, encP_go s r _ hb, cut_set _ _ _ _ hp, cut_und _ _ hu, Int.natCast_add]
 ·have e1 : ((s.length : Int) ≤ (r.at' : Int) + 1) := by omega
  rw [List.getElem?_eq_none (by omega)]
  simp only
  simp -implicitDefEqProofs -dsimp only [go_sem, ho2, hne, x1, e1]
  refine (w21 s r p lim (d + 1) hp1 hlim _ (hun1 ..) (hob1 ..)).wh ?_
  simp -implicitDefEqProofs -dsimp only [go_sem, hmy, cut_set _ _ _ _ hp, cut_und _ _ hu]
def HR (s : List UInt8) (k : Nat) (rec : Rd → Nd × Rd) : Prop := ∀ r : Rd, r.bad = false → r.at' ≤ s.length → r.g ≤ 9 → 10 ≤ k + r.g → Gd s 0 3 r (rec r) ∧
 ∀ (lim d : Nat) (p : Mv.Loc) (σ : Sto), p.d < d → lim ≤ p.d → σ.Und d → σ.ob p = some (encP s r) → Ret lim d 62 [.ptr p 0] σ (.agg (enc (rec r).1)) (σ.set p (encP s (rec r).2))
theorem gd_group {s : List UInt8} {k : Nat} {rec : Rd → Nd × Rd} (H : HR s k rec) {r : Rd} (hr : r.at' < s.length) (hb : r.bad = false) (h9 : r.g ≤ 9) (hk : 10 ≤ k + 1 + r.g) : Gd s 2 1 r (groupS s rec r) := by
 unfold groupS
 by_cases hg : r.g = 9
 ·rw [if_pos hg]; exact gd_fail (by omega) h9
 ·rw [if_neg hg]
  obtain ⟨G, _⟩ := H ⟨r.at' + 1, r.g + 1, r.bad⟩ hb (by simp only; omega) (by simp only; omega) (by simp only; omega)
  generalize rec ⟨r.at' + 1, r.g + 1, r.bad⟩ = x at G
  have g1 := G.le
  have g2 := G.in'
  have g3 := G.gm
  have g4 := G.g9
  simp only at g1 g3 ⊢
  split
  ·rename_i hnx
   obtain ⟨b1, b2, b3⟩ := nx_some hnx
   have g5 := (G.good b1).2
   simp only at g5
   exact ⟨by simp only [Rd.go]; omega, by simp only [Rd.go]; omega, by simp only [Rd.go]; omega, g4, fun _ => ⟨by simp only [Rd.go]; omega, by simp only [Rd.go, sz_one]; omega⟩, fun q => by simp only [Rd.go] at q; rw [b1] at q; cases q⟩
  ·exact ⟨by simp only [Rd.fail]; omega, g2, by simp only [Rd.fail]; omega, g4, fun q => by simp [Rd.fail] at q, fun _ => by simp only [sz_z0]; omega⟩
theorem gd_esc {s : List UInt8} {r : Rd} (hr : r.at' < s.length) (hb : r.bad = false) (h9 : r.g ≤ 9) : Gd s 2 1 r (escS s r) := by
 unfold escS
 by_cases hl : r.at' + 1 < s.length
 ·rw [List.getElem?_eq_getElem hl]
  simp only
  have go : ∀ x : Nd, sz x = 1 → Gd s 2 1 r (x, r.go (r.at' + 2)) := fun x hx => ⟨by simp only [Rd.go]; omega, by simp only [Rd.go]; omega, Nat.le_refl _, h9, fun _ => ⟨by simp only [Rd.go]; omega, by simp only [Rd.go, hx]; omega⟩, fun q => by simp only [Rd.go] at q; rw [hb] at q; cases q⟩
  split
  ·exact go _ rfl
  ·split
   ·exact go _ rfl
   ·split
    ·exact go _ rfl
    ·exact gd_fail (by omega) h9
 ·rw [List.getElem?_eq_none (by omega)]
  exact gd_fail (by omega) h9
theorem gd_atom {s : List UInt8} {k : Nat} {rec : Rd → Nd × Rd} (H : HR s k rec) {r : Rd} (hr : r.at' < s.length) (hb : r.bad = false) (h9 : r.g ≤ 9) (hk : 10 ≤ k + 1 + r.g) : Gd s 2 1 r (atomS s rec r) := by
 unfold atomS
 rw [List.getElem?_eq_getElem hr]
 simp only
 have go : ∀ (x : Nd) (n : Nat), sz x = 1 → r.at' < n → n ≤ s.length → Gd s 2 1 r (x, r.go n) := fun x n hx h1 h2 => ⟨by simp only [Rd.go]; omega, by simp only [Rd.go]; omega, Nat.le_refl _, h9, fun _ => ⟨by simp only [Rd.go]; omega, by simp only [Rd.go, hx]; omega⟩, fun q => by simp only [Rd.go] at q; rw [hb] at q; cases q⟩
 split
 ·exact gd_group H hr hb h9 hk
 ·split
  ·exact gd_esc hr hb h9
  ·split
   ·cases hbr : bracketS (s.drop (r.at' + 1)) with
    | none => exact gd_fail (by omega) h9
    | some x =>
     have := bracket_le _ _ hbr
     rw [List.length_drop] at this
     exact go _ _ rfl (by omega) (by omega)
   ·split
    ·exact gd_fail (by omega) h9
    ·refine go _ _ ?_ (by omega) (by omega)
     unfold simpleS
     split
     ·rfl
     ·split
      ·rfl
      ·split <;> rfl
theorem gd_piece {s : List UInt8} {k : Nat} {rec : Rd → Nd × Rd} (H : HR s k rec) {r : Rd} (hr : r.at' < s.length) (hb : r.bad = false) (h9 : r.g ≤ 9) (hk : 10 ≤ k + 1 + r.g) : Gd s 2 1 r (pieceS s rec r) := by
 have G := gd_atom H hr hb h9 hk
 unfold pieceS
 simp only
 generalize atomS s rec r = x at G
 have g1 := G.le
 have g2 := G.in'
 have g3 := G.gm
 have g4 := G.g9
 have bad1 : ∀ n, r.at' ≤ n → n ≤ s.length → Gd s 2 1 r (z0, (x.2.go n).fail) := fun n h1 h2 => ⟨by simp only [Rd.fail, Rd.go]; omega, by simp only [Rd.fail, Rd.go]; omega, by simp only [Rd.fail, Rd.go]; omega, g4, fun q => by simp [Rd.fail] at q, fun _ => by simp only [sz_z0]; omega⟩
 have bad2 : Gd s 2 1 r (z0, x.2.fail) := by
  have := bad1 x.2.at' g1 g2
  exact this
 unfold repS
 split
 ·exact G
 ·rename_i hrep
  have hnx : ∃ c, x.2.nx s = some c := by
   cases h : x.2.nx s with
   | none => rw [h] at hrep; exact absurd rfl hrep
   | some c => exact ⟨c, rfl⟩
  obtain ⟨c, hc⟩ := hnx
  obtain ⟨b1, b2, b3⟩ := nx_some hc
  obtain ⟨g5, g6⟩ := G.good b1
  split
  ·exact bad2
  ·cases hbd : boundsS s x.2.at' with
   | none => exact bad2
   | some y =>
    have hy := bnd_go s _ b3 y hbd
    simp only
    split
    ·exact bad1 _ (by omega) hy.2
    ·exact ⟨by simp only [Rd.go]; omega, by simp only [Rd.go]; omega, by simp only [Rd.go]; omega, g4, fun _ => ⟨by simp only [Rd.go]; omega, by simp only [Rd.go, sz_one]; omega⟩, fun q => by simp only [Rd.go] at q; rw [b1] at q; cases q⟩
section
variable {s : List UInt8} {k : Nat} {rec : Rd → Nd × Rd} (H : HR s k rec)
include H
theorem w62 (r : Rd) (hs : s.length ≤ 100000) (hr : r.at' < s.length) (hb : r.bad = false) (h9 : r.g ≤ 9) (hk : 10 ≤ k + 1 + r.g) (p : Mv.Loc) (lim d : Nat) (hp : p.d < d) (hlim : lim ≤ p.d) (σ : Sto) (hu : σ.Und d) (ho : σ.ob p = some (encP s r)) :
  Ret lim d 144 [.ptr p 0] σ (.agg (enc (groupS s rec r).1)) (σ.set p (encP s (groupS s rec r).2)) := by
 have hun := und_succ hu
 have hne := ne_my hp
 have hmy := my_ne hp
 have hp1 := Nat.lt_succ_of_lt hp
 have ho2 := ho
 rw [encP_good s r hb] at ho2
 have x1 := wr64 ((r.at' : Int) + 1) (by omega) (by omega)
 have x2 := wr64 ((r.g : Int) + 1) (by omega) (by omega)
 have hun1 : ∀ (t c : Nat) (cs : List MV), ((σ.set ⟨d, t, c⟩ cs).tick d).Und (d + 1) := fun t c cs => by simp only [u_tick, u_mine]; exact hun
 have hob1 : ∀ (t c : Nat) (cs : List MV), ((σ.set ⟨d, t, c⟩ cs).tick d).ob p = some (encP s r) := fun t c cs => by simp only [go_sem, hne, if_false]; exact ho
 unfold Ret
 rw [WF_body (C := X) rfl func144 rfl (by kernel_rfl)]; simp only [results144]
 unfold groupS
 by_cases hg : r.g = 9
 ·have e1 : ((r.g : Int) == 9) = true := by rw [hg]; rfl
  rw [if_pos hg]
  simp -implicitDefEqProofs -dsimp only [go_sem, ho2, hne, e1]
  refine (w21 s r p lim (d + 1) hp1 hlim _ (hun1 ..) (hob1 ..)).wh ?_
  simp -implicitDefEqProofs -dsimp only [go_sem, hmy, cut_set _ _ _ _ hp, cut_und _ _ hu]
 ·have e1 : ((r.g : Int) == 9) = false := by rw [beq_eq_false_iff_ne]; omega
  rw [if_neg hg]
  have hR : [MV.str s, .int .i64 ((r.at' : Int) + 1), .int .i64 ((r.g : Int) + 1), .int .i64 (-1)] = encP s ⟨r.at' + 1, r.g + 1, r.bad⟩ := by rw [hb]; rfl
  obtain ⟨G, hw⟩ := H ⟨r.at' + 1, r.g + 1, r.bad⟩ hb (by simp only; omega) (by simp only; omega) (by simp only; omega)
  generalize rec ⟨r.at' + 1, r.g + 1, r.bad⟩ = x at G hw
  have g2 := G.in'
  have g4 := G.g9
  simp -implicitDefEqProofs -dsimp only [go_sem, ho2, hne, e1, x1, x2, hp, hlim, set_set]
  rw [hR]
  refine (hw lim (d + 1) p _ hp1 hlim ?_ ?_).wh ?_
  ·simp only [u_tick, u_set _ _ _ _ hp1, u_mine]; exact hun
  ·simp only [go_sem, if_true]
  simp -implicitDefEqProofs -dsimp only [go_sem, hmy]
  have hob : ∀ (S : Sto) (R : List MV), (S.set p R).ob p = some R := fun S R => by simp only [go_sem, if_true]
  refine (w31 s x.2 [41] (by omega) p lim (d + 1) hp1 _ ?_ ?_).wh ?_
  ·simp only [u_tick, u_own, u_set _ _ _ _ hp1, u_mine]; exact hun
  ·simp only [go_sem, hne, if_true, if_false]
  rw [isS_one]
  cases h41 : x.2.nx s == some 41
  ·have h41' : ¬ x.2.nx s = some 41 := by rw [beq_eq_false_iff_ne] at h41; exact h41
   rw [if_neg h41']
   simp -implicitDefEqProofs -dsimp only [go_sem]
   refine (w21 s x.2 p lim (d + 1) hp1 hlim _ ?_ ?_).wh ?_
   ·simp only [u_tick, u_own, u_set _ _ _ _ hp1, u_mine]; exact hun
   ·simp only [go_sem, hne, if_true, if_false]
   simp -implicitDefEqProofs -dsimp only [go_sem, hmy, cut_set _ _ _ _ hp, cut_und _ _ hu]
  ·have h41' := isS_nx h41
   rw [if_pos h41']
   obtain ⟨b1, b2, b3⟩ := nx_some h41'
   have x3 := wr64 ((x.2.at' : Int) + 1) (by omega) (by omega)
   simp -implicitDefEqProofs -dsimp only [go_sem, enc, hmy, hne, encP_good s x.2 b1, x3, hp, hlim, encP_go s x.2 _ b1, cut_set _ _ _ _ hp, cut_und _ _ hu, Int.natCast_add, encs]
theorem w53 (r : Rd) (hs : s.length ≤ 100000) (hr : r.at' < s.length) (hb : r.bad = false) (h9 : r.g ≤ 9) (hk : 10 ≤ k + 1 + r.g) (p : Mv.Loc) (lim d : Nat) (hp : p.d < d) (hlim : lim ≤ p.d) (σ : Sto) (hu : σ.Und d) (ho : σ.ob p = some (encP s r)) :
  Ret lim d 129 [.ptr p 0] σ (.agg (enc (atomS s rec r).1)) (σ.set p (encP s (atomS s rec r).2)) := by
 have hun := und_succ hu
 have hne := ne_my hp
 have hmy := my_ne hp
 have hp1 := Nat.lt_succ_of_lt hp
 have ho2 := ho
 rw [encP_good s r hb] at ho2
 have x1 := wr64 ((r.at' : Int) + 1) (by omega) (by omega)
 have hun1 : ∀ (t c : Nat) (cs : List MV), ((σ.set ⟨d, t, c⟩ cs).tick d).Und (d + 1) := fun t c cs => by simp only [u_tick, u_mine]; exact hun
 have hob1 : ∀ (t c : Nat) (cs : List MV), ((σ.set ⟨d, t, c⟩ cs).tick d).ob p = some (encP s r) := fun t c cs => by simp only [go_sem, hne, if_false]; exact ho
 have g0 : s[r.at']? = some s[r.at'] := List.getElem?_eq_getElem hr
 have hnx : r.nx s = some s[r.at'] := by simp [Rd.nx, hb]
 unfold Ret
 rw [WF_body (C := X) rfl func129 rfl (by kernel_rfl)]; simp only [results129]
 unfold atomS
 simp -implicitDefEqProofs -dsimp only [go_sem]
 refine (w20 s r (by omega) p lim (d + 1) hp1 _ (hun1 ..) (hob1 ..)).wh ?_
 rw [hnx, g0]
 simp only
 generalize s[r.at'] = c at g0
 cases h40 : c == 40
 ·have h40' : ¬ c = 40 := by simpa using h40
  rw [if_neg h40']
  cases h92 : c == 92
  ·have h92' : ¬ c = 92 := by simpa using h92
   rw [if_neg h92']
   cases h91 : c == 91
   ·have h91' : ¬ c = 91 := by simpa using h91
    rw [if_neg h91']
    cases h10 : c == 10
    ·have h10' : ¬ c = 10 := by simpa using h10
     rw [if_neg h10']
     simp -implicitDefEqProofs -dsimp only [go_sem, pkV_some, h40, h92, h91, h10, ho2, hne, x1, hp, hlim]
     refine (w65 c lim (d + 1) _ ?_).wh ?_
     ·simp only [u_tick, u_set _ _ _ _ hp1, u_mine]; exact hun
     simp -implicitDefEqProofs -dsimp only [go_sem, hmy, encP_go s r _ hb, cut_set _ _ _ _ hp, cut_und _ _ hu, Int.natCast_add]
    ·have h10' : c = 10 := by simpa using h10
     rw [if_pos h10']
     simp -implicitDefEqProofs -dsimp only [go_sem, pkV_some, h40, h92, h91, h10]
     refine (w21 s r p lim (d + 1) hp1 hlim _ (hun1 ..) (hob1 ..)).wh ?_
     simp -implicitDefEqProofs -dsimp only [go_sem, hmy, cut_set _ _ _ _ hp, cut_und _ _ hu]
   ·have h91' : c = 91 := by simpa using h91
    rw [if_pos h91']
    subst h91'
    simp -implicitDefEqProofs -dsimp only [go_sem, pkV_some, h40, h92, h91]
    rw [D_lx [] (by kernel_rfl) (by kernel_rfl)]; simp -implicitDefEqProofs -dsimp only [go_sem, List.takeWhile_cons, List.dropWhile_cons, isTail, evNews, List.not_mem_nil, not_false_eq_true, decide_true, decide_false, Bool.not_true, Bool.not_false, false_imp_iff, implies_true, ne_eq, ho2, hne]
    refine (w64 s r.at' (by omega) g0 (d + 1) (d + 1) (Nat.le_refl _) _ (hun1 ..)).wh ?_
    cases hbr : bracketS (s.drop (r.at' + 1)) with
    | none =>
     simp -implicitDefEqProofs -dsimp only [go_sem, brkV_none]
     refine ⟨rfl, (w21 s r p lim (d + 1) hp1 hlim _ ?_ ?_).wh ?_⟩
     ·simp only [u_tick, u_mine]; exact hun
     ·simp only [go_sem, hne, if_false]; exact ho
     simp -implicitDefEqProofs -dsimp only [go_sem, hmy, cut_set _ _ _ _ hp, cut_und _ _ hu]
    | some x =>
     have hq := (bracket_le _ _ hbr).2.2
     obtain ⟨q0, q1, q2, q3, hqe⟩ := ln4 hq
     rw [hqe] at hq
     simp -implicitDefEqProofs -dsimp only [go_sem, enc, brkV_some, hmy, hne, hqe, encS, ho2, hp, hlim, inN, encs, encP_go s r _ hb, cut_set _ _ _ _ hp, cut_und _ _ hu, List.getD_cons_zero, List.getD_cons_succ]
  ·have h92' : c = 92 := by simpa using h92
   rw [if_pos h92']
   simp -implicitDefEqProofs -dsimp only [go_sem, pkV_some, h40, h92]
   refine (w63 s r (by omega) hr hb p lim (d + 1) hp1 hlim _ (hun1 ..) (hob1 ..)).wh ?_
   simp -implicitDefEqProofs -dsimp only [go_sem, hmy, cut_set _ _ _ _ hp, cut_und _ _ hu]
 ·have h40' : c = 40 := by simpa using h40
  rw [if_pos h40']
  simp -implicitDefEqProofs -dsimp only [go_sem, pkV_some, h40]
  refine (w62 H r hs hr hb h9 hk p lim (d + 1) hp1 hlim _ (hun1 ..) (hob1 ..)).wh ?_
  simp -implicitDefEqProofs -dsimp only [go_sem, hmy, cut_set _ _ _ _ hp, cut_und _ _ hu]
theorem w40 (r : Rd) (hs : s.length ≤ 100000) (hr : r.at' < s.length) (hb : r.bad = false) (h9 : r.g ≤ 9) (hk : 10 ≤ k + 1 + r.g) (p : Mv.Loc) (lim d : Nat) (hp : p.d < d) (hlim : lim ≤ p.d) (σ : Sto) (hu : σ.Und d) (ho : σ.ob p = some (encP s r)) :
  Ret lim d 112 [.ptr p 0] σ (.agg (enc (pieceS s rec r).1)) (σ.set p (encP s (pieceS s rec r).2)) := by
 have hun := und_succ hu
 have hne := ne_my hp
 have hmy := my_ne hp
 have hp1 := Nat.lt_succ_of_lt hp
 have hun1 : ∀ (t c : Nat) (cs : List MV), ((σ.set ⟨d, t, c⟩ cs).tick d).Und (d + 1) := fun t c cs => by simp only [u_tick, u_mine]; exact hun
 have hob1 : ∀ (t c : Nat) (cs : List MV), ((σ.set ⟨d, t, c⟩ cs).tick d).ob p = some (encP s r) := fun t c cs => by simp only [go_sem, hne, if_false]; exact ho
 have G := gd_atom H hr hb h9 hk
 unfold Ret
 rw [WF_body (C := X) rfl func112 rfl (by kernel_rfl)]; simp only [results112]
 unfold pieceS
 simp -implicitDefEqProofs -dsimp only [go_sem]
 refine (w53 H r hs hr hb h9 hk p lim (d + 1) hp1 hlim _ (hun1 ..) (hob1 ..)).wh ?_
 simp only
 generalize atomS s rec r = x at G
 obtain ⟨y, r2⟩ := x
 have g2 := G.in'
 simp only at g2 ⊢
 simp -implicitDefEqProofs -dsimp only [go_sem]
 have hob : ∀ (S : Sto) (R : List MV), (S.set p R).ob p = some R := fun S R => by simp only [go_sem, if_true]
 refine (w31 s r2 _ (by omega) p lim (d + 1) hp1 _ ?_ ?_).wh ?_
 ·simp only [u_tick, u_set _ _ _ _ hp1, u_mine]; exact hun
 ·simp only [go_sem, hne, if_true, if_false]
 have hrp : ∀ o, isS [42, 43, 63, 123] o = isRep o := fun o => by
  cases o with
  | none => rfl
  | some c =>
   rw [isS_some]
   simp only [isRep, List.contains_cons, List.contains_nil, Bool.or_false]
   rw [Bool.eq_iff_iff]; simp [or_assoc]
 rw [hrp]
 unfold repS
 cases hrep : isRep (r2.nx s)
 ·rw [if_pos rfl]
  simp -implicitDefEqProofs -dsimp only [go_sem, hmy, cut_set _ _ _ _ hp, cut_und _ _ hu]
 ·rw [if_neg (by simp)]
  obtain ⟨c, hc⟩ : ∃ c, r2.nx s = some c := by
   cases h : r2.nx s with
   | none => rw [h] at hrep; cases hrep
   | some c => exact ⟨c, rfl⟩
  obtain ⟨b1, b2, b3⟩ := nx_some hc
  by_cases hk4 : y.kind = 4 ∨ y.kind = 5
  ·rw [if_pos hk4]
   have hkk : (if (y.kind == 4) = true then true else y.kind == 5) = true := by rcases hk4 with h | h <;> simp [h]
   simp -implicitDefEqProofs -dsimp only [go_sem, enc_kind, hkk]
   refine (w21 s r2 p lim (d + 1) hp1 hlim _ ?_ ?_).wh ?_
   ·simp only [u_tick, u_set _ _ _ _ hp1, u_mine]; exact hun
   ·simp only [go_sem, hne, if_true, if_false]
   simp -implicitDefEqProofs -dsimp only [go_sem, hmy, cut_set _ _ _ _ hp, cut_und _ _ hu]
  ·rw [if_neg hk4]
   have hkk : (if (y.kind == 4) = true then true else y.kind == 5) = false := by
    have h4 : (y.kind == 4) = false := by rw [beq_eq_false_iff_ne]; exact fun h => hk4 (.inl h)
    have h5 : (y.kind == 5) = false := by rw [beq_eq_false_iff_ne]; exact fun h => hk4 (.inr h)
    rw [h4, h5]; rfl
   simp -implicitDefEqProofs -dsimp only [go_sem, enc_kind, hkk]
   refine (w54 s r2 (by omega) b3 b1 p lim (d + 1) hp1 hlim _ ?_ ?_).wh ?_
   ·simp only [u_tick, u_set _ _ _ _ hp1, u_mine]; exact hun
   ·simp only [go_sem, hne, if_true, if_false]
   cases hbd : boundsS s r2.at' with
   | none =>
    simp -implicitDefEqProofs -dsimp only [go_sem, brcV_none, brcR_none]
    refine (w21 s r2 p lim (d + 1) hp1 hlim _ ?_ ?_).wh ?_
    ·simp only [u_tick, u_set _ _ _ _ hp1, u_mine]; exact hun
    ·simp only [go_sem, hne, if_true, if_false]
    simp -implicitDefEqProofs -dsimp only [go_sem, hmy, cut_set _ _ _ _ hp, cut_und _ _ hu]
   | some x =>
    have hy := bnd_go s _ b3 x hbd
    simp -implicitDefEqProofs -dsimp only [go_sem, brcV_some, brcR_some]
    refine (w31 s (r2.go x.2.2) _ (by omega) p lim (d + 1) hp1 _ ?_ ?_).wh ?_
    ·simp only [u_tick, u_set _ _ _ _ hp1, u_mine]; exact hun
    ·simp only [go_sem, hne, if_true, if_false]
    rw [hrp]
    cases hr3 : isRep ((r2.go x.2.2).nx s)
    ·simp -implicitDefEqProofs -dsimp only [go_sem, enc, hmy, hr3, encs, cut_set _ _ _ _ hp, cut_und _ _ hu]
    ·simp -implicitDefEqProofs -dsimp only [go_sem]
     refine (w21 s (r2.go x.2.2) p lim (d + 1) hp1 hlim _ ?_ ?_).wh ?_
     ·simp only [u_tick, u_set _ _ _ _ hp1, u_mine]; exact hun
     ·simp only [go_sem, hne, if_true, if_false]
     simp -implicitDefEqProofs -dsimp only [go_sem, hmy, hr3, cut_set _ _ _ _ hp, cut_und _ _ hu]
end
end Go.Proofs.Tryz.E
