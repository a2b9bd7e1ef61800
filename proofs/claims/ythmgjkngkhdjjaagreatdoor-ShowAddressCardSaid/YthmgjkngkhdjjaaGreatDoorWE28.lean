/- Walks: what the functions compute. Walks: what the functions compute. -/
import Derived.Test.YthmgjkngkhdjjaaGreatDoorWE26
set_option linter.unusedVariables false
set_option linter.unusedSimpArgs false
/- The reader: branches, all of a pattern. -/
namespace Go.Proofs.Tryz.E
open Go.Mv
set_option maxHeartbeats 4000000
set_option maxRecDepth 20000
structure BI (s : List UInt8) (r : Rd) (n : Nat) (l : List Nd) (r2 : Rd) : Prop where
 n1 : 1 ≤ n
 le : r.at' ≤ r2.at'
 in' : r2.at' ≤ s.length
 gm : r.g ≤ r2.g
 g9 : r2.g ≤ 9
 good : r2.bad = false → s.length - r2.at' < n ∧ szs l + 2 * l.length ≤ 8 * (r2.at' - r.at')
 bad' : r2.bad = true → szs l ≤ 8 * (r2.at' - r.at') + 1 ∧ l ≠ []
section
variable {s : List UInt8} {k : Nat} {rec : Rd → Nd × Rd} (H : HR s k rec)
include H
theorem bi_step {r r2 : Rd} {n : Nat} {l : List Nd} (hk : 10 ≤ k + 1 + r.g) (b : BI s r (n + 1) l r2) (hs : stopS (r2.nx s) = false) : r2.bad = false ∧ r2.at' < s.length ∧ Gd s 2 1 r2 (pieceS s rec r2) ∧ BI s r n (l ++ [(pieceS s rec r2).1]) (pieceS s rec r2).2 := by
 obtain ⟨c, hc⟩ : ∃ c, r2.nx s = some c := by
  cases h : r2.nx s with
  | none => rw [h] at hs; cases hs
  | some c => exact ⟨c, rfl⟩
 obtain ⟨b1, b2, b3⟩ := nx_some hc
 have G := gd_piece H b3 b1 b.g9 (by have := b.gm; omega)
 refine ⟨b1, b3, G, ?_⟩
 generalize pieceS s rec r2 = x at G
 have g1 := G.le
 have g2 := G.in'
 have g3 := G.gm
 have g4 := G.g9
 have b4 := b.le
 have b5 := b.gm
 obtain ⟨b6, b7⟩ := b.good b1
 refine ⟨by omega, by omega, g2, by omega, g4, fun q => ?_, fun q => ?_⟩
 ·obtain ⟨g5, g6⟩ := G.good q
  rw [szs_snoc, List.length_append]
  simp only [List.length_cons, List.length_nil]
  omega
 ·have := G.bad' q
  rw [szs_snoc]
  exact ⟨by omega, by simp⟩
theorem gd_branch {r : Rd} (hk : 10 ≤ k + 1 + r.g) : ∀ (n : Nat) (l : List Nd) (r2 : Rd), BI s r n l r2 → Gd s 1 2 r (branchS s rec n l r2)
 | 0, l, r2, b => by have := b.n1; omega
 | n + 1, l, r2, b => by
  have b4 := b.le
  have b3 := b.in'
  have b5 := b.gm
  have b9 := b.g9
  have fl : Gd s 1 2 r (z0, r2.fail) := ⟨by simp only [Rd.fail]; omega, by simp only [Rd.fail]; omega, by simp only [Rd.fail]; omega, b9, fun q => by simp [Rd.fail] at q, fun _ => by simp only [sz_z0]; omega⟩
  rw [branchS]
  split
  ·split
   ·exact fl
   ·rename_i hl
    have hll : 1 ≤ l.length := by
     match l, hl with
     | _ :: _, _ => simp
    have hj := sz_join l
    refine ⟨b4, b3, b5, b9, fun q => ?_, fun q => ?_⟩
    ·obtain ⟨g5, g6⟩ := b.good q
     simp only at q ⊢
     omega
    ·obtain ⟨g5, g6⟩ := b.bad' q
     simp only
     omega
  ·rename_i hst
   split
   ·exact fl
   ·have := bi_step H hk b (by simpa using hst)
    exact gd_branch hk n _ _ this.2.2.2
theorem w30 (r : Rd) (hs : s.length ≤ 100000) (hr : r.at' ≤ s.length) (hb : r.bad = false) (h9 : r.g ≤ 9) (hk : 10 ≤ k + 1 + r.g) (p : Mv.Loc) (lim d : Nat) (hp : p.d < d) (hlim : lim ≤ p.d) (σ : Sto) (hu : σ.Und d) (ho : σ.ob p = some (encP s r)) :
  Ret lim d 86 [.ptr p 0] σ (.agg (enc (branchS s rec (s.length + 1) [] r).1)) (σ.set p (encP s (branchS s rec (s.length + 1) [] r).2)) := by
 have hun := und_succ hu
 have hne := ne_my hp
 have hmy := my_ne hp
 have hp1 := Nat.lt_succ_of_lt hp
 have hlim2 : lim ≤ d := by omega
 unfold Ret
 rw [WF_body (C := X) rfl func86 rfl (by kernel_rfl)]; simp only [results86]
 simp -implicitDefEqProofs -dsimp only [go_sem]
 refine loop_h (I := fun n a s' => ∃ (l : List Nd) (r2 : Rd), BI s r n l r2 ∧ branchS s rec n l r2 = branchS s rec (s.length + 1) [] r ∧ a 0 = .ptr p 0 ∧ a 2 = .ptr ⟨d, 2, σ.ct d⟩ 0 ∧ Own s' d (a 3) l ∧ s'.ob p = some (encP s r2) ∧ (∃ z, s'.ob ⟨d, 2, σ.ct d⟩ = some z ∧ z.length = 10) ∧ s'.cut d = σ.set p (encP s r2) ∧ s'.Und (d + 1)) ?_ (s.length + 1) _ _ ?_
 ·rintro n a s' ⟨l, r2, b, hT, a0, a2, hO, hop, ⟨z, hz, hzl⟩, hcut, hus⟩
  obtain ⟨n, rfl⟩ : ∃ m, n = m + 1 := ⟨n - 1, by have := b.n1; omega⟩
  have b3 := b.in'
  rw [branchS] at hT
  rw [← hT]
  have hx := fun t => w31 s r2 t (by omega) p lim (d + 1) hp1 s' hus hop
  have hst : stopS (r2.nx s) = (match r2.nx s with | none => true | some c => isS [124, 41] (some c)) := by
   cases r2.nx s with
   | none => rfl
   | some c =>
    simp only [stopS, isS_some, List.contains_cons, List.contains_nil, Bool.or_false]
    rw [Bool.eq_iff_iff]; simp
  have hrp : isS [42, 43, 63, 123] (r2.nx s) = isRep (r2.nx s) := by
   cases r2.nx s with
   | none => rfl
   | some c =>
    rw [isS_some]
    simp only [isRep, List.contains_cons, List.contains_nil, Bool.or_false]
    rw [Bool.eq_iff_iff]; simp [or_assoc]
  have hsl : szs l ≤ 1000000 := by
   cases hbb : r2.bad with
   | false => have := (b.good hbb).2; omega
   | true => have := (b.bad' hbb).1; omega
  have hll := len_le l
  have hput : ∀ x, putC z (enc x) 0 = enc x := fun x => putC_whole _ _ (by rw [hzl, enc_len])
  simp -implicitDefEqProofs -dsimp only [go_sem, a0]
  refine (w20 s r2 (by omega) p lim (d + 1) hp1 _ hus hop).wh ?_
  cases hnx : r2.nx s with
  | none =>
   simp -implicitDefEqProofs -dsimp only [go_sem, pkV_none]
   by_cases hl0 : l = []
   ·have e0 : ((l.length : Int) == 0) = true := by rw [hl0]; rfl
    simp -implicitDefEqProofs -dsimp only [go_sem, a0, own_len hO, e0]
    refine (w21 s r2 p lim (d + 1) hp1 hlim _ hus hop).wh ?_
    simp -implicitDefEqProofs -dsimp only [go_sem, a2, hmy, hz, hzl, hput, show stopS none = true from rfl, hl0, hcut, cut_set _ _ _ _ hp]
   ·have e0 : ((l.length : Int) == 0) = false := by
     rw [beq_eq_false_iff_ne]
     intro q
     exact hl0 (List.length_eq_zero_iff.1 (by omega))
    simp -implicitDefEqProofs -dsimp only [go_sem, own_len hO, e0, own_arg hO]
    refine (w18 l hsl lim (d + 1) _ (by omega) hus).wh ?_
    simp -implicitDefEqProofs -dsimp only [go_sem, a2, hz, hzl, hput, show stopS none = true from rfl, hl0, hcut]
  | some c =>
   simp -implicitDefEqProofs -dsimp only [go_sem, pkV_some, a0]
   refine (hx [124, 41]).wh ?_
   rw [hnx] at hst hrp ⊢
   simp only at hst
   cases hs2 : isS [124, 41] (some c)
   ·rw [hs2] at hst
    obtain ⟨b1, b4, G, bi⟩ := bi_step H hk b (by rw [hnx]; exact hst)
    by_cases hl0 : l = []
    ·have e0 : ((l.length : Int) == 0) = true := by rw [hl0]; rfl
     simp -implicitDefEqProofs -dsimp only [go_sem, a0, own_len hO, e0]
     refine (hx [42, 43, 63, 123]).wh ?_
     rw [hnx, hrp]
     cases hre : isRep (some c)
     ·simp -implicitDefEqProofs -dsimp only [go_sem, a0]
      refine (w40 H r2 hs b4 b1 b.g9 (by have := b.gm; omega) p lim (d + 1) hp1 hlim _ hus hop).wh ?_
      generalize hpx : pieceS s rec r2 = x at G bi
      have hxz : szs (l ++ [x.1]) ≤ 1000000 := by
       have h1 := bi.in'
       cases hbb : x.2.bad with
       | false => have := (bi.good hbb).2; omega
       | true => have := (bi.bad' hbb).1; omega
      have hxl := len_le (l ++ [x.1])
      obtain ⟨v', s2, q1, q2, q3, q4, q5⟩ := app_own (P := X.P) (t := 38) (ys := [x.1]) (tk := .own d (s'.ct d)) slc_38 (own_tok (own_set hO p (encP s x.2)) (some (1, 10))) (by simp at hxl ⊢; omega) hlim2 (und_tok (by rw [u_set _ _ _ _ hp1]; exact hus) _ _)
      simp only [encs, ct_set] at q1
      simp -implicitDefEqProofs -dsimp only [go_sem, q1, a0]
      refine ⟨n, Nat.lt_succ_self n, l ++ [x.1], x.2, bi, ?_, a2, q2, ?_, ⟨z, ?_, hzl⟩, ?_, q4⟩
      ·simp only [hst, hl0, Bool.false_eq_true, if_false]
      ·rw [q5]; simp only [go_sem, if_true]
      ·rw [q5]; simp only [go_sem, hmy, if_false, hz]
      ·rw [q3]; simp only [go_sem, cut_set _ _ _ _ hp, hcut]
     ·simp -implicitDefEqProofs -dsimp only [go_sem, a0]
      refine (w21 s r2 p lim (d + 1) hp1 hlim _ hus hop).wh ?_
      simp -implicitDefEqProofs -dsimp only [go_sem, a2, hmy, hz, hzl, hput, hst, hl0, hcut, cut_set _ _ _ _ hp]
    ·have e0 : ((l.length : Int) == 0) = false := by
      rw [beq_eq_false_iff_ne]
      intro q
      exact hl0 (List.length_eq_zero_iff.1 (by omega))
     simp -implicitDefEqProofs -dsimp only [go_sem, a0, own_len hO, e0]
     refine (w40 H r2 hs b4 b1 b.g9 (by have := b.gm; omega) p lim (d + 1) hp1 hlim _ hus hop).wh ?_
     generalize hpx : pieceS s rec r2 = x at G bi
     have hxz : szs (l ++ [x.1]) ≤ 1000000 := by
      have h1 := bi.in'
      cases hbb : x.2.bad with
      | false => have := (bi.good hbb).2; omega
      | true => have := (bi.bad' hbb).1; omega
     have hxl := len_le (l ++ [x.1])
     obtain ⟨v', s2, q1, q2, q3, q4, q5⟩ := app_own (P := X.P) (t := 38) (ys := [x.1]) (tk := .own d (s'.ct d)) slc_38 (own_tok (own_set hO p (encP s x.2)) (some (1, 10))) (by simp at hxl ⊢; omega) hlim2 (und_tok (by rw [u_set _ _ _ _ hp1]; exact hus) _ _)
     simp only [encs, ct_set] at q1
     simp -implicitDefEqProofs -dsimp only [go_sem, q1, a0]
     refine ⟨n, Nat.lt_succ_self n, l ++ [x.1], x.2, bi, ?_, a2, q2, ?_, ⟨z, ?_, hzl⟩, ?_, q4⟩
     ·simp only [hst, hl0, Bool.false_eq_true, if_false, false_and]
     ·rw [q5]; simp only [go_sem, if_true]
     ·rw [q5]; simp only [go_sem, hmy, if_false, hz]
     ·rw [q3]; simp only [go_sem, cut_set _ _ _ _ hp, hcut]
   ·rw [hs2] at hst
    simp -implicitDefEqProofs -dsimp only [go_sem]
    by_cases hl0 : l = []
    ·have e0 : ((l.length : Int) == 0) = true := by rw [hl0]; rfl
     simp -implicitDefEqProofs -dsimp only [go_sem, a0, own_len hO, e0]
     refine (w21 s r2 p lim (d + 1) hp1 hlim _ hus hop).wh ?_
     simp -implicitDefEqProofs -dsimp only [go_sem, a2, hmy, hz, hzl, hput, hst, hl0, hcut, cut_set _ _ _ _ hp]
    ·have e0 : ((l.length : Int) == 0) = false := by
      rw [beq_eq_false_iff_ne]
      intro q
      exact hl0 (List.length_eq_zero_iff.1 (by omega))
     simp -implicitDefEqProofs -dsimp only [go_sem, own_len hO, e0, own_arg hO]
     refine (w18 l hsl lim (d + 1) _ (by omega) hus).wh ?_
     simp -implicitDefEqProofs -dsimp only [go_sem, a2, hz, hzl, hput, hst, hl0, hcut]
 ·refine ⟨[], r, ⟨by omega, Nat.le_refl _, hr, Nat.le_refl _, h9, fun _ => ⟨by omega, by simp [szs]⟩, fun q => by rw [hb] at q; cases q⟩, rfl, rfl, rfl, .inl ⟨rfl, rfl⟩, ?_, ⟨_, by simp only [go_sem, if_true]; rfl, rfl⟩, ?_, ?_⟩
  ·simp only [go_sem, hne, if_false]; exact ho
  ·simp only [go_sem, cut_und _ _ hu, set_same ho]
  ·simp only [go_sem, u_tick, u_mine]; exact hun
end
structure WI (s : List UInt8) (r : Rd) (n : Nat) (l : List Nd) (r2 : Rd) : Prop where
 n1 : 1 ≤ n
 ne : 1 ≤ l.length
 le : r.at' ≤ r2.at'
 in' : r2.at' ≤ s.length
 gm : r.g ≤ r2.g
 g9 : r2.g ≤ 9
 good : r2.bad = false → r.at' < r2.at' ∧ s.length - r2.at' < n ∧ szs l + l.length ≤ 8 * (r2.at' - r.at')
 bad' : r2.bad = true → szs l ≤ 8 * (r2.at' - r.at') + 2
section
variable {s : List UInt8} {k : Nat} {rec : Rd → Nd × Rd} (H : HR s k rec)
include H
theorem gd_br0 {r : Rd} (hr : r.at' ≤ s.length) (hb : r.bad = false) (h9 : r.g ≤ 9) (hk : 10 ≤ k + 1 + r.g) : Gd s 1 2 r (branchS s rec (s.length + 1) [] r) :=
 gd_branch H hk _ _ _ ⟨by omega, Nat.le_refl _, hr, Nat.le_refl _, h9, fun _ => ⟨by omega, by simp [szs]⟩, fun q => by rw [hb] at q; cases q⟩
theorem wi_0 {r : Rd} (hr : r.at' ≤ s.length) (hb : r.bad = false) (h9 : r.g ≤ 9) (hk : 10 ≤ k + 1 + r.g) : WI s r (s.length + 1) [(branchS s rec (s.length + 1) [] r).1] (branchS s rec (s.length + 1) [] r).2 := by
 have G := gd_br0 H hr hb h9 hk
 generalize branchS s rec (s.length + 1) [] r = x at G
 have g1 := G.le
 have g2 := G.in'
 refine ⟨by omega, Nat.le_refl _, g1, g2, G.gm, G.g9, fun q => ?_, fun q => ?_⟩
 ·have := G.good q
  simp only [szs, List.length_cons, List.length_nil]
  omega
 ·have := G.bad' q
  simp only [szs]
  omega
theorem wi_step {r r2 : Rd} {n : Nat} {l : List Nd} (hk : 10 ≤ k + 1 + r.g) (b : WI s r (n + 1) l r2) (hs : r2.nx s = some 124) : r2.bad = false ∧ r2.at' < s.length ∧ WI s r n (l ++ [(branchS s rec (s.length + 1) [] (r2.go (r2.at' + 1))).1]) (branchS s rec (s.length + 1) [] (r2.go (r2.at' + 1))).2 := by
 obtain ⟨b1, b2, b3⟩ := nx_some hs
 have b5 := b.gm
 have G := gd_br0 H (r := r2.go (r2.at' + 1)) (by simp only [Rd.go]; omega) b1 b.g9 (by simp only [Rd.go]; omega)
 refine ⟨b1, b3, ?_⟩
 generalize branchS s rec (s.length + 1) [] (r2.go (r2.at' + 1)) = x at G
 have g1 := G.le
 have g2 := G.in'
 have g3 := G.gm
 have b4 := b.le
 simp only [Rd.go] at g1 g3
 obtain ⟨b6, b7, b8⟩ := b.good b1
 refine ⟨by omega, by simp, by omega, g2, by omega, G.g9, fun q => ?_, fun q => ?_⟩
 ·have g4 := G.good q
  simp only [Rd.go] at g4
  rw [szs_snoc, List.length_append]
  simp only [List.length_cons, List.length_nil]
  omega
 ·have g4 := G.bad' q
  simp only [Rd.go] at g4
  rw [szs_snoc]
  omega
theorem gd_more {r : Rd} (hk : 10 ≤ k + 1 + r.g) : ∀ (n : Nat) (l : List Nd) (r2 : Rd), WI s r n l r2 → Gd s 0 3 r (moreS s rec n l r2)
 | 0, l, r2, b => by have := b.n1; omega
 | n + 1, l, r2, b => by
  rw [moreS]
  split
  ·rename_i h
   exact gd_more hk n _ _ (wi_step H hk b h).2.2
  ·have hj := sz_either l
   have b4 := b.le
   have b5 := b.ne
   refine ⟨b4, b.in', b.gm, b.g9, fun q => ?_, fun q => ?_⟩
   ·have := b.good q
    simp only
    omega
   ·have := b.bad' q
    simp only
    omega
theorem w19 (r : Rd) (hs : s.length ≤ 100000) (hr : r.at' ≤ s.length) (hb : r.bad = false) (h9 : r.g ≤ 9) (hk : 10 ≤ k + 1 + r.g) (p : Mv.Loc) (lim d : Nat) (hp : p.d < d) (hlim : lim ≤ p.d) (σ : Sto) (hu : σ.Und d) (ho : σ.ob p = some (encP s r)) :
  Ret lim d 62 [.ptr p 0] σ (.agg (enc (wholeS s rec r).1)) (σ.set p (encP s (wholeS s rec r).2)) := by
 have hun := und_succ hu
 have hne := ne_my hp
 have hmy := my_ne hp
 have hp1 := Nat.lt_succ_of_lt hp
 have hlim2 : lim ≤ d := by omega
 have hun1 : ∀ (t c : Nat) (cs : List MV), ((σ.set ⟨d, t, c⟩ cs).tick d).Und (d + 1) := fun t c cs => by simp only [u_tick, u_mine]; exact hun
 have hob1 : ∀ (t c : Nat) (cs : List MV), ((σ.set ⟨d, t, c⟩ cs).tick d).ob p = some (encP s r) := fun t c cs => by simp only [go_sem, hne, if_false]; exact ho
 have hwi := wi_0 H hr hb h9 hk
 unfold Ret
 rw [WF_body (C := X) rfl func62 rfl (by kernel_rfl)]; simp only [results62]
 unfold wholeS
 simp -implicitDefEqProofs -dsimp only [go_sem]
 refine (w30 H r hs hr hb h9 hk p lim (d + 1) hp1 hlim _ (hun1 ..) (hob1 ..)).wh ?_
 generalize branchS s rec (s.length + 1) [] r = x at hwi
 simp only
 simp -implicitDefEqProofs -dsimp only [go_sem]
 refine loop_h (I := fun n a s' => ∃ (l : List Nd) (r2 : Rd), WI s r n l r2 ∧ moreS s rec n l r2 = moreS s rec (s.length + 1) [x.1] x.2 ∧ a 0 = .ptr p 0 ∧ a 2 = .ptr ⟨d, 2, σ.ct d⟩ 0 ∧ Own s' d (a 3) l ∧ s'.ob p = some (encP s r2) ∧ (∃ z, s'.ob ⟨d, 2, σ.ct d⟩ = some z ∧ z.length = 10) ∧ s'.cut d = σ.set p (encP s r2) ∧ s'.Und (d + 1)) ?_ (s.length + 1) _ _ ?_
 ·rintro n a s' ⟨l, r2, b, hT, a0, a2, hO, hop, ⟨z, hz, hzl⟩, hcut, hus⟩
  obtain ⟨n, rfl⟩ : ∃ m, n = m + 1 := ⟨n - 1, by have := b.n1; omega⟩
  have b3 := b.in'
  rw [moreS] at hT
  have hput : ∀ x, putC z (enc x) 0 = enc x := fun x => putC_whole _ _ (by rw [hzl, enc_len])
  have hsl : szs l ≤ 1000000 := by
   cases hbb : r2.bad with
   | false => have := (b.good hbb).2; omega
   | true => have := (b.bad' hbb); omega
  simp -implicitDefEqProofs -dsimp only [go_sem, a0]
  refine (w31 s r2 [124] (by omega) p lim (d + 1) hp1 s' hus hop).wh ?_
  rw [isS_one]
  cases h124 : r2.nx s == some 124
  ·have h124' : ¬ r2.nx s = some 124 := by rw [beq_eq_false_iff_ne] at h124; exact h124
   rw [if_neg h124'] at hT
   rw [← hT]
   simp -implicitDefEqProofs -dsimp only [go_sem, own_arg hO]
   refine (w17 l hsl lim (d + 1) _ (by omega) hus).wh ?_
   simp -implicitDefEqProofs -dsimp only [go_sem, a2, hz, hzl, hput, hcut]
  ·have h124' := isS_nx h124
   rw [if_pos h124'] at hT
   obtain ⟨b1, b4, bi⟩ := wi_step H hk b h124'
   have x1 := wr64 ((r2.at' : Int) + 1) (by omega) (by omega)
   have hgo1 : [MV.str s, .int .i64 ((r2.at' : Int) + 1), .int .i64 r2.g, .int .i64 (-1)] = encP s (r2.go (r2.at' + 1)) := by rw [encP_go s r2 _ b1]; rfl
   have hop2 := hop
   rw [encP_good s r2 b1] at hop2
   simp -implicitDefEqProofs -dsimp only [go_sem, a0, hop2, x1, hp, hlim, hgo1]
   refine (w30 H (r2.go (r2.at' + 1)) hs (by simp only [Rd.go]; omega) b1 b.g9 (by have := b.gm; simp only [Rd.go]; omega) p lim (d + 1) hp1 hlim _ (by rw [u_set _ _ _ _ hp1]; exact hus) (by simp only [go_sem, if_true])).wh ?_
   generalize branchS s rec (s.length + 1) [] (r2.go (r2.at' + 1)) = y at bi hT
   have hxz : szs (l ++ [y.1]) ≤ 1000000 := by
    have h1 := bi.in'
    cases hbb : y.2.bad with
    | false => have := (bi.good hbb).2; omega
    | true => have := (bi.bad' hbb); omega
   have hxl := len_le (l ++ [y.1])
   obtain ⟨v', s2, q1, q2, q3, q4, q5⟩ := app_own (P := X.P) (t := 38) (ys := [y.1]) (tk := .own d (s'.ct d)) slc_38 (own_tok (own_set hO p (encP s y.2)) (some (1, 10))) (by simp at hxl ⊢; omega) hlim2 (und_tok (by rw [u_set _ _ _ _ hp1]; exact hus) _ _)
   simp only [encs, ct_set] at q1
   simp -implicitDefEqProofs -dsimp only [go_sem, q1, a0]
   refine ⟨n, Nat.lt_succ_self n, l ++ [y.1], y.2, bi, hT, a2, q2, ?_, ⟨z, ?_, hzl⟩, ?_, q4⟩
   ·rw [q5]; simp only [go_sem, if_true]
   ·rw [q5]; simp only [go_sem, hmy, if_false, hz]
   ·rw [q3]; simp only [go_sem, cut_set _ _ _ _ hp, hcut]
 ·refine ⟨[x.1], x.2, hwi, rfl, rfl, rfl, .inr ⟨σ.ct d + 1, rfl, ?_, ?_⟩, ?_, ⟨_, by simp only [go_sem, hmy, if_false, if_true]; rfl, rfl⟩, ?_, ?_⟩
  ·simp only [go_sem, if_true, and_self]; first | done | rfl
  ·simp only [go_sem]; first | done | omega
  ·simp only [go_sem, hne, if_false, if_true]
  ·simp only [go_sem, cut_set _ _ _ _ hp, cut_und _ _ hu]
  ·simp only [u_tick, u_own, u_set _ _ _ _ hp1, u_mine]; exact hun
theorem hr_step (hs : s.length ≤ 100000) : HR s (k + 1) (wholeS s rec) := fun r hb hr h9 hk => by
 refine ⟨?_, fun lim d p σ hp hlim hu ho => w19 H r hs hr hb h9 hk p lim d hp hlim σ hu ho⟩
 unfold wholeS
 exact gd_more H hk _ _ _ (wi_0 H hr hb h9 hk)
end
theorem hr_par (s : List UInt8) (hs : s.length ≤ 100000) : ∀ k, HR s k (parS s k)
 | 0 => fun r hb hr h9 hk => by omega
 | k + 1 => hr_step (hr_par s hs k) hs
end Go.Proofs.Tryz.E
