/- Walks: what the functions compute. Walks: what the functions compute. Walks: what the functions compute. -/
import Derived.Test.YthmgjkngkhdjjaaGreatDoorWB6
import Derived.Test.YthmgjkngkhdjjaaGreatDoorWB1
set_option linter.unusedVariables false
set_option linter.unusedSimpArgs false
/- The program's reader of basic patterns: a sequence. -/
namespace Go.Proofs.Tryz.E
open Go.Mv
set_option maxHeartbeats 4000000
set_option maxRecDepth 20000
theorem putC_ee (x y : Nd) : putC (enc y) (enc x) 0 = enc x := putC_whole _ _ (by simp [enc_len])
section
variable {s : List UInt8} {k : Nat} {rec : Rd → Nd × Rd} (H : HB s k rec) (K : HW s k rec)
include H K
theorem w205 (r : Rd) (hs : s.length ≤ 100000) (hr : r.at' ≤ s.length) (hb : r.bad = false) (h9 : r.g ≤ 9) (hk : 10 ≤ k + 1 + r.g) (p : Mv.Loc) (lim d : Nat) (hp : p.d < d) (hlim : lim ≤ p.d) (σ : Sto) (hu : σ.Und d) (ho : σ.ob p = some (encB s r)) :
  Ret lim d 61 [.ptr p 0] σ (.agg (enc (seqB s rec (joinN []) (s.length + 1) true [] r).1)) (σ.set p (encB s (seqB s rec (joinN []) (s.length + 1) true [] r).2)) := by
 have hun := und_succ hu
 have hne := ne_my hp
 have hmy := my_ne hp
 have hp1 := Nat.lt_succ_of_lt hp
 have hlim2 : lim ≤ d := by omega
 unfold Ret
 rw [WF_body (C := X) rfl func61 rfl (by kernel_rfl)]; simp only [results61]
 simp -implicitDefEqProofs -dsimp only [go_sem]
 refine loop_h (I := fun n a s' => ∃ (l : List Nd) (first : Bool) (r2 : Rd), BJ s r n first l r2 ∧ seqB s rec (joinN []) n first l r2 = seqB s rec (joinN []) (s.length + 1) true [] r ∧ a 0 = .ptr p 0 ∧ a 2 = .ptr ⟨d, 2, σ.ct d⟩ 0 ∧ Own s' d (a 3) l ∧ a 4 = .bool first ∧ s'.ob p = some (encB s r2) ∧ (∃ z, s'.ob ⟨d, 2, σ.ct d⟩ = some z ∧ z.length = 10) ∧ s'.cut d = σ.set p (encB s r2) ∧ s'.Und (d + 1)) ?_ (s.length + 1) _ _ ?_
 ·rintro n a s' ⟨l, first, r2, b, hT, a0, a2, hO, a4, hop, ⟨z, hz, hzl⟩, hcut, hus⟩
  obtain ⟨n, rfl⟩ : ∃ m, n = m + 1 := ⟨n - 1, by have := b.n1; omega⟩
  have b3 := b.in'
  rw [seqB] at hT
  rw [← hT]
  have hsl : szs l ≤ 1000000 := by
   cases hbb : r2.bad with
   | false => have := (b.good hbb).2; omega
   | true => have := (b.bad' hbb); omega
  have hll := len_le l
  have hput : ∀ x, putC z (enc x) 0 = enc x := fun x => putC_whole _ _ (by rw [hzl, enc_len])
  simp -implicitDefEqProofs -dsimp only [go_sem, a0]
  refine (w206 s r2 (by omega) b3 p lim (d + 1) hp1 _ hus hop).wh ?_
  cases hov : overB s r2
  case true =>
   simp -implicitDefEqProofs -dsimp only [go_sem, own_arg hO]
   refine (w18 l hsl lim (d + 1) _ (by omega) hus).wh ?_
   simp -implicitDefEqProofs -dsimp only [go_sem, a2, hz, hzl, hput, hcut]
  case false =>
   obtain ⟨b1, b4, G, bi⟩ := bj_step H hk b hov
   rw [hov] at hT
   simp only [Bool.false_eq_true, if_false] at hT
   simp only [Bool.false_eq_true, if_false]
   cases first
   case true =>
    have hl0 := b.fst rfl
    simp -implicitDefEqProofs -dsimp only [go_sem, a0, a4]
    refine (w207 s r2 [92, 123] (by omega) b3 p lim (d + 1) hp1 _ hus hop).wh ?_
    rw [hasT_two s r2 b3]
    cases hE : hasE s r2 123
    case true =>
     subst hl0
     simp -implicitDefEqProofs -dsimp only [go_sem, a0]
     refine (w208 s r2 p lim (d + 1) hp1 hlim _ hus hop).wh ?_
     have hO3 : (a 3).arg = .sl .no (encs []) := own_arg hO
     simp -implicitDefEqProofs -dsimp only [go_sem, hO3]
     refine (w18 [] (by simp [szs]) lim (d + 1) _ (by omega) ?_).wh ?_
     ·simp only [u_set _ _ _ _ hp1]; exact hus
     simp -implicitDefEqProofs -dsimp only [go_sem, a2, hmy, hz, hzl, hput, hcut, cut_set _ _ _ _ hp, set_set]
    case false =>
     simp only [hE, Bool.false_eq_true, and_false, if_false] at hT
     simp only [Bool.false_eq_true, and_false, if_false]
     rw [hT]
     simp -implicitDefEqProofs -dsimp only [go_sem, a0, a4]
     refine (w209 H K r2 true hs b4 b1 b.g9 (by have := b.gm; omega) p lim (d + 1) hp1 hlim _ hus hop).wh ?_
     have GA := gd_atomB H (first := true) b4 b1 b.g9 (by have := b.gm; omega)
     have hpx : pieceB s rec true r2 = if (atomB s rec true r2).1.kind = 4 ∧ (atomB s rec true r2).2.nx s = some 42 then atomB s rec true r2 else repB s (atomB s rec true r2).1 (atomB s rec true r2).2 := rfl
     generalize atomB s rec true r2 = xa at GA hpx
     obtain ⟨y, ra⟩ := xa
     simp only at hpx ⊢
     have ga2 := GA.in'
     simp only at ga2
     have hS1 : ((((s'.set p (encB s ra)).set ⟨d, 5, s'.ct d⟩ (enc y)).tick d)).Und (d + 1) := by simp only [u_tick, u_set _ _ _ _ hp1, u_mine]; exact hus
     have hS2 : ((((s'.set p (encB s ra)).set ⟨d, 5, s'.ct d⟩ (enc y)).tick d)).ob p = some (encB s ra) := by simp only [go_sem, hne, if_true, if_false]
     by_cases h4 : y.kind = 4
     ·have h4' : (y.kind != 4) = false := by rw [h4]; rfl
      simp -implicitDefEqProofs -dsimp only [go_sem, a0, h4', enc_kind]
      refine (w207 s ra [42] (by omega) ga2 p lim (d + 1) hp1 _ hS1 hS2).wh ?_
      rw [hasT_one s ra ga2]
      cases h42 : ra.nx s == some 42
      ·have h42' : ¬ (y.kind = 4 ∧ ra.nx s = some 42) := fun q => by rw [q.2] at h42; simp at h42
       rw [if_neg h42'] at hpx
       simp -implicitDefEqProofs -dsimp only [go_sem, a0, enc_take]
       refine (w210 s ra y (by omega) ga2 p lim (d + 1) hp1 hlim _ hS1 hS2).wh ?_
       rw [← hpx]
       generalize pieceB s rec true r2 = x at G bi hT
       have hxz : szs (l ++ [x.1]) ≤ 1000000 := by
        have h1 := bi.in'
        cases hbb : x.2.bad with
        | false => have := (bi.good hbb).2; omega
        | true => have := (bi.bad' hbb); omega
       have hxl := len_le (l ++ [x.1])
       have hO2 : Own ((((((s'.set p (encB s ra)).set ⟨d, 5, s'.ct d⟩ (enc y)).set p (encB s x.2)).set ⟨d, 5, s'.ct d⟩ (enc x.1)).tick d)) d (a 3) l := own_mono hO (fun _ _ => rfl) (by simp [Sto.tick, Sto.set, upd])
       have hS4 : ((((((s'.set p (encB s ra)).set ⟨d, 5, s'.ct d⟩ (enc y)).set p (encB s x.2)).set ⟨d, 5, s'.ct d⟩ (enc x.1)).tick d)).Und (d + 1) := by simp only [u_tick, u_set _ _ _ _ hp1, u_mine]; exact hus
       obtain ⟨v', s2, q1, q2, q3, q4, q5⟩ := app_own (P := X.P) (t := 38) (ys := [x.1]) (tk := .own d (s'.ct d + 1)) slc_38 (own_tok hO2 (some (1, 10))) (by simp at hxl ⊢; omega) hlim2 (und_tok hS4 _ _)
       simp only [encs, ct_set, ct_tick] at q1
       simp -implicitDefEqProofs -dsimp only [go_sem, hmy, putC_ee, q1, a0]
       refine ⟨n, Nat.lt_succ_self n, l ++ [x.1], false, x.2, bi, hT, a2, q2, rfl, ?_, ⟨z, ?_, hzl⟩, ?_, q4⟩
       ·rw [q5]; simp only [go_sem, hne, if_true, if_false]
       ·rw [q5]; simp only [go_sem, hmy, if_false, hz, Nat.reduceEqDiff, false_and, and_false]
       ·rw [q3]; simp only [go_sem, cut_set _ _ _ _ hp, hcut, set_set]
      ·rw [if_pos ⟨h4, by simpa using h42⟩] at hpx
       rw [hpx] at G bi hT
       generalize hx : (y, ra) = x at G bi hT
       have hx1 : y = x.1 := by rw [← hx]
       have hx2 : ra = x.2 := by rw [← hx]
       rw [hx1, hx2] at hS1 hS2
       rw [hx1, hx2]
       simp -implicitDefEqProofs -dsimp only [go_sem, a0, enc_take]
       have hxz : szs (l ++ [x.1]) ≤ 1000000 := by
        have h1 := bi.in'
        cases hbb : x.2.bad with
        | false => have := (bi.good hbb).2; omega
        | true => have := (bi.bad' hbb); omega
       have hxl := len_le (l ++ [x.1])
       have hO2 : Own ((((s'.set p (encB s x.2)).set ⟨d, 5, s'.ct d⟩ (enc x.1)).tick d)) d (a 3) l := own_mono hO (fun _ _ => rfl) (by simp [Sto.tick, Sto.set, upd])
       have hS4 : ((((s'.set p (encB s x.2)).set ⟨d, 5, s'.ct d⟩ (enc x.1)).tick d)).Und (d + 1) := by simp only [u_tick, u_set _ _ _ _ hp1, u_mine]; exact hus
       obtain ⟨v', s2, q1, q2, q3, q4, q5⟩ := app_own (P := X.P) (t := 38) (ys := [x.1]) (tk := .own d (s'.ct d + 1)) slc_38 (own_tok hO2 (some (1, 10))) (by simp at hxl ⊢; omega) hlim2 (und_tok hS4 _ _)
       simp only [encs, ct_set, ct_tick] at q1
       simp -implicitDefEqProofs -dsimp only [go_sem, q1]
       refine ⟨n, Nat.lt_succ_self n, l ++ [x.1], false, x.2, bi, hT, a2, q2, rfl, ?_, ⟨z, ?_, hzl⟩, ?_, q4⟩
       ·rw [q5]; simp only [go_sem, hne, if_true, if_false]
       ·rw [q5]; simp only [go_sem, hmy, if_false, hz, Nat.reduceEqDiff, false_and, and_false]
       ·rw [q3]; simp only [go_sem, cut_set _ _ _ _ hp, hcut, set_set]
     ·have h4' : (y.kind != 4) = true := by simpa using h4
      have h42' : ¬ (y.kind = 4 ∧ ra.nx s = some 42) := fun q => h4 q.1
      rw [if_neg h42'] at hpx
      simp -implicitDefEqProofs -dsimp only [go_sem, a0, h4', enc_kind, enc_take]
      refine (w210 s ra y (by omega) ga2 p lim (d + 1) hp1 hlim _ hS1 hS2).wh ?_
      rw [← hpx]
      generalize pieceB s rec true r2 = x at G bi hT
      have hxz : szs (l ++ [x.1]) ≤ 1000000 := by
       have h1 := bi.in'
       cases hbb : x.2.bad with
       | false => have := (bi.good hbb).2; omega
       | true => have := (bi.bad' hbb); omega
      have hxl := len_le (l ++ [x.1])
      have hO2 : Own ((((((s'.set p (encB s ra)).set ⟨d, 5, s'.ct d⟩ (enc y)).set p (encB s x.2)).set ⟨d, 5, s'.ct d⟩ (enc x.1)).tick d)) d (a 3) l := own_mono hO (fun _ _ => rfl) (by simp [Sto.tick, Sto.set, upd])
      have hS4 : ((((((s'.set p (encB s ra)).set ⟨d, 5, s'.ct d⟩ (enc y)).set p (encB s x.2)).set ⟨d, 5, s'.ct d⟩ (enc x.1)).tick d)).Und (d + 1) := by simp only [u_tick, u_set _ _ _ _ hp1, u_mine]; exact hus
      obtain ⟨v', s2, q1, q2, q3, q4, q5⟩ := app_own (P := X.P) (t := 38) (ys := [x.1]) (tk := .own d (s'.ct d + 1)) slc_38 (own_tok hO2 (some (1, 10))) (by simp at hxl ⊢; omega) hlim2 (und_tok hS4 _ _)
      simp only [encs, ct_set, ct_tick] at q1
      simp -implicitDefEqProofs -dsimp only [go_sem, hmy, putC_ee, q1, a0]
      refine ⟨n, Nat.lt_succ_self n, l ++ [x.1], false, x.2, bi, hT, a2, q2, rfl, ?_, ⟨z, ?_, hzl⟩, ?_, q4⟩
      ·rw [q5]; simp only [go_sem, hne, if_true, if_false]
      ·rw [q5]; simp only [go_sem, hmy, if_false, hz, Nat.reduceEqDiff, false_and, and_false]
      ·rw [q3]; simp only [go_sem, cut_set _ _ _ _ hp, hcut, set_set]
   case false =>
    simp only [Bool.false_eq_true, false_and, if_false] at hT
    simp only [Bool.false_eq_true, false_and, if_false]
    rw [hT]
    simp -implicitDefEqProofs -dsimp only [go_sem, a0, a4]
    refine (w209 H K r2 false hs b4 b1 b.g9 (by have := b.gm; omega) p lim (d + 1) hp1 hlim _ hus hop).wh ?_
    have GA := gd_atomB H (first := false) b4 b1 b.g9 (by have := b.gm; omega)
    have hpx : pieceB s rec false r2 = if (atomB s rec false r2).1.kind = 4 ∧ (atomB s rec false r2).2.nx s = some 42 then atomB s rec false r2 else repB s (atomB s rec false r2).1 (atomB s rec false r2).2 := rfl
    generalize atomB s rec false r2 = xa at GA hpx
    obtain ⟨y, ra⟩ := xa
    simp only at hpx ⊢
    have ga2 := GA.in'
    simp only at ga2
    have hS1 : ((((s'.set p (encB s ra)).set ⟨d, 5, s'.ct d⟩ (enc y)).tick d)).Und (d + 1) := by simp only [u_tick, u_set _ _ _ _ hp1, u_mine]; exact hus
    have hS2 : ((((s'.set p (encB s ra)).set ⟨d, 5, s'.ct d⟩ (enc y)).tick d)).ob p = some (encB s ra) := by simp only [go_sem, hne, if_true, if_false]
    by_cases h4 : y.kind = 4
    ·have h4' : (y.kind != 4) = false := by rw [h4]; rfl
     simp -implicitDefEqProofs -dsimp only [go_sem, a0, h4', enc_kind]
     refine (w207 s ra [42] (by omega) ga2 p lim (d + 1) hp1 _ hS1 hS2).wh ?_
     rw [hasT_one s ra ga2]
     cases h42 : ra.nx s == some 42
     ·have h42' : ¬ (y.kind = 4 ∧ ra.nx s = some 42) := fun q => by rw [q.2] at h42; simp at h42
      rw [if_neg h42'] at hpx
      simp -implicitDefEqProofs -dsimp only [go_sem, a0, enc_take]
      refine (w210 s ra y (by omega) ga2 p lim (d + 1) hp1 hlim _ hS1 hS2).wh ?_
      rw [← hpx]
      generalize pieceB s rec false r2 = x at G bi hT
      have hxz : szs (l ++ [x.1]) ≤ 1000000 := by
       have h1 := bi.in'
       cases hbb : x.2.bad with
       | false => have := (bi.good hbb).2; omega
       | true => have := (bi.bad' hbb); omega
      have hxl := len_le (l ++ [x.1])
      have hO2 : Own ((((((s'.set p (encB s ra)).set ⟨d, 5, s'.ct d⟩ (enc y)).set p (encB s x.2)).set ⟨d, 5, s'.ct d⟩ (enc x.1)).tick d)) d (a 3) l := own_mono hO (fun _ _ => rfl) (by simp [Sto.tick, Sto.set, upd])
      have hS4 : ((((((s'.set p (encB s ra)).set ⟨d, 5, s'.ct d⟩ (enc y)).set p (encB s x.2)).set ⟨d, 5, s'.ct d⟩ (enc x.1)).tick d)).Und (d + 1) := by simp only [u_tick, u_set _ _ _ _ hp1, u_mine]; exact hus
      obtain ⟨v', s2, q1, q2, q3, q4, q5⟩ := app_own (P := X.P) (t := 38) (ys := [x.1]) (tk := .own d (s'.ct d + 1)) slc_38 (own_tok hO2 (some (1, 10))) (by simp at hxl ⊢; omega) hlim2 (und_tok hS4 _ _)
      simp only [encs, ct_set, ct_tick] at q1
      simp -implicitDefEqProofs -dsimp only [go_sem, hmy, putC_ee, q1, a0]
      refine ⟨n, Nat.lt_succ_self n, l ++ [x.1], false, x.2, bi, hT, a2, q2, rfl, ?_, ⟨z, ?_, hzl⟩, ?_, q4⟩
      ·rw [q5]; simp only [go_sem, hne, if_true, if_false]
      ·rw [q5]; simp only [go_sem, hmy, if_false, hz, Nat.reduceEqDiff, false_and, and_false]
      ·rw [q3]; simp only [go_sem, cut_set _ _ _ _ hp, hcut, set_set]
     ·rw [if_pos ⟨h4, by simpa using h42⟩] at hpx
      rw [hpx] at G bi hT
      generalize hx : (y, ra) = x at G bi hT
      have hx1 : y = x.1 := by rw [← hx]
      have hx2 : ra = x.2 := by rw [← hx]
      rw [hx1, hx2] at hS1 hS2
      rw [hx1, hx2]
      simp -implicitDefEqProofs -dsimp only [go_sem, a0, enc_take]
      have hxz : szs (l ++ [x.1]) ≤ 1000000 := by
       have h1 := bi.in'
       cases hbb : x.2.bad with
       | false => have := (bi.good hbb).2; omega
       | true => have := (bi.bad' hbb); omega
      have hxl := len_le (l ++ [x.1])
      have hO2 : Own ((((s'.set p (encB s x.2)).set ⟨d, 5, s'.ct d⟩ (enc x.1)).tick d)) d (a 3) l := own_mono hO (fun _ _ => rfl) (by simp [Sto.tick, Sto.set, upd])
      have hS4 : ((((s'.set p (encB s x.2)).set ⟨d, 5, s'.ct d⟩ (enc x.1)).tick d)).Und (d + 1) := by simp only [u_tick, u_set _ _ _ _ hp1, u_mine]; exact hus
      obtain ⟨v', s2, q1, q2, q3, q4, q5⟩ := app_own (P := X.P) (t := 38) (ys := [x.1]) (tk := .own d (s'.ct d + 1)) slc_38 (own_tok hO2 (some (1, 10))) (by simp at hxl ⊢; omega) hlim2 (und_tok hS4 _ _)
      simp only [encs, ct_set, ct_tick] at q1
      simp -implicitDefEqProofs -dsimp only [go_sem, q1]
      refine ⟨n, Nat.lt_succ_self n, l ++ [x.1], false, x.2, bi, hT, a2, q2, rfl, ?_, ⟨z, ?_, hzl⟩, ?_, q4⟩
      ·rw [q5]; simp only [go_sem, hne, if_true, if_false]
      ·rw [q5]; simp only [go_sem, hmy, if_false, hz, Nat.reduceEqDiff, false_and, and_false]
      ·rw [q3]; simp only [go_sem, cut_set _ _ _ _ hp, hcut, set_set]
    ·have h4' : (y.kind != 4) = true := by simpa using h4
     have h42' : ¬ (y.kind = 4 ∧ ra.nx s = some 42) := fun q => h4 q.1
     rw [if_neg h42'] at hpx
     simp -implicitDefEqProofs -dsimp only [go_sem, a0, h4', enc_kind, enc_take]
     refine (w210 s ra y (by omega) ga2 p lim (d + 1) hp1 hlim _ hS1 hS2).wh ?_
     rw [← hpx]
     generalize pieceB s rec false r2 = x at G bi hT
     have hxz : szs (l ++ [x.1]) ≤ 1000000 := by
      have h1 := bi.in'
      cases hbb : x.2.bad with
      | false => have := (bi.good hbb).2; omega
      | true => have := (bi.bad' hbb); omega
     have hxl := len_le (l ++ [x.1])
     have hO2 : Own ((((((s'.set p (encB s ra)).set ⟨d, 5, s'.ct d⟩ (enc y)).set p (encB s x.2)).set ⟨d, 5, s'.ct d⟩ (enc x.1)).tick d)) d (a 3) l := own_mono hO (fun _ _ => rfl) (by simp [Sto.tick, Sto.set, upd])
     have hS4 : ((((((s'.set p (encB s ra)).set ⟨d, 5, s'.ct d⟩ (enc y)).set p (encB s x.2)).set ⟨d, 5, s'.ct d⟩ (enc x.1)).tick d)).Und (d + 1) := by simp only [u_tick, u_set _ _ _ _ hp1, u_mine]; exact hus
     obtain ⟨v', s2, q1, q2, q3, q4, q5⟩ := app_own (P := X.P) (t := 38) (ys := [x.1]) (tk := .own d (s'.ct d + 1)) slc_38 (own_tok hO2 (some (1, 10))) (by simp at hxl ⊢; omega) hlim2 (und_tok hS4 _ _)
     simp only [encs, ct_set, ct_tick] at q1
     simp -implicitDefEqProofs -dsimp only [go_sem, hmy, putC_ee, q1, a0]
     refine ⟨n, Nat.lt_succ_self n, l ++ [x.1], false, x.2, bi, hT, a2, q2, rfl, ?_, ⟨z, ?_, hzl⟩, ?_, q4⟩
     ·rw [q5]; simp only [go_sem, hne, if_true, if_false]
     ·rw [q5]; simp only [go_sem, hmy, if_false, hz, Nat.reduceEqDiff, false_and, and_false]
     ·rw [q3]; simp only [go_sem, cut_set _ _ _ _ hp, hcut, set_set]
 ·refine ⟨[], true, r, bj_0 s r hb hr h9, rfl, rfl, rfl, .inl ⟨rfl, rfl⟩, rfl, ?_, ⟨[.int .i64 0, .int .u8 0, .int .u64 0, .int .u64 0, .int .u64 0, .int .u64 0, .int .i64 0, .int .i64 0, .int .i64 0, .sl .nil []], ?_, rfl⟩, ?_, ?_⟩
  ·simp only [go_sem, hne, if_false]; exact ho
  ·simp only [go_sem, if_true]
  ·rw [set_same ho]; simp only [go_sem, cut_und _ _ hu]
  ·simp only [u_tick, u_mine]; exact hun
end
theorem hw_step {s : List UInt8} {k : Nat} {rec : Rd → Nd × Rd} (H : HB s k rec) (K : HW s k rec) (hs : s.length ≤ 100000) : HW s (k + 1) (seqB s rec (joinN []) (s.length + 1) true []) := fun r hb hr h9 hk lim d p σ hp hlim hu ho => w205 H K r hs hr hb h9 (by omega) p lim d hp hlim σ hu ho
theorem hw_par (s : List UInt8) (hs : s.length ≤ 100000) : ∀ k, HW s k (parB s (joinN []) k)
 | 0 => fun r hb hr h9 hk => by omega
 | k + 1 => hw_step (hb_par s (by decide) k) (hw_par s hs k) hs
theorem w204 (s : List UInt8) (hs : s.length ≤ 100000) (lim d : Nat) (hlim : lim ≤ d) (σ : Sto) (hu : σ.Und d) : Ret lim d 41 [.str s] σ (parseBV (parseB (joinN []) s)) σ := by
 have hun := und_succ hu
 have G := hb_par s (e := joinN []) (by decide) 10 ⟨0, 0, false⟩ rfl (by simp) (by simp) (by simp)
 have hw := hw_par s hs 10 ⟨0, 0, false⟩ rfl (by simp) (by simp) (by simp)
 unfold Ret parseBV
 rw [parseB_eq]
 rw [WF_body (C := X) rfl func41 rfl (by kernel_rfl)]; simp only [results41]
 simp -implicitDefEqProofs -dsimp only [go_sem]
 rw [show [MV.str s, MV.int .i64 0, MV.int .i64 0, MV.bool false] = encB s ⟨0, 0, false⟩ from rfl]
 refine (hw lim (d + 1) ⟨d, 9, σ.ct d + 1⟩ _ (Nat.lt_succ_self d) hlim ?_ ?_).wh ?_
 ·simp only [u_tick, u_mine]; exact hun
 ·simp only [go_sem, if_true]
 generalize parB s (joinN []) 10 ⟨0, 0, false⟩ = x at G
 obtain ⟨y, r⟩ := x
 have g2 := G.in'
 have hsz : sz y ≤ 1000000 := by have := G.sz'; simp only at this g2; omega
 simp only at g2 ⊢
 cases hbb : r.bad
 case true =>
  have hbd : encB s r = [.str s, .int .i64 r.at', .int .i64 r.g, .bool true] := by rw [encB, hbb]
  simp -implicitDefEqProofs -dsimp only [go_sem, hbd]
  rw [D_lx [.tmp 29] (by kernel_rfl) (by kernel_rfl)]; simp -implicitDefEqProofs -dsimp only [go_sem, List.takeWhile_cons, List.dropWhile_cons, isTail, evNews, List.mem_cons, List.not_mem_nil, or_false, false_or, not_false_eq_true, not_true_eq_false, decide_true, Bool.not_true, Bool.not_false, forall_eq, ne_eq, ct_lt2, Bool.true_or]
  exact ⟨rfl, cut_und _ _ hu⟩
 case false =>
  have hgood := encB_good s r hbb
  by_cases hend : r.at' < s.length
  ·have e1 : (r.at' : Int) < (s.length : Int) := by omega
   simp -implicitDefEqProofs -dsimp only [go_sem, hgood, e1]
   rw [D_lx [.tmp 29] (by kernel_rfl) (by kernel_rfl)]; simp -implicitDefEqProofs -dsimp only [go_sem, List.takeWhile_cons, List.dropWhile_cons, isTail, evNews, List.mem_cons, List.not_mem_nil, or_false, false_or, not_false_eq_true, not_true_eq_false, decide_true, Bool.not_true, Bool.not_false, forall_eq, ne_eq, ct_lt2, hend, Bool.or_true]
   exact ⟨rfl, cut_und _ _ hu⟩
  ·have e1 : ¬ (r.at' : Int) < (s.length : Int) := by omega
   simp -implicitDefEqProofs -dsimp only [go_sem, hgood, e1]
   refine (w12 y hsz lim (d + 1) _ (by omega) ?_).wh ?_
   ·simp only [u_tick, u_mine]; exact hun
   cases formedB y
   ·simp -implicitDefEqProofs -dsimp only [go_sem, enc, z0, encs, cut_und _ _ hu, hend, Bool.or_self, Bool.false_eq_true]
   ·simp -implicitDefEqProofs -dsimp only [go_sem, cut_und _ _ hu, hend, Bool.or_self, Bool.false_eq_true]
theorem parseB_sz (e : Nd) (he : sz e ≤ 1) (s : List UInt8) (hs : s.length ≤ 100000) : sz (parseB e s).1 ≤ 1000000 := by
 have G := hb_par s he 10 ⟨0, 0, false⟩ rfl (by simp) (by simp) (by simp)
 rw [parseB_eq]
 generalize parB s e 10 ⟨0, 0, false⟩ = x at G
 have g2 := G.in'
 have g3 := G.sz'
 simp only at g2 g3
 split
 ·simp [sz_z0]
 ·split
  ·simp only; omega
  ·simp [sz_z0]
def encT (s : List UInt8) (r : Rd) : List MV := [.str s, .int .i64 r.at', .bool false, .int .i64 r.g, .bool r.bad]
theorem encT_eq (s : List UInt8) (r : Rd) : encT s r = [.str s, .int .i64 r.at', .bool false, .int .i64 r.g, .bool r.bad] := rfl
theorem encT_go (s : List UInt8) (r : Rd) (a : Nat) (h : r.bad = false) : encT s (r.go a) = [.str s, .int .i64 a, .bool false, .int .i64 r.g, .bool false] := by simp only [encT, Rd.go, h]
theorem encT_good (s : List UInt8) (r : Rd) (h : r.bad = false) : encT s r = [.str s, .int .i64 r.at', .bool false, .int .i64 r.g, .bool false] := by simp only [encT, h]
theorem v33 (s : List UInt8) (r : Rd) (t : List UInt8) (hs : s.length ≤ 1000000) (ht : t.length ≤ 1000) (hr : r.at' ≤ s.length) (p : Mv.Loc) (lim d : Nat) (hp : p.d < d) (σ : Sto) (hu : σ.Und d) (ho : σ.ob p = some (encT s r)) : Ret lim d 93 [.ptr p 0, .str t] σ (.bool (!r.bad && preS (s.drop r.at') t)) σ := by
 obtain ⟨n, g, bad⟩ := r
 simp only [encT] at ho hr ⊢
 have x1 := wr64 ((s.length : Int) - n) (by omega) (by omega)
 have x2 := wr64 ((n : Int) + t.length) (by omega) (by omega)
 have hc := cut_at s n 0 t.length
 simp only [Nat.add_zero, List.drop_zero] at hc
 have t1 : ((n : Int) + t.length).toNat = n + t.length := by omega
 have p1 : (0 : Int) ≤ (n : Int) + t.length := by omega
 have p2 : (n : Int) ≤ ((n + t.length : Nat) : Int) := by omega
 unfold Ret
 rw [WF_body (C := X) rfl func93 rfl (by kernel_rfl)]; simp only [results93]
 simp -implicitDefEqProofs -dsimp only [go_sem]
 rw [D_dr (by kernel_rfl) rfl]
 cases bad
 ·by_cases hl : t.length ≤ s.length - n
  ·have e1 : ((t.length : Int) ≤ (s.length : Int) - n) := by omega
   have e2 : (n : Int) + t.length ≤ (s.length : Int) := by omega
   simp -implicitDefEqProofs -dsimp only [go_sem, ho, x1, x2, e1, e2, t1, p1, p2, hc, cut_und _ _ hu]
   rfl
  ·have e1 : ¬ ((t.length : Int) ≤ (s.length : Int) - n) := by omega
   have e2 : preS (s.drop n) t = false := by
    cases h : preS (s.drop n) t with
    | false => rfl
    | true => have := pre_le h; rw [List.length_drop] at this; omega
   simp -implicitDefEqProofs -dsimp only [go_sem, ho, x1, e1, e2, cut_und _ _ hu]
 ·simp -implicitDefEqProofs -dsimp only [go_sem, ho, cut_und _ _ hu]
theorem k1 (s : List UInt8) (r : Rd) (b : UInt8) (hs : s.length ≤ 1000000) (hr : r.at' ≤ s.length) (p : Mv.Loc) (lim d : Nat) (hp : p.d < d) (σ : Sto) (hu : σ.Und d) (ho : σ.ob p = some (encT s r)) : Ret lim d 93 [.ptr p 0, .str [b]] σ (.bool (r.nx s == some b)) σ := by
 rw [← has_one s r hr b]
 exact v33 s r [b] hs (by simp) hr p lim d hp σ hu ho
theorem has_two (s : List UInt8) (r : Rd) (hr : r.at' ≤ s.length) (c : UInt8) : (!r.bad && preS (s.drop r.at') [92, c]) = hasE s r c := by
 unfold hasE Rd.nx
 cases r.bad
 ·simp only [Bool.not_false, Bool.true_and, Bool.false_eq_true, if_false]
  by_cases h : r.at' < s.length
  ·rw [List.drop_eq_getElem_cons h, List.getElem?_eq_getElem h]
   by_cases h2 : r.at' + 1 < s.length
   ·rw [List.drop_eq_getElem_cons h2, pre_two, List.getElem?_eq_getElem h2]
    rw [Bool.eq_iff_iff]; simp
   ·rw [List.drop_eq_nil_of_le (by omega), pre_two1, List.getElem?_eq_none (by omega)]
    rw [Bool.eq_iff_iff]; simp
  ·rw [List.drop_eq_nil_of_le (by omega), pre_nil _ (by simp), List.getElem?_eq_none (by omega)]
   simp
 ·simp
theorem k2 (s : List UInt8) (r : Rd) (c : UInt8) (hs : s.length ≤ 1000000) (hr : r.at' ≤ s.length) (p : Mv.Loc) (lim d : Nat) (hp : p.d < d) (σ : Sto) (hu : σ.Und d) (ho : σ.ob p = some (encT s r)) : Ret lim d 93 [.ptr p 0, .str [92, c]] σ (.bool (hasE s r c)) σ := by
 rw [← has_two s r hr c]
 exact v33 s r [92, c] hs (by simp) hr p lim d hp σ hu ho
theorem v23 (s : List UInt8) (r : Rd) (p : Mv.Loc) (lim d : Nat) (hp : p.d < d) (σ : Sto) (hu : σ.Und d) (ho : σ.ob p = some (encT s r)) : Ret lim d 69 [.ptr p 0] σ (.bool (decide ((s.length : Int) ≤ (r.at' : Int)))) σ := by
 rw [encT] at ho
 unfold Ret
 rw [WF_body (C := X) rfl func69 rfl (by kernel_rfl)]; simp only [results69]
 simp -implicitDefEqProofs -dsimp only [go_sem]
 rw [D_dr (by kernel_rfl) rfl]
 simp -implicitDefEqProofs -dsimp only [go_sem, ho, cut_und _ _ hu]
theorem v24 (s : List UInt8) (r : Rd) (p : Mv.Loc) (lim d : Nat) (hp : p.d < d) (hlim : lim ≤ p.d) (σ : Sto) (hu : σ.Und d) (ho : σ.ob p = some (encT s r)) : Ret lim d 70 [.ptr p 0] σ (.agg (enc z0)) (σ.set p (encT s r.fail)) := by
 have hne := ne_my hp
 have hmy := my_ne hp
 rw [encT] at ho
 simp only [encT, Rd.fail]
 unfold Ret
 rw [WF_body (C := X) rfl func70 rfl (by kernel_rfl)]; simp only [results70]
 simp -implicitDefEqProofs -dsimp only [go_sem, enc, ho, hne, hmy, hp, hlim, cut_set _ _ _ _ hp, cut_und _ _ hu, z0, encs]
theorem v42 (s : List UInt8) (r : Rd) (p : Mv.Loc) (lim d : Nat) (hp : p.d < d) (σ : Sto) (hu : σ.Und d) (ho : σ.ob p = some (encT s r)) : Ret lim d 113 [.ptr p 0] σ (.str [92, 41]) σ := by
 rw [encT] at ho
 unfold Ret
 rw [WF_body (C := X) rfl func113 rfl (by kernel_rfl)]; simp only [results113]
 simp -implicitDefEqProofs -dsimp only [go_sem, ho, cut_und _ _ hu]
theorem v56 (s : List UInt8) (r : Rd) (p : Mv.Loc) (lim d : Nat) (hp : p.d < d) (σ : Sto) (hu : σ.Und d) (ho : σ.ob p = some (encT s r)) : Ret lim d 131 [.ptr p 0] σ (.str [92, 123]) σ := by
 rw [encT] at ho
 unfold Ret
 rw [WF_body (C := X) rfl func131 rfl (by kernel_rfl)]; simp only [results131]
 simp -implicitDefEqProofs -dsimp only [go_sem, ho, cut_und _ _ hu]
theorem v57 (s : List UInt8) (r : Rd) (p : Mv.Loc) (lim d : Nat) (hp : p.d < d) (σ : Sto) (hu : σ.Und d) (ho : σ.ob p = some (encT s r)) : Ret lim d 132 [.ptr p 0] σ (.str [92, 40]) σ := by
 rw [encT] at ho
 unfold Ret
 rw [WF_body (C := X) rfl func132 rfl (by kernel_rfl)]; simp only [results132]
 simp -implicitDefEqProofs -dsimp only [go_sem, ho, cut_und _ _ hu]
theorem v43 (s : List UInt8) (r : Rd) (hs : s.length ≤ 1000000) (hr : r.at' ≤ s.length) (p : Mv.Loc) (lim d : Nat) (hp : p.d < d) (σ : Sto) (hu : σ.Und d) (ho : σ.ob p = some (encT s r)) : Ret lim d 114 [.ptr p 0] σ (.bool (isRepB s r)) σ := by
 have hun := und_succ hu
 have hp1 := Nat.lt_succ_of_lt hp
 have ho2 := ho
 rw [encT] at ho2
 unfold Ret
 rw [WF_body (C := X) rfl func114 rfl (by kernel_rfl)]; simp only [results114]
 simp -implicitDefEqProofs -dsimp only [go_sem]
 refine (k1 s r 42 hs hr p lim (d + 1) hp1 σ hun ho).wh ?_
 unfold isRepB
 cases h42 : r.nx s == some 42
 ·simp -implicitDefEqProofs -dsimp only [go_sem]
  refine (v56 s r p lim (d + 1) hp1 σ hun ho).wh ?_
  simp -implicitDefEqProofs -dsimp only [go_sem]
  refine (k2 s r 123 hs hr p lim (d + 1) hp1 σ hun ho).wh ?_
  cases h123 : hasE s r 123
  ·simp -implicitDefEqProofs -dsimp only [go_sem, ho2, Bool.or_self, cut_und _ _ hu]
  ·simp -implicitDefEqProofs -dsimp only [go_sem, Bool.false_or, cut_und _ _ hu]
 ·simp -implicitDefEqProofs -dsimp only [go_sem, Bool.true_or, cut_und _ _ hu]
theorem two_at (s : List UInt8) (n : Nat) : ((s.drop n).take 2 == [92, 125]) = closeB s n := by
 unfold closeB
 by_cases h : n < s.length
 ·rw [List.drop_eq_getElem_cons h, List.getElem?_eq_getElem h]
  by_cases h2 : n + 1 < s.length
  ·rw [List.drop_eq_getElem_cons h2, List.getElem?_eq_getElem h2]
   simp only [List.take_succ_cons, List.take_zero]
   rw [Bool.eq_iff_iff]; simp
  ·rw [List.drop_eq_nil_of_le (by omega), List.getElem?_eq_none (show s.length ≤ n + 1 by omega)]
   rw [Bool.eq_iff_iff]; simp
 ·rw [List.drop_eq_nil_of_le (by omega), List.getElem?_eq_none (by omega)]
  rw [Bool.eq_iff_iff]; simp
theorem brcB_eq (s : List UInt8) (n : Nat) : bracesB s n = if digsAt s (n + 2) = [] ∨ 255 < numV (digsAt s (n + 2)) then none else
  if s[n + 2 + (digsAt s (n + 2)).length]? = some 44 then
   if closeB s (n + 2 + (digsAt s (n + 2)).length + 1 + (digsAt s (n + 2 + (digsAt s (n + 2)).length + 1)).length) = true ∧ (digsAt s (n + 2 + (digsAt s (n + 2)).length + 1) = [] ∨ numV (digsAt s (n + 2 + (digsAt s (n + 2)).length + 1)) ≤ 255 ∧ numV (digsAt s (n + 2)) ≤ numV (digsAt s (n + 2 + (digsAt s (n + 2)).length + 1))) then
    some ((numV (digsAt s (n + 2)) : Int), if digsAt s (n + 2 + (digsAt s (n + 2)).length + 1) = [] then (-1 : Int) else (numV (digsAt s (n + 2 + (digsAt s (n + 2)).length + 1)) : Int), n + 2 + (digsAt s (n + 2)).length + 1 + (digsAt s (n + 2 + (digsAt s (n + 2)).length + 1)).length + 2) else none
  else if closeB s (n + 2 + (digsAt s (n + 2)).length) = true then some ((numV (digsAt s (n + 2)) : Int), (numV (digsAt s (n + 2)) : Int), n + 2 + (digsAt s (n + 2)).length + 2) else none := rfl
theorem tim_clo2 (s : List UInt8) (Q : Nat) (hQ : Q + 1 < s.length) (m k : Int) (B : Option (Int × Int × Nat)) (hB : B = if closeB s Q = true then some (m, k, Q + 2) else none) {σ σ' : Sto} (hσ : σ' = σ) :
  (0 ≤ (Q : Int) + 2 ∧ (Q : Int) + 2 ≤ (s.length : Int)) ∧ (Q : Int) ≤ (((Q : Int) + 2).toNat : Int) ∧
   if (!List.drop Q (List.take ((Q : Int) + 2).toNat s) == [92, 125]) = true then
    MV.tup [MV.int IntKind.i64 0, MV.int IntKind.i64 0, MV.int IntKind.i64 0, MV.bool false] = timV B ∧ σ' = σ
   else
    MV.tup [MV.int IntKind.i64 m, MV.int IntKind.i64 k, MV.int IntKind.i64 ((Q : Int) + 2), MV.bool true] = timV B ∧ σ' = σ := by
 have t1 : ((Q : Int) + 2).toNat = Q + 2 := by omega
 have hc := cut_at s Q 0 2
 simp only [Nat.add_zero, List.drop_zero] at hc
 refine ⟨⟨by omega, by omega⟩, by omega, ?_⟩
 rw [t1, hc, two_at]
 cases h : closeB s Q
 ·rw [if_neg (by simp [h])] at hB
  exact ⟨by rw [hB]; rfl, hσ⟩
 ·rw [if_pos h] at hB
  exact ⟨by rw [hB]; rfl, hσ⟩
theorem close_end {s : List UInt8} {Q : Nat} (h : ¬ Q + 1 < s.length) : closeB s Q = false := by
 cases hc : closeB s Q with
 | false => rfl
 | true => have := closeB_lt hc; omega
end Go.Proofs.Tryz.E
