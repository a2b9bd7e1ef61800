/- Walks: what the functions compute. -/
import Derived.Test.YthmgjkngkhdjjaaGreatDoorWE34
set_option linter.unusedVariables false
set_option linter.unusedSimpArgs false
/- The other reader: a branch. -/
namespace Go.Proofs.Tryz.E
open Go.Mv
set_option maxHeartbeats 4000000
set_option maxRecDepth 20000
section
variable {s : List UInt8} {k : Nat} {rec : Rd → Nd × Rd} (H : HR s k rec) (K : HQ s k rec)
include H K
theorem w32 (r : Rd) (hs : s.length ≤ 100000) (hr : r.at' ≤ s.length) (hb : r.bad = false) (h9 : r.g ≤ 9) (hk : 10 ≤ k + 1 + r.g) (p : Mv.Loc) (lim d : Nat) (hp : p.d < d) (hlim : lim ≤ p.d) (σ : Sto) (hu : σ.Und d) (ho : σ.ob p = some (encQ s r)) :
  Ret lim d 92 [.ptr p 0] σ (.agg (enc (branchS s rec (s.length + 1) [] r).1)) (σ.set p (encQ s (branchS s rec (s.length + 1) [] r).2)) := by
 have hun := und_succ hu
 have hne := ne_my hp
 have hmy := my_ne hp
 have hp1 := Nat.lt_succ_of_lt hp
 have hlim2 : lim ≤ d := by omega
 unfold Ret
 rw [WF_body (C := X) rfl func92 rfl (by kernel_rfl)]; simp only [results92]
 simp -implicitDefEqProofs -dsimp only [go_sem]
 refine loop_h (I := fun n a s' => ∃ (l : List Nd) (r2 : Rd), BI s r n l r2 ∧ branchS s rec n l r2 = branchS s rec (s.length + 1) [] r ∧ a 0 = .ptr p 0 ∧ a 2 = .ptr ⟨d, 2, σ.ct d⟩ 0 ∧ a 4 = .bool l.isEmpty ∧ Own s' d (a 3) l ∧ s'.ob p = some (encQ s r2) ∧ (∃ z, s'.ob ⟨d, 2, σ.ct d⟩ = some z ∧ z.length = 10) ∧ s'.cut d = σ.set p (encQ s r2) ∧ s'.Und (d + 1)) ?_ (s.length + 1) _ _ ?_
 ·rintro n a s' ⟨l, r2, b, hT, a0, a2, a4, hO, hop, ⟨z, hz, hzl⟩, hcut, hus⟩
  obtain ⟨n, rfl⟩ : ∃ m, n = m + 1 := ⟨n - 1, by have := b.n1; omega⟩
  have b3 := b.in'
  have hsl : szs l ≤ 1000000 := by
   cases hbb : r2.bad with
   | false => have := (b.good hbb).2; omega
   | true => have := (b.bad' hbb).1; omega
  have hll := len_le l
  have hput : ∀ x, putC z (enc x) 0 = enc x := fun x => putC_whole _ _ (by rw [hzl, enc_len])
  have hop2 := hop
  rw [encQ_eq] at hop2
  rw [branchS] at hT
  cases hbb : r2.bad
  case true =>
   have hst : stopS (r2.nx s) = true := by rw [nx_bad hbb]; rfl
   have hl0 := (b.bad' hbb).2
   rw [hbb] at hop2
   rw [hst, if_pos rfl, if_neg hl0] at hT
   rw [← hT]
   simp -implicitDefEqProofs -dsimp only [go_sem, a0, hop2, own_arg hO]
   refine (w46 l hsl lim (d + 1) _ (by omega) hus).wh ?_
   simp -implicitDefEqProofs -dsimp only [go_sem, a2, hz, hzl, hput, hcut]
  case false =>
   rw [hbb] at hop2
   simp -implicitDefEqProofs -dsimp only [go_sem, a0, hop2]
   refine (w23 s r2 p lim (d + 1) hp1 _ hus hop).wh ?_
   by_cases hend : r2.at' < s.length
   case neg =>
    have e1 : ((s.length : Int) ≤ (r2.at' : Int)) := by omega
    have hst : stopS (r2.nx s) = true := by
     have : r2.nx s = none := by simp [Rd.nx, hbb]; omega
     rw [this]; rfl
    rw [hst] at hT
    simp only [if_true] at hT
    rw [← hT]
    by_cases hl0 : l = []
    ·subst hl0
     have e0 : (((0 : Nat) : Int) == 0) = true := rfl
     rw [if_pos rfl]
     simp -implicitDefEqProofs -dsimp only [go_sem, a0, hop2, own_lenQ hO, List.length_nil, e1]
     refine (w24 s r2 p lim (d + 1) hp1 hlim _ hus hop).wh ?_
     simp -implicitDefEqProofs -dsimp only [go_sem, a2, hmy, hz, hzl, hput, hcut, cut_set _ _ _ _ hp]
    ·have e0 : ((l.length : Int) == 0) = false := by
      rw [beq_eq_false_iff_ne]
      intro q
      exact hl0 (List.length_eq_zero_iff.1 (by omega))
     rw [if_neg hl0]
     simp -implicitDefEqProofs -dsimp only [go_sem, a0, hop2, own_lenQ hO, e0, own_arg hO, e1]
     refine (w46 l hsl lim (d + 1) _ (by omega) hus).wh ?_
     simp -implicitDefEqProofs -dsimp only [go_sem, a2, hz, hzl, hput, hcut]
   case pos =>
    have e1 : ¬ ((s.length : Int) ≤ (r2.at' : Int)) := by omega
    have g0 : s[r2.at']? = some s[r2.at'] := List.getElem?_eq_getElem hend
    have hnx : r2.nx s = some s[r2.at'] := by simp [Rd.nx, hbb]
    generalize s[r2.at'] = c at g0 hnx
    have sm : ∀ b : UInt8, (some c == some b) = (c == b) := fun b => by rw [Bool.eq_iff_iff]; simp
    simp -implicitDefEqProofs -dsimp only [go_sem, a0, e1]
    refine (w42 s r2 p lim (d + 1) hp1 _ hus hop).wh ?_
    simp -implicitDefEqProofs -dsimp only [go_sem]
    refine (h1 s r2 41 (by omega) b3 p lim (d + 1) hp1 _ hus hop).wh ?_
    rw [hnx, sm]
    cases h41 : c == 41
    case true =>
     have hst : stopS (r2.nx s) = true := by rw [hnx]; simp only [stopS, sm, h41, Bool.or_true]
     rw [hst] at hT
     simp only [if_true] at hT
     rw [← hT]
     by_cases hl0 : l = []
     ·subst hl0
      have e0 : (((0 : Nat) : Int) == 0) = true := rfl
      rw [if_pos rfl]
      simp -implicitDefEqProofs -dsimp only [go_sem, a0, hop2, own_lenQ hO, List.length_nil]
      refine (w24 s r2 p lim (d + 1) hp1 hlim _ hus hop).wh ?_
      simp -implicitDefEqProofs -dsimp only [go_sem, a2, hmy, hz, hzl, hput, hcut, cut_set _ _ _ _ hp]
     ·have e0 : ((l.length : Int) == 0) = false := by
       rw [beq_eq_false_iff_ne]
       intro q
       exact hl0 (List.length_eq_zero_iff.1 (by omega))
      rw [if_neg hl0]
      simp -implicitDefEqProofs -dsimp only [go_sem, a0, hop2, own_lenQ hO, e0, own_arg hO]
      refine (w46 l hsl lim (d + 1) _ (by omega) hus).wh ?_
      simp -implicitDefEqProofs -dsimp only [go_sem, a2, hz, hzl, hput, hcut]
    case false =>
     simp -implicitDefEqProofs -dsimp only [go_sem, a0, hop2]
     refine (h1 s r2 124 (by omega) b3 p lim (d + 1) hp1 _ hus hop).wh ?_
     rw [hnx, sm]
     cases h124 : c == 124
     case true =>
      have hst : stopS (r2.nx s) = true := by rw [hnx]; simp only [stopS, sm, h124, Bool.true_or, Bool.or_true]
      rw [hst] at hT
      simp only [if_true] at hT
      rw [← hT]
      by_cases hl0 : l = []
      ·subst hl0
       have e0 : (((0 : Nat) : Int) == 0) = true := rfl
       rw [if_pos rfl]
       simp -implicitDefEqProofs -dsimp only [go_sem, a0, hop2, own_lenQ hO, List.length_nil]
       refine (w24 s r2 p lim (d + 1) hp1 hlim _ hus hop).wh ?_
       simp -implicitDefEqProofs -dsimp only [go_sem, a2, hmy, hz, hzl, hput, hcut, cut_set _ _ _ _ hp]
      ·have e0 : ((l.length : Int) == 0) = false := by
        rw [beq_eq_false_iff_ne]
        intro q
        exact hl0 (List.length_eq_zero_iff.1 (by omega))
       rw [if_neg hl0]
       simp -implicitDefEqProofs -dsimp only [go_sem, a0, hop2, own_lenQ hO, e0, own_arg hO]
       refine (w46 l hsl lim (d + 1) _ (by omega) hus).wh ?_
       simp -implicitDefEqProofs -dsimp only [go_sem, a2, hz, hzl, hput, hcut]
     case false =>
      have hst : stopS (r2.nx s) = false := by rw [hnx]; simp only [stopS, sm, h41, h124, Bool.or_false]; rfl
      obtain ⟨b1, b4, G, bi⟩ := bi_step H hk b hst
      rw [hst] at hT
      simp only [Bool.false_eq_true, if_false] at hT
      simp -implicitDefEqProofs -dsimp only [go_sem, a0, hop2]
      refine (w43 s r2 (by omega) b3 p lim (d + 1) hp1 _ hus hop).wh ?_
      by_cases hl0 : l = []
      ·have hie : l.isEmpty = true := by rw [hl0]; rfl
       cases hre : isRep (r2.nx s)
       ·rw [hre] at hT
        simp only [Bool.false_eq_true, and_false, if_false] at hT
        simp -implicitDefEqProofs -dsimp only [go_sem, a0, a4, hie]
        refine (w44 H K r2 _ hs b4 b1 b.g9 (by have := b.gm; omega) p lim (d + 1) hp1 hlim _ hus hop).wh ?_
        have GA := gd_atom H b4 b1 b.g9 (by have := b.gm; omega)
        have hpx : pieceS s rec r2 = repS s (atomS s rec r2).1 (atomS s rec r2).2 := rfl
        generalize hxa : atomS s rec r2 = xa at GA hpx
        obtain ⟨y, ra⟩ := xa
        simp only at hpx ⊢
        have ga2 := GA.in'
        simp only at ga2
        have hS1 : ((((s'.set p (encQ s ra)).set ⟨d, 6, s'.ct d⟩ (enc y)).tick d)).Und (d + 1) := by simp only [u_tick, u_set _ _ _ _ hp1, u_mine]; exact hus
        have hS2 : ((((s'.set p (encQ s ra)).set ⟨d, 6, s'.ct d⟩ (enc y)).tick d)).ob p = some (encQ s ra) := by simp only [go_sem, hne, if_true, if_false]
        have hS3 : some (encQ s ra) = some [MV.str s, .int .i64 ra.at', .bool true, .int .i64 ra.g, .bool ra.bad] := rfl
        cases hrb : ra.bad
        ·simp -implicitDefEqProofs -dsimp only [go_sem, a0, hne, hS3, hrb, enc_kind, enc_take]
         refine (w45 s ra y (by omega) ga2 p lim (d + 1) hp1 hlim _ hS1 hS2).wh ?_
         rw [← hpx]
         generalize hpp : pieceS s rec r2 = x at G bi hT
         have hxz : szs (l ++ [x.1]) ≤ 1000000 := by
          have h1 := bi.in'
          cases hbb : x.2.bad with
          | false => have := (bi.good hbb).2; omega
          | true => have := (bi.bad' hbb).1; omega
         have hxl := len_le (l ++ [x.1])
         have hO2 : Own ((((s'.set p (encQ s ra)).set ⟨d, 6, s'.ct d⟩ (enc y)).set p (encQ s x.2)).tick d) d (a 3) l := own_mono hO (fun _ _ => rfl) (by simp [Sto.tick, Sto.set, upd])
         have hS4 : ((((s'.set p (encQ s ra)).set ⟨d, 6, s'.ct d⟩ (enc y)).set p (encQ s x.2)).tick d).Und (d + 1) := by simp only [u_tick, u_set _ _ _ _ hp1, u_mine]; exact hus
         obtain ⟨v', s2, q1, q2, q3, q4, q5⟩ := app_own (P := X.P) (t := 25) (ys := [x.1]) (tk := .own d (s'.ct d + 1)) slc_25 (own_tok hO2 (some (1, 10))) (by simp at hxl ⊢; omega) hlim2 (und_tok hS4 _ _)
         simp only [encs, ct_set, ct_tick] at q1
         simp -implicitDefEqProofs -dsimp only [go_sem, q1, a0]
         refine ⟨n, Nat.lt_succ_self n, l ++ [x.1], x.2, bi, hT, a2, by simp, q2, ?_, ⟨z, ?_, hzl⟩, ?_, q4⟩
         ·rw [q5]; simp only [go_sem, if_true]
         ·rw [q5]; simp only [go_sem, hmy, if_false, hz, Nat.reduceEqDiff, false_and, and_false]
         ·rw [q3]; simp only [go_sem, cut_set _ _ _ _ hp, hcut, set_set]
        ·simp -implicitDefEqProofs -dsimp only [go_sem, a0, hne, hS3, hrb, enc_take]
         refine (w45 s ra y (by omega) ga2 p lim (d + 1) hp1 hlim _ hS1 hS2).wh ?_
         rw [← hpx]
         generalize hpp : pieceS s rec r2 = x at G bi hT
         have hxz : szs (l ++ [x.1]) ≤ 1000000 := by
          have h1 := bi.in'
          cases hbb : x.2.bad with
          | false => have := (bi.good hbb).2; omega
          | true => have := (bi.bad' hbb).1; omega
         have hxl := len_le (l ++ [x.1])
         have hO2 : Own ((((s'.set p (encQ s ra)).set ⟨d, 6, s'.ct d⟩ (enc y)).set p (encQ s x.2)).tick d) d (a 3) l := own_mono hO (fun _ _ => rfl) (by simp [Sto.tick, Sto.set, upd])
         have hS4 : ((((s'.set p (encQ s ra)).set ⟨d, 6, s'.ct d⟩ (enc y)).set p (encQ s x.2)).tick d).Und (d + 1) := by simp only [u_tick, u_set _ _ _ _ hp1, u_mine]; exact hus
         obtain ⟨v', s2, q1, q2, q3, q4, q5⟩ := app_own (P := X.P) (t := 25) (ys := [x.1]) (tk := .own d (s'.ct d + 1)) slc_25 (own_tok hO2 (some (1, 10))) (by simp at hxl ⊢; omega) hlim2 (und_tok hS4 _ _)
         simp only [encs, ct_set, ct_tick] at q1
         simp -implicitDefEqProofs -dsimp only [go_sem, q1, a0]
         refine ⟨n, Nat.lt_succ_self n, l ++ [x.1], x.2, bi, hT, a2, by simp, q2, ?_, ⟨z, ?_, hzl⟩, ?_, q4⟩
         ·rw [q5]; simp only [go_sem, if_true]
         ·rw [q5]; simp only [go_sem, hmy, if_false, hz, Nat.reduceEqDiff, false_and, and_false]
         ·rw [q3]; simp only [go_sem, cut_set _ _ _ _ hp, hcut, set_set]
       ·rw [hre] at hT
        simp only [hl0, and_true, if_true] at hT
        rw [← hT]
        simp -implicitDefEqProofs -dsimp only [go_sem, a0, a4, hie]
        refine (w24 s r2 p lim (d + 1) hp1 hlim _ hus hop).wh ?_
        simp -implicitDefEqProofs -dsimp only [go_sem, a2, hmy, hz, hzl, hput, hcut, cut_set _ _ _ _ hp]
      ·have hie : l.isEmpty = false := by simpa using hl0
       simp only [hl0, false_and, if_false] at hT
       cases hre : isRep (r2.nx s)
       ·simp -implicitDefEqProofs -dsimp only [go_sem, a0, a4, hie]
        refine (w44 H K r2 _ hs b4 b1 b.g9 (by have := b.gm; omega) p lim (d + 1) hp1 hlim _ hus hop).wh ?_
        have GA := gd_atom H b4 b1 b.g9 (by have := b.gm; omega)
        have hpx : pieceS s rec r2 = repS s (atomS s rec r2).1 (atomS s rec r2).2 := rfl
        generalize hxa : atomS s rec r2 = xa at GA hpx
        obtain ⟨y, ra⟩ := xa
        simp only at hpx ⊢
        have ga2 := GA.in'
        simp only at ga2
        have hS1 : ((((s'.set p (encQ s ra)).set ⟨d, 6, s'.ct d⟩ (enc y)).tick d)).Und (d + 1) := by simp only [u_tick, u_set _ _ _ _ hp1, u_mine]; exact hus
        have hS2 : ((((s'.set p (encQ s ra)).set ⟨d, 6, s'.ct d⟩ (enc y)).tick d)).ob p = some (encQ s ra) := by simp only [go_sem, hne, if_true, if_false]
        have hS3 : some (encQ s ra) = some [MV.str s, .int .i64 ra.at', .bool true, .int .i64 ra.g, .bool ra.bad] := rfl
        cases hrb : ra.bad
        ·simp -implicitDefEqProofs -dsimp only [go_sem, a0, hne, hS3, hrb, enc_kind, enc_take]
         refine (w45 s ra y (by omega) ga2 p lim (d + 1) hp1 hlim _ hS1 hS2).wh ?_
         rw [← hpx]
         generalize hpp : pieceS s rec r2 = x at G bi hT
         have hxz : szs (l ++ [x.1]) ≤ 1000000 := by
          have h1 := bi.in'
          cases hbb : x.2.bad with
          | false => have := (bi.good hbb).2; omega
          | true => have := (bi.bad' hbb).1; omega
         have hxl := len_le (l ++ [x.1])
         have hO2 : Own ((((s'.set p (encQ s ra)).set ⟨d, 6, s'.ct d⟩ (enc y)).set p (encQ s x.2)).tick d) d (a 3) l := own_mono hO (fun _ _ => rfl) (by simp [Sto.tick, Sto.set, upd])
         have hS4 : ((((s'.set p (encQ s ra)).set ⟨d, 6, s'.ct d⟩ (enc y)).set p (encQ s x.2)).tick d).Und (d + 1) := by simp only [u_tick, u_set _ _ _ _ hp1, u_mine]; exact hus
         obtain ⟨v', s2, q1, q2, q3, q4, q5⟩ := app_own (P := X.P) (t := 25) (ys := [x.1]) (tk := .own d (s'.ct d + 1)) slc_25 (own_tok hO2 (some (1, 10))) (by simp at hxl ⊢; omega) hlim2 (und_tok hS4 _ _)
         simp only [encs, ct_set, ct_tick] at q1
         simp -implicitDefEqProofs -dsimp only [go_sem, q1, a0]
         refine ⟨n, Nat.lt_succ_self n, l ++ [x.1], x.2, bi, hT, a2, by simp, q2, ?_, ⟨z, ?_, hzl⟩, ?_, q4⟩
         ·rw [q5]; simp only [go_sem, if_true]
         ·rw [q5]; simp only [go_sem, hmy, if_false, hz, Nat.reduceEqDiff, false_and, and_false]
         ·rw [q3]; simp only [go_sem, cut_set _ _ _ _ hp, hcut, set_set]
        ·simp -implicitDefEqProofs -dsimp only [go_sem, a0, hne, hS3, hrb, enc_take]
         refine (w45 s ra y (by omega) ga2 p lim (d + 1) hp1 hlim _ hS1 hS2).wh ?_
         rw [← hpx]
         generalize hpp : pieceS s rec r2 = x at G bi hT
         have hxz : szs (l ++ [x.1]) ≤ 1000000 := by
          have h1 := bi.in'
          cases hbb : x.2.bad with
          | false => have := (bi.good hbb).2; omega
          | true => have := (bi.bad' hbb).1; omega
         have hxl := len_le (l ++ [x.1])
         have hO2 : Own ((((s'.set p (encQ s ra)).set ⟨d, 6, s'.ct d⟩ (enc y)).set p (encQ s x.2)).tick d) d (a 3) l := own_mono hO (fun _ _ => rfl) (by simp [Sto.tick, Sto.set, upd])
         have hS4 : ((((s'.set p (encQ s ra)).set ⟨d, 6, s'.ct d⟩ (enc y)).set p (encQ s x.2)).tick d).Und (d + 1) := by simp only [u_tick, u_set _ _ _ _ hp1, u_mine]; exact hus
         obtain ⟨v', s2, q1, q2, q3, q4, q5⟩ := app_own (P := X.P) (t := 25) (ys := [x.1]) (tk := .own d (s'.ct d + 1)) slc_25 (own_tok hO2 (some (1, 10))) (by simp at hxl ⊢; omega) hlim2 (und_tok hS4 _ _)
         simp only [encs, ct_set, ct_tick] at q1
         simp -implicitDefEqProofs -dsimp only [go_sem, q1, a0]
         refine ⟨n, Nat.lt_succ_self n, l ++ [x.1], x.2, bi, hT, a2, by simp, q2, ?_, ⟨z, ?_, hzl⟩, ?_, q4⟩
         ·rw [q5]; simp only [go_sem, if_true]
         ·rw [q5]; simp only [go_sem, hmy, if_false, hz, Nat.reduceEqDiff, false_and, and_false]
         ·rw [q3]; simp only [go_sem, cut_set _ _ _ _ hp, hcut, set_set]
       ·simp -implicitDefEqProofs -dsimp only [go_sem, a0, a4, hie]
        refine (w44 H K r2 _ hs b4 b1 b.g9 (by have := b.gm; omega) p lim (d + 1) hp1 hlim _ hus hop).wh ?_
        have GA := gd_atom H b4 b1 b.g9 (by have := b.gm; omega)
        have hpx : pieceS s rec r2 = repS s (atomS s rec r2).1 (atomS s rec r2).2 := rfl
        generalize hxa : atomS s rec r2 = xa at GA hpx
        obtain ⟨y, ra⟩ := xa
        simp only at hpx ⊢
        have ga2 := GA.in'
        simp only at ga2
        have hS1 : ((((s'.set p (encQ s ra)).set ⟨d, 6, s'.ct d⟩ (enc y)).tick d)).Und (d + 1) := by simp only [u_tick, u_set _ _ _ _ hp1, u_mine]; exact hus
        have hS2 : ((((s'.set p (encQ s ra)).set ⟨d, 6, s'.ct d⟩ (enc y)).tick d)).ob p = some (encQ s ra) := by simp only [go_sem, hne, if_true, if_false]
        have hS3 : some (encQ s ra) = some [MV.str s, .int .i64 ra.at', .bool true, .int .i64 ra.g, .bool ra.bad] := rfl
        cases hrb : ra.bad
        ·simp -implicitDefEqProofs -dsimp only [go_sem, a0, hne, hS3, hrb, enc_kind, enc_take]
         refine (w45 s ra y (by omega) ga2 p lim (d + 1) hp1 hlim _ hS1 hS2).wh ?_
         rw [← hpx]
         generalize hpp : pieceS s rec r2 = x at G bi hT
         have hxz : szs (l ++ [x.1]) ≤ 1000000 := by
          have h1 := bi.in'
          cases hbb : x.2.bad with
          | false => have := (bi.good hbb).2; omega
          | true => have := (bi.bad' hbb).1; omega
         have hxl := len_le (l ++ [x.1])
         have hO2 : Own ((((s'.set p (encQ s ra)).set ⟨d, 6, s'.ct d⟩ (enc y)).set p (encQ s x.2)).tick d) d (a 3) l := own_mono hO (fun _ _ => rfl) (by simp [Sto.tick, Sto.set, upd])
         have hS4 : ((((s'.set p (encQ s ra)).set ⟨d, 6, s'.ct d⟩ (enc y)).set p (encQ s x.2)).tick d).Und (d + 1) := by simp only [u_tick, u_set _ _ _ _ hp1, u_mine]; exact hus
         obtain ⟨v', s2, q1, q2, q3, q4, q5⟩ := app_own (P := X.P) (t := 25) (ys := [x.1]) (tk := .own d (s'.ct d + 1)) slc_25 (own_tok hO2 (some (1, 10))) (by simp at hxl ⊢; omega) hlim2 (und_tok hS4 _ _)
         simp only [encs, ct_set, ct_tick] at q1
         simp -implicitDefEqProofs -dsimp only [go_sem, q1, a0]
         refine ⟨n, Nat.lt_succ_self n, l ++ [x.1], x.2, bi, hT, a2, by simp, q2, ?_, ⟨z, ?_, hzl⟩, ?_, q4⟩
         ·rw [q5]; simp only [go_sem, if_true]
         ·rw [q5]; simp only [go_sem, hmy, if_false, hz, Nat.reduceEqDiff, false_and, and_false]
         ·rw [q3]; simp only [go_sem, cut_set _ _ _ _ hp, hcut, set_set]
        ·simp -implicitDefEqProofs -dsimp only [go_sem, a0, hne, hS3, hrb, enc_take]
         refine (w45 s ra y (by omega) ga2 p lim (d + 1) hp1 hlim _ hS1 hS2).wh ?_
         rw [← hpx]
         generalize hpp : pieceS s rec r2 = x at G bi hT
         have hxz : szs (l ++ [x.1]) ≤ 1000000 := by
          have h1 := bi.in'
          cases hbb : x.2.bad with
          | false => have := (bi.good hbb).2; omega
          | true => have := (bi.bad' hbb).1; omega
         have hxl := len_le (l ++ [x.1])
         have hO2 : Own ((((s'.set p (encQ s ra)).set ⟨d, 6, s'.ct d⟩ (enc y)).set p (encQ s x.2)).tick d) d (a 3) l := own_mono hO (fun _ _ => rfl) (by simp [Sto.tick, Sto.set, upd])
         have hS4 : ((((s'.set p (encQ s ra)).set ⟨d, 6, s'.ct d⟩ (enc y)).set p (encQ s x.2)).tick d).Und (d + 1) := by simp only [u_tick, u_set _ _ _ _ hp1, u_mine]; exact hus
         obtain ⟨v', s2, q1, q2, q3, q4, q5⟩ := app_own (P := X.P) (t := 25) (ys := [x.1]) (tk := .own d (s'.ct d + 1)) slc_25 (own_tok hO2 (some (1, 10))) (by simp at hxl ⊢; omega) hlim2 (und_tok hS4 _ _)
         simp only [encs, ct_set, ct_tick] at q1
         simp -implicitDefEqProofs -dsimp only [go_sem, q1, a0]
         refine ⟨n, Nat.lt_succ_self n, l ++ [x.1], x.2, bi, hT, a2, by simp, q2, ?_, ⟨z, ?_, hzl⟩, ?_, q4⟩
         ·rw [q5]; simp only [go_sem, if_true]
         ·rw [q5]; simp only [go_sem, hmy, if_false, hz, Nat.reduceEqDiff, false_and, and_false]
         ·rw [q3]; simp only [go_sem, cut_set _ _ _ _ hp, hcut, set_set]
 ·refine ⟨[], r, ⟨by omega, Nat.le_refl _, hr, Nat.le_refl _, h9, fun _ => ⟨by omega, by simp [szs]⟩, fun q => by rw [hb] at q; cases q⟩, rfl, rfl, rfl, rfl, .inl ⟨rfl, rfl⟩, ?_, ⟨_, by simp only [go_sem, if_true]; rfl, rfl⟩, ?_, ?_⟩
  ·simp only [go_sem, hne, if_false]; exact ho
  ·simp only [go_sem, cut_und _ _ hu, set_same ho]
  ·simp only [go_sem, u_tick, u_mine]; exact hun
end
end Go.Proofs.Tryz.E
