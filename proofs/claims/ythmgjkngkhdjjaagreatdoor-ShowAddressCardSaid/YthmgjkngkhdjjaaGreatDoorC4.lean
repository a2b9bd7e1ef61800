/- Walks: what the functions compute. -/
import Derived.Test.YthmgjkngkhdjjaaGreatDoorWC3
set_option linter.unusedVariables false
set_option linter.unusedSimpArgs false
/- The other reader, of basic patterns: a sequence. -/
namespace Go.Proofs.Tryz.E
open Go.Mv
set_option maxHeartbeats 4000000
set_option maxRecDepth 20000
section
variable {s : List UInt8} {k : Nat} {rec : Rd → Nd × Rd} (H : HB s k rec) (K : HT s k rec)
include H K
theorem v32 (r : Rd) (hs : s.length ≤ 100000) (hr : r.at' ≤ s.length) (hb : r.bad = false) (h9 : r.g ≤ 9) (hk : 10 ≤ k + 1 + r.g) (p : Mv.Loc) (lim d : Nat) (hp : p.d < d) (hlim : lim ≤ p.d) (σ : Sto) (hu : σ.Und d) (ho : σ.ob p = some (encT s r)) :
  Ret lim d 92 [.ptr p 0] σ (.agg (enc (seqB s rec z0 (s.length + 1) true [] r).1)) (σ.set p (encT s (seqB s rec z0 (s.length + 1) true [] r).2)) := by
 have hun := und_succ hu
 have hne := ne_my hp
 have hmy := my_ne hp
 have hp1 := Nat.lt_succ_of_lt hp
 have hlim2 : lim ≤ d := by omega
 unfold Ret
 rw [WF_body (C := X) rfl func92 rfl (by kernel_rfl)]; simp only [results92]
 simp -implicitDefEqProofs -dsimp only [go_sem]
 refine loop_h (I := fun n a s' => ∃ (l : List Nd) (first : Bool) (r2 : Rd), BJ s r n first l r2 ∧ seqB s rec z0 n first l r2 = seqB s rec z0 (s.length + 1) true [] r ∧ a 0 = .ptr p 0 ∧ a 2 = .ptr ⟨d, 2, σ.ct d⟩ 0 ∧ Own s' d (a 3) l ∧ a 4 = .bool first ∧ s'.ob p = some (encT s r2) ∧ (∃ z, s'.ob ⟨d, 2, σ.ct d⟩ = some z ∧ z.length = 10) ∧ s'.cut d = σ.set p (encT s r2) ∧ s'.Und (d + 1)) ?_ (s.length + 1) _ _ ?_
 ·rintro n a s' ⟨l, first, r2, b, hT, a0, a2, hO, a4, hop, ⟨z, hz, hzl⟩, hcut, hus⟩
  obtain ⟨n, rfl⟩ : ∃ m, n = m + 1 := ⟨n - 1, by have := b.n1; omega⟩
  have b3 := b.in'
  rw [seqB] at hT
  rw [← hT]
  have hsl : szs l ≤ 1000000 := by
   cases hbb : r2.bad with
   | false => have := (b.good hbb).2; omega
   | true => have := (b.bad' hbb); omega
  have hll := len_le l
  have hput : ∀ x, putC z (enc x) 0 = enc x := fun x => putC_whole _ _ (by rw [hzl, enc_len])
  have hop2 := hop
  rw [encT_eq] at hop2
  cases hbb : r2.bad
  case true =>
   have hov : overB s r2 = true := by simp [overB, nx_bad hbb]
   rw [if_pos hov]
   rw [hbb] at hop2
   simp -implicitDefEqProofs -dsimp only [go_sem, a0, hop2, own_arg hO]
   refine (w46 l hsl lim (d + 1) _ (by omega) hus).wh ?_
   simp -implicitDefEqProofs -dsimp only [go_sem, a2, hz, hzl, hput, hcut]
  case false =>
   rw [hbb] at hop2
   simp -implicitDefEqProofs -dsimp only [go_sem, a0, hop2]
   refine (v23 s r2 p lim (d + 1) hp1 _ hus hop).wh ?_
   by_cases hend : s.length ≤ r2.at'
   ·have e1 : (s.length : Int) ≤ (r2.at' : Int) := by omega
    have hov : overB s r2 = true := by
     have : r2.nx s = none := by simp [Rd.nx, hbb]; omega
     simp [overB, this]
    rw [if_pos hov]
    simp -implicitDefEqProofs -dsimp only [go_sem, e1, a0, hop2, own_arg hO]
    refine (w46 l hsl lim (d + 1) _ (by omega) hus).wh ?_
    simp -implicitDefEqProofs -dsimp only [go_sem, a2, hz, hzl, hput, hcut]
   have e1 : ¬ (s.length : Int) ≤ (r2.at' : Int) := by omega
   simp -implicitDefEqProofs -dsimp only [go_sem, e1, a0]
   refine (v42 s r2 p lim (d + 1) hp1 _ hus hop).wh ?_
   simp -implicitDefEqProofs -dsimp only [go_sem]
   refine (k2 s r2 41 (by omega) b3 p lim (d + 1) hp1 _ hus hop).wh ?_
   cases h41 : hasE s r2 41
   case true =>
    have hov : overB s r2 = true := by simp [overB, h41]
    rw [if_pos hov]
    simp -implicitDefEqProofs -dsimp only [go_sem, a0, hop2, own_arg hO]
    refine (w46 l hsl lim (d + 1) _ (by omega) hus).wh ?_
    simp -implicitDefEqProofs -dsimp only [go_sem, a2, hz, hzl, hput, hcut]
   case false =>
    have hov : overB s r2 = false := by
     have : s[r2.at']? = some s[r2.at'] := List.getElem?_eq_getElem (by omega)
     have : r2.nx s = some s[r2.at'] := by simp [Rd.nx, hbb, this]
     simp [overB, h41, this]
    obtain ⟨b1, b4, G, bi⟩ := bj_step H hk b hov
    rw [hov] at hT
    simp only [Bool.false_eq_true, if_false] at hT
    rw [hov]
    simp only [Bool.false_eq_true, if_false]
    simp -implicitDefEqProofs -dsimp only [go_sem, a0, hop2]
    refine (k1 s r2 42 (by omega) b3 p lim (d + 1) hp1 _ hus hop).wh ?_
    cases first
    case true =>
     have hl0 := b.fst rfl
     cases h42 : r2.nx s == some 42
     ·simp -implicitDefEqProofs -dsimp only [go_sem, a0, a4]
      refine (v43 s r2 (by omega) b3 p lim (d + 1) hp1 _ hus hop).wh ?_
      have hrB : isRepB s r2 = hasE s r2 123 := by simp [isRepB, h42]
      rw [hrB]
      cases hE : hasE s r2 123
      case true =>
       simp -implicitDefEqProofs -dsimp only [go_sem, a0, a4]
       refine (v24 s r2 p lim (d + 1) hp1 hlim _ hus hop).wh ?_
       simp -implicitDefEqProofs -dsimp only [go_sem, a2, hmy, hz, hzl, hput, hcut, cut_set _ _ _ _ hp, set_set]
      case false =>
       simp only [hE, Bool.false_eq_true, and_false, if_false] at hT
       simp only [Bool.false_eq_true, and_false, if_false]
       rw [hT]
       simp -implicitDefEqProofs -dsimp only [go_sem, a0, a4]
       refine (v44 H K r2 true hs b4 b1 b.g9 (by have := b.gm; omega) p lim (d + 1) hp1 hlim _ hus hop).wh ?_
       have GA := gd_atomB H (first := true) b4 b1 b.g9 (by have := b.gm; omega)
       have hpx : pieceB s rec true r2 = if (atomB s rec true r2).1.kind = 4 ∧ (atomB s rec true r2).2.nx s = some 42 then atomB s rec true r2 else repB s (atomB s rec true r2).1 (atomB s rec true r2).2 := rfl
       generalize atomB s rec true r2 = xa at GA hpx
       obtain ⟨y, ra⟩ := xa
       simp only at hpx ⊢
       have ga2 := GA.in'
       simp only at ga2
       have hS1 : ((((s'.set p (encT s ra)).set ⟨d, 6, s'.ct d⟩ (enc y)).tick d)).Und (d + 1) := by simp only [u_tick, u_set _ _ _ _ hp1, u_mine]; exact hus
       have hS2 : ((((s'.set p (encT s ra)).set ⟨d, 6, s'.ct d⟩ (enc y)).tick d)).ob p = some (encT s ra) := by simp only [go_sem, hne, if_true, if_false]
       have hS3 : some (encT s ra) = some [MV.str s, .int .i64 ra.at', .bool false, .int .i64 ra.g, .bool ra.bad] := rfl
       cases hrb : ra.bad
       case true =>
        have h42' : ¬ (y.kind = 4 ∧ ra.nx s = some 42) := fun q => by rw [nx_bad hrb] at q; cases q.2
        rw [if_neg h42'] at hpx
        simp -implicitDefEqProofs -dsimp only [go_sem, a0, hne, hS3, hrb, enc_take]
        refine (v45 s ra y (by omega) ga2 p lim (d + 1) hp1 hlim _ hS1 hS2).wh ?_
        rw [← hpx]
        generalize pieceB s rec true r2 = x at G bi hT
        have hxz : szs (l ++ [x.1]) ≤ 1000000 := by
         have h1 := bi.in'
         cases hbb : x.2.bad with
         | false => have := (bi.good hbb).2; omega
         | true => have := (bi.bad' hbb); omega
        have hxl := len_le (l ++ [x.1])
        have hO2 : Own (((((s'.set p (encT s ra)).set ⟨d, 6, s'.ct d⟩ (enc y)).set p (encT s x.2)).tick d)) d (a 3) l := own_mono hO (fun _ _ => rfl) (by simp [Sto.tick, Sto.set, upd])
        have hS4 : (((((s'.set p (encT s ra)).set ⟨d, 6, s'.ct d⟩ (enc y)).set p (encT s x.2)).tick d)).Und (d + 1) := by simp only [u_tick, u_set _ _ _ _ hp1, u_mine]; exact hus
        obtain ⟨v', s2, q1, q2, q3, q4, q5⟩ := app_own (P := X.P) (t := 25) (ys := [x.1]) (tk := .own d (s'.ct d + 1)) slc_25 (own_tok hO2 (some (1, 10))) (by simp at hxl ⊢; omega) hlim2 (und_tok hS4 _ _)
        simp only [encs, ct_set, ct_tick] at q1
        simp -implicitDefEqProofs -dsimp only [go_sem, q1, a0]
        refine ⟨n, Nat.lt_succ_self n, l ++ [x.1], false, x.2, bi, hT, a2, q2, rfl, ?_, ⟨z, ?_, hzl⟩, ?_, q4⟩
        ·rw [q5]; simp only [go_sem, hne, if_true, if_false]
        ·rw [q5]; simp only [go_sem, hmy, if_false, hz, Nat.reduceEqDiff, false_and, and_false]
        ·rw [q3]; simp only [go_sem, cut_set _ _ _ _ hp, hcut, set_set]
       case false =>
        by_cases h4 : y.kind = 4
        ·have h4' : (y.kind == 4) = true := by rw [h4]; rfl
         simp -implicitDefEqProofs -dsimp only [go_sem, a0, hne, hS3, hrb, h4', enc_kind]
         refine (k1 s ra 42 (by omega) ga2 p lim (d + 1) hp1 _ hS1 hS2).wh ?_
         cases h42 : ra.nx s == some 42
         ·have h42' : ¬ (y.kind = 4 ∧ ra.nx s = some 42) := fun q => by rw [q.2] at h42; simp at h42
          rw [if_neg h42'] at hpx
          simp -implicitDefEqProofs -dsimp only [go_sem, a0, enc_take]
          refine (v45 s ra y (by omega) ga2 p lim (d + 1) hp1 hlim _ hS1 hS2).wh ?_
          rw [← hpx]
          generalize pieceB s rec true r2 = x at G bi hT
          have hxz : szs (l ++ [x.1]) ≤ 1000000 := by
           have h1 := bi.in'
           cases hbb : x.2.bad with
           | false => have := (bi.good hbb).2; omega
           | true => have := (bi.bad' hbb); omega
          have hxl := len_le (l ++ [x.1])
          have hO2 : Own (((((s'.set p (encT s ra)).set ⟨d, 6, s'.ct d⟩ (enc y)).set p (encT s x.2)).tick d)) d (a 3) l := own_mono hO (fun _ _ => rfl) (by simp [Sto.tick, Sto.set, upd])
          have hS4 : (((((s'.set p (encT s ra)).set ⟨d, 6, s'.ct d⟩ (enc y)).set p (encT s x.2)).tick d)).Und (d + 1) := by simp only [u_tick, u_set _ _ _ _ hp1, u_mine]; exact hus
          obtain ⟨v', s2, q1, q2, q3, q4, q5⟩ := app_own (P := X.P) (t := 25) (ys := [x.1]) (tk := .own d (s'.ct d + 1)) slc_25 (own_tok hO2 (some (1, 10))) (by simp at hxl ⊢; omega) hlim2 (und_tok hS4 _ _)
          simp only [encs, ct_set, ct_tick] at q1
          simp -implicitDefEqProofs -dsimp only [go_sem, q1, a0]
          refine ⟨n, Nat.lt_succ_self n, l ++ [x.1], false, x.2, bi, hT, a2, q2, rfl, ?_, ⟨z, ?_, hzl⟩, ?_, q4⟩
          ·rw [q5]; simp only [go_sem, hne, if_true, if_false]
          ·rw [q5]; simp only [go_sem, hmy, if_false, hz, Nat.reduceEqDiff, false_and, and_false]
          ·rw [q3]; simp only [go_sem, cut_set _ _ _ _ hp, hcut, set_set]
         ·rw [if_pos ⟨h4, by simpa using h42⟩] at hpx
          rw [hpx] at G bi hT
          generalize hx : (y, ra) = x at G bi hT
          have hx1 : y = x.1 := by rw [← hx]
          have hx2 : ra = x.2 := by rw [← hx]
          rw [hx1, hx2] at hS1 hS2
          rw [hx1, hx2]
          have hxz : szs (l ++ [x.1]) ≤ 1000000 := by
           have h1 := bi.in'
           cases hbb : x.2.bad with
           | false => have := (bi.good hbb).2; omega
           | true => have := (bi.bad' hbb); omega
          have hxl := len_le (l ++ [x.1])
          have hO2 : Own ((((s'.set p (encT s x.2)).set ⟨d, 6, s'.ct d⟩ (enc x.1)).tick d)) d (a 3) l := own_mono hO (fun _ _ => rfl) (by simp [Sto.tick, Sto.set, upd])
          have hS4 : ((((s'.set p (encT s x.2)).set ⟨d, 6, s'.ct d⟩ (enc x.1)).tick d)).Und (d + 1) := by simp only [u_tick, u_set _ _ _ _ hp1, u_mine]; exact hus
          obtain ⟨v', s2, q1, q2, q3, q4, q5⟩ := app_own (P := X.P) (t := 25) (ys := [x.1]) (tk := .own d (s'.ct d + 1)) slc_25 (own_tok hO2 (some (1, 10))) (by simp at hxl ⊢; omega) hlim2 (und_tok hS4 _ _)
          simp only [encs, ct_set, ct_tick] at q1
          simp -implicitDefEqProofs -dsimp only [go_sem, q1, a0]
          refine ⟨n, Nat.lt_succ_self n, l ++ [x.1], false, x.2, bi, hT, a2, q2, rfl, ?_, ⟨z, ?_, hzl⟩, ?_, q4⟩
          ·rw [q5]; simp only [go_sem, hne, if_true, if_false]
          ·rw [q5]; simp only [go_sem, hmy, if_false, hz, Nat.reduceEqDiff, false_and, and_false]
          ·rw [q3]; simp only [go_sem, cut_set _ _ _ _ hp, hcut, set_set]
        ·have h4' : (y.kind == 4) = false := by simpa using h4
         have h42' : ¬ (y.kind = 4 ∧ ra.nx s = some 42) := fun q => h4 q.1
         rw [if_neg h42'] at hpx
         simp -implicitDefEqProofs -dsimp only [go_sem, a0, hne, hS3, hrb, h4', enc_kind, enc_take]
         refine (v45 s ra y (by omega) ga2 p lim (d + 1) hp1 hlim _ hS1 hS2).wh ?_
         rw [← hpx]
         generalize pieceB s rec true r2 = x at G bi hT
         have hxz : szs (l ++ [x.1]) ≤ 1000000 := by
          have h1 := bi.in'
          cases hbb : x.2.bad with
          | false => have := (bi.good hbb).2; omega
          | true => have := (bi.bad' hbb); omega
         have hxl := len_le (l ++ [x.1])
         have hO2 : Own (((((s'.set p (encT s ra)).set ⟨d, 6, s'.ct d⟩ (enc y)).set p (encT s x.2)).tick d)) d (a 3) l := own_mono hO (fun _ _ => rfl) (by simp [Sto.tick, Sto.set, upd])
         have hS4 : (((((s'.set p (encT s ra)).set ⟨d, 6, s'.ct d⟩ (enc y)).set p (encT s x.2)).tick d)).Und (d + 1) := by simp only [u_tick, u_set _ _ _ _ hp1, u_mine]; exact hus
         obtain ⟨v', s2, q1, q2, q3, q4, q5⟩ := app_own (P := X.P) (t := 25) (ys := [x.1]) (tk := .own d (s'.ct d + 1)) slc_25 (own_tok hO2 (some (1, 10))) (by simp at hxl ⊢; omega) hlim2 (und_tok hS4 _ _)
         simp only [encs, ct_set, ct_tick] at q1
         simp -implicitDefEqProofs -dsimp only [go_sem, q1, a0]
         refine ⟨n, Nat.lt_succ_self n, l ++ [x.1], false, x.2, bi, hT, a2, q2, rfl, ?_, ⟨z, ?_, hzl⟩, ?_, q4⟩
         ·rw [q5]; simp only [go_sem, hne, if_true, if_false]
         ·rw [q5]; simp only [go_sem, hmy, if_false, hz, Nat.reduceEqDiff, false_and, and_false]
         ·rw [q3]; simp only [go_sem, cut_set _ _ _ _ hp, hcut, set_set]
     ·simp -implicitDefEqProofs -dsimp only [go_sem, a0, a4]
      refine (v43 s r2 (by omega) b3 p lim (d + 1) hp1 _ hus hop).wh ?_
      have hrB : isRepB s r2 = true := by simp [isRepB, h42]
      have hE : hasE s r2 123 = false := by
       have : r2.nx s = some 42 := by simpa using h42
       simp [hasE, this]
      rw [hrB]
      simp only [hE, Bool.false_eq_true, and_false, if_false] at hT
      simp only [hE, Bool.false_eq_true, and_false, if_false]
      rw [hT]
      simp -implicitDefEqProofs -dsimp only [go_sem, a0, a4]
      refine (v44 H K r2 true hs b4 b1 b.g9 (by have := b.gm; omega) p lim (d + 1) hp1 hlim _ hus hop).wh ?_
      have GA := gd_atomB H (first := true) b4 b1 b.g9 (by have := b.gm; omega)
      have hpx : pieceB s rec true r2 = if (atomB s rec true r2).1.kind = 4 ∧ (atomB s rec true r2).2.nx s = some 42 then atomB s rec true r2 else repB s (atomB s rec true r2).1 (atomB s rec true r2).2 := rfl
      generalize atomB s rec true r2 = xa at GA hpx
      obtain ⟨y, ra⟩ := xa
      simp only at hpx ⊢
      have ga2 := GA.in'
      simp only at ga2
      have hS1 : ((((s'.set p (encT s ra)).set ⟨d, 6, s'.ct d⟩ (enc y)).tick d)).Und (d + 1) := by simp only [u_tick, u_set _ _ _ _ hp1, u_mine]; exact hus
      have hS2 : ((((s'.set p (encT s ra)).set ⟨d, 6, s'.ct d⟩ (enc y)).tick d)).ob p = some (encT s ra) := by simp only [go_sem, hne, if_true, if_false]
      have hS3 : some (encT s ra) = some [MV.str s, .int .i64 ra.at', .bool false, .int .i64 ra.g, .bool ra.bad] := rfl
      cases hrb : ra.bad
      case true =>
       have h42' : ¬ (y.kind = 4 ∧ ra.nx s = some 42) := fun q => by rw [nx_bad hrb] at q; cases q.2
       rw [if_neg h42'] at hpx
       simp -implicitDefEqProofs -dsimp only [go_sem, a0, hne, hS3, hrb, enc_take]
       refine (v45 s ra y (by omega) ga2 p lim (d + 1) hp1 hlim _ hS1 hS2).wh ?_
       rw [← hpx]
       generalize pieceB s rec true r2 = x at G bi hT
       have hxz : szs (l ++ [x.1]) ≤ 1000000 := by
        have h1 := bi.in'
        cases hbb : x.2.bad with
        | false => have := (bi.good hbb).2; omega
        | true => have := (bi.bad' hbb); omega
       have hxl := len_le (l ++ [x.1])
       have hO2 : Own (((((s'.set p (encT s ra)).set ⟨d, 6, s'.ct d⟩ (enc y)).set p (encT s x.2)).tick d)) d (a 3) l := own_mono hO (fun _ _ => rfl) (by simp [Sto.tick, Sto.set, upd])
       have hS4 : (((((s'.set p (encT s ra)).set ⟨d, 6, s'.ct d⟩ (enc y)).set p (encT s x.2)).tick d)).Und (d + 1) := by simp only [u_tick, u_set _ _ _ _ hp1, u_mine]; exact hus
       obtain ⟨v', s2, q1, q2, q3, q4, q5⟩ := app_own (P := X.P) (t := 25) (ys := [x.1]) (tk := .own d (s'.ct d + 1)) slc_25 (own_tok hO2 (some (1, 10))) (by simp at hxl ⊢; omega) hlim2 (und_tok hS4 _ _)
       simp only [encs, ct_set, ct_tick] at q1
       simp -implicitDefEqProofs -dsimp only [go_sem, q1, a0]
       refine ⟨n, Nat.lt_succ_self n, l ++ [x.1], false, x.2, bi, hT, a2, q2, rfl, ?_, ⟨z, ?_, hzl⟩, ?_, q4⟩
       ·rw [q5]; simp only [go_sem, hne, if_true, if_false]
       ·rw [q5]; simp only [go_sem, hmy, if_false, hz, Nat.reduceEqDiff, false_and, and_false]
       ·rw [q3]; simp only [go_sem, cut_set _ _ _ _ hp, hcut, set_set]
      case false =>
       by_cases h4 : y.kind = 4
       ·have h4' : (y.kind == 4) = true := by rw [h4]; rfl
        simp -implicitDefEqProofs -dsimp only [go_sem, a0, hne, hS3, hrb, h4', enc_kind]
        refine (k1 s ra 42 (by omega) ga2 p lim (d + 1) hp1 _ hS1 hS2).wh ?_
        cases h42 : ra.nx s == some 42
        ·have h42' : ¬ (y.kind = 4 ∧ ra.nx s = some 42) := fun q => by rw [q.2] at h42; simp at h42
         rw [if_neg h42'] at hpx
         simp -implicitDefEqProofs -dsimp only [go_sem, a0, enc_take]
         refine (v45 s ra y (by omega) ga2 p lim (d + 1) hp1 hlim _ hS1 hS2).wh ?_
         rw [← hpx]
         generalize pieceB s rec true r2 = x at G bi hT
         have hxz : szs (l ++ [x.1]) ≤ 1000000 := by
          have h1 := bi.in'
          cases hbb : x.2.bad with
          | false => have := (bi.good hbb).2; omega
          | true => have := (bi.bad' hbb); omega
         have hxl := len_le (l ++ [x.1])
         have hO2 : Own (((((s'.set p (encT s ra)).set ⟨d, 6, s'.ct d⟩ (enc y)).set p (encT s x.2)).tick d)) d (a 3) l := own_mono hO (fun _ _ => rfl) (by simp [Sto.tick, Sto.set, upd])
         have hS4 : (((((s'.set p (encT s ra)).set ⟨d, 6, s'.ct d⟩ (enc y)).set p (encT s x.2)).tick d)).Und (d + 1) := by simp only [u_tick, u_set _ _ _ _ hp1, u_mine]; exact hus
         obtain ⟨v', s2, q1, q2, q3, q4, q5⟩ := app_own (P := X.P) (t := 25) (ys := [x.1]) (tk := .own d (s'.ct d + 1)) slc_25 (own_tok hO2 (some (1, 10))) (by simp at hxl ⊢; omega) hlim2 (und_tok hS4 _ _)
         simp only [encs, ct_set, ct_tick] at q1
         simp -implicitDefEqProofs -dsimp only [go_sem, q1, a0]
         refine ⟨n, Nat.lt_succ_self n, l ++ [x.1], false, x.2, bi, hT, a2, q2, rfl, ?_, ⟨z, ?_, hzl⟩, ?_, q4⟩
         ·rw [q5]; simp only [go_sem, hne, if_true, if_false]
         ·rw [q5]; simp only [go_sem, hmy, if_false, hz, Nat.reduceEqDiff, false_and, and_false]
         ·rw [q3]; simp only [go_sem, cut_set _ _ _ _ hp, hcut, set_set]
        ·rw [if_pos ⟨h4, by simpa using h42⟩] at hpx
         rw [hpx] at G bi hT
         generalize hx : (y, ra) = x at G bi hT
         have hx1 : y = x.1 := by rw [← hx]
         have hx2 : ra = x.2 := by rw [← hx]
         rw [hx1, hx2] at hS1 hS2
         rw [hx1, hx2]
         have hxz : szs (l ++ [x.1]) ≤ 1000000 := by
          have h1 := bi.in'
          cases hbb : x.2.bad with
          | false => have := (bi.good hbb).2; omega
          | true => have := (bi.bad' hbb); omega
         have hxl := len_le (l ++ [x.1])
         have hO2 : Own ((((s'.set p (encT s x.2)).set ⟨d, 6, s'.ct d⟩ (enc x.1)).tick d)) d (a 3) l := own_mono hO (fun _ _ => rfl) (by simp [Sto.tick, Sto.set, upd])
         have hS4 : ((((s'.set p (encT s x.2)).set ⟨d, 6, s'.ct d⟩ (enc x.1)).tick d)).Und (d + 1) := by simp only [u_tick, u_set _ _ _ _ hp1, u_mine]; exact hus
         obtain ⟨v', s2, q1, q2, q3, q4, q5⟩ := app_own (P := X.P) (t := 25) (ys := [x.1]) (tk := .own d (s'.ct d + 1)) slc_25 (own_tok hO2 (some (1, 10))) (by simp at hxl ⊢; omega) hlim2 (und_tok hS4 _ _)
         simp only [encs, ct_set, ct_tick] at q1
         simp -implicitDefEqProofs -dsimp only [go_sem, q1, a0]
         refine ⟨n, Nat.lt_succ_self n, l ++ [x.1], false, x.2, bi, hT, a2, q2, rfl, ?_, ⟨z, ?_, hzl⟩, ?_, q4⟩
         ·rw [q5]; simp only [go_sem, hne, if_true, if_false]
         ·rw [q5]; simp only [go_sem, hmy, if_false, hz, Nat.reduceEqDiff, false_and, and_false]
         ·rw [q3]; simp only [go_sem, cut_set _ _ _ _ hp, hcut, set_set]
       ·have h4' : (y.kind == 4) = false := by simpa using h4
        have h42' : ¬ (y.kind = 4 ∧ ra.nx s = some 42) := fun q => h4 q.1
        rw [if_neg h42'] at hpx
        simp -implicitDefEqProofs -dsimp only [go_sem, a0, hne, hS3, hrb, h4', enc_kind, enc_take]
        refine (v45 s ra y (by omega) ga2 p lim (d + 1) hp1 hlim _ hS1 hS2).wh ?_
        rw [← hpx]
        generalize pieceB s rec true r2 = x at G bi hT
        have hxz : szs (l ++ [x.1]) ≤ 1000000 := by
         have h1 := bi.in'
         cases hbb : x.2.bad with
         | false => have := (bi.good hbb).2; omega
         | true => have := (bi.bad' hbb); omega
        have hxl := len_le (l ++ [x.1])
        have hO2 : Own (((((s'.set p (encT s ra)).set ⟨d, 6, s'.ct d⟩ (enc y)).set p (encT s x.2)).tick d)) d (a 3) l := own_mono hO (fun _ _ => rfl) (by simp [Sto.tick, Sto.set, upd])
        have hS4 : (((((s'.set p (encT s ra)).set ⟨d, 6, s'.ct d⟩ (enc y)).set p (encT s x.2)).tick d)).Und (d + 1) := by simp only [u_tick, u_set _ _ _ _ hp1, u_mine]; exact hus
        obtain ⟨v', s2, q1, q2, q3, q4, q5⟩ := app_own (P := X.P) (t := 25) (ys := [x.1]) (tk := .own d (s'.ct d + 1)) slc_25 (own_tok hO2 (some (1, 10))) (by simp at hxl ⊢; omega) hlim2 (und_tok hS4 _ _)
        simp only [encs, ct_set, ct_tick] at q1
        simp -implicitDefEqProofs -dsimp only [go_sem, q1, a0]
        refine ⟨n, Nat.lt_succ_self n, l ++ [x.1], false, x.2, bi, hT, a2, q2, rfl, ?_, ⟨z, ?_, hzl⟩, ?_, q4⟩
        ·rw [q5]; simp only [go_sem, hne, if_true, if_false]
        ·rw [q5]; simp only [go_sem, hmy, if_false, hz, Nat.reduceEqDiff, false_and, and_false]
        ·rw [q3]; simp only [go_sem, cut_set _ _ _ _ hp, hcut, set_set]
    case false =>
     simp only [Bool.false_eq_true, false_and, if_false] at hT
     simp only [Bool.false_eq_true, false_and, if_false]
     rw [hT]
     cases h42 : r2.nx s == some 42
     ·simp -implicitDefEqProofs -dsimp only [go_sem, a0, a4]
      refine (v43 s r2 (by omega) b3 p lim (d + 1) hp1 _ hus hop).wh ?_
      cases hrB : isRepB s r2 <;> (simp -implicitDefEqProofs -dsimp only [go_sem, a0, a4])
      all_goals
       refine (v44 H K r2 false hs b4 b1 b.g9 (by have := b.gm; omega) p lim (d + 1) hp1 hlim _ hus hop).wh ?_
       have GA := gd_atomB H (first := false) b4 b1 b.g9 (by have := b.gm; omega)
       have hpx : pieceB s rec false r2 = if (atomB s rec false r2).1.kind = 4 ∧ (atomB s rec false r2).2.nx s = some 42 then atomB s rec false r2 else repB s (atomB s rec false r2).1 (atomB s rec false r2).2 := rfl
       generalize atomB s rec false r2 = xa at GA hpx
       obtain ⟨y, ra⟩ := xa
       simp only at hpx ⊢
       have ga2 := GA.in'
       simp only at ga2
       have hS1 : ((((s'.set p (encT s ra)).set ⟨d, 6, s'.ct d⟩ (enc y)).tick d)).Und (d + 1) := by simp only [u_tick, u_set _ _ _ _ hp1, u_mine]; exact hus
       have hS2 : ((((s'.set p (encT s ra)).set ⟨d, 6, s'.ct d⟩ (enc y)).tick d)).ob p = some (encT s ra) := by simp only [go_sem, hne, if_true, if_false]
       have hS3 : some (encT s ra) = some [MV.str s, .int .i64 ra.at', .bool false, .int .i64 ra.g, .bool ra.bad] := rfl
       cases hrb : ra.bad
       case true =>
        have h42' : ¬ (y.kind = 4 ∧ ra.nx s = some 42) := fun q => by rw [nx_bad hrb] at q; cases q.2
        rw [if_neg h42'] at hpx
        simp -implicitDefEqProofs -dsimp only [go_sem, a0, hne, hS3, hrb, enc_take]
        refine (v45 s ra y (by omega) ga2 p lim (d + 1) hp1 hlim _ hS1 hS2).wh ?_
        rw [← hpx]
        generalize pieceB s rec false r2 = x at G bi hT
        have hxz : szs (l ++ [x.1]) ≤ 1000000 := by
         have h1 := bi.in'
         cases hbb : x.2.bad with
         | false => have := (bi.good hbb).2; omega
         | true => have := (bi.bad' hbb); omega
        have hxl := len_le (l ++ [x.1])
        have hO2 : Own (((((s'.set p (encT s ra)).set ⟨d, 6, s'.ct d⟩ (enc y)).set p (encT s x.2)).tick d)) d (a 3) l := own_mono hO (fun _ _ => rfl) (by simp [Sto.tick, Sto.set, upd])
        have hS4 : (((((s'.set p (encT s ra)).set ⟨d, 6, s'.ct d⟩ (enc y)).set p (encT s x.2)).tick d)).Und (d + 1) := by simp only [u_tick, u_set _ _ _ _ hp1, u_mine]; exact hus
        obtain ⟨v', s2, q1, q2, q3, q4, q5⟩ := app_own (P := X.P) (t := 25) (ys := [x.1]) (tk := .own d (s'.ct d + 1)) slc_25 (own_tok hO2 (some (1, 10))) (by simp at hxl ⊢; omega) hlim2 (und_tok hS4 _ _)
        simp only [encs, ct_set, ct_tick] at q1
        simp -implicitDefEqProofs -dsimp only [go_sem, q1, a0]
        refine ⟨n, Nat.lt_succ_self n, l ++ [x.1], false, x.2, bi, hT, a2, q2, rfl, ?_, ⟨z, ?_, hzl⟩, ?_, q4⟩
        ·rw [q5]; simp only [go_sem, hne, if_true, if_false]
        ·rw [q5]; simp only [go_sem, hmy, if_false, hz, Nat.reduceEqDiff, false_and, and_false]
        ·rw [q3]; simp only [go_sem, cut_set _ _ _ _ hp, hcut, set_set]
       case false =>
        by_cases h4 : y.kind = 4
        ·have h4' : (y.kind == 4) = true := by rw [h4]; rfl
         simp -implicitDefEqProofs -dsimp only [go_sem, a0, hne, hS3, hrb, h4', enc_kind]
         refine (k1 s ra 42 (by omega) ga2 p lim (d + 1) hp1 _ hS1 hS2).wh ?_
         cases h42 : ra.nx s == some 42
         ·have h42' : ¬ (y.kind = 4 ∧ ra.nx s = some 42) := fun q => by rw [q.2] at h42; simp at h42
          rw [if_neg h42'] at hpx
          simp -implicitDefEqProofs -dsimp only [go_sem, a0, enc_take]
          refine (v45 s ra y (by omega) ga2 p lim (d + 1) hp1 hlim _ hS1 hS2).wh ?_
          rw [← hpx]
          generalize pieceB s rec false r2 = x at G bi hT
          have hxz : szs (l ++ [x.1]) ≤ 1000000 := by
           have h1 := bi.in'
           cases hbb : x.2.bad with
           | false => have := (bi.good hbb).2; omega
           | true => have := (bi.bad' hbb); omega
          have hxl := len_le (l ++ [x.1])
          have hO2 : Own (((((s'.set p (encT s ra)).set ⟨d, 6, s'.ct d⟩ (enc y)).set p (encT s x.2)).tick d)) d (a 3) l := own_mono hO (fun _ _ => rfl) (by simp [Sto.tick, Sto.set, upd])
          have hS4 : (((((s'.set p (encT s ra)).set ⟨d, 6, s'.ct d⟩ (enc y)).set p (encT s x.2)).tick d)).Und (d + 1) := by simp only [u_tick, u_set _ _ _ _ hp1, u_mine]; exact hus
          obtain ⟨v', s2, q1, q2, q3, q4, q5⟩ := app_own (P := X.P) (t := 25) (ys := [x.1]) (tk := .own d (s'.ct d + 1)) slc_25 (own_tok hO2 (some (1, 10))) (by simp at hxl ⊢; omega) hlim2 (und_tok hS4 _ _)
          simp only [encs, ct_set, ct_tick] at q1
          simp -implicitDefEqProofs -dsimp only [go_sem, q1, a0]
          refine ⟨n, Nat.lt_succ_self n, l ++ [x.1], false, x.2, bi, hT, a2, q2, rfl, ?_, ⟨z, ?_, hzl⟩, ?_, q4⟩
          ·rw [q5]; simp only [go_sem, hne, if_true, if_false]
          ·rw [q5]; simp only [go_sem, hmy, if_false, hz, Nat.reduceEqDiff, false_and, and_false]
          ·rw [q3]; simp only [go_sem, cut_set _ _ _ _ hp, hcut, set_set]
         ·rw [if_pos ⟨h4, by simpa using h42⟩] at hpx
          rw [hpx] at G bi hT
          generalize hx : (y, ra) = x at G bi hT
          have hx1 : y = x.1 := by rw [← hx]
          have hx2 : ra = x.2 := by rw [← hx]
          rw [hx1, hx2] at hS1 hS2
          rw [hx1, hx2]
          have hxz : szs (l ++ [x.1]) ≤ 1000000 := by
           have h1 := bi.in'
           cases hbb : x.2.bad with
           | false => have := (bi.good hbb).2; omega
           | true => have := (bi.bad' hbb); omega
          have hxl := len_le (l ++ [x.1])
          have hO2 : Own ((((s'.set p (encT s x.2)).set ⟨d, 6, s'.ct d⟩ (enc x.1)).tick d)) d (a 3) l := own_mono hO (fun _ _ => rfl) (by simp [Sto.tick, Sto.set, upd])
          have hS4 : ((((s'.set p (encT s x.2)).set ⟨d, 6, s'.ct d⟩ (enc x.1)).tick d)).Und (d + 1) := by simp only [u_tick, u_set _ _ _ _ hp1, u_mine]; exact hus
          obtain ⟨v', s2, q1, q2, q3, q4, q5⟩ := app_own (P := X.P) (t := 25) (ys := [x.1]) (tk := .own d (s'.ct d + 1)) slc_25 (own_tok hO2 (some (1, 10))) (by simp at hxl ⊢; omega) hlim2 (und_tok hS4 _ _)
          simp only [encs, ct_set, ct_tick] at q1
          simp -implicitDefEqProofs -dsimp only [go_sem, q1, a0]
          refine ⟨n, Nat.lt_succ_self n, l ++ [x.1], false, x.2, bi, hT, a2, q2, rfl, ?_, ⟨z, ?_, hzl⟩, ?_, q4⟩
          ·rw [q5]; simp only [go_sem, hne, if_true, if_false]
          ·rw [q5]; simp only [go_sem, hmy, if_false, hz, Nat.reduceEqDiff, false_and, and_false]
          ·rw [q3]; simp only [go_sem, cut_set _ _ _ _ hp, hcut, set_set]
        ·have h4' : (y.kind == 4) = false := by simpa using h4
         have h42' : ¬ (y.kind = 4 ∧ ra.nx s = some 42) := fun q => h4 q.1
         rw [if_neg h42'] at hpx
         simp -implicitDefEqProofs -dsimp only [go_sem, a0, hne, hS3, hrb, h4', enc_kind, enc_take]
         refine (v45 s ra y (by omega) ga2 p lim (d + 1) hp1 hlim _ hS1 hS2).wh ?_
         rw [← hpx]
         generalize pieceB s rec false r2 = x at G bi hT
         have hxz : szs (l ++ [x.1]) ≤ 1000000 := by
          have h1 := bi.in'
          cases hbb : x.2.bad with
          | false => have := (bi.good hbb).2; omega
          | true => have := (bi.bad' hbb); omega
         have hxl := len_le (l ++ [x.1])
         have hO2 : Own (((((s'.set p (encT s ra)).set ⟨d, 6, s'.ct d⟩ (enc y)).set p (encT s x.2)).tick d)) d (a 3) l := own_mono hO (fun _ _ => rfl) (by simp [Sto.tick, Sto.set, upd])
         have hS4 : (((((s'.set p (encT s ra)).set ⟨d, 6, s'.ct d⟩ (enc y)).set p (encT s x.2)).tick d)).Und (d + 1) := by simp only [u_tick, u_set _ _ _ _ hp1, u_mine]; exact hus
         obtain ⟨v', s2, q1, q2, q3, q4, q5⟩ := app_own (P := X.P) (t := 25) (ys := [x.1]) (tk := .own d (s'.ct d + 1)) slc_25 (own_tok hO2 (some (1, 10))) (by simp at hxl ⊢; omega) hlim2 (und_tok hS4 _ _)
         simp only [encs, ct_set, ct_tick] at q1
         simp -implicitDefEqProofs -dsimp only [go_sem, q1, a0]
         refine ⟨n, Nat.lt_succ_self n, l ++ [x.1], false, x.2, bi, hT, a2, q2, rfl, ?_, ⟨z, ?_, hzl⟩, ?_, q4⟩
         ·rw [q5]; simp only [go_sem, hne, if_true, if_false]
         ·rw [q5]; simp only [go_sem, hmy, if_false, hz, Nat.reduceEqDiff, false_and, and_false]
         ·rw [q3]; simp only [go_sem, cut_set _ _ _ _ hp, hcut, set_set]
     ·by_cases hl1 : l.length = 1
      ·obtain ⟨y1, rfl⟩ : ∃ y, l = [y] := by
        match l, hl1 with
        | [y], _ => exact ⟨y, rfl⟩
       have hA3 : ∃ c, a 3 = .sl (.own d c) (encs [y1]) := by
        rcases hO with ⟨_, h⟩ | ⟨c, h, _⟩
        ·cases h
        ·exact ⟨c, h⟩
       obtain ⟨c3, hA3⟩ := hA3
       have hA3' : a 3 = .sl (.own d c3) [enc y1] := hA3
       generalize hll1 : [y1] = l at *
       simp -implicitDefEqProofs -dsimp only [go_sem, a0, a4, hA3', enc_kind]
       refine (v43 s r2 (by omega) b3 p lim (d + 1) hp1 _ hus hop).wh ?_
       have hrB : isRepB s r2 = true := by simp [isRepB, h42]
       rw [hrB]
       cases hy4 : (y1.kind == 4) <;> (simp -implicitDefEqProofs -dsimp only [go_sem, a0, a4])
       all_goals
        refine (v44 H K r2 false hs b4 b1 b.g9 (by have := b.gm; omega) p lim (d + 1) hp1 hlim _ hus hop).wh ?_
        have GA := gd_atomB H (first := false) b4 b1 b.g9 (by have := b.gm; omega)
        have hpx : pieceB s rec false r2 = if (atomB s rec false r2).1.kind = 4 ∧ (atomB s rec false r2).2.nx s = some 42 then atomB s rec false r2 else repB s (atomB s rec false r2).1 (atomB s rec false r2).2 := rfl
        generalize atomB s rec false r2 = xa at GA hpx
        obtain ⟨y, ra⟩ := xa
        simp only at hpx ⊢
        have ga2 := GA.in'
        simp only at ga2
        have hS1 : ((((s'.set p (encT s ra)).set ⟨d, 6, s'.ct d⟩ (enc y)).tick d)).Und (d + 1) := by simp only [u_tick, u_set _ _ _ _ hp1, u_mine]; exact hus
        have hS2 : ((((s'.set p (encT s ra)).set ⟨d, 6, s'.ct d⟩ (enc y)).tick d)).ob p = some (encT s ra) := by simp only [go_sem, hne, if_true, if_false]
        have hS3 : some (encT s ra) = some [MV.str s, .int .i64 ra.at', .bool false, .int .i64 ra.g, .bool ra.bad] := rfl
        cases hrb : ra.bad
        case true =>
         have h42' : ¬ (y.kind = 4 ∧ ra.nx s = some 42) := fun q => by rw [nx_bad hrb] at q; cases q.2
         rw [if_neg h42'] at hpx
         simp -implicitDefEqProofs -dsimp only [go_sem, a0, hne, hS3, hrb, enc_take]
         refine (v45 s ra y (by omega) ga2 p lim (d + 1) hp1 hlim _ hS1 hS2).wh ?_
         rw [← hpx]
         generalize pieceB s rec false r2 = x at G bi hT
         have hxz : szs (l ++ [x.1]) ≤ 1000000 := by
          have h1 := bi.in'
          cases hbb : x.2.bad with
          | false => have := (bi.good hbb).2; omega
          | true => have := (bi.bad' hbb); omega
         have hxl := len_le (l ++ [x.1])
         have hO2 : Own (((((s'.set p (encT s ra)).set ⟨d, 6, s'.ct d⟩ (enc y)).set p (encT s x.2)).tick d)) d (a 3) l := own_mono hO (fun _ _ => rfl) (by simp [Sto.tick, Sto.set, upd])
         have hS4 : (((((s'.set p (encT s ra)).set ⟨d, 6, s'.ct d⟩ (enc y)).set p (encT s x.2)).tick d)).Und (d + 1) := by simp only [u_tick, u_set _ _ _ _ hp1, u_mine]; exact hus
         obtain ⟨v', s2, q1, q2, q3, q4, q5⟩ := app_own (P := X.P) (t := 25) (ys := [x.1]) (tk := .own d (s'.ct d + 1)) slc_25 (own_tok hO2 (some (1, 10))) (by simp at hxl ⊢; omega) hlim2 (und_tok hS4 _ _)
         simp only [encs, ct_set, ct_tick] at q1
         simp -implicitDefEqProofs -dsimp only [go_sem, q1, a0]
         refine ⟨n, Nat.lt_succ_self n, l ++ [x.1], false, x.2, bi, hT, a2, q2, rfl, ?_, ⟨z, ?_, hzl⟩, ?_, q4⟩
         ·rw [q5]; simp only [go_sem, hne, if_true, if_false]
         ·rw [q5]; simp only [go_sem, hmy, if_false, hz, Nat.reduceEqDiff, false_and, and_false]
         ·rw [q3]; simp only [go_sem, cut_set _ _ _ _ hp, hcut, set_set]
        case false =>
         by_cases h4 : y.kind = 4
         ·have h4' : (y.kind == 4) = true := by rw [h4]; rfl
          simp -implicitDefEqProofs -dsimp only [go_sem, a0, hne, hS3, hrb, h4', enc_kind]
          refine (k1 s ra 42 (by omega) ga2 p lim (d + 1) hp1 _ hS1 hS2).wh ?_
          cases h42 : ra.nx s == some 42
          ·have h42' : ¬ (y.kind = 4 ∧ ra.nx s = some 42) := fun q => by rw [q.2] at h42; simp at h42
           rw [if_neg h42'] at hpx
           simp -implicitDefEqProofs -dsimp only [go_sem, a0, enc_take]
           refine (v45 s ra y (by omega) ga2 p lim (d + 1) hp1 hlim _ hS1 hS2).wh ?_
           rw [← hpx]
           generalize pieceB s rec false r2 = x at G bi hT
           have hxz : szs (l ++ [x.1]) ≤ 1000000 := by
            have h1 := bi.in'
            cases hbb : x.2.bad with
            | false => have := (bi.good hbb).2; omega
            | true => have := (bi.bad' hbb); omega
           have hxl := len_le (l ++ [x.1])
           have hO2 : Own (((((s'.set p (encT s ra)).set ⟨d, 6, s'.ct d⟩ (enc y)).set p (encT s x.2)).tick d)) d (a 3) l := own_mono hO (fun _ _ => rfl) (by simp [Sto.tick, Sto.set, upd])
           have hS4 : (((((s'.set p (encT s ra)).set ⟨d, 6, s'.ct d⟩ (enc y)).set p (encT s x.2)).tick d)).Und (d + 1) := by simp only [u_tick, u_set _ _ _ _ hp1, u_mine]; exact hus
           obtain ⟨v', s2, q1, q2, q3, q4, q5⟩ := app_own (P := X.P) (t := 25) (ys := [x.1]) (tk := .own d (s'.ct d + 1)) slc_25 (own_tok hO2 (some (1, 10))) (by simp at hxl ⊢; omega) hlim2 (und_tok hS4 _ _)
           simp only [encs, ct_set, ct_tick] at q1
           simp -implicitDefEqProofs -dsimp only [go_sem, q1, a0]
           refine ⟨n, Nat.lt_succ_self n, l ++ [x.1], false, x.2, bi, hT, a2, q2, rfl, ?_, ⟨z, ?_, hzl⟩, ?_, q4⟩
           ·rw [q5]; simp only [go_sem, hne, if_true, if_false]
           ·rw [q5]; simp only [go_sem, hmy, if_false, hz, Nat.reduceEqDiff, false_and, and_false]
           ·rw [q3]; simp only [go_sem, cut_set _ _ _ _ hp, hcut, set_set]
          ·rw [if_pos ⟨h4, by simpa using h42⟩] at hpx
           rw [hpx] at G bi hT
           generalize hx : (y, ra) = x at G bi hT
           have hx1 : y = x.1 := by rw [← hx]
           have hx2 : ra = x.2 := by rw [← hx]
           rw [hx1, hx2] at hS1 hS2
           rw [hx1, hx2]
           have hxz : szs (l ++ [x.1]) ≤ 1000000 := by
            have h1 := bi.in'
            cases hbb : x.2.bad with
            | false => have := (bi.good hbb).2; omega
            | true => have := (bi.bad' hbb); omega
           have hxl := len_le (l ++ [x.1])
           have hO2 : Own ((((s'.set p (encT s x.2)).set ⟨d, 6, s'.ct d⟩ (enc x.1)).tick d)) d (a 3) l := own_mono hO (fun _ _ => rfl) (by simp [Sto.tick, Sto.set, upd])
           have hS4 : ((((s'.set p (encT s x.2)).set ⟨d, 6, s'.ct d⟩ (enc x.1)).tick d)).Und (d + 1) := by simp only [u_tick, u_set _ _ _ _ hp1, u_mine]; exact hus
           obtain ⟨v', s2, q1, q2, q3, q4, q5⟩ := app_own (P := X.P) (t := 25) (ys := [x.1]) (tk := .own d (s'.ct d + 1)) slc_25 (own_tok hO2 (some (1, 10))) (by simp at hxl ⊢; omega) hlim2 (und_tok hS4 _ _)
           simp only [encs, ct_set, ct_tick] at q1
           simp -implicitDefEqProofs -dsimp only [go_sem, q1, a0]
           refine ⟨n, Nat.lt_succ_self n, l ++ [x.1], false, x.2, bi, hT, a2, q2, rfl, ?_, ⟨z, ?_, hzl⟩, ?_, q4⟩
           ·rw [q5]; simp only [go_sem, hne, if_true, if_false]
           ·rw [q5]; simp only [go_sem, hmy, if_false, hz, Nat.reduceEqDiff, false_and, and_false]
           ·rw [q3]; simp only [go_sem, cut_set _ _ _ _ hp, hcut, set_set]
         ·have h4' : (y.kind == 4) = false := by simpa using h4
          have h42' : ¬ (y.kind = 4 ∧ ra.nx s = some 42) := fun q => h4 q.1
          rw [if_neg h42'] at hpx
          simp -implicitDefEqProofs -dsimp only [go_sem, a0, hne, hS3, hrb, h4', enc_kind, enc_take]
          refine (v45 s ra y (by omega) ga2 p lim (d + 1) hp1 hlim _ hS1 hS2).wh ?_
          rw [← hpx]
          generalize pieceB s rec false r2 = x at G bi hT
          have hxz : szs (l ++ [x.1]) ≤ 1000000 := by
           have h1 := bi.in'
           cases hbb : x.2.bad with
           | false => have := (bi.good hbb).2; omega
           | true => have := (bi.bad' hbb); omega
          have hxl := len_le (l ++ [x.1])
          have hO2 : Own (((((s'.set p (encT s ra)).set ⟨d, 6, s'.ct d⟩ (enc y)).set p (encT s x.2)).tick d)) d (a 3) l := own_mono hO (fun _ _ => rfl) (by simp [Sto.tick, Sto.set, upd])
          have hS4 : (((((s'.set p (encT s ra)).set ⟨d, 6, s'.ct d⟩ (enc y)).set p (encT s x.2)).tick d)).Und (d + 1) := by simp only [u_tick, u_set _ _ _ _ hp1, u_mine]; exact hus
          obtain ⟨v', s2, q1, q2, q3, q4, q5⟩ := app_own (P := X.P) (t := 25) (ys := [x.1]) (tk := .own d (s'.ct d + 1)) slc_25 (own_tok hO2 (some (1, 10))) (by simp at hxl ⊢; omega) hlim2 (und_tok hS4 _ _)
          simp only [encs, ct_set, ct_tick] at q1
          simp -implicitDefEqProofs -dsimp only [go_sem, q1, a0]
          refine ⟨n, Nat.lt_succ_self n, l ++ [x.1], false, x.2, bi, hT, a2, q2, rfl, ?_, ⟨z, ?_, hzl⟩, ?_, q4⟩
          ·rw [q5]; simp only [go_sem, hne, if_true, if_false]
          ·rw [q5]; simp only [go_sem, hmy, if_false, hz, Nat.reduceEqDiff, false_and, and_false]
          ·rw [q3]; simp only [go_sem, cut_set _ _ _ _ hp, hcut, set_set]
      ·have e2 : ((l.length : Int) == 1) = false := by rw [beq_eq_false_iff_ne]; omega
       simp -implicitDefEqProofs -dsimp only [go_sem, a0, a4, own_lenQ hO, e2]
       refine (v43 s r2 (by omega) b3 p lim (d + 1) hp1 _ hus hop).wh ?_
       have hrB : isRepB s r2 = true := by simp [isRepB, h42]
       rw [hrB]
       simp -implicitDefEqProofs -dsimp only [go_sem, a0, a4]
       refine (v44 H K r2 false hs b4 b1 b.g9 (by have := b.gm; omega) p lim (d + 1) hp1 hlim _ hus hop).wh ?_
       have GA := gd_atomB H (first := false) b4 b1 b.g9 (by have := b.gm; omega)
       have hpx : pieceB s rec false r2 = if (atomB s rec false r2).1.kind = 4 ∧ (atomB s rec false r2).2.nx s = some 42 then atomB s rec false r2 else repB s (atomB s rec false r2).1 (atomB s rec false r2).2 := rfl
       generalize atomB s rec false r2 = xa at GA hpx
       obtain ⟨y, ra⟩ := xa
       simp only at hpx ⊢
       have ga2 := GA.in'
       simp only at ga2
       have hS1 : ((((s'.set p (encT s ra)).set ⟨d, 6, s'.ct d⟩ (enc y)).tick d)).Und (d + 1) := by simp only [u_tick, u_set _ _ _ _ hp1, u_mine]; exact hus
       have hS2 : ((((s'.set p (encT s ra)).set ⟨d, 6, s'.ct d⟩ (enc y)).tick d)).ob p = some (encT s ra) := by simp only [go_sem, hne, if_true, if_false]
       have hS3 : some (encT s ra) = some [MV.str s, .int .i64 ra.at', .bool false, .int .i64 ra.g, .bool ra.bad] := rfl
       cases hrb : ra.bad
       case true =>
        have h42' : ¬ (y.kind = 4 ∧ ra.nx s = some 42) := fun q => by rw [nx_bad hrb] at q; cases q.2
        rw [if_neg h42'] at hpx
        simp -implicitDefEqProofs -dsimp only [go_sem, a0, hne, hS3, hrb, enc_take]
        refine (v45 s ra y (by omega) ga2 p lim (d + 1) hp1 hlim _ hS1 hS2).wh ?_
        rw [← hpx]
        generalize pieceB s rec false r2 = x at G bi hT
        have hxz : szs (l ++ [x.1]) ≤ 1000000 := by
         have h1 := bi.in'
         cases hbb : x.2.bad with
         | false => have := (bi.good hbb).2; omega
         | true => have := (bi.bad' hbb); omega
        have hxl := len_le (l ++ [x.1])
        have hO2 : Own (((((s'.set p (encT s ra)).set ⟨d, 6, s'.ct d⟩ (enc y)).set p (encT s x.2)).tick d)) d (a 3) l := own_mono hO (fun _ _ => rfl) (by simp [Sto.tick, Sto.set, upd])
        have hS4 : (((((s'.set p (encT s ra)).set ⟨d, 6, s'.ct d⟩ (enc y)).set p (encT s x.2)).tick d)).Und (d + 1) := by simp only [u_tick, u_set _ _ _ _ hp1, u_mine]; exact hus
        obtain ⟨v', s2, q1, q2, q3, q4, q5⟩ := app_own (P := X.P) (t := 25) (ys := [x.1]) (tk := .own d (s'.ct d + 1)) slc_25 (own_tok hO2 (some (1, 10))) (by simp at hxl ⊢; omega) hlim2 (und_tok hS4 _ _)
        simp only [encs, ct_set, ct_tick] at q1
        simp -implicitDefEqProofs -dsimp only [go_sem, q1, a0]
        refine ⟨n, Nat.lt_succ_self n, l ++ [x.1], false, x.2, bi, hT, a2, q2, rfl, ?_, ⟨z, ?_, hzl⟩, ?_, q4⟩
        ·rw [q5]; simp only [go_sem, hne, if_true, if_false]
        ·rw [q5]; simp only [go_sem, hmy, if_false, hz, Nat.reduceEqDiff, false_and, and_false]
        ·rw [q3]; simp only [go_sem, cut_set _ _ _ _ hp, hcut, set_set]
       case false =>
        by_cases h4 : y.kind = 4
        ·have h4' : (y.kind == 4) = true := by rw [h4]; rfl
         simp -implicitDefEqProofs -dsimp only [go_sem, a0, hne, hS3, hrb, h4', enc_kind]
         refine (k1 s ra 42 (by omega) ga2 p lim (d + 1) hp1 _ hS1 hS2).wh ?_
         cases h42 : ra.nx s == some 42
         ·have h42' : ¬ (y.kind = 4 ∧ ra.nx s = some 42) := fun q => by rw [q.2] at h42; simp at h42
          rw [if_neg h42'] at hpx
          simp -implicitDefEqProofs -dsimp only [go_sem, a0, enc_take]
          refine (v45 s ra y (by omega) ga2 p lim (d + 1) hp1 hlim _ hS1 hS2).wh ?_
          rw [← hpx]
          generalize pieceB s rec false r2 = x at G bi hT
          have hxz : szs (l ++ [x.1]) ≤ 1000000 := by
           have h1 := bi.in'
           cases hbb : x.2.bad with
           | false => have := (bi.good hbb).2; omega
           | true => have := (bi.bad' hbb); omega
          have hxl := len_le (l ++ [x.1])
          have hO2 : Own (((((s'.set p (encT s ra)).set ⟨d, 6, s'.ct d⟩ (enc y)).set p (encT s x.2)).tick d)) d (a 3) l := own_mono hO (fun _ _ => rfl) (by simp [Sto.tick, Sto.set, upd])
          have hS4 : (((((s'.set p (encT s ra)).set ⟨d, 6, s'.ct d⟩ (enc y)).set p (encT s x.2)).tick d)).Und (d + 1) := by simp only [u_tick, u_set _ _ _ _ hp1, u_mine]; exact hus
          obtain ⟨v', s2, q1, q2, q3, q4, q5⟩ := app_own (P := X.P) (t := 25) (ys := [x.1]) (tk := .own d (s'.ct d + 1)) slc_25 (own_tok hO2 (some (1, 10))) (by simp at hxl ⊢; omega) hlim2 (und_tok hS4 _ _)
          simp only [encs, ct_set, ct_tick] at q1
          simp -implicitDefEqProofs -dsimp only [go_sem, q1, a0]
          refine ⟨n, Nat.lt_succ_self n, l ++ [x.1], false, x.2, bi, hT, a2, q2, rfl, ?_, ⟨z, ?_, hzl⟩, ?_, q4⟩
          ·rw [q5]; simp only [go_sem, hne, if_true, if_false]
          ·rw [q5]; simp only [go_sem, hmy, if_false, hz, Nat.reduceEqDiff, false_and, and_false]
          ·rw [q3]; simp only [go_sem, cut_set _ _ _ _ hp, hcut, set_set]
         ·rw [if_pos ⟨h4, by simpa using h42⟩] at hpx
          rw [hpx] at G bi hT
          generalize hx : (y, ra) = x at G bi hT
          have hx1 : y = x.1 := by rw [← hx]
          have hx2 : ra = x.2 := by rw [← hx]
          rw [hx1, hx2] at hS1 hS2
          rw [hx1, hx2]
          have hxz : szs (l ++ [x.1]) ≤ 1000000 := by
           have h1 := bi.in'
           cases hbb : x.2.bad with
           | false => have := (bi.good hbb).2; omega
           | true => have := (bi.bad' hbb); omega
          have hxl := len_le (l ++ [x.1])
          have hO2 : Own ((((s'.set p (encT s x.2)).set ⟨d, 6, s'.ct d⟩ (enc x.1)).tick d)) d (a 3) l := own_mono hO (fun _ _ => rfl) (by simp [Sto.tick, Sto.set, upd])
          have hS4 : ((((s'.set p (encT s x.2)).set ⟨d, 6, s'.ct d⟩ (enc x.1)).tick d)).Und (d + 1) := by simp only [u_tick, u_set _ _ _ _ hp1, u_mine]; exact hus
          obtain ⟨v', s2, q1, q2, q3, q4, q5⟩ := app_own (P := X.P) (t := 25) (ys := [x.1]) (tk := .own d (s'.ct d + 1)) slc_25 (own_tok hO2 (some (1, 10))) (by simp at hxl ⊢; omega) hlim2 (und_tok hS4 _ _)
          simp only [encs, ct_set, ct_tick] at q1
          simp -implicitDefEqProofs -dsimp only [go_sem, q1, a0]
          refine ⟨n, Nat.lt_succ_self n, l ++ [x.1], false, x.2, bi, hT, a2, q2, rfl, ?_, ⟨z, ?_, hzl⟩, ?_, q4⟩
          ·rw [q5]; simp only [go_sem, hne, if_true, if_false]
          ·rw [q5]; simp only [go_sem, hmy, if_false, hz, Nat.reduceEqDiff, false_and, and_false]
          ·rw [q3]; simp only [go_sem, cut_set _ _ _ _ hp, hcut, set_set]
        ·have h4' : (y.kind == 4) = false := by simpa using h4
         have h42' : ¬ (y.kind = 4 ∧ ra.nx s = some 42) := fun q => h4 q.1
         rw [if_neg h42'] at hpx
         simp -implicitDefEqProofs -dsimp only [go_sem, a0, hne, hS3, hrb, h4', enc_kind, enc_take]
         refine (v45 s ra y (by omega) ga2 p lim (d + 1) hp1 hlim _ hS1 hS2).wh ?_
         rw [← hpx]
         generalize pieceB s rec false r2 = x at G bi hT
         have hxz : szs (l ++ [x.1]) ≤ 1000000 := by
          have h1 := bi.in'
          cases hbb : x.2.bad with
          | false => have := (bi.good hbb).2; omega
          | true => have := (bi.bad' hbb); omega
         have hxl := len_le (l ++ [x.1])
         have hO2 : Own (((((s'.set p (encT s ra)).set ⟨d, 6, s'.ct d⟩ (enc y)).set p (encT s x.2)).tick d)) d (a 3) l := own_mono hO (fun _ _ => rfl) (by simp [Sto.tick, Sto.set, upd])
         have hS4 : (((((s'.set p (encT s ra)).set ⟨d, 6, s'.ct d⟩ (enc y)).set p (encT s x.2)).tick d)).Und (d + 1) := by simp only [u_tick, u_set _ _ _ _ hp1, u_mine]; exact hus
         obtain ⟨v', s2, q1, q2, q3, q4, q5⟩ := app_own (P := X.P) (t := 25) (ys := [x.1]) (tk := .own d (s'.ct d + 1)) slc_25 (own_tok hO2 (some (1, 10))) (by simp at hxl ⊢; omega) hlim2 (und_tok hS4 _ _)
         simp only [encs, ct_set, ct_tick] at q1
         simp -implicitDefEqProofs -dsimp only [go_sem, q1, a0]
         refine ⟨n, Nat.lt_succ_self n, l ++ [x.1], false, x.2, bi, hT, a2, q2, rfl, ?_, ⟨z, ?_, hzl⟩, ?_, q4⟩
         ·rw [q5]; simp only [go_sem, hne, if_true, if_false]
         ·rw [q5]; simp only [go_sem, hmy, if_false, hz, Nat.reduceEqDiff, false_and, and_false]
         ·rw [q3]; simp only [go_sem, cut_set _ _ _ _ hp, hcut, set_set]
 ·refine ⟨[], true, r, bj_0 s r hb hr h9, rfl, rfl, rfl, .inl ⟨rfl, rfl⟩, rfl, ?_, ⟨[.int .i64 0, .int .u8 0, .int .u64 0, .int .u64 0, .int .u64 0, .int .u64 0, .int .i64 0, .int .i64 0, .int .i64 0, .sl .nil []], ?_, rfl⟩, ?_, ?_⟩
  ·simp only [go_sem, hne, if_false]; exact ho
  ·simp only [go_sem, if_true]
  ·rw [set_same ho]; simp only [go_sem, cut_und _ _ hu]
  ·simp only [u_tick, u_mine]; exact hun
end
end Go.Proofs.Tryz.E
