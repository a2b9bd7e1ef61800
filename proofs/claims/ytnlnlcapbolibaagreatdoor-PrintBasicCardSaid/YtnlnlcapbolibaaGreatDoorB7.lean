/- Walks: what the functions compute. -/
import Derived.Test.YtnlnlcapbolibaaGreatDoorB6
set_option linter.unusedVariables false
set_option linter.unusedSimpArgs false
/- The program's reader of basic patterns: a sequence. -/
namespace Go.Proofs.Tryz.E
open Go.Mv
set_option maxHeartbeats 4000000
set_option maxRecDepth 20000
theorem putC_ee (x y : Nd) : putC (enc y) (enc x) 0 = enc x := putC_whole _ _ (by simp [enc_len])
section
variable {s : List UInt8} {k : Nat} {rec : Rd → Nd × Rd} (H : HB s k rec) (K : HW s k rec)
include H K
theorem w205 (r : Rd) (hs : s.length ≤ 100000) (hr : r.at' ≤ s.length) (hb : r.bad = false) (h9 : r.g ≤ 9) (hk : 10 ≤ k + 1 + r.g) (p : Mv.Loc) (lim d : Nat) (hp : p.d < d) (hlim : lim ≤ p.d) (σ : Sto) (hu : σ.Und d) (ho : σ.ob p = some (encB s r)) :
    Ret lim d 33 [.ptr p 0] σ (.agg (enc (seqB s rec (joinN []) (s.length + 1) true [] r).1)) (σ.set p (encB s (seqB s rec (joinN []) (s.length + 1) true [] r).2)) := by
  have hun := und_succ hu
  have hne := ne_my hp
  have hmy := my_ne hp
  have hp1 := Nat.lt_succ_of_lt hp
  have hlim2 : lim ≤ d := by omega
  unfold Ret
  rw [WF_body (C := X) rfl Go.Proofs.Tryz.func33 rfl (by kernel_rfl)]; simp only [Go.Proofs.Tryz.results33]
  simp -implicitDefEqProofs -dsimp only [↓reduceIte, ↓W_seq, go_sem, WR_nil, evNews, Nat.reduceEqDiff, Nat.reduceAdd, Nat.reduceMul, Nat.reduceLeDiff, Nat.reduceLT, Int.cast_ofNat_Int, Int.reduceBNe, Int.reduceToNat, Int.reduceLT, Int.reduceLE, Int.reduceAdd, Int.reduceNeg, Int.reduceEq, reduceCtorEq, enc]
  refine loop_h (I := fun n a s' => ∃ (l : List Nd) (first : Bool) (r2 : Rd), BJ s r n first l r2 ∧ seqB s rec (joinN []) n first l r2 = seqB s rec (joinN []) (s.length + 1) true [] r ∧ a 0 = .ptr p 0 ∧ a 2 = .ptr ⟨d, 2, σ.ct d⟩ 0 ∧ Own s' d (a 3) l ∧ a 4 = .bool first ∧ s'.ob p = some (encB s r2) ∧ (∃ z, s'.ob ⟨d, 2, σ.ct d⟩ = some z ∧ z.length = 10) ∧ s'.cut d = σ.set p (encB s r2) ∧ s'.Und (d + 1)) ?_ (s.length + 1) _ _ ?_
  · rintro n a s' ⟨l, first, r2, b, hT, a0, a2, hO, a4, hop, ⟨z, hz, hzl⟩, hcut, hus⟩
    obtain ⟨n, rfl⟩ : ∃ m, n = m + 1 := ⟨n - 1, by have := b.n1; omega⟩
    have b3 := b.in'
    rw [seqB] at hT
    rw [← hT]
    have hsl : szs l ≤ 1000000 := by
      cases hbb : r2.bad with
      | false => have := (b.good hbb).2; omega
      | true => have := (b.bad' hbb); omega
    have hll := len_le l
    have hput : ∀ x, putC z (enc x) 0 = enc x := fun x => putC_whole _ _ (by rw [hzl, enc_len])
    simp -implicitDefEqProofs -dsimp only [↓reduceIte, ↓W_seq, go_sem, WR_nil, evNews, Nat.reduceEqDiff, Nat.reduceAdd, Nat.reduceMul, Nat.reduceLeDiff, Nat.reduceLT, Int.cast_ofNat_Int, Int.reduceBNe, Int.reduceToNat, Int.reduceLT, Int.reduceLE, Int.reduceAdd, Int.reduceNeg, Int.reduceEq, reduceCtorEq, enc, a0]
    refine (w206 s r2 (by omega) b3 p lim (d + 1) hp1 _ hus hop).wh ?_
    cases hov : overB s r2
    case true =>
      simp -implicitDefEqProofs -dsimp only [↓reduceIte, ↓W_seq, go_sem, WR_nil, evNews, Nat.reduceEqDiff, Nat.reduceAdd, Nat.reduceMul, Nat.reduceLeDiff, Nat.reduceLT, Int.cast_ofNat_Int, Int.reduceBNe, Int.reduceToNat, Int.reduceLT, Int.reduceLE, Int.reduceAdd, Int.reduceNeg, Int.reduceEq, reduceCtorEq, enc, a0, a2, own_arg hO]
      refine (w18 l hsl lim (d + 1) _ (by omega) hus).wh ?_
      simp -implicitDefEqProofs -dsimp only [↓reduceIte, ↓W_seq, go_sem, WR_nil, evNews, Nat.reduceEqDiff, Nat.reduceAdd, Nat.reduceMul, Nat.reduceLeDiff, Nat.reduceLT, Int.cast_ofNat_Int, Int.reduceBNe, Int.reduceToNat, Int.reduceLT, Int.reduceLE, Int.reduceAdd, Int.reduceNeg, Int.reduceEq, reduceCtorEq, enc, a2, hmy, hz, hzl, hput, hcut, cut_set _ _ _ _ hp]
    case false =>
      obtain ⟨b1, b4, G, bi⟩ := bj_step H hk b hov
      rw [hov] at hT
      simp only [Bool.false_eq_true, if_false] at hT
      simp only [Bool.false_eq_true, if_false]
      cases first
      case true =>
        have hl0 := b.fst rfl
        simp -implicitDefEqProofs -dsimp only [↓reduceIte, ↓W_seq, go_sem, WR_nil, evNews, Nat.reduceEqDiff, Nat.reduceAdd, Nat.reduceMul, Nat.reduceLeDiff, Nat.reduceLT, Int.cast_ofNat_Int, Int.reduceBNe, Int.reduceToNat, Int.reduceLT, Int.reduceLE, Int.reduceAdd, Int.reduceNeg, Int.reduceEq, reduceCtorEq, enc, a0, a4, ba_data]
        refine (w207 s r2 [92, 123] (by omega) b3 p lim (d + 1) hp1 _ hus hop).wh ?_
        rw [hasT_two s r2 b3]
        cases hE : hasE s r2 123
        case true =>
          subst hl0
          simp -implicitDefEqProofs -dsimp only [↓reduceIte, ↓W_seq, go_sem, WR_nil, evNews, Nat.reduceEqDiff, Nat.reduceAdd, Nat.reduceMul, Nat.reduceLeDiff, Nat.reduceLT, Int.cast_ofNat_Int, Int.reduceBNe, Int.reduceToNat, Int.reduceLT, Int.reduceLE, Int.reduceAdd, Int.reduceNeg, Int.reduceEq, reduceCtorEq, enc, a0]
          refine (w208 s r2 p lim (d + 1) hp1 hlim _ hus hop).wh ?_
          have hO3 : (a 3).arg = .sl .no (encs []) := own_arg hO
          simp -implicitDefEqProofs -dsimp only [↓reduceIte, ↓W_seq, go_sem, WR_nil, evNews, Nat.reduceEqDiff, Nat.reduceAdd, Nat.reduceMul, Nat.reduceLeDiff, Nat.reduceLT, Int.cast_ofNat_Int, Int.reduceBNe, Int.reduceToNat, Int.reduceLT, Int.reduceLE, Int.reduceAdd, Int.reduceNeg, Int.reduceEq, reduceCtorEq, enc, a0, a2, hO3]
          refine (w18 [] (by simp [szs]) lim (d + 1) _ (by omega) ?_).wh ?_
          · simp only [u_tick, u_own, u_set _ _ _ _ hp1, u_mine]; exact hus
          simp -implicitDefEqProofs -dsimp only [↓reduceIte, ↓W_seq, go_sem, WR_nil, evNews, Nat.reduceEqDiff, Nat.reduceAdd, Nat.reduceMul, Nat.reduceLeDiff, Nat.reduceLT, Int.cast_ofNat_Int, Int.reduceBNe, Int.reduceToNat, Int.reduceLT, Int.reduceLE, Int.reduceAdd, Int.reduceNeg, Int.reduceEq, reduceCtorEq, enc, a2, hmy, hz, hzl, hput, hcut, cut_set _ _ _ _ hp, set_set]
        case false =>
          simp only [hE, Bool.false_eq_true, and_false, if_false] at hT
          simp only [Bool.false_eq_true, and_false, if_false]
          rw [hT]
          simp -implicitDefEqProofs -dsimp only [↓reduceIte, ↓W_seq, go_sem, WR_nil, evNews, Nat.reduceEqDiff, Nat.reduceAdd, Nat.reduceMul, Nat.reduceLeDiff, Nat.reduceLT, Int.cast_ofNat_Int, Int.reduceBNe, Int.reduceToNat, Int.reduceLT, Int.reduceLE, Int.reduceAdd, Int.reduceNeg, Int.reduceEq, reduceCtorEq, enc, a0, a4]
          refine (w209 H K r2 true hs b4 b1 b.g9 (by have := b.gm; omega) p lim (d + 1) hp1 hlim _ hus hop).wh ?_
          have GA := gd_atomB H (first := true) b4 b1 b.g9 (by have := b.gm; omega)
          have hpx : pieceB s rec true r2 = if (atomB s rec true r2).1.kind = 4 ∧ (atomB s rec true r2).2.nx s = some 42 then atomB s rec true r2 else repB s (atomB s rec true r2).1 (atomB s rec true r2).2 := rfl
          generalize atomB s rec true r2 = xa at GA hpx
          obtain ⟨y, ra⟩ := xa
          simp only at hpx ⊢
          have ga2 := GA.in'
          simp only at ga2
          have hS1 : ((((s'.set p (encB s ra)).set ⟨d, 5, s'.ct d⟩ (enc y)).tick d)).Und (d + 1) := by simp only [u_tick, u_own, u_set _ _ _ _ hp1, u_mine]; exact hus
          have hS2 : ((((s'.set p (encB s ra)).set ⟨d, 5, s'.ct d⟩ (enc y)).tick d)).ob p = some (encB s ra) := by simp only [go_sem, hne, hmy, if_true, if_false]
          by_cases h4 : y.kind = 4
          · have h4' : (y.kind != 4) = false := by rw [h4]; rfl
            simp -implicitDefEqProofs -dsimp only [↓reduceIte, ↓W_seq, go_sem, WR_nil, evNews, Nat.reduceEqDiff, Nat.reduceAdd, Nat.reduceMul, Nat.reduceLeDiff, Nat.reduceLT, Int.cast_ofNat_Int, Int.reduceBNe, Int.reduceToNat, Int.reduceLT, Int.reduceLE, Int.reduceAdd, Int.reduceNeg, Int.reduceEq, reduceCtorEq, enc, a0, hmy, hne, h4', enc_kind, enc_take, ba_data]
            refine (w207 s ra [42] (by omega) ga2 p lim (d + 1) hp1 _ hS1 hS2).wh ?_
            rw [hasT_one s ra ga2]
            cases h42 : ra.nx s == some 42
            · have h42' : ¬ (y.kind = 4 ∧ ra.nx s = some 42) := fun q => by rw [q.2] at h42; simp at h42
              rw [if_neg h42'] at hpx
              simp -implicitDefEqProofs -dsimp only [↓reduceIte, ↓W_seq, go_sem, WR_nil, evNews, Nat.reduceEqDiff, Nat.reduceAdd, Nat.reduceMul, Nat.reduceLeDiff, Nat.reduceLT, Int.cast_ofNat_Int, Int.reduceBNe, Int.reduceToNat, Int.reduceLT, Int.reduceLE, Int.reduceAdd, Int.reduceNeg, Int.reduceEq, reduceCtorEq, enc, a0, hmy, hne, enc_take]
              refine (w210 s ra y (by omega) ga2 p lim (d + 1) hp1 hlim _ hS1 hS2).wh ?_
              rw [← hpx]
              generalize pieceB s rec true r2 = x at G bi hT
              have hxz : szs (l ++ [x.1]) ≤ 1000000 := by
                have h1 := bi.in'
                cases hbb : x.2.bad with
                | false => have := (bi.good hbb).2; omega
                | true => have := (bi.bad' hbb); omega
              have hxl := len_le (l ++ [x.1])
              have hO2 : Own ((((((s'.set p (encB s ra)).set ⟨d, 5, s'.ct d⟩ (enc y)).set p (encB s x.2)).set ⟨d, 5, s'.ct d⟩ (enc x.1)).tick d)) d (a 3) l := own_mono hO (fun _ _ => rfl) (by simp [Sto.tick, Sto.set, upd])
              have hS4 : ((((((s'.set p (encB s ra)).set ⟨d, 5, s'.ct d⟩ (enc y)).set p (encB s x.2)).set ⟨d, 5, s'.ct d⟩ (enc x.1)).tick d)).Und (d + 1) := by simp only [u_tick, u_own, u_set _ _ _ _ hp1, u_mine]; exact hus
              obtain ⟨v', s2, q1, q2, q3, q4, q5⟩ := app_own (P := X.P) (t := 34) (ys := [x.1]) (tk := .own d (s'.ct d + 1)) slc_34 (own_tok hO2 (some (1, 10))) (by simp at hxl ⊢; omega) hlim2 (und_tok hS4 _ _)
              simp only [encs, ct_set, ct_tick] at q1
              simp -implicitDefEqProofs -dsimp only [↓reduceIte, ↓W_seq, go_sem, WR_nil, evNews, Nat.reduceEqDiff, Nat.reduceAdd, Nat.reduceMul, Nat.reduceLeDiff, Nat.reduceLT, Int.cast_ofNat_Int, Int.reduceBNe, Int.reduceToNat, Int.reduceLT, Int.reduceLE, Int.reduceAdd, Int.reduceNeg, Int.reduceEq, reduceCtorEq, enc, hmy, hne, putC_ee, q1, a0]
              refine ⟨n, Nat.lt_succ_self n, l ++ [x.1], false, x.2, bi, hT, a2, q2, rfl, ?_, ⟨z, ?_, hzl⟩, ?_, q4⟩
              · rw [q5]; simp only [go_sem, hmy, hne, if_true, if_false]
              · rw [q5]; simp only [go_sem, hmy, hne, if_false, hz, Nat.reduceEqDiff, false_and, and_false]
              · rw [q3]; simp only [go_sem, cut_set _ _ _ _ hp, hcut, set_set]
            · rw [if_pos ⟨h4, by simpa using h42⟩] at hpx
              rw [hpx] at G bi hT
              generalize hx : (y, ra) = x at G bi hT
              have hx1 : y = x.1 := by rw [← hx]
              have hx2 : ra = x.2 := by rw [← hx]
              rw [hx1, hx2] at hS1 hS2
              rw [hx1, hx2]
              simp -implicitDefEqProofs -dsimp only [↓reduceIte, ↓W_seq, go_sem, WR_nil, evNews, Nat.reduceEqDiff, Nat.reduceAdd, Nat.reduceMul, Nat.reduceLeDiff, Nat.reduceLT, Int.cast_ofNat_Int, Int.reduceBNe, Int.reduceToNat, Int.reduceLT, Int.reduceLE, Int.reduceAdd, Int.reduceNeg, Int.reduceEq, reduceCtorEq, enc, a0, hmy, hne, enc_take]
              have hxz : szs (l ++ [x.1]) ≤ 1000000 := by
                have h1 := bi.in'
                cases hbb : x.2.bad with
                | false => have := (bi.good hbb).2; omega
                | true => have := (bi.bad' hbb); omega
              have hxl := len_le (l ++ [x.1])
              have hO2 : Own ((((s'.set p (encB s x.2)).set ⟨d, 5, s'.ct d⟩ (enc x.1)).tick d)) d (a 3) l := own_mono hO (fun _ _ => rfl) (by simp [Sto.tick, Sto.set, upd])
              have hS4 : ((((s'.set p (encB s x.2)).set ⟨d, 5, s'.ct d⟩ (enc x.1)).tick d)).Und (d + 1) := by simp only [u_tick, u_own, u_set _ _ _ _ hp1, u_mine]; exact hus
              obtain ⟨v', s2, q1, q2, q3, q4, q5⟩ := app_own (P := X.P) (t := 34) (ys := [x.1]) (tk := .own d (s'.ct d + 1)) slc_34 (own_tok hO2 (some (1, 10))) (by simp at hxl ⊢; omega) hlim2 (und_tok hS4 _ _)
              simp only [encs, ct_set, ct_tick] at q1
              simp -implicitDefEqProofs -dsimp only [↓reduceIte, ↓W_seq, go_sem, WR_nil, evNews, Nat.reduceEqDiff, Nat.reduceAdd, Nat.reduceMul, Nat.reduceLeDiff, Nat.reduceLT, Int.cast_ofNat_Int, Int.reduceBNe, Int.reduceToNat, Int.reduceLT, Int.reduceLE, Int.reduceAdd, Int.reduceNeg, Int.reduceEq, reduceCtorEq, enc, hmy, hne, putC_ee, q1, a0]
              refine ⟨n, Nat.lt_succ_self n, l ++ [x.1], false, x.2, bi, hT, a2, q2, rfl, ?_, ⟨z, ?_, hzl⟩, ?_, q4⟩
              · rw [q5]; simp only [go_sem, hmy, hne, if_true, if_false]
              · rw [q5]; simp only [go_sem, hmy, hne, if_false, hz, Nat.reduceEqDiff, false_and, and_false]
              · rw [q3]; simp only [go_sem, cut_set _ _ _ _ hp, hcut, set_set]
          · have h4' : (y.kind != 4) = true := by simpa using h4
            have h42' : ¬ (y.kind = 4 ∧ ra.nx s = some 42) := fun q => h4 q.1
            rw [if_neg h42'] at hpx
            simp -implicitDefEqProofs -dsimp only [↓reduceIte, ↓W_seq, go_sem, WR_nil, evNews, Nat.reduceEqDiff, Nat.reduceAdd, Nat.reduceMul, Nat.reduceLeDiff, Nat.reduceLT, Int.cast_ofNat_Int, Int.reduceBNe, Int.reduceToNat, Int.reduceLT, Int.reduceLE, Int.reduceAdd, Int.reduceNeg, Int.reduceEq, reduceCtorEq, enc, a0, hmy, hne, h4', enc_kind, enc_take]
            refine (w210 s ra y (by omega) ga2 p lim (d + 1) hp1 hlim _ hS1 hS2).wh ?_
            rw [← hpx]
            generalize pieceB s rec true r2 = x at G bi hT
            have hxz : szs (l ++ [x.1]) ≤ 1000000 := by
              have h1 := bi.in'
              cases hbb : x.2.bad with
              | false => have := (bi.good hbb).2; omega
              | true => have := (bi.bad' hbb); omega
            have hxl := len_le (l ++ [x.1])
            have hO2 : Own ((((((s'.set p (encB s ra)).set ⟨d, 5, s'.ct d⟩ (enc y)).set p (encB s x.2)).set ⟨d, 5, s'.ct d⟩ (enc x.1)).tick d)) d (a 3) l := own_mono hO (fun _ _ => rfl) (by simp [Sto.tick, Sto.set, upd])
            have hS4 : ((((((s'.set p (encB s ra)).set ⟨d, 5, s'.ct d⟩ (enc y)).set p (encB s x.2)).set ⟨d, 5, s'.ct d⟩ (enc x.1)).tick d)).Und (d + 1) := by simp only [u_tick, u_own, u_set _ _ _ _ hp1, u_mine]; exact hus
            obtain ⟨v', s2, q1, q2, q3, q4, q5⟩ := app_own (P := X.P) (t := 34) (ys := [x.1]) (tk := .own d (s'.ct d + 1)) slc_34 (own_tok hO2 (some (1, 10))) (by simp at hxl ⊢; omega) hlim2 (und_tok hS4 _ _)
            simp only [encs, ct_set, ct_tick] at q1
            simp -implicitDefEqProofs -dsimp only [↓reduceIte, ↓W_seq, go_sem, WR_nil, evNews, Nat.reduceEqDiff, Nat.reduceAdd, Nat.reduceMul, Nat.reduceLeDiff, Nat.reduceLT, Int.cast_ofNat_Int, Int.reduceBNe, Int.reduceToNat, Int.reduceLT, Int.reduceLE, Int.reduceAdd, Int.reduceNeg, Int.reduceEq, reduceCtorEq, enc, hmy, hne, putC_ee, q1, a0]
            refine ⟨n, Nat.lt_succ_self n, l ++ [x.1], false, x.2, bi, hT, a2, q2, rfl, ?_, ⟨z, ?_, hzl⟩, ?_, q4⟩
            · rw [q5]; simp only [go_sem, hmy, hne, if_true, if_false]
            · rw [q5]; simp only [go_sem, hmy, hne, if_false, hz, Nat.reduceEqDiff, false_and, and_false]
            · rw [q3]; simp only [go_sem, cut_set _ _ _ _ hp, hcut, set_set]
      case false =>
        simp only [Bool.false_eq_true, false_and, if_false] at hT
        simp only [Bool.false_eq_true, false_and, if_false]
        rw [hT]
        simp -implicitDefEqProofs -dsimp only [↓reduceIte, ↓W_seq, go_sem, WR_nil, evNews, Nat.reduceEqDiff, Nat.reduceAdd, Nat.reduceMul, Nat.reduceLeDiff, Nat.reduceLT, Int.cast_ofNat_Int, Int.reduceBNe, Int.reduceToNat, Int.reduceLT, Int.reduceLE, Int.reduceAdd, Int.reduceNeg, Int.reduceEq, reduceCtorEq, enc, a0, a4]
        refine (w209 H K r2 false hs b4 b1 b.g9 (by have := b.gm; omega) p lim (d + 1) hp1 hlim _ hus hop).wh ?_
        have GA := gd_atomB H (first := false) b4 b1 b.g9 (by have := b.gm; omega)
        have hpx : pieceB s rec false r2 = if (atomB s rec false r2).1.kind = 4 ∧ (atomB s rec false r2).2.nx s = some 42 then atomB s rec false r2 else repB s (atomB s rec false r2).1 (atomB s rec false r2).2 := rfl
        generalize atomB s rec false r2 = xa at GA hpx
        obtain ⟨y, ra⟩ := xa
        simp only at hpx ⊢
        have ga2 := GA.in'
        simp only at ga2
        have hS1 : ((((s'.set p (encB s ra)).set ⟨d, 5, s'.ct d⟩ (enc y)).tick d)).Und (d + 1) := by simp only [u_tick, u_own, u_set _ _ _ _ hp1, u_mine]; exact hus
        have hS2 : ((((s'.set p (encB s ra)).set ⟨d, 5, s'.ct d⟩ (enc y)).tick d)).ob p = some (encB s ra) := by simp only [go_sem, hne, hmy, if_true, if_false]
        by_cases h4 : y.kind = 4
        · have h4' : (y.kind != 4) = false := by rw [h4]; rfl
          simp -implicitDefEqProofs -dsimp only [↓reduceIte, ↓W_seq, go_sem, WR_nil, evNews, Nat.reduceEqDiff, Nat.reduceAdd, Nat.reduceMul, Nat.reduceLeDiff, Nat.reduceLT, Int.cast_ofNat_Int, Int.reduceBNe, Int.reduceToNat, Int.reduceLT, Int.reduceLE, Int.reduceAdd, Int.reduceNeg, Int.reduceEq, reduceCtorEq, enc, a0, hmy, hne, h4', enc_kind, enc_take, ba_data]
          refine (w207 s ra [42] (by omega) ga2 p lim (d + 1) hp1 _ hS1 hS2).wh ?_
          rw [hasT_one s ra ga2]
          cases h42 : ra.nx s == some 42
          · have h42' : ¬ (y.kind = 4 ∧ ra.nx s = some 42) := fun q => by rw [q.2] at h42; simp at h42
            rw [if_neg h42'] at hpx
            simp -implicitDefEqProofs -dsimp only [↓reduceIte, ↓W_seq, go_sem, WR_nil, evNews, Nat.reduceEqDiff, Nat.reduceAdd, Nat.reduceMul, Nat.reduceLeDiff, Nat.reduceLT, Int.cast_ofNat_Int, Int.reduceBNe, Int.reduceToNat, Int.reduceLT, Int.reduceLE, Int.reduceAdd, Int.reduceNeg, Int.reduceEq, reduceCtorEq, enc, a0, hmy, hne, enc_take]
            refine (w210 s ra y (by omega) ga2 p lim (d + 1) hp1 hlim _ hS1 hS2).wh ?_
            rw [← hpx]
            generalize pieceB s rec false r2 = x at G bi hT
            have hxz : szs (l ++ [x.1]) ≤ 1000000 := by
              have h1 := bi.in'
              cases hbb : x.2.bad with
              | false => have := (bi.good hbb).2; omega
              | true => have := (bi.bad' hbb); omega
            have hxl := len_le (l ++ [x.1])
            have hO2 : Own ((((((s'.set p (encB s ra)).set ⟨d, 5, s'.ct d⟩ (enc y)).set p (encB s x.2)).set ⟨d, 5, s'.ct d⟩ (enc x.1)).tick d)) d (a 3) l := own_mono hO (fun _ _ => rfl) (by simp [Sto.tick, Sto.set, upd])
            have hS4 : ((((((s'.set p (encB s ra)).set ⟨d, 5, s'.ct d⟩ (enc y)).set p (encB s x.2)).set ⟨d, 5, s'.ct d⟩ (enc x.1)).tick d)).Und (d + 1) := by simp only [u_tick, u_own, u_set _ _ _ _ hp1, u_mine]; exact hus
            obtain ⟨v', s2, q1, q2, q3, q4, q5⟩ := app_own (P := X.P) (t := 34) (ys := [x.1]) (tk := .own d (s'.ct d + 1)) slc_34 (own_tok hO2 (some (1, 10))) (by simp at hxl ⊢; omega) hlim2 (und_tok hS4 _ _)
            simp only [encs, ct_set, ct_tick] at q1
            simp -implicitDefEqProofs -dsimp only [↓reduceIte, ↓W_seq, go_sem, WR_nil, evNews, Nat.reduceEqDiff, Nat.reduceAdd, Nat.reduceMul, Nat.reduceLeDiff, Nat.reduceLT, Int.cast_ofNat_Int, Int.reduceBNe, Int.reduceToNat, Int.reduceLT, Int.reduceLE, Int.reduceAdd, Int.reduceNeg, Int.reduceEq, reduceCtorEq, enc, hmy, hne, putC_ee, q1, a0]
            refine ⟨n, Nat.lt_succ_self n, l ++ [x.1], false, x.2, bi, hT, a2, q2, rfl, ?_, ⟨z, ?_, hzl⟩, ?_, q4⟩
            · rw [q5]; simp only [go_sem, hmy, hne, if_true, if_false]
            · rw [q5]; simp only [go_sem, hmy, hne, if_false, hz, Nat.reduceEqDiff, false_and, and_false]
            · rw [q3]; simp only [go_sem, cut_set _ _ _ _ hp, hcut, set_set]
          · rw [if_pos ⟨h4, by simpa using h42⟩] at hpx
            rw [hpx] at G bi hT
            generalize hx : (y, ra) = x at G bi hT
            have hx1 : y = x.1 := by rw [← hx]
            have hx2 : ra = x.2 := by rw [← hx]
            rw [hx1, hx2] at hS1 hS2
            rw [hx1, hx2]
            simp -implicitDefEqProofs -dsimp only [↓reduceIte, ↓W_seq, go_sem, WR_nil, evNews, Nat.reduceEqDiff, Nat.reduceAdd, Nat.reduceMul, Nat.reduceLeDiff, Nat.reduceLT, Int.cast_ofNat_Int, Int.reduceBNe, Int.reduceToNat, Int.reduceLT, Int.reduceLE, Int.reduceAdd, Int.reduceNeg, Int.reduceEq, reduceCtorEq, enc, a0, hmy, hne, enc_take]
            have hxz : szs (l ++ [x.1]) ≤ 1000000 := by
              have h1 := bi.in'
              cases hbb : x.2.bad with
              | false => have := (bi.good hbb).2; omega
              | true => have := (bi.bad' hbb); omega
            have hxl := len_le (l ++ [x.1])
            have hO2 : Own ((((s'.set p (encB s x.2)).set ⟨d, 5, s'.ct d⟩ (enc x.1)).tick d)) d (a 3) l := own_mono hO (fun _ _ => rfl) (by simp [Sto.tick, Sto.set, upd])
            have hS4 : ((((s'.set p (encB s x.2)).set ⟨d, 5, s'.ct d⟩ (enc x.1)).tick d)).Und (d + 1) := by simp only [u_tick, u_own, u_set _ _ _ _ hp1, u_mine]; exact hus
            obtain ⟨v', s2, q1, q2, q3, q4, q5⟩ := app_own (P := X.P) (t := 34) (ys := [x.1]) (tk := .own d (s'.ct d + 1)) slc_34 (own_tok hO2 (some (1, 10))) (by simp at hxl ⊢; omega) hlim2 (und_tok hS4 _ _)
            simp only [encs, ct_set, ct_tick] at q1
            simp -implicitDefEqProofs -dsimp only [↓reduceIte, ↓W_seq, go_sem, WR_nil, evNews, Nat.reduceEqDiff, Nat.reduceAdd, Nat.reduceMul, Nat.reduceLeDiff, Nat.reduceLT, Int.cast_ofNat_Int, Int.reduceBNe, Int.reduceToNat, Int.reduceLT, Int.reduceLE, Int.reduceAdd, Int.reduceNeg, Int.reduceEq, reduceCtorEq, enc, hmy, hne, putC_ee, q1, a0]
            refine ⟨n, Nat.lt_succ_self n, l ++ [x.1], false, x.2, bi, hT, a2, q2, rfl, ?_, ⟨z, ?_, hzl⟩, ?_, q4⟩
            · rw [q5]; simp only [go_sem, hmy, hne, if_true, if_false]
            · rw [q5]; simp only [go_sem, hmy, hne, if_false, hz, Nat.reduceEqDiff, false_and, and_false]
            · rw [q3]; simp only [go_sem, cut_set _ _ _ _ hp, hcut, set_set]
        · have h4' : (y.kind != 4) = true := by simpa using h4
          have h42' : ¬ (y.kind = 4 ∧ ra.nx s = some 42) := fun q => h4 q.1
          rw [if_neg h42'] at hpx
          simp -implicitDefEqProofs -dsimp only [↓reduceIte, ↓W_seq, go_sem, WR_nil, evNews, Nat.reduceEqDiff, Nat.reduceAdd, Nat.reduceMul, Nat.reduceLeDiff, Nat.reduceLT, Int.cast_ofNat_Int, Int.reduceBNe, Int.reduceToNat, Int.reduceLT, Int.reduceLE, Int.reduceAdd, Int.reduceNeg, Int.reduceEq, reduceCtorEq, enc, a0, hmy, hne, h4', enc_kind, enc_take]
          refine (w210 s ra y (by omega) ga2 p lim (d + 1) hp1 hlim _ hS1 hS2).wh ?_
          rw [← hpx]
          generalize pieceB s rec false r2 = x at G bi hT
          have hxz : szs (l ++ [x.1]) ≤ 1000000 := by
            have h1 := bi.in'
            cases hbb : x.2.bad with
            | false => have := (bi.good hbb).2; omega
            | true => have := (bi.bad' hbb); omega
          have hxl := len_le (l ++ [x.1])
          have hO2 : Own ((((((s'.set p (encB s ra)).set ⟨d, 5, s'.ct d⟩ (enc y)).set p (encB s x.2)).set ⟨d, 5, s'.ct d⟩ (enc x.1)).tick d)) d (a 3) l := own_mono hO (fun _ _ => rfl) (by simp [Sto.tick, Sto.set, upd])
          have hS4 : ((((((s'.set p (encB s ra)).set ⟨d, 5, s'.ct d⟩ (enc y)).set p (encB s x.2)).set ⟨d, 5, s'.ct d⟩ (enc x.1)).tick d)).Und (d + 1) := by simp only [u_tick, u_own, u_set _ _ _ _ hp1, u_mine]; exact hus
          obtain ⟨v', s2, q1, q2, q3, q4, q5⟩ := app_own (P := X.P) (t := 34) (ys := [x.1]) (tk := .own d (s'.ct d + 1)) slc_34 (own_tok hO2 (some (1, 10))) (by simp at hxl ⊢; omega) hlim2 (und_tok hS4 _ _)
          simp only [encs, ct_set, ct_tick] at q1
          simp -implicitDefEqProofs -dsimp only [↓reduceIte, ↓W_seq, go_sem, WR_nil, evNews, Nat.reduceEqDiff, Nat.reduceAdd, Nat.reduceMul, Nat.reduceLeDiff, Nat.reduceLT, Int.cast_ofNat_Int, Int.reduceBNe, Int.reduceToNat, Int.reduceLT, Int.reduceLE, Int.reduceAdd, Int.reduceNeg, Int.reduceEq, reduceCtorEq, enc, hmy, hne, putC_ee, q1, a0]
          refine ⟨n, Nat.lt_succ_self n, l ++ [x.1], false, x.2, bi, hT, a2, q2, rfl, ?_, ⟨z, ?_, hzl⟩, ?_, q4⟩
          · rw [q5]; simp only [go_sem, hmy, hne, if_true, if_false]
          · rw [q5]; simp only [go_sem, hmy, hne, if_false, hz, Nat.reduceEqDiff, false_and, and_false]
          · rw [q3]; simp only [go_sem, cut_set _ _ _ _ hp, hcut, set_set]
  · refine ⟨[], true, r, bj_0 s r hb hr h9, rfl, rfl, rfl, .inl ⟨rfl, rfl⟩, rfl, ?_, ⟨[.int .i64 0, .int .u8 0, .int .u64 0, .int .u64 0, .int .u64 0, .int .u64 0, .int .i64 0, .int .i64 0, .int .i64 0, .sl .nil []], ?_, rfl⟩, ?_, ?_⟩
    · simp only [go_sem, hne, if_false]; exact ho
    · simp only [go_sem, if_true]
    · rw [set_same ho]; simp only [go_sem, cut_und _ _ hu]
    · simp only [u_tick, u_mine]; exact hun
end
end Go.Proofs.Tryz.E
