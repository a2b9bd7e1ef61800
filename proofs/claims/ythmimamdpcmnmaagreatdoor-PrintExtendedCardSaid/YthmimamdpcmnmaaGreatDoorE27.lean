/- Walks: what the functions compute. -/
import Derived.Test.YthmimamdpcmnmaaGreatDoorE26
set_option linter.unusedVariables false
set_option linter.unusedSimpArgs false
/- The reader: branches, all of a pattern. -/
namespace Go.Proofs.Tryz.E
open Go.Mv
set_option maxHeartbeats 4000000
set_option maxRecDepth 20000
/-- Where a branch is. -/
structure BI (s : List UInt8) (r : Rd) (n : Nat) (l : List Nd) (r2 : Rd) : Prop where
  n1 : 1 ≤ n
  le : r.at' ≤ r2.at'
  in' : r2.at' ≤ s.length
  gm : r.g ≤ r2.g
  g9 : r2.g ≤ 9
  good : r2.bad = false → s.length - r2.at' < n ∧ szs l + 2 * l.length ≤ 8 * (r2.at' - r.at')
  bad' : r2.bad = true → szs l ≤ 8 * (r2.at' - r.at') + 1 ∧ l ≠ []
section
variable {s : List UInt8} {k : Nat} {rec : Rd → Nd × Rd} (H : HR s k rec)
include H
theorem bi_step {r r2 : Rd} {n : Nat} {l : List Nd} (hk : 10 ≤ k + 1 + r.g) (b : BI s r (n + 1) l r2) (hs : stopS (r2.nx s) = false) : r2.bad = false ∧ r2.at' < s.length ∧ Gd s 2 1 r2 (pieceS s rec r2) ∧ BI s r n (l ++ [(pieceS s rec r2).1]) (pieceS s rec r2).2 := by
  obtain ⟨c, hc⟩ : ∃ c, r2.nx s = some c := by
    cases h : r2.nx s with
    | none => rw [h] at hs; cases hs
    | some c => exact ⟨c, rfl⟩
  obtain ⟨b1, b2, b3⟩ := nx_some hc
  have G := gd_piece H b3 b1 b.g9 (by have := b.gm; omega)
  refine ⟨b1, b3, G, ?_⟩
  generalize pieceS s rec r2 = x at G
  have g1 := G.le
  have g2 := G.in'
  have g3 := G.gm
  have g4 := G.g9
  have b4 := b.le
  have b5 := b.gm
  obtain ⟨b6, b7⟩ := b.good b1
  refine ⟨by omega, by omega, g2, by omega, g4, fun q => ?_, fun q => ?_⟩
  · obtain ⟨g5, g6⟩ := G.good q
    rw [szs_snoc, List.length_append]
    simp only [List.length_cons, List.length_nil]
    omega
  · have := G.bad' q
    rw [szs_snoc]
    exact ⟨by omega, by simp⟩
theorem gd_branch {r : Rd} (hk : 10 ≤ k + 1 + r.g) : ∀ (n : Nat) (l : List Nd) (r2 : Rd), BI s r n l r2 → Gd s 1 2 r (branchS s rec n l r2)
  | 0, l, r2, b => by have := b.n1; omega
  | n + 1, l, r2, b => by
    have b4 := b.le
    have b3 := b.in'
    have b5 := b.gm
    have b9 := b.g9
    have fl : Gd s 1 2 r (z0, r2.fail) := ⟨by simp only [Rd.fail]; omega, by simp only [Rd.fail]; omega, by simp only [Rd.fail]; omega, b9, fun q => by simp [Rd.fail] at q, fun _ => by simp only [sz_z0]; omega⟩
    rw [branchS]
    split
    · split
      · exact fl
      · rename_i hl
        have hll : 1 ≤ l.length := by
          match l, hl with
          | _ :: _, _ => simp
        have hj := sz_join l
        refine ⟨b4, b3, b5, b9, fun q => ?_, fun q => ?_⟩
        · obtain ⟨g5, g6⟩ := b.good q
          simp only at q ⊢
          omega
        · obtain ⟨g5, g6⟩ := b.bad' q
          simp only
          omega
    · rename_i hst
      split
      · exact fl
      · have := bi_step H hk b (by simpa using hst)
        exact gd_branch hk n _ _ this.2.2.2
theorem w30 (r : Rd) (hs : s.length ≤ 100000) (hr : r.at' ≤ s.length) (hb : r.bad = false) (h9 : r.g ≤ 9) (hk : 10 ≤ k + 1 + r.g) (p : Mv.Loc) (lim d : Nat) (hp : p.d < d) (hlim : lim ≤ p.d) (σ : Sto) (hu : σ.Und d) (ho : σ.ob p = some (encP s r)) :
    Ret lim d 45 [.ptr p 0] σ (.agg (enc (branchS s rec (s.length + 1) [] r).1)) (σ.set p (encP s (branchS s rec (s.length + 1) [] r).2)) := by
  have hun := und_succ hu
  have hne := ne_my hp
  have hmy := my_ne hp
  have hp1 := Nat.lt_succ_of_lt hp
  have hlim2 : lim ≤ d := by omega
  unfold Ret
  rw [WF_body (C := X) rfl Go.Proofs.Tryz.func45 rfl (by kernel_rfl)]; simp only [Go.Proofs.Tryz.results45]
  simp -implicitDefEqProofs -dsimp only [↓reduceIte, ↓W_seq, go_sem, WR_nil, evNews, Nat.reduceEqDiff, Nat.reduceAdd, Nat.reduceMul, Nat.reduceLeDiff, Nat.reduceLT, Int.cast_ofNat_Int, Int.reduceBNe, Int.reduceToNat, Int.reduceLT, Int.reduceLE, Int.reduceAdd, Int.reduceNeg, Int.reduceEq, reduceCtorEq, enc]
  refine loop_h (I := fun n a s' => ∃ (l : List Nd) (r2 : Rd), BI s r n l r2 ∧ branchS s rec n l r2 = branchS s rec (s.length + 1) [] r ∧ a 0 = .ptr p 0 ∧ a 2 = .ptr ⟨d, 2, σ.ct d⟩ 0 ∧ Own s' d (a 3) l ∧ s'.ob p = some (encP s r2) ∧ (∃ z, s'.ob ⟨d, 2, σ.ct d⟩ = some z ∧ z.length = 10) ∧ s'.cut d = σ.set p (encP s r2) ∧ s'.Und (d + 1)) ?_ (s.length + 1) _ _ ?_
  · rintro n a s' ⟨l, r2, b, hT, a0, a2, hO, hop, ⟨z, hz, hzl⟩, hcut, hus⟩
    obtain ⟨n, rfl⟩ : ∃ m, n = m + 1 := ⟨n - 1, by have := b.n1; omega⟩
    have b3 := b.in'
    rw [branchS] at hT
    rw [← hT]
    have hx := fun t => w31 s r2 t (by omega) p lim (d + 1) hp1 s' hus hop
    have hst : stopS (r2.nx s) = (match r2.nx s with | none => true | some c => isS [124, 41] (some c)) := by
      cases r2.nx s with
      | none => rfl
      | some c =>
        simp only [stopS, isS_some, List.contains_cons, List.contains_nil, Bool.or_false]
        rw [Bool.eq_iff_iff]; simp
    have hrp : isS [42, 43, 63, 123] (r2.nx s) = isRep (r2.nx s) := by
      cases r2.nx s with
      | none => rfl
      | some c =>
        rw [isS_some]
        simp only [isRep, List.contains_cons, List.contains_nil, Bool.or_false]
        rw [Bool.eq_iff_iff]; simp [or_assoc]
    have hsl : szs l ≤ 1000000 := by
      cases hbb : r2.bad with
      | false => have := (b.good hbb).2; omega
      | true => have := (b.bad' hbb).1; omega
    have hll := len_le l
    have hput : ∀ x, putC z (enc x) 0 = enc x := fun x => putC_whole _ _ (by rw [hzl, enc_len])
    simp -implicitDefEqProofs -dsimp only [↓reduceIte, ↓W_seq, go_sem, WR_nil, evNews, Nat.reduceEqDiff, Nat.reduceAdd, Nat.reduceMul, Nat.reduceLeDiff, Nat.reduceLT, Int.cast_ofNat_Int, Int.reduceBNe, Int.reduceToNat, Int.reduceLT, Int.reduceLE, Int.reduceAdd, Int.reduceNeg, Int.reduceEq, reduceCtorEq, enc, a0]
    refine (w20 s r2 (by omega) p lim (d + 1) hp1 _ hus hop).wh ?_
    cases hnx : r2.nx s with
    | none =>
      simp -implicitDefEqProofs -dsimp only [↓reduceIte, ↓W_seq, go_sem, WR_nil, evNews, Nat.reduceEqDiff, Nat.reduceAdd, Nat.reduceMul, Nat.reduceLeDiff, Nat.reduceLT, Int.cast_ofNat_Int, Int.reduceBNe, Int.reduceToNat, Int.reduceLT, Int.reduceLE, Int.reduceAdd, Int.reduceNeg, Int.reduceEq, reduceCtorEq, enc, pkV_none]
      by_cases hl0 : l = []
      · have e0 : ((l.length : Int) == 0) = true := by rw [hl0]; rfl
        simp -implicitDefEqProofs -dsimp only [↓reduceIte, ↓W_seq, go_sem, WR_nil, evNews, Nat.reduceEqDiff, Nat.reduceAdd, Nat.reduceMul, Nat.reduceLeDiff, Nat.reduceLT, Int.cast_ofNat_Int, Int.reduceBNe, Int.reduceToNat, Int.reduceLT, Int.reduceLE, Int.reduceAdd, Int.reduceNeg, Int.reduceEq, reduceCtorEq, enc, a0, a2, own_len hO, e0]
        refine (w21 s r2 p lim (d + 1) hp1 hlim _ hus hop).wh ?_
        simp -implicitDefEqProofs -dsimp only [↓reduceIte, ↓W_seq, go_sem, WR_nil, evNews, Nat.reduceEqDiff, Nat.reduceAdd, Nat.reduceMul, Nat.reduceLeDiff, Nat.reduceLT, Int.cast_ofNat_Int, Int.reduceBNe, Int.reduceToNat, Int.reduceLT, Int.reduceLE, Int.reduceAdd, Int.reduceNeg, Int.reduceEq, reduceCtorEq, enc, a2, hmy, hz, hzl, hput, show stopS none = true from rfl, hl0, hcut, cut_set _ _ _ _ hp]
      · have e0 : ((l.length : Int) == 0) = false := by
          rw [beq_eq_false_iff_ne]
          intro q
          exact hl0 (List.length_eq_zero_iff.1 (by omega))
        simp -implicitDefEqProofs -dsimp only [↓reduceIte, ↓W_seq, go_sem, WR_nil, evNews, Nat.reduceEqDiff, Nat.reduceAdd, Nat.reduceMul, Nat.reduceLeDiff, Nat.reduceLT, Int.cast_ofNat_Int, Int.reduceBNe, Int.reduceToNat, Int.reduceLT, Int.reduceLE, Int.reduceAdd, Int.reduceNeg, Int.reduceEq, reduceCtorEq, enc, a0, a2, own_len hO, e0, own_arg hO]
        refine (w18 l hsl lim (d + 1) _ (by omega) hus).wh ?_
        simp -implicitDefEqProofs -dsimp only [↓reduceIte, ↓W_seq, go_sem, WR_nil, evNews, Nat.reduceEqDiff, Nat.reduceAdd, Nat.reduceMul, Nat.reduceLeDiff, Nat.reduceLT, Int.cast_ofNat_Int, Int.reduceBNe, Int.reduceToNat, Int.reduceLT, Int.reduceLE, Int.reduceAdd, Int.reduceNeg, Int.reduceEq, reduceCtorEq, enc, a2, hmy, hz, hzl, hput, show stopS none = true from rfl, hl0, hcut, cut_set _ _ _ _ hp]
    | some c =>
      simp -implicitDefEqProofs -dsimp only [↓reduceIte, ↓W_seq, go_sem, WR_nil, evNews, Nat.reduceEqDiff, Nat.reduceAdd, Nat.reduceMul, Nat.reduceLeDiff, Nat.reduceLT, Int.cast_ofNat_Int, Int.reduceBNe, Int.reduceToNat, Int.reduceLT, Int.reduceLE, Int.reduceAdd, Int.reduceNeg, Int.reduceEq, reduceCtorEq, enc, pkV_some, ba_data, a0]
      refine (hx [124, 41]).wh ?_
      rw [hnx] at hst hrp ⊢
      simp only at hst
      cases hs2 : isS [124, 41] (some c)
      · rw [hs2] at hst
        obtain ⟨b1, b4, G, bi⟩ := bi_step H hk b (by rw [hnx]; exact hst)
        by_cases hl0 : l = []
        · have e0 : ((l.length : Int) == 0) = true := by rw [hl0]; rfl
          simp -implicitDefEqProofs -dsimp only [↓reduceIte, ↓W_seq, go_sem, WR_nil, evNews, Nat.reduceEqDiff, Nat.reduceAdd, Nat.reduceMul, Nat.reduceLeDiff, Nat.reduceLT, Int.cast_ofNat_Int, Int.reduceBNe, Int.reduceToNat, Int.reduceLT, Int.reduceLE, Int.reduceAdd, Int.reduceNeg, Int.reduceEq, reduceCtorEq, enc, a0, a2, own_len hO, e0, ba_data]
          refine (hx [42, 43, 63, 123]).wh ?_
          rw [hnx, hrp]
          cases hre : isRep (some c)
          · simp -implicitDefEqProofs -dsimp only [↓reduceIte, ↓W_seq, go_sem, WR_nil, evNews, Nat.reduceEqDiff, Nat.reduceAdd, Nat.reduceMul, Nat.reduceLeDiff, Nat.reduceLT, Int.cast_ofNat_Int, Int.reduceBNe, Int.reduceToNat, Int.reduceLT, Int.reduceLE, Int.reduceAdd, Int.reduceNeg, Int.reduceEq, reduceCtorEq, enc, a0]
            refine (w40 H r2 hs b4 b1 b.g9 (by have := b.gm; omega) p lim (d + 1) hp1 hlim _ hus hop).wh ?_
            generalize hpx : pieceS s rec r2 = x at G bi
            have hxz : szs (l ++ [x.1]) ≤ 1000000 := by
              have h1 := bi.in'
              cases hbb : x.2.bad with
              | false => have := (bi.good hbb).2; omega
              | true => have := (bi.bad' hbb).1; omega
            have hxl := len_le (l ++ [x.1])
            obtain ⟨v', s2, q1, q2, q3, q4, q5⟩ := app_own (P := X.P) (t := 34) (ys := [x.1]) (tk := .own d (s'.ct d)) slc_34 (own_tok (own_set hO p (encP s x.2)) (some (1, 10))) (by simp at hxl ⊢; omega) hlim2 (und_tok (by rw [u_set _ _ _ _ hp1]; exact hus) _ _)
            simp only [encs, ct_set] at q1
            simp -implicitDefEqProofs -dsimp only [↓reduceIte, ↓W_seq, go_sem, WR_nil, evNews, Nat.reduceEqDiff, Nat.reduceAdd, Nat.reduceMul, Nat.reduceLeDiff, Nat.reduceLT, Int.cast_ofNat_Int, Int.reduceBNe, Int.reduceToNat, Int.reduceLT, Int.reduceLE, Int.reduceAdd, Int.reduceNeg, Int.reduceEq, reduceCtorEq, enc, q1, a0]
            refine ⟨n, Nat.lt_succ_self n, l ++ [x.1], x.2, bi, ?_, a2, q2, ?_, ⟨z, ?_, hzl⟩, ?_, q4⟩
            · simp only [hst, hl0, hre, Bool.false_eq_true, if_false, and_false, hpx]
            · rw [q5]; simp only [go_sem, if_true]
            · rw [q5]; simp only [go_sem, hmy, if_false, hz]
            · rw [q3]; simp only [go_sem, cut_set _ _ _ _ hp, hcut]
          · simp -implicitDefEqProofs -dsimp only [↓reduceIte, ↓W_seq, go_sem, WR_nil, evNews, Nat.reduceEqDiff, Nat.reduceAdd, Nat.reduceMul, Nat.reduceLeDiff, Nat.reduceLT, Int.cast_ofNat_Int, Int.reduceBNe, Int.reduceToNat, Int.reduceLT, Int.reduceLE, Int.reduceAdd, Int.reduceNeg, Int.reduceEq, reduceCtorEq, enc, a0]
            refine (w21 s r2 p lim (d + 1) hp1 hlim _ hus hop).wh ?_
            simp -implicitDefEqProofs -dsimp only [↓reduceIte, ↓W_seq, go_sem, WR_nil, evNews, Nat.reduceEqDiff, Nat.reduceAdd, Nat.reduceMul, Nat.reduceLeDiff, Nat.reduceLT, Int.cast_ofNat_Int, Int.reduceBNe, Int.reduceToNat, Int.reduceLT, Int.reduceLE, Int.reduceAdd, Int.reduceNeg, Int.reduceEq, reduceCtorEq, enc, a2, hmy, hz, hzl, hput, hst, hl0, hre, hcut, cut_set _ _ _ _ hp]
        · have e0 : ((l.length : Int) == 0) = false := by
            rw [beq_eq_false_iff_ne]
            intro q
            exact hl0 (List.length_eq_zero_iff.1 (by omega))
          simp -implicitDefEqProofs -dsimp only [↓reduceIte, ↓W_seq, go_sem, WR_nil, evNews, Nat.reduceEqDiff, Nat.reduceAdd, Nat.reduceMul, Nat.reduceLeDiff, Nat.reduceLT, Int.cast_ofNat_Int, Int.reduceBNe, Int.reduceToNat, Int.reduceLT, Int.reduceLE, Int.reduceAdd, Int.reduceNeg, Int.reduceEq, reduceCtorEq, enc, a0, a2, own_len hO, e0]
          refine (w40 H r2 hs b4 b1 b.g9 (by have := b.gm; omega) p lim (d + 1) hp1 hlim _ hus hop).wh ?_
          generalize hpx : pieceS s rec r2 = x at G bi
          have hxz : szs (l ++ [x.1]) ≤ 1000000 := by
            have h1 := bi.in'
            cases hbb : x.2.bad with
            | false => have := (bi.good hbb).2; omega
            | true => have := (bi.bad' hbb).1; omega
          have hxl := len_le (l ++ [x.1])
          obtain ⟨v', s2, q1, q2, q3, q4, q5⟩ := app_own (P := X.P) (t := 34) (ys := [x.1]) (tk := .own d (s'.ct d)) slc_34 (own_tok (own_set hO p (encP s x.2)) (some (1, 10))) (by simp at hxl ⊢; omega) hlim2 (und_tok (by rw [u_set _ _ _ _ hp1]; exact hus) _ _)
          simp only [encs, ct_set] at q1
          simp -implicitDefEqProofs -dsimp only [↓reduceIte, ↓W_seq, go_sem, WR_nil, evNews, Nat.reduceEqDiff, Nat.reduceAdd, Nat.reduceMul, Nat.reduceLeDiff, Nat.reduceLT, Int.cast_ofNat_Int, Int.reduceBNe, Int.reduceToNat, Int.reduceLT, Int.reduceLE, Int.reduceAdd, Int.reduceNeg, Int.reduceEq, reduceCtorEq, enc, q1, a0]
          refine ⟨n, Nat.lt_succ_self n, l ++ [x.1], x.2, bi, ?_, a2, q2, ?_, ⟨z, ?_, hzl⟩, ?_, q4⟩
          · simp only [hst, hl0, Bool.false_eq_true, if_false, false_and, hpx]
          · rw [q5]; simp only [go_sem, if_true]
          · rw [q5]; simp only [go_sem, hmy, if_false, hz]
          · rw [q3]; simp only [go_sem, cut_set _ _ _ _ hp, hcut]
      · rw [hs2] at hst
        simp -implicitDefEqProofs -dsimp only [↓reduceIte, ↓W_seq, go_sem, WR_nil, evNews, Nat.reduceEqDiff, Nat.reduceAdd, Nat.reduceMul, Nat.reduceLeDiff, Nat.reduceLT, Int.cast_ofNat_Int, Int.reduceBNe, Int.reduceToNat, Int.reduceLT, Int.reduceLE, Int.reduceAdd, Int.reduceNeg, Int.reduceEq, reduceCtorEq, enc]
        by_cases hl0 : l = []
        · have e0 : ((l.length : Int) == 0) = true := by rw [hl0]; rfl
          simp -implicitDefEqProofs -dsimp only [↓reduceIte, ↓W_seq, go_sem, WR_nil, evNews, Nat.reduceEqDiff, Nat.reduceAdd, Nat.reduceMul, Nat.reduceLeDiff, Nat.reduceLT, Int.cast_ofNat_Int, Int.reduceBNe, Int.reduceToNat, Int.reduceLT, Int.reduceLE, Int.reduceAdd, Int.reduceNeg, Int.reduceEq, reduceCtorEq, enc, a0, a2, own_len hO, e0]
          refine (w21 s r2 p lim (d + 1) hp1 hlim _ hus hop).wh ?_
          simp -implicitDefEqProofs -dsimp only [↓reduceIte, ↓W_seq, go_sem, WR_nil, evNews, Nat.reduceEqDiff, Nat.reduceAdd, Nat.reduceMul, Nat.reduceLeDiff, Nat.reduceLT, Int.cast_ofNat_Int, Int.reduceBNe, Int.reduceToNat, Int.reduceLT, Int.reduceLE, Int.reduceAdd, Int.reduceNeg, Int.reduceEq, reduceCtorEq, enc, a2, hmy, hz, hzl, hput, hst, hl0, hcut, cut_set _ _ _ _ hp]
        · have e0 : ((l.length : Int) == 0) = false := by
            rw [beq_eq_false_iff_ne]
            intro q
            exact hl0 (List.length_eq_zero_iff.1 (by omega))
          simp -implicitDefEqProofs -dsimp only [↓reduceIte, ↓W_seq, go_sem, WR_nil, evNews, Nat.reduceEqDiff, Nat.reduceAdd, Nat.reduceMul, Nat.reduceLeDiff, Nat.reduceLT, Int.cast_ofNat_Int, Int.reduceBNe, Int.reduceToNat, Int.reduceLT, Int.reduceLE, Int.reduceAdd, Int.reduceNeg, Int.reduceEq, reduceCtorEq, enc, a0, a2, own_len hO, e0, own_arg hO]
          refine (w18 l hsl lim (d + 1) _ (by omega) hus).wh ?_
          simp -implicitDefEqProofs -dsimp only [↓reduceIte, ↓W_seq, go_sem, WR_nil, evNews, Nat.reduceEqDiff, Nat.reduceAdd, Nat.reduceMul, Nat.reduceLeDiff, Nat.reduceLT, Int.cast_ofNat_Int, Int.reduceBNe, Int.reduceToNat, Int.reduceLT, Int.reduceLE, Int.reduceAdd, Int.reduceNeg, Int.reduceEq, reduceCtorEq, enc, a2, hmy, hz, hzl, hput, hst, hl0, hcut, cut_set _ _ _ _ hp]
  · refine ⟨[], r, ⟨by omega, Nat.le_refl _, hr, Nat.le_refl _, h9, fun _ => ⟨by omega, by simp [szs]⟩, fun q => by rw [hb] at q; cases q⟩, rfl, rfl, rfl, .inl ⟨rfl, rfl⟩, ?_, ⟨_, by simp only [go_sem, if_true]; rfl, rfl⟩, ?_, ?_⟩
    · simp only [go_sem, hne, if_false]; exact ho
    · simp only [go_sem, cut_und _ _ hu, set_same ho]
    · simp only [go_sem, u_tick, u_mine]; exact hun
end
end Go.Proofs.Tryz.E
