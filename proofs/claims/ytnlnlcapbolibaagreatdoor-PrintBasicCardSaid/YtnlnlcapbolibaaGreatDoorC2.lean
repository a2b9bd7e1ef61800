/- Walks: what the functions compute. -/
import Derived.Test.YtnlnlcapbolibaaGreatDoorC1
set_option linter.unusedVariables false
set_option linter.unusedSimpArgs false
/- The other reader, of basic patterns: what is escaped, what is repeated. -/
namespace Go.Proofs.Tryz.E
open Go.Mv
set_option maxHeartbeats 4000000
set_option maxRecDepth 20000
theorem v58 (s : List UInt8) (r : Rd) (hs : s.length ≤ 1000000) (hr : r.at' < s.length) (hb : r.bad = false) (p : Mv.Loc) (lim d : Nat) (hp : p.d < d) (hlim : lim ≤ p.d) (σ : Sto) (hu : σ.Und d) (ho : σ.ob p = some (encT s r)) :
    Ret lim d 85 [.ptr p 0] σ (.agg (enc (escB s r).1)) (σ.set p (encT s (escB s r).2)) := by
  have hun := und_succ hu
  have hne := ne_my hp
  have hmy := my_ne hp
  have hp1 := Nat.lt_succ_of_lt hp
  have ho2 := ho
  rw [encT_good s r hb] at ho2
  have hun1 : ∀ (t c : Nat) (cs : List MV), ((σ.set ⟨d, t, c⟩ cs).tick d).Und (d + 1) := fun t c cs => by simp only [u_tick, u_mine]; exact hun
  have hob1 : ∀ (t c : Nat) (cs : List MV), ((σ.set ⟨d, t, c⟩ cs).tick d).ob p = some (encT s r) := fun t c cs => by simp only [go_sem, hne, if_false]; exact ho
  have x0 := wr64 ((s.length : Int) - r.at') (by omega) (by omega)
  have x1 := wr64 ((r.at' : Int) + 1) (by omega) (by omega)
  have x2 := wr64 ((r.at' : Int) + 2) (by omega) (by omega)
  have t1 : ((r.at' : Int) + 1).toNat = r.at' + 1 := by omega
  have p1 : (0 : Int) ≤ (r.at' : Int) + 1 := by omega
  unfold Ret
  rw [WF_body (C := X) rfl Go.Proofs.Tryz.func85 rfl (by kernel_rfl)]; simp only [Go.Proofs.Tryz.results85]
  unfold escB
  simp -implicitDefEqProofs -dsimp only [↓reduceIte, ↓W_seq, go_sem, WR_nil, evNews, Nat.reduceEqDiff, Nat.reduceAdd, Nat.reduceMul, Nat.reduceLeDiff, Nat.reduceLT, Int.cast_ofNat_Int, Int.reduceBNe, Int.reduceToNat, Int.reduceLT, Int.reduceLE, Int.reduceAdd, Int.reduceNeg, Int.reduceEq, reduceCtorEq, enc]
  rw [D_dr (by kernel_rfl) rfl]
  by_cases hl : r.at' + 1 < s.length
  · have e1 : ¬ ((s.length : Int) - r.at' < 2) := by omega
    have g1 : s[r.at' + 1]? = some s[r.at' + 1] := List.getElem?_eq_getElem hl
    rw [g1]
    simp only
    generalize s[r.at' + 1] = c at g1
    simp -implicitDefEqProofs -dsimp only [↓reduceIte, ↓W_seq, go_sem, WR_nil, evNews, Nat.reduceEqDiff, Nat.reduceAdd, Nat.reduceMul, Nat.reduceLeDiff, Nat.reduceLT, Int.cast_ofNat_Int, Int.reduceBNe, Int.reduceToNat, Int.reduceLT, Int.reduceLE, Int.reduceAdd, Int.reduceNeg, Int.reduceEq, reduceCtorEq, enc, ho2, hne, x0, e1]
    rw [D_dr (by kernel_rfl) rfl]
    by_cases h49 : 49 ≤ c.toNat ∧ c.toNat ≤ 57
    · have e2 : ((49 : Int) ≤ (c.toNat : Int)) := by omega
      have e3 : ((c.toNat : Int) ≤ 57) := by omega
      have y1 := wru8 ((c.toNat : Int) - 48) (by omega) (by omega)
      have y2 := wr64 ((c.toNat : Int) - 48) (by omega) (by omega)
      rw [if_pos h49]
      simp -implicitDefEqProofs -dsimp only [↓reduceIte, ↓W_seq, go_sem, WR_nil, evNews, Nat.reduceEqDiff, Nat.reduceAdd, Nat.reduceMul, Nat.reduceLeDiff, Nat.reduceLT, Int.cast_ofNat_Int, Int.reduceBNe, Int.reduceToNat, Int.reduceLT, Int.reduceLE, Int.reduceAdd, Int.reduceNeg, Int.reduceEq, reduceCtorEq, enc, ho2, hne, hmy, x1, x2, t1, p1, g1, e2, e3, y1, y2, hp, hlim, encs, encT_go s r _ hb, cut_set _ _ _ _ hp, cut_und _ _ hu, Int.natCast_add]
    · rw [if_neg h49]
      by_cases h110 : c = 110
      · subst h110
        rw [if_pos rfl]
        simp -implicitDefEqProofs -dsimp only [↓reduceIte, ↓W_seq, go_sem, WR_nil, evNews, Nat.reduceEqDiff, Nat.reduceAdd, Nat.reduceMul, Nat.reduceLeDiff, Nat.reduceLT, Int.cast_ofNat_Int, Int.reduceBNe, Int.reduceToNat, Int.reduceLT, Int.reduceLE, Int.reduceAdd, Int.reduceNeg, Int.reduceEq, reduceCtorEq, enc, ho2, hne, hmy, x1, x2, t1, p1, g1, show ¬ (((110 : UInt8).toNat : Int) ≤ 57) by decide, show (49 : Int) ≤ ((110 : UInt8).toNat : Int) by decide, show ((110 : UInt8) == 110) = true from rfl, hp, hlim, lit, encs, encT_go s r _ hb, cut_set _ _ _ _ hp, cut_und _ _ hu, Int.natCast_add]
      · have h110' : (c == 110) = false := by simpa using h110
        rw [if_neg h110]
        unfold itselfB
        by_cases e2 : 49 ≤ c.toNat
        · have e2' : ((49 : Int) ≤ (c.toNat : Int)) := by omega
          have e3 : ¬ ((c.toNat : Int) ≤ 57) := by omega
          simp -implicitDefEqProofs -dsimp only [↓reduceIte, ↓W_seq, go_sem, WR_nil, evNews, Nat.reduceEqDiff, Nat.reduceAdd, Nat.reduceMul, Nat.reduceLeDiff, Nat.reduceLT, Int.cast_ofNat_Int, Int.reduceBNe, Int.reduceToNat, Int.reduceLT, Int.reduceLE, Int.reduceAdd, Int.reduceNeg, Int.reduceEq, reduceCtorEq, enc, ho2, hne, hmy, x1, x2, t1, p1, g1, h110', e2', e3, ba_data]
          refine (w68 _ c (by simp) lim (d + 1) _ ?_).wh ?_
          · simp only [go_sem, u_tick, u_mine]; exact hun
          cases hc1 : ([46, 91, 93, 42, 94, 36, 47, 92, 38, 45] : List UInt8).contains c
          · simp -implicitDefEqProofs -dsimp only [↓reduceIte, ↓W_seq, go_sem, WR_nil, evNews, Nat.reduceEqDiff, Nat.reduceAdd, Nat.reduceMul, Nat.reduceLeDiff, Nat.reduceLT, Int.cast_ofNat_Int, Int.reduceBNe, Int.reduceToNat, Int.reduceLT, Int.reduceLE, Int.reduceAdd, Int.reduceNeg, Int.reduceEq, reduceCtorEq, enc, ho2, hne, hmy, ba_data]
            refine (v24 s r p lim (d + 1) hp1 hlim _ ?_ ?_).wh ?_
            · simp only [go_sem, u_tick, u_mine]; exact hun
            · simp only [go_sem, hne, if_false]; exact ho
            simp -implicitDefEqProofs -dsimp only [↓reduceIte, ↓W_seq, go_sem, WR_nil, evNews, Nat.reduceEqDiff, Nat.reduceAdd, Nat.reduceMul, Nat.reduceLeDiff, Nat.reduceLT, Int.cast_ofNat_Int, Int.reduceBNe, Int.reduceToNat, Int.reduceLT, Int.reduceLE, Int.reduceAdd, Int.reduceNeg, Int.reduceEq, reduceCtorEq, enc, hmy, cut_set _ _ _ _ hp, cut_und _ _ hu, Bool.or_self, Bool.false_eq_true]
          · simp -implicitDefEqProofs -dsimp only [↓reduceIte, ↓W_seq, go_sem, WR_nil, evNews, Nat.reduceEqDiff, Nat.reduceAdd, Nat.reduceMul, Nat.reduceLeDiff, Nat.reduceLT, Int.cast_ofNat_Int, Int.reduceBNe, Int.reduceToNat, Int.reduceLT, Int.reduceLE, Int.reduceAdd, Int.reduceNeg, Int.reduceEq, reduceCtorEq, enc, ho2, hne, hmy, x2, hp, hlim, lit, encs, encT_go s r _ hb, cut_set _ _ _ _ hp, cut_und _ _ hu, Int.natCast_add, Bool.true_or]
        · have e2' : ¬ ((49 : Int) ≤ (c.toNat : Int)) := by omega
          simp -implicitDefEqProofs -dsimp only [↓reduceIte, ↓W_seq, go_sem, WR_nil, evNews, Nat.reduceEqDiff, Nat.reduceAdd, Nat.reduceMul, Nat.reduceLeDiff, Nat.reduceLT, Int.cast_ofNat_Int, Int.reduceBNe, Int.reduceToNat, Int.reduceLT, Int.reduceLE, Int.reduceAdd, Int.reduceNeg, Int.reduceEq, reduceCtorEq, enc, ho2, hne, hmy, x1, x2, t1, p1, g1, h110', e2', ba_data]
          refine (w68 _ c (by simp) lim (d + 1) _ ?_).wh ?_
          · simp only [go_sem, u_tick, u_mine]; exact hun
          cases hc1 : ([46, 91, 93, 42, 94, 36, 47, 92, 38, 45] : List UInt8).contains c
          · simp -implicitDefEqProofs -dsimp only [↓reduceIte, ↓W_seq, go_sem, WR_nil, evNews, Nat.reduceEqDiff, Nat.reduceAdd, Nat.reduceMul, Nat.reduceLeDiff, Nat.reduceLT, Int.cast_ofNat_Int, Int.reduceBNe, Int.reduceToNat, Int.reduceLT, Int.reduceLE, Int.reduceAdd, Int.reduceNeg, Int.reduceEq, reduceCtorEq, enc, ho2, hne, hmy, ba_data]
            refine (v24 s r p lim (d + 1) hp1 hlim _ ?_ ?_).wh ?_
            · simp only [go_sem, u_tick, u_mine]; exact hun
            · simp only [go_sem, hne, if_false]; exact ho
            simp -implicitDefEqProofs -dsimp only [↓reduceIte, ↓W_seq, go_sem, WR_nil, evNews, Nat.reduceEqDiff, Nat.reduceAdd, Nat.reduceMul, Nat.reduceLeDiff, Nat.reduceLT, Int.cast_ofNat_Int, Int.reduceBNe, Int.reduceToNat, Int.reduceLT, Int.reduceLE, Int.reduceAdd, Int.reduceNeg, Int.reduceEq, reduceCtorEq, enc, hmy, cut_set _ _ _ _ hp, cut_und _ _ hu, Bool.or_self, Bool.false_eq_true]
          · simp -implicitDefEqProofs -dsimp only [↓reduceIte, ↓W_seq, go_sem, WR_nil, evNews, Nat.reduceEqDiff, Nat.reduceAdd, Nat.reduceMul, Nat.reduceLeDiff, Nat.reduceLT, Int.cast_ofNat_Int, Int.reduceBNe, Int.reduceToNat, Int.reduceLT, Int.reduceLE, Int.reduceAdd, Int.reduceNeg, Int.reduceEq, reduceCtorEq, enc, ho2, hne, hmy, x2, hp, hlim, lit, encs, encT_go s r _ hb, cut_set _ _ _ _ hp, cut_und _ _ hu, Int.natCast_add, Bool.true_or]
  · have e1 : ((s.length : Int) - r.at' < 2) := by omega
    rw [List.getElem?_eq_none (by omega)]
    simp only
    simp -implicitDefEqProofs -dsimp only [↓reduceIte, ↓W_seq, go_sem, WR_nil, evNews, Nat.reduceEqDiff, Nat.reduceAdd, Nat.reduceMul, Nat.reduceLeDiff, Nat.reduceLT, Int.cast_ofNat_Int, Int.reduceBNe, Int.reduceToNat, Int.reduceLT, Int.reduceLE, Int.reduceAdd, Int.reduceNeg, Int.reduceEq, reduceCtorEq, enc, ho2, hne, x0, e1]
    refine (v24 s r p lim (d + 1) hp1 hlim _ (hun1 ..) (hob1 ..)).wh ?_
    simp -implicitDefEqProofs -dsimp only [↓reduceIte, ↓W_seq, go_sem, WR_nil, evNews, Nat.reduceEqDiff, Nat.reduceAdd, Nat.reduceMul, Nat.reduceLeDiff, Nat.reduceLT, Int.cast_ofNat_Int, Int.reduceBNe, Int.reduceToNat, Int.reduceLT, Int.reduceLE, Int.reduceAdd, Int.reduceNeg, Int.reduceEq, reduceCtorEq, enc, hmy, cut_set _ _ _ _ hp, cut_und _ _ hu]
theorem repT_bad {s : List UInt8} {r : Rd} (h : r.bad = true) : isRepB s r = false := by simp [isRepB, nx_bad h, hasE]
theorem v45 (s : List UInt8) (r : Rd) (y : Nd) (hs : s.length ≤ 1000000) (hr : r.at' ≤ s.length) (p : Mv.Loc) (lim d : Nat) (hp : p.d < d) (hlim : lim ≤ p.d) (σ : Sto) (hu : σ.Und d) (ho : σ.ob p = some (encT s r)) :
    Ret lim d 59 [.ptr p 0, .agg (enc y)] σ (.agg (enc (repB s y r).1)) (σ.set p (encT s (repB s y r).2)) := by
  have hun := und_succ hu
  have hne := ne_my hp
  have hmy := my_ne hp
  have hp1 := Nat.lt_succ_of_lt hp
  have ho2 := ho
  rw [encT_eq] at ho2
  have hself := set_same ho
  unfold Ret
  rw [WF_body (C := X) rfl Go.Proofs.Tryz.func59 rfl (by kernel_rfl)]; simp only [Go.Proofs.Tryz.results59]
  unfold repB
  cases hb : r.bad
  case true =>
    rw [if_pos (repT_bad hb)]
    rw [hb] at ho2
    simp -implicitDefEqProofs -dsimp only [↓reduceIte, ↓W_seq, go_sem, WR_nil, evNews, Nat.reduceEqDiff, Nat.reduceAdd, Nat.reduceMul, Nat.reduceLeDiff, Nat.reduceLT, Int.cast_ofNat_Int, Int.reduceBNe, Int.reduceToNat, Int.reduceLT, Int.reduceLE, Int.reduceAdd, Int.reduceNeg, Int.reduceEq, reduceCtorEq, enc, ho2, hne, hmy, enc_take, hself, cut_und _ _ hu]
  case false =>
    rw [hb] at ho2
    simp -implicitDefEqProofs -dsimp only [↓reduceIte, ↓W_seq, go_sem, WR_nil, evNews, Nat.reduceEqDiff, Nat.reduceAdd, Nat.reduceMul, Nat.reduceLeDiff, Nat.reduceLT, Int.cast_ofNat_Int, Int.reduceBNe, Int.reduceToNat, Int.reduceLT, Int.reduceLE, Int.reduceAdd, Int.reduceNeg, Int.reduceEq, reduceCtorEq, enc, ho2, hne, hmy, enc_take]
    refine (v43 s r hs hr p lim (d + 1) hp1 _ ?_ ?_).wh ?_
    · simp only [u_tick, u_own, u_mine]; exact hun
    · simp only [go_sem, hne, hmy, if_false]; exact ho
    cases hrep : isRepB s r
    · rw [if_pos rfl]
      simp -implicitDefEqProofs -dsimp only [↓reduceIte, ↓W_seq, go_sem, WR_nil, evNews, Nat.reduceEqDiff, Nat.reduceAdd, Nat.reduceMul, Nat.reduceLeDiff, Nat.reduceLT, Int.cast_ofNat_Int, Int.reduceBNe, Int.reduceToNat, Int.reduceLT, Int.reduceLE, Int.reduceAdd, Int.reduceNeg, Int.reduceEq, reduceCtorEq, enc, hne, hmy, enc_take, hself, cut_und _ _ hu]
    · rw [if_neg (by simp)]
      obtain ⟨b1, b3⟩ := repB_some hrep
      by_cases hk4 : y.kind = 4 ∨ y.kind = 5
      · rw [if_pos hk4]
        have hkk : (if (y.kind == 4) = true then true else y.kind == 5) = true := by rcases hk4 with h | h <;> simp [h]
        by_cases h4 : y.kind = 4
        · have h4' : (y.kind == 4) = true := by simpa using h4
          simp -implicitDefEqProofs -dsimp only [↓reduceIte, ↓W_seq, go_sem, WR_nil, evNews, Nat.reduceEqDiff, Nat.reduceAdd, Nat.reduceMul, Nat.reduceLeDiff, Nat.reduceLT, Int.cast_ofNat_Int, Int.reduceBNe, Int.reduceToNat, Int.reduceLT, Int.reduceLE, Int.reduceAdd, Int.reduceNeg, Int.reduceEq, reduceCtorEq, enc, hmy, hne, enc_kind, h4']
          refine (v24 s r p lim (d + 1) hp1 hlim _ ?_ ?_).wh ?_
          · simp only [u_tick, u_own, u_set _ _ _ _ hp1, u_mine]; exact hun
          · simp only [go_sem, hne, hmy, if_true, if_false]; exact ho
          simp -implicitDefEqProofs -dsimp only [↓reduceIte, ↓W_seq, go_sem, WR_nil, evNews, Nat.reduceEqDiff, Nat.reduceAdd, Nat.reduceMul, Nat.reduceLeDiff, Nat.reduceLT, Int.cast_ofNat_Int, Int.reduceBNe, Int.reduceToNat, Int.reduceLT, Int.reduceLE, Int.reduceAdd, Int.reduceNeg, Int.reduceEq, reduceCtorEq, enc, hmy, hne, cut_set _ _ _ _ hp, cut_und _ _ hu]
        · have h4' : (y.kind == 4) = false := by simpa using h4
          have h5' : (y.kind == 5) = true := by rw [h4'] at hkk; simpa using hkk
          simp -implicitDefEqProofs -dsimp only [↓reduceIte, ↓W_seq, go_sem, WR_nil, evNews, Nat.reduceEqDiff, Nat.reduceAdd, Nat.reduceMul, Nat.reduceLeDiff, Nat.reduceLT, Int.cast_ofNat_Int, Int.reduceBNe, Int.reduceToNat, Int.reduceLT, Int.reduceLE, Int.reduceAdd, Int.reduceNeg, Int.reduceEq, reduceCtorEq, enc, hmy, hne, enc_kind, h4', h5']
          refine (v24 s r p lim (d + 1) hp1 hlim _ ?_ ?_).wh ?_
          · simp only [u_tick, u_own, u_set _ _ _ _ hp1, u_mine]; exact hun
          · simp only [go_sem, hne, hmy, if_true, if_false]; exact ho
          simp -implicitDefEqProofs -dsimp only [↓reduceIte, ↓W_seq, go_sem, WR_nil, evNews, Nat.reduceEqDiff, Nat.reduceAdd, Nat.reduceMul, Nat.reduceLeDiff, Nat.reduceLT, Int.cast_ofNat_Int, Int.reduceBNe, Int.reduceToNat, Int.reduceLT, Int.reduceLE, Int.reduceAdd, Int.reduceNeg, Int.reduceEq, reduceCtorEq, enc, hmy, hne, cut_set _ _ _ _ hp, cut_und _ _ hu]
      · rw [if_neg hk4]
        have h4' : (y.kind == 4) = false := by rw [beq_eq_false_iff_ne]; exact fun h => hk4 (.inl h)
        have h5' : (y.kind == 5) = false := by rw [beq_eq_false_iff_ne]; exact fun h => hk4 (.inr h)
        simp -implicitDefEqProofs -dsimp only [↓reduceIte, ↓W_seq, go_sem, WR_nil, evNews, Nat.reduceEqDiff, Nat.reduceAdd, Nat.reduceMul, Nat.reduceLeDiff, Nat.reduceLT, Int.cast_ofNat_Int, Int.reduceBNe, Int.reduceToNat, Int.reduceLT, Int.reduceLE, Int.reduceAdd, Int.reduceNeg, Int.reduceEq, reduceCtorEq, enc, hmy, hne, enc_kind, h4', h5']
        refine (v60 s r hs hrep p lim (d + 1) hp1 _ ?_ ?_).wh ?_
        · simp only [u_tick, u_own, u_set _ _ _ _ hp1, u_mine]; exact hun
        · simp only [go_sem, hne, hmy, if_true, if_false]; exact ho
        cases hbd : timesB s r with
        | none =>
          simp -implicitDefEqProofs -dsimp only [↓reduceIte, ↓W_seq, go_sem, WR_nil, evNews, Nat.reduceEqDiff, Nat.reduceAdd, Nat.reduceMul, Nat.reduceLeDiff, Nat.reduceLT, Int.cast_ofNat_Int, Int.reduceBNe, Int.reduceToNat, Int.reduceLT, Int.reduceLE, Int.reduceAdd, Int.reduceNeg, Int.reduceEq, reduceCtorEq, enc, timV_none]
          refine (v24 s r p lim (d + 1) hp1 hlim _ ?_ ?_).wh ?_
          · simp only [u_tick, u_own, u_set _ _ _ _ hp1, u_mine]; exact hun
          · simp only [go_sem, hne, hmy, if_true, if_false]; exact ho
          simp -implicitDefEqProofs -dsimp only [↓reduceIte, ↓W_seq, go_sem, WR_nil, evNews, Nat.reduceEqDiff, Nat.reduceAdd, Nat.reduceMul, Nat.reduceLeDiff, Nat.reduceLT, Int.cast_ofNat_Int, Int.reduceBNe, Int.reduceToNat, Int.reduceLT, Int.reduceLE, Int.reduceAdd, Int.reduceNeg, Int.reduceEq, reduceCtorEq, enc, hmy, hne, cut_set _ _ _ _ hp, cut_und _ _ hu]
        | some x =>
          have hy := timB_go s _ b3 x hbd
          have hR : [MV.str s, .int .i64 x.2.2, .bool false, .int .i64 r.g, .bool false] = encT s (r.go x.2.2) := (encT_go s r _ hb).symm
          simp -implicitDefEqProofs -dsimp only [↓reduceIte, ↓W_seq, go_sem, WR_nil, evNews, Nat.reduceEqDiff, Nat.reduceAdd, Nat.reduceMul, Nat.reduceLeDiff, Nat.reduceLT, Int.cast_ofNat_Int, Int.reduceBNe, Int.reduceToNat, Int.reduceLT, Int.reduceLE, Int.reduceAdd, Int.reduceNeg, Int.reduceEq, reduceCtorEq, enc, timV_some, ho2, hne, hmy, hp, hlim, hR]
          refine (v43 s (r.go x.2.2) hs hy.2 p lim (d + 1) hp1 _ ?_ ?_).wh ?_
          · simp only [u_tick, u_own, u_set _ _ _ _ hp1, u_mine]; exact hun
          · simp only [go_sem, hne, hmy, if_true, if_false]
          cases hr3 : isRepB s (r.go x.2.2)
          · simp -implicitDefEqProofs -dsimp only [↓reduceIte, ↓W_seq, go_sem, WR_nil, evNews, Nat.reduceEqDiff, Nat.reduceAdd, Nat.reduceMul, Nat.reduceLeDiff, Nat.reduceLT, Int.cast_ofNat_Int, Int.reduceBNe, Int.reduceToNat, Int.reduceLT, Int.reduceLE, Int.reduceAdd, Int.reduceNeg, Int.reduceEq, reduceCtorEq, enc, hmy, hne, hr3, encs, cut_set _ _ _ _ hp, cut_und _ _ hu, enc_take, Bool.false_eq_true]
          · simp -implicitDefEqProofs -dsimp only [↓reduceIte, ↓W_seq, go_sem, WR_nil, evNews, Nat.reduceEqDiff, Nat.reduceAdd, Nat.reduceMul, Nat.reduceLeDiff, Nat.reduceLT, Int.cast_ofNat_Int, Int.reduceBNe, Int.reduceToNat, Int.reduceLT, Int.reduceLE, Int.reduceAdd, Int.reduceNeg, Int.reduceEq, reduceCtorEq, enc, hmy, hne, hr3]
            refine (v24 s (r.go x.2.2) p lim (d + 1) hp1 hlim _ ?_ ?_).wh ?_
            · simp only [u_tick, u_own, u_set _ _ _ _ hp1, u_mine]; exact hun
            · simp only [go_sem, hne, hmy, if_true, if_false]
            simp -implicitDefEqProofs -dsimp only [↓reduceIte, ↓W_seq, go_sem, WR_nil, evNews, Nat.reduceEqDiff, Nat.reduceAdd, Nat.reduceMul, Nat.reduceLeDiff, Nat.reduceLT, Int.cast_ofNat_Int, Int.reduceBNe, Int.reduceToNat, Int.reduceLT, Int.reduceLE, Int.reduceAdd, Int.reduceNeg, Int.reduceEq, reduceCtorEq, enc, hmy, hne, hr3, cut_set _ _ _ _ hp, cut_und _ _ hu]
end Go.Proofs.Tryz.E
