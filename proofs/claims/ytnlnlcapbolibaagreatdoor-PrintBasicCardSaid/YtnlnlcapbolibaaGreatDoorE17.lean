/- Walks: what the functions compute. -/
import Derived.Test.YtnlnlcapbolibaaGreatDoorE16
set_option linter.unusedVariables false
set_option linter.unusedSimpArgs false
/- A bracket's members. -/
namespace Go.Proofs.Tryz.E
open Go.Mv
set_option maxHeartbeats 4000000
set_option maxRecDepth 20000
theorem z4_lit : encS z4 = [.int .u64 0, .int .u64 0, .int .u64 0, .int .u64 0] := rfl
theorem w74 (s : List UInt8) (n : Nat) (hs : s.length ≤ 1000000) (hn : n ≤ s.length) (p : Mv.Loc) (lim d : Nat) (hp : p.d < d) (hlim : lim ≤ p.d) (σ : Sto) (hu : σ.Und d) (ho : σ.ob p = some (encR s n)) :
    WF X lim d 115 [.ptr p 0] σ (MemV s p n (memberS (s.drop n)) σ) := by
  have hset := set_same ho
  have hun := und_succ hu
  have hne := ne_my hp
  have hmy := my_ne hp
  have hp1 := Nat.lt_succ_of_lt hp
  have ho2 := ho
  rw [encR] at ho2
  have hun1 : ∀ (t c : Nat) (cs : List MV), ((σ.set ⟨d, t, c⟩ cs).tick d).Und (d + 1) := fun t c cs => by simp only [u_tick, u_mine]; exact hun
  have hob1 : ∀ (t c : Nat) (cs : List MV), ((σ.set ⟨d, t, c⟩ cs).tick d).ob p = some (encR s n) := fun t c cs => by simp only [go_sem, hne, if_false]; exact ho
  have hmem : memberS (s.drop n) = if preS (s.drop n) [91, 58] = true then clsS (s.drop n) else if preS (s.drop n) [91, 61] = true then (namedS 61 (s.drop n)).map fun x => (oneS x.1, x.2) else (signS (s.drop n)).bind fun x => rngS x ((s.drop n).drop x.2) := rfl
  generalize memberS (s.drop n) = M at hmem
  have zlen : (encS z4).length = 4 := rfl
  have fin : ∀ (q : List Int), q.length = 4 → putC [.int .u64 0, .int .u64 0, .int .u64 0, .int .u64 0] (encS q) 0 = encS q := fun q hq => encS_put _ _ (by rw [hq]; rfl)
  have hun2 : ∀ (t c : Nat) (cs R : List MV), (((σ.set ⟨d, t, c⟩ cs).set p R).tick d).Und (d + 1) := fun t c cs R => by simp only [u_tick, u_set _ _ _ _ hp1, u_mine]; exact hun
  have hob2 : ∀ (t c : Nat) (cs R : List MV), (((σ.set ⟨d, t, c⟩ cs).set p R).tick d).ob p = some R := fun t c cs R => by simp only [go_sem, if_true]
  rw [WF_body (C := X) rfl Go.Proofs.Tryz.func115 rfl (by kernel_rfl)]; simp only [Go.Proofs.Tryz.results115]
  simp -implicitDefEqProofs -dsimp only [↓reduceIte, ↓W_seq, go_sem, WR_nil, evNews, Nat.reduceEqDiff, Nat.reduceAdd, Nat.reduceMul, Nat.reduceLeDiff, Nat.reduceLT, Int.cast_ofNat_Int, Int.reduceBNe, Int.reduceToNat, Int.reduceLT, Int.reduceLE, Int.reduceAdd, Int.reduceNeg, Int.reduceEq, reduceCtorEq, enc, ba_data]
  refine (w73 s _ n hs p lim (d + 1) hp1 _ (hun1 ..) (hob1 ..)).wh ?_
  cases hb1 : preS (s.drop n) [91, 58]
  · rw [hb1] at hmem
    simp only [Bool.false_eq_true, if_false] at hmem
    simp -implicitDefEqProofs -dsimp only [↓reduceIte, ↓W_seq, go_sem, WR_nil, evNews, Nat.reduceEqDiff, Nat.reduceAdd, Nat.reduceMul, Nat.reduceLeDiff, Nat.reduceLT, Int.cast_ofNat_Int, Int.reduceBNe, Int.reduceToNat, Int.reduceLT, Int.reduceLE, Int.reduceAdd, Int.reduceNeg, Int.reduceEq, reduceCtorEq, enc, ba_data]
    refine (w73 s _ n hs p lim (d + 1) hp1 _ (hun1 ..) (hob1 ..)).wh ?_
    cases hb2 : preS (s.drop n) [91, 61]
    · rw [hb2] at hmem
      simp only [Bool.false_eq_true, if_false] at hmem
      simp -implicitDefEqProofs -dsimp only [↓reduceIte, ↓W_seq, go_sem, WR_nil, evNews, Nat.reduceEqDiff, Nat.reduceAdd, Nat.reduceMul, Nat.reduceLeDiff, Nat.reduceLT, Int.cast_ofNat_Int, Int.reduceBNe, Int.reduceToNat, Int.reduceLT, Int.reduceLE, Int.reduceAdd, Int.reduceNeg, Int.reduceEq, reduceCtorEq, enc]
      refine (w85 s n hs hn p lim (d + 1) hp1 hlim _ (hun1 ..) (hob1 ..)).wh ?_
      cases hsg : signS (s.drop n) with
      | none =>
        rw [hsg, Option.bind_none] at hmem
        subst hmem
        simp -implicitDefEqProofs -dsimp only [↓reduceIte, ↓W_seq, go_sem, WR_nil, evNews, Nat.reduceEqDiff, Nat.reduceAdd, Nat.reduceMul, Nat.reduceLeDiff, Nat.reduceLT, Int.cast_ofNat_Int, Int.reduceBNe, Int.reduceToNat, Int.reduceLT, Int.reduceLE, Int.reduceAdd, Int.reduceNeg, Int.reduceEq, reduceCtorEq, enc, sgnV_none, sgnN_none, MemV_none, hmy]
        exact ⟨z4, n, rfl, by simp only [go_sem, cut_set _ _ _ _ hp, cut_und _ _ hu], rfl⟩
      | some x =>
        rw [hsg, Option.bind_some, List.drop_drop] at hmem
        have hle := sign_le _ _ hsg
        rw [List.length_drop] at hle
        have hm4 : n + x.2 ≤ s.length := by omega
        generalize hm : n + x.2 = m at hmem hm4
        have hul : (s.drop m).length = s.length - m := List.length_drop
        have hx1 : x.1.toNat < 256 := UInt8.toNat_lt _
        have w1 := wr64 ((m : Int) + 1) (by omega) (by omega)
        have hone := wl z4 x.1.toNat x.1.toNat rfl
        unfold rngS at hmem
        simp -implicitDefEqProofs -dsimp only [↓reduceIte, ↓W_seq, go_sem, WR_nil, evNews, Nat.reduceEqDiff, Nat.reduceAdd, Nat.reduceMul, Nat.reduceLeDiff, Nat.reduceLT, Int.cast_ofNat_Int, Int.reduceBNe, Int.reduceToNat, Int.reduceLT, Int.reduceLE, Int.reduceAdd, Int.reduceNeg, Int.reduceEq, reduceCtorEq, enc, sgnV_some, sgnN_some, hm]
        rw [D_dr (by kernel_rfl) rfl]
        simp -implicitDefEqProofs -dsimp only [↓reduceIte, ↓W_seq, go_sem, WR_nil, evNews, Nat.reduceEqDiff, Nat.reduceAdd, Nat.reduceMul, Nat.reduceLeDiff, Nat.reduceLT, Int.cast_ofNat_Int, Int.reduceBNe, Int.reduceToNat, Int.reduceLT, Int.reduceLE, Int.reduceAdd, Int.reduceNeg, Int.reduceEq, reduceCtorEq, enc, ba_data]
        refine (w73 s _ m hs p (d + 1) (d + 1) hp1 _ (hun2 ..) (hob2 ..)).wh ?_
        cases hc1 : preS (s.drop m) [45]
        · rw [hc1] at hmem
          simp only [Bool.not_false, Bool.true_or, if_true] at hmem
          subst hmem
          simp -implicitDefEqProofs -dsimp only [↓reduceIte, ↓W_seq, go_sem, WR_nil, evNews, Nat.reduceEqDiff, Nat.reduceAdd, Nat.reduceMul, Nat.reduceLeDiff, Nat.reduceLT, Int.cast_ofNat_Int, Int.reduceBNe, Int.reduceToNat, Int.reduceLT, Int.reduceLE, Int.reduceAdd, Int.reduceNeg, Int.reduceEq, reduceCtorEq, enc, ba_data]
          refine (w84 z4 rfl x.1.toNat x.1.toNat hx1 hx1 lim (d + 1) _ (hun2 ..)).wh ?_
          simp -implicitDefEqProofs -dsimp only [↓reduceIte, ↓W_seq, go_sem, WR_nil, evNews, Nat.reduceEqDiff, Nat.reduceAdd, Nat.reduceMul, Nat.reduceLeDiff, Nat.reduceLT, Int.cast_ofNat_Int, Int.reduceBNe, Int.reduceToNat, Int.reduceLT, Int.reduceLE, Int.reduceAdd, Int.reduceNeg, Int.reduceEq, reduceCtorEq, enc, hone, hmy, hm, fin _ hone, encS_take _ hone, MemV_some, encR, cut_set _ _ _ _ hp, cut_und _ _ hu]
          exact ⟨rfl, hone⟩
        · rw [hc1] at hmem
          simp -implicitDefEqProofs -dsimp only [↓reduceIte, ↓W_seq, go_sem, WR_nil, evNews, Nat.reduceEqDiff, Nat.reduceAdd, Nat.reduceMul, Nat.reduceLeDiff, Nat.reduceLT, Int.cast_ofNat_Int, Int.reduceBNe, Int.reduceToNat, Int.reduceLT, Int.reduceLE, Int.reduceAdd, Int.reduceNeg, Int.reduceEq, reduceCtorEq, enc, ba_data]
          refine (w73 s _ m hs p (d + 1) (d + 1) hp1 _ (hun2 ..) (hob2 ..)).wh ?_
          cases hc2 : preS (s.drop m) [45, 93]
          · rw [hc2] at hmem
            simp -implicitDefEqProofs -dsimp only [↓reduceIte, ↓W_seq, go_sem, WR_nil, evNews, Nat.reduceEqDiff, Nat.reduceAdd, Nat.reduceMul, Nat.reduceLeDiff, Nat.reduceLT, Int.cast_ofNat_Int, Int.reduceBNe, Int.reduceToNat, Int.reduceLT, Int.reduceLE, Int.reduceAdd, Int.reduceNeg, Int.reduceEq, reduceCtorEq, enc, encR]
            by_cases hc3 : (s.drop m).length < 2
            · have e3 : ((s.length : Int) ≤ (m : Int) + 1) := by omega
              rw [decide_eq_true hc3] at hmem
              simp only [Bool.not_true, Bool.false_or, if_true] at hmem
              subst hmem
              simp -implicitDefEqProofs -dsimp only [↓reduceIte, ↓W_seq, go_sem, WR_nil, evNews, Nat.reduceEqDiff, Nat.reduceAdd, Nat.reduceMul, Nat.reduceLeDiff, Nat.reduceLT, Int.cast_ofNat_Int, Int.reduceBNe, Int.reduceToNat, Int.reduceLT, Int.reduceLE, Int.reduceAdd, Int.reduceNeg, Int.reduceEq, reduceCtorEq, enc, w1, e3]
              refine (w84 z4 rfl x.1.toNat x.1.toNat hx1 hx1 lim (d + 1) _ (hun2 ..)).wh ?_
              simp -implicitDefEqProofs -dsimp only [↓reduceIte, ↓W_seq, go_sem, WR_nil, evNews, Nat.reduceEqDiff, Nat.reduceAdd, Nat.reduceMul, Nat.reduceLeDiff, Nat.reduceLT, Int.cast_ofNat_Int, Int.reduceBNe, Int.reduceToNat, Int.reduceLT, Int.reduceLE, Int.reduceAdd, Int.reduceNeg, Int.reduceEq, reduceCtorEq, enc, hone, hmy, hm, fin _ hone, encS_take _ hone, MemV_some, encR, cut_set _ _ _ _ hp, cut_und _ _ hu]
              exact ⟨rfl, hone⟩
            · have e3 : ¬ ((s.length : Int) ≤ (m : Int) + 1) := by omega
              rw [decide_eq_false hc3] at hmem
              simp only [Bool.not_true, Bool.false_or, Bool.or_self, Bool.false_eq_true, if_false, List.drop_drop] at hmem
              simp -implicitDefEqProofs -dsimp only [↓reduceIte, ↓W_seq, go_sem, WR_nil, evNews, Nat.reduceEqDiff, Nat.reduceAdd, Nat.reduceMul, Nat.reduceLeDiff, Nat.reduceLT, Int.cast_ofNat_Int, Int.reduceBNe, Int.reduceToNat, Int.reduceLT, Int.reduceLE, Int.reduceAdd, Int.reduceNeg, Int.reduceEq, reduceCtorEq, enc, w1, e3, hp, hlim, ba_data]
              rw [show [MV.str s, MV.int .i64 ((m : Int) + 1)] = encR s (m + 1) from rfl]
              have hm1 : m + 1 ≤ s.length := by omega
              refine (w73 s _ (m + 1) hs p lim (d + 1) hp1 _ (hun2 ..) (hob2 ..)).wh ?_
              simp -implicitDefEqProofs -dsimp only [↓reduceIte, ↓W_seq, go_sem, WR_nil, evNews, Nat.reduceEqDiff, Nat.reduceAdd, Nat.reduceMul, Nat.reduceLeDiff, Nat.reduceLT, Int.cast_ofNat_Int, Int.reduceBNe, Int.reduceToNat, Int.reduceLT, Int.reduceLE, Int.reduceAdd, Int.reduceNeg, Int.reduceEq, reduceCtorEq, enc]
              refine (w85 s (m + 1) hs hm1 p lim (d + 1) hp1 hlim _ (hun2 ..) (hob2 ..)).wh ?_
              cases hsg2 : signS (s.drop (m + 1)) with
              | none =>
                rw [hsg2, Option.bind_none] at hmem
                subst hmem
                simp -implicitDefEqProofs -dsimp only [↓reduceIte, ↓W_seq, go_sem, WR_nil, evNews, Nat.reduceEqDiff, Nat.reduceAdd, Nat.reduceMul, Nat.reduceLeDiff, Nat.reduceLT, Int.cast_ofNat_Int, Int.reduceBNe, Int.reduceToNat, Int.reduceLT, Int.reduceLE, Int.reduceAdd, Int.reduceNeg, Int.reduceEq, reduceCtorEq, enc, sgnV_none, sgnN_none]
                simp -implicitDefEqProofs -dsimp only [↓reduceIte, ↓W_seq, go_sem, WR_nil, evNews, Nat.reduceEqDiff, Nat.reduceAdd, Nat.reduceMul, Nat.reduceLeDiff, Nat.reduceLT, Int.cast_ofNat_Int, Int.reduceBNe, Int.reduceToNat, Int.reduceLT, Int.reduceLE, Int.reduceAdd, Int.reduceNeg, Int.reduceEq, reduceCtorEq, enc, List.takeWhile_cons, List.dropWhile_cons, List.takeWhile_nil, List.dropWhile_nil, isTail, evNews, List.mem_cons, List.not_mem_nil, or_false, false_or, not_false_eq_true, not_true_eq_false, decide_true, decide_false, Bool.not_true, Bool.not_false, if_true, if_false, forall_eq, forall_eq_or_imp, false_imp_iff, implies_true, ne_eq, ct_lt1, ct_lt2, ct_lt3, ct_lt4, ct_lt5, hmy, MemV_none]
                exact ⟨z4, m + 1, rfl, by simp only [go_sem, cut_set _ _ _ _ hp, cut_und _ _ hu], rfl⟩
              | some y =>
                rw [hsg2, Option.bind_some] at hmem
                have hle2 := sign_le _ _ hsg2
                rw [List.length_drop] at hle2
                have hy1 : y.1.toNat < 256 := UInt8.toNat_lt _
                have htwo := wl z4 x.1.toNat y.1.toNat rfl
                have hmy2 : m + 1 + y.2 = m + (1 + y.2) := by omega
                have hm5 : m + (1 + y.2) = n + (x.2 + 1 + y.2) := by omega
                simp -implicitDefEqProofs -dsimp only [↓reduceIte, ↓W_seq, go_sem, WR_nil, evNews, Nat.reduceEqDiff, Nat.reduceAdd, Nat.reduceMul, Nat.reduceLeDiff, Nat.reduceLT, Int.cast_ofNat_Int, Int.reduceBNe, Int.reduceToNat, Int.reduceLT, Int.reduceLE, Int.reduceAdd, Int.reduceNeg, Int.reduceEq, reduceCtorEq, enc, sgnV_some, sgnN_some, hmy2]
                by_cases hlt : y.1.toNat < x.1.toNat
                · have e5 : ((y.1.toNat : Int) < (x.1.toNat : Int)) := by omega
                  rw [decide_eq_true hlt] at hmem
                  simp only [Bool.true_or, if_true] at hmem
                  subst hmem
                  simp -implicitDefEqProofs -dsimp only [↓reduceIte, ↓W_seq, go_sem, WR_nil, evNews, Nat.reduceEqDiff, Nat.reduceAdd, Nat.reduceMul, Nat.reduceLeDiff, Nat.reduceLT, Int.cast_ofNat_Int, Int.reduceBNe, Int.reduceToNat, Int.reduceLT, Int.reduceLE, Int.reduceAdd, Int.reduceNeg, Int.reduceEq, reduceCtorEq, enc, List.takeWhile_cons, List.dropWhile_cons, List.takeWhile_nil, List.dropWhile_nil, isTail, evNews, List.mem_cons, List.not_mem_nil, or_false, false_or, not_false_eq_true, not_true_eq_false, decide_true, decide_false, Bool.not_true, Bool.not_false, if_true, if_false, forall_eq, forall_eq_or_imp, false_imp_iff, implies_true, ne_eq, ct_lt1, ct_lt2, ct_lt3, ct_lt4, ct_lt5, e5, hmy, MemV_none]
                  exact ⟨z4, m + (1 + y.2), rfl, by simp only [go_sem, cut_set _ _ _ _ hp, cut_und _ _ hu], rfl⟩
                · have e5 : ¬ ((y.1.toNat : Int) < (x.1.toNat : Int)) := by omega
                  rw [decide_eq_false hlt] at hmem
                  simp only [Bool.false_or] at hmem
                  cases hd1 : preS (s.drop (m + 1)) [45]
                  · rw [hd1] at hmem
                    simp only [Bool.false_and, Bool.false_eq_true, if_false] at hmem
                    subst hmem
                    simp -implicitDefEqProofs -dsimp only [↓reduceIte, ↓W_seq, go_sem, WR_nil, evNews, Nat.reduceEqDiff, Nat.reduceAdd, Nat.reduceMul, Nat.reduceLeDiff, Nat.reduceLT, Int.cast_ofNat_Int, Int.reduceBNe, Int.reduceToNat, Int.reduceLT, Int.reduceLE, Int.reduceAdd, Int.reduceNeg, Int.reduceEq, reduceCtorEq, enc, e5]
                    refine (w84 z4 rfl x.1.toNat y.1.toNat hx1 hy1 lim (d + 1) _ (hun2 ..)).wh ?_
                    simp -implicitDefEqProofs -dsimp only [↓reduceIte, ↓W_seq, go_sem, WR_nil, evNews, Nat.reduceEqDiff, Nat.reduceAdd, Nat.reduceMul, Nat.reduceLeDiff, Nat.reduceLT, Int.cast_ofNat_Int, Int.reduceBNe, Int.reduceToNat, Int.reduceLT, Int.reduceLE, Int.reduceAdd, Int.reduceNeg, Int.reduceEq, reduceCtorEq, enc, htwo, hmy, fin _ htwo, encS_take _ htwo, MemV_some, encR, cut_set _ _ _ _ hp, cut_und _ _ hu, hm5]
                  · rw [hd1] at hmem
                    simp only [Bool.true_and] at hmem
                    simp -implicitDefEqProofs -dsimp only [↓reduceIte, ↓W_seq, go_sem, WR_nil, evNews, Nat.reduceEqDiff, Nat.reduceAdd, Nat.reduceMul, Nat.reduceLeDiff, Nat.reduceLT, Int.cast_ofNat_Int, Int.reduceBNe, Int.reduceToNat, Int.reduceLT, Int.reduceLE, Int.reduceAdd, Int.reduceNeg, Int.reduceEq, reduceCtorEq, enc, e5, ba_data]
                    refine (w73 s _ (m + (1 + y.2)) hs p lim (d + 1) hp1 _ (hun2 ..) (hob2 ..)).wh ?_
                    cases hd2 : preS (s.drop (m + (1 + y.2))) [93]
                    · rw [hd2] at hmem
                      simp only [Bool.not_false, if_true] at hmem
                      subst hmem
                      simp -implicitDefEqProofs -dsimp only [↓reduceIte, ↓W_seq, go_sem, WR_nil, evNews, Nat.reduceEqDiff, Nat.reduceAdd, Nat.reduceMul, Nat.reduceLeDiff, Nat.reduceLT, Int.cast_ofNat_Int, Int.reduceBNe, Int.reduceToNat, Int.reduceLT, Int.reduceLE, Int.reduceAdd, Int.reduceNeg, Int.reduceEq, reduceCtorEq, enc, List.takeWhile_cons, List.dropWhile_cons, List.takeWhile_nil, List.dropWhile_nil, isTail, evNews, List.mem_cons, List.not_mem_nil, or_false, false_or, not_false_eq_true, not_true_eq_false, decide_true, decide_false, Bool.not_true, Bool.not_false, if_true, if_false, forall_eq, forall_eq_or_imp, false_imp_iff, implies_true, ne_eq, ct_lt1, ct_lt2, ct_lt3, ct_lt4, ct_lt5, e5, hmy, MemV_none]
                      exact ⟨z4, m + (1 + y.2), rfl, by simp only [go_sem, cut_set _ _ _ _ hp, cut_und _ _ hu], rfl⟩
                    · rw [hd2] at hmem
                      simp only [Bool.not_true, Bool.false_eq_true, if_false] at hmem
                      subst hmem
                      simp -implicitDefEqProofs -dsimp only [↓reduceIte, ↓W_seq, go_sem, WR_nil, evNews, Nat.reduceEqDiff, Nat.reduceAdd, Nat.reduceMul, Nat.reduceLeDiff, Nat.reduceLT, Int.cast_ofNat_Int, Int.reduceBNe, Int.reduceToNat, Int.reduceLT, Int.reduceLE, Int.reduceAdd, Int.reduceNeg, Int.reduceEq, reduceCtorEq, enc, e5]
                      refine (w84 z4 rfl x.1.toNat y.1.toNat hx1 hy1 lim (d + 1) _ (hun2 ..)).wh ?_
                      simp -implicitDefEqProofs -dsimp only [↓reduceIte, ↓W_seq, go_sem, WR_nil, evNews, Nat.reduceEqDiff, Nat.reduceAdd, Nat.reduceMul, Nat.reduceLeDiff, Nat.reduceLT, Int.cast_ofNat_Int, Int.reduceBNe, Int.reduceToNat, Int.reduceLT, Int.reduceLE, Int.reduceAdd, Int.reduceNeg, Int.reduceEq, reduceCtorEq, enc, htwo, hmy, fin _ htwo, encS_take _ htwo, MemV_some, encR, cut_set _ _ _ _ hp, cut_und _ _ hu, hm5]
          · rw [hc2] at hmem
            simp only [Bool.not_true, Bool.false_or, Bool.true_or, if_true] at hmem
            subst hmem
            simp -implicitDefEqProofs -dsimp only [↓reduceIte, ↓W_seq, go_sem, WR_nil, evNews, Nat.reduceEqDiff, Nat.reduceAdd, Nat.reduceMul, Nat.reduceLeDiff, Nat.reduceLT, Int.cast_ofNat_Int, Int.reduceBNe, Int.reduceToNat, Int.reduceLT, Int.reduceLE, Int.reduceAdd, Int.reduceNeg, Int.reduceEq, reduceCtorEq, enc, ba_data]
            refine (w84 z4 rfl x.1.toNat x.1.toNat hx1 hx1 lim (d + 1) _ (hun2 ..)).wh ?_
            simp -implicitDefEqProofs -dsimp only [↓reduceIte, ↓W_seq, go_sem, WR_nil, evNews, Nat.reduceEqDiff, Nat.reduceAdd, Nat.reduceMul, Nat.reduceLeDiff, Nat.reduceLT, Int.cast_ofNat_Int, Int.reduceBNe, Int.reduceToNat, Int.reduceLT, Int.reduceLE, Int.reduceAdd, Int.reduceNeg, Int.reduceEq, reduceCtorEq, enc, hone, hmy, hm, fin _ hone, encS_take _ hone, MemV_some, encR, cut_set _ _ _ _ hp, cut_und _ _ hu]
            exact ⟨rfl, hone⟩
    · rw [hb2] at hmem
      simp only [if_true] at hmem
      simp -implicitDefEqProofs -dsimp only [↓reduceIte, ↓W_seq, go_sem, WR_nil, evNews, Nat.reduceEqDiff, Nat.reduceAdd, Nat.reduceMul, Nat.reduceLeDiff, Nat.reduceLT, Int.cast_ofNat_Int, Int.reduceBNe, Int.reduceToNat, Int.reduceLT, Int.reduceLE, Int.reduceAdd, Int.reduceNeg, Int.reduceEq, reduceCtorEq, enc, ba_data]
      refine (w83 s 61 n hs hn p lim (d + 1) hp1 hlim _ (hun1 ..) (hob1 ..)).wh ?_
      cases hnm : namedS 61 (s.drop n) with
      | none =>
        have hone := wl z4 0 0 rfl
        rw [hnm, Option.map_none] at hmem
        subst hmem
        simp -implicitDefEqProofs -dsimp only [↓reduceIte, ↓W_seq, go_sem, WR_nil, evNews, Nat.reduceEqDiff, Nat.reduceAdd, Nat.reduceMul, Nat.reduceLeDiff, Nat.reduceLT, Int.cast_ofNat_Int, Int.reduceBNe, Int.reduceToNat, Int.reduceLT, Int.reduceLE, Int.reduceAdd, Int.reduceNeg, Int.reduceEq, reduceCtorEq, enc, sgnV_none, sgnN_none]
        refine (w84 z4 rfl 0 0 (by decide) (by decide) lim (d + 1) _ (hun2 ..)).wh ?_
        simp -implicitDefEqProofs -dsimp only [↓reduceIte, ↓W_seq, go_sem, WR_nil, evNews, Nat.reduceEqDiff, Nat.reduceAdd, Nat.reduceMul, Nat.reduceLeDiff, Nat.reduceLT, Int.cast_ofNat_Int, Int.reduceBNe, Int.reduceToNat, Int.reduceLT, Int.reduceLE, Int.reduceAdd, Int.reduceNeg, Int.reduceEq, reduceCtorEq, enc, hone, hmy, fin _ hone, encS_take _ hone, MemV_none, encR, cut_set _ _ _ _ hp, cut_und _ _ hu]
        exact ⟨_, n, rfl, rfl, hone⟩
      | some x =>
        have hone := wl z4 x.1.toNat x.1.toNat rfl
        have hx1 : x.1.toNat < 256 := UInt8.toNat_lt _
        rw [hnm, Option.map_some] at hmem
        subst hmem
        simp -implicitDefEqProofs -dsimp only [↓reduceIte, ↓W_seq, go_sem, WR_nil, evNews, Nat.reduceEqDiff, Nat.reduceAdd, Nat.reduceMul, Nat.reduceLeDiff, Nat.reduceLT, Int.cast_ofNat_Int, Int.reduceBNe, Int.reduceToNat, Int.reduceLT, Int.reduceLE, Int.reduceAdd, Int.reduceNeg, Int.reduceEq, reduceCtorEq, enc, sgnV_some, sgnN_some]
        refine (w84 z4 rfl x.1.toNat x.1.toNat hx1 hx1 lim (d + 1) _ (hun2 ..)).wh ?_
        simp -implicitDefEqProofs -dsimp only [↓reduceIte, ↓W_seq, go_sem, WR_nil, evNews, Nat.reduceEqDiff, Nat.reduceAdd, Nat.reduceMul, Nat.reduceLeDiff, Nat.reduceLT, Int.cast_ofNat_Int, Int.reduceBNe, Int.reduceToNat, Int.reduceLT, Int.reduceLE, Int.reduceAdd, Int.reduceNeg, Int.reduceEq, reduceCtorEq, enc, hone, hmy, fin _ hone, encS_take _ hone, MemV_some, encR, cut_set _ _ _ _ hp, cut_und _ _ hu]
        exact ⟨rfl, hone⟩
  · rw [hb1] at hmem
    simp only [if_true] at hmem
    have := pre_le hb1
    rw [List.length_drop] at this
    simp only [List.length_cons, List.length_nil] at this
    simp -implicitDefEqProofs -dsimp only [↓reduceIte, ↓W_seq, go_sem, WR_nil, evNews, Nat.reduceEqDiff, Nat.reduceAdd, Nat.reduceMul, Nat.reduceLeDiff, Nat.reduceLT, Int.cast_ofNat_Int, Int.reduceBNe, Int.reduceToNat, Int.reduceLT, Int.reduceLE, Int.reduceAdd, Int.reduceNeg, Int.reduceEq, reduceCtorEq, enc]
    rw [WF_h.symm]
    refine (w82 s n hs (by omega) p lim (d + 1) hp1 hlim _ (hun1 ..) (hob1 ..)).mono fun v s' hv => ?_
    rw [← hmem] at hv
    cases M with
    | none =>
      obtain ⟨q, m, rfl, rfl, hq⟩ := hv
      simp -implicitDefEqProofs -dsimp only [↓reduceIte, ↓W_seq, go_sem, WR_nil, evNews, Nat.reduceEqDiff, Nat.reduceAdd, Nat.reduceMul, Nat.reduceLeDiff, Nat.reduceLT, Int.cast_ofNat_Int, Int.reduceBNe, Int.reduceToNat, Int.reduceLT, Int.reduceLE, Int.reduceAdd, Int.reduceNeg, Int.reduceEq, reduceCtorEq, enc, hmy, hq, fin _ hq, encS_take _ hq, MemV_none, cut_set _ _ _ _ hp, cut_und _ _ hu]
      exact ⟨q, m, rfl, rfl, hq⟩
    | some x =>
      obtain ⟨rfl, rfl, hq⟩ := hv
      simp -implicitDefEqProofs -dsimp only [↓reduceIte, ↓W_seq, go_sem, WR_nil, evNews, Nat.reduceEqDiff, Nat.reduceAdd, Nat.reduceMul, Nat.reduceLeDiff, Nat.reduceLT, Int.cast_ofNat_Int, Int.reduceBNe, Int.reduceToNat, Int.reduceLT, Int.reduceLE, Int.reduceAdd, Int.reduceNeg, Int.reduceEq, reduceCtorEq, enc, hmy, hq, fin _ hq, encS_take _ hq, MemV_some, cut_set _ _ _ _ hp, cut_und _ _ hu]
end Go.Proofs.Tryz.E
