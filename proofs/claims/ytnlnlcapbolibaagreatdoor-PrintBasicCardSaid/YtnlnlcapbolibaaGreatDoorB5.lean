/- Walks: what the functions compute. -/
import Derived.Test.YtnlnlcapbolibaaGreatDoorB4
import Derived.Test.YtnlnlcapbolibaaGreatDoorE21
set_option linter.unusedVariables false
set_option linter.unusedSimpArgs false
/- The program's reader of basic patterns: repeats, groups, atoms. -/
namespace Go.Proofs.Tryz.E
open Go.Mv
set_option maxHeartbeats 4000000
set_option maxRecDepth 20000
theorem nx_bad' {s : List UInt8} {r : Rd} (h : r.bad = true) : r.nx s = none := nx_bad h
theorem rep_bad {s : List UInt8} {r : Rd} (h : r.bad = true) : isRepB s r = false := by simp [isRepB, nx_bad h, hasE]
theorem w210 (s : List UInt8) (r : Rd) (y : Nd) (hs : s.length ≤ 1000000) (hr : r.at' ≤ s.length) (p : Mv.Loc) (lim d : Nat) (hp : p.d < d) (hlim : lim ≤ p.d) (σ : Sto) (hu : σ.Und d) (ho : σ.ob p = some (encB s r)) :
    Ret lim d 54 [.ptr p 0, .agg (enc y)] σ (.agg (enc (repB s y r).1)) (σ.set p (encB s (repB s y r).2)) := by
  have hun := und_succ hu
  have hne := ne_my hp
  have hmy := my_ne hp
  have hp1 := Nat.lt_succ_of_lt hp
  have ho2 := ho
  have hself := set_same ho
  unfold Ret
  rw [WF_body (C := X) rfl Go.Proofs.Tryz.func54 rfl (by kernel_rfl)]; simp only [Go.Proofs.Tryz.results54]
  unfold repB
  simp -implicitDefEqProofs -dsimp only [↓reduceIte, ↓W_seq, go_sem, WR_nil, evNews, Nat.reduceEqDiff, Nat.reduceAdd, Nat.reduceMul, Nat.reduceLeDiff, Nat.reduceLT, Int.cast_ofNat_Int, Int.reduceBNe, Int.reduceToNat, Int.reduceLT, Int.reduceLE, Int.reduceAdd, Int.reduceNeg, Int.reduceEq, reduceCtorEq, enc, hne, hmy, enc_take]
  refine (w216 s r hs hr p lim (d + 1) hp1 _ ?_ ?_).wh ?_
  · simp only [u_tick, u_own, u_mine]; exact hun
  · simp only [go_sem, hne, hmy, if_false]; exact ho
  cases hrep : isRepB s r
  · rw [if_pos rfl]
    simp -implicitDefEqProofs -dsimp only [↓reduceIte, ↓W_seq, go_sem, WR_nil, evNews, Nat.reduceEqDiff, Nat.reduceAdd, Nat.reduceMul, Nat.reduceLeDiff, Nat.reduceLT, Int.cast_ofNat_Int, Int.reduceBNe, Int.reduceToNat, Int.reduceLT, Int.reduceLE, Int.reduceAdd, Int.reduceNeg, Int.reduceEq, reduceCtorEq, enc, hne, hmy, enc_take, hself, cut_und _ _ hu]
  rw [if_neg (by simp)]
  obtain ⟨b1, b3⟩ := repB_some hrep
  by_cases hk4 : y.kind = 4 ∨ y.kind = 5
  · rw [if_pos hk4]
    have hkk : (if (y.kind == 4) = true then true else y.kind == 5) = true := by rcases hk4 with h | h <;> simp [h]
    by_cases h4 : y.kind = 4
    · have h4' : (y.kind == 4) = true := by simpa using h4
      simp -implicitDefEqProofs -dsimp only [↓reduceIte, ↓W_seq, go_sem, WR_nil, evNews, Nat.reduceEqDiff, Nat.reduceAdd, Nat.reduceMul, Nat.reduceLeDiff, Nat.reduceLT, Int.cast_ofNat_Int, Int.reduceBNe, Int.reduceToNat, Int.reduceLT, Int.reduceLE, Int.reduceAdd, Int.reduceNeg, Int.reduceEq, reduceCtorEq, enc, hmy, hne, enc_kind, h4']
      refine (w208 s r p lim (d + 1) hp1 hlim _ ?_ ?_).wh ?_
      · simp only [u_tick, u_own, u_set _ _ _ _ hp1, u_mine]; exact hun
      · simp only [go_sem, hne, hmy, if_true, if_false]; exact ho
      simp -implicitDefEqProofs -dsimp only [↓reduceIte, ↓W_seq, go_sem, WR_nil, evNews, Nat.reduceEqDiff, Nat.reduceAdd, Nat.reduceMul, Nat.reduceLeDiff, Nat.reduceLT, Int.cast_ofNat_Int, Int.reduceBNe, Int.reduceToNat, Int.reduceLT, Int.reduceLE, Int.reduceAdd, Int.reduceNeg, Int.reduceEq, reduceCtorEq, enc, hmy, hne, cut_set _ _ _ _ hp, cut_und _ _ hu]
    · have h4' : (y.kind == 4) = false := by simpa using h4
      have h5' : (y.kind == 5) = true := by rw [h4'] at hkk; simpa using hkk
      simp -implicitDefEqProofs -dsimp only [↓reduceIte, ↓W_seq, go_sem, WR_nil, evNews, Nat.reduceEqDiff, Nat.reduceAdd, Nat.reduceMul, Nat.reduceLeDiff, Nat.reduceLT, Int.cast_ofNat_Int, Int.reduceBNe, Int.reduceToNat, Int.reduceLT, Int.reduceLE, Int.reduceAdd, Int.reduceNeg, Int.reduceEq, reduceCtorEq, enc, hmy, hne, enc_kind, h4', h5']
      refine (w208 s r p lim (d + 1) hp1 hlim _ ?_ ?_).wh ?_
      · simp only [u_tick, u_own, u_set _ _ _ _ hp1, u_mine]; exact hun
      · simp only [go_sem, hne, hmy, if_true, if_false]; exact ho
      simp -implicitDefEqProofs -dsimp only [↓reduceIte, ↓W_seq, go_sem, WR_nil, evNews, Nat.reduceEqDiff, Nat.reduceAdd, Nat.reduceMul, Nat.reduceLeDiff, Nat.reduceLT, Int.cast_ofNat_Int, Int.reduceBNe, Int.reduceToNat, Int.reduceLT, Int.reduceLE, Int.reduceAdd, Int.reduceNeg, Int.reduceEq, reduceCtorEq, enc, hmy, hne, cut_set _ _ _ _ hp, cut_und _ _ hu]
  rw [if_neg hk4]
  have h4' : (y.kind == 4) = false := by rw [beq_eq_false_iff_ne]; exact fun h => hk4 (.inl h)
  have h5' : (y.kind == 5) = false := by rw [beq_eq_false_iff_ne]; exact fun h => hk4 (.inr h)
  have ho3 := ho
  rw [encB_good s r b1] at ho3
  have last : ∀ (f t : Int) (n : Nat), n ≤ s.length → isRepB s (r.go n) = false → True := fun _ _ _ _ _ => trivial
  simp -implicitDefEqProofs -dsimp only [↓reduceIte, ↓W_seq, go_sem, WR_nil, evNews, Nat.reduceEqDiff, Nat.reduceAdd, Nat.reduceMul, Nat.reduceLeDiff, Nat.reduceLT, Int.cast_ofNat_Int, Int.reduceBNe, Int.reduceToNat, Int.reduceLT, Int.reduceLE, Int.reduceAdd, Int.reduceNeg, Int.reduceEq, reduceCtorEq, enc, hmy, hne, enc_kind, h4', h5', ba_data]
  refine (w207 s r [92, 123] hs hr p lim (d + 1) hp1 _ ?_ ?_).wh ?_
  · simp only [u_tick, u_own, u_set _ _ _ _ hp1, u_mine]; exact hun
  · simp only [go_sem, hne, hmy, if_true, if_false]; exact ho
  rw [hasT_two s r hr]
  unfold timesB
  cases hE : hasE s r 123
  · have h42 : r.nx s = some 42 := by
      simp only [isRepB, hE, Bool.or_false, beq_iff_eq] at hrep; exact hrep
    rw [if_pos h42]
    simp only
    have x1 := wr64 ((r.at' : Int) + 1) (by omega) (by omega)
    simp -implicitDefEqProofs -dsimp only [↓reduceIte, ↓W_seq, go_sem, WR_nil, evNews, Nat.reduceEqDiff, Nat.reduceAdd, Nat.reduceMul, Nat.reduceLeDiff, Nat.reduceLT, Int.cast_ofNat_Int, Int.reduceBNe, Int.reduceToNat, Int.reduceLT, Int.reduceLE, Int.reduceAdd, Int.reduceNeg, Int.reduceEq, reduceCtorEq, enc, hmy, hne, ho3, x1, hp, hlim]
    have hgo : [MV.str s, .int .i64 ((r.at' : Int) + 1), .int .i64 r.g, .bool false] = encB s (r.go (r.at' + 1)) := by rw [encB_go s r _ b1]; rfl
    rw [hgo]
    refine (w216 s (r.go (r.at' + 1)) hs (by simp only [Rd.go]; omega) p lim (d + 1) hp1 _ ?_ ?_).wh ?_
    · simp only [u_tick, u_own, u_set _ _ _ _ hp1, u_mine]; exact hun
    · simp only [go_sem, if_true]
    cases hr2 : isRepB s (r.go (r.at' + 1))
    · simp -implicitDefEqProofs -dsimp only [↓reduceIte, ↓W_seq, go_sem, WR_nil, evNews, Nat.reduceEqDiff, Nat.reduceAdd, Nat.reduceMul, Nat.reduceLeDiff, Nat.reduceLT, Int.cast_ofNat_Int, Int.reduceBNe, Int.reduceToNat, Int.reduceLT, Int.reduceLE, Int.reduceAdd, Int.reduceNeg, Int.reduceEq, reduceCtorEq, enc, hmy, hne, enc_take, encs, cut_set _ _ _ _ hp, cut_und _ _ hu, Bool.false_eq_true]
    · simp -implicitDefEqProofs -dsimp only [↓reduceIte, ↓W_seq, go_sem, WR_nil, evNews, Nat.reduceEqDiff, Nat.reduceAdd, Nat.reduceMul, Nat.reduceLeDiff, Nat.reduceLT, Int.cast_ofNat_Int, Int.reduceBNe, Int.reduceToNat, Int.reduceLT, Int.reduceLE, Int.reduceAdd, Int.reduceNeg, Int.reduceEq, reduceCtorEq, enc, hmy, hne]
      refine (w208 s (r.go (r.at' + 1)) p lim (d + 1) hp1 hlim _ ?_ ?_).wh ?_
      · simp only [u_tick, u_own, u_set _ _ _ _ hp1, u_mine]; exact hun
      · simp only [go_sem, hne, hmy, if_true, if_false]
      simp -implicitDefEqProofs -dsimp only [↓reduceIte, ↓W_seq, go_sem, WR_nil, evNews, Nat.reduceEqDiff, Nat.reduceAdd, Nat.reduceMul, Nat.reduceLeDiff, Nat.reduceLT, Int.cast_ofNat_Int, Int.reduceBNe, Int.reduceToNat, Int.reduceLT, Int.reduceLE, Int.reduceAdd, Int.reduceNeg, Int.reduceEq, reduceCtorEq, enc, hmy, hne, set_set, cut_set _ _ _ _ hp, cut_und _ _ hu]
  · obtain ⟨c1, c2⟩ := hasE_iff.1 hE
    obtain ⟨c3, c4, c5⟩ := nx_some c1
    have h42 : ¬ r.nx s = some 42 := by rw [c1]; decide
    rw [if_neg h42]
    simp -implicitDefEqProofs -dsimp only [↓reduceIte, ↓W_seq, go_sem, WR_nil, evNews, Nat.reduceEqDiff, Nat.reduceAdd, Nat.reduceMul, Nat.reduceLeDiff, Nat.reduceLT, Int.cast_ofNat_Int, Int.reduceBNe, Int.reduceToNat, Int.reduceLT, Int.reduceLE, Int.reduceAdd, Int.reduceNeg, Int.reduceEq, reduceCtorEq, enc, hmy, hne, ba_data]
    refine (w211 s r hs hr p lim (d + 1) hp1 _ ?_ ?_).wh ?_
    · simp only [u_tick, u_own, u_set _ _ _ _ hp1, u_mine]; exact hun
    · simp only [go_sem, hne, hmy, if_true, if_false]; exact ho
    simp -implicitDefEqProofs -dsimp only [↓reduceIte, ↓W_seq, go_sem, WR_nil, evNews, Nat.reduceEqDiff, Nat.reduceAdd, Nat.reduceMul, Nat.reduceLeDiff, Nat.reduceLT, Int.cast_ofNat_Int, Int.reduceBNe, Int.reduceToNat, Int.reduceLT, Int.reduceLE, Int.reduceAdd, Int.reduceNeg, Int.reduceEq, reduceCtorEq, enc, hmy, hne, ba_data]
    refine (w217 s r.at' hs c4 c2 lim (d + 1) _ ?_).wh ?_
    · simp only [u_tick, u_own, u_set _ _ _ _ hp1, u_mine]; exact hun
    cases hbr : bracesB s r.at' with
    | none =>
      simp only
      simp -implicitDefEqProofs -dsimp only [↓reduceIte, ↓W_seq, go_sem, WR_nil, evNews, Nat.reduceEqDiff, Nat.reduceAdd, Nat.reduceMul, Nat.reduceLeDiff, Nat.reduceLT, Int.cast_ofNat_Int, Int.reduceBNe, Int.reduceToNat, Int.reduceLT, Int.reduceLE, Int.reduceAdd, Int.reduceNeg, Int.reduceEq, reduceCtorEq, enc, bdV_none, hmy, hne]
      refine (w208 s r p lim (d + 1) hp1 hlim _ ?_ ?_).wh ?_
      · simp only [u_tick, u_own, u_set _ _ _ _ hp1, u_mine]; exact hun
      · simp only [go_sem, hne, hmy, if_true, if_false]; exact ho
      simp -implicitDefEqProofs -dsimp only [↓reduceIte, ↓W_seq, go_sem, WR_nil, evNews, Nat.reduceEqDiff, Nat.reduceAdd, Nat.reduceMul, Nat.reduceLeDiff, Nat.reduceLT, Int.cast_ofNat_Int, Int.reduceBNe, Int.reduceToNat, Int.reduceLT, Int.reduceLE, Int.reduceAdd, Int.reduceNeg, Int.reduceEq, reduceCtorEq, enc, hmy, hne, cut_set _ _ _ _ hp, cut_und _ _ hu]
    | some z =>
      obtain ⟨z1, z2⟩ := braB_go s _ z hbr
      simp only
      have e0 : (((z.2.2 : Int) - (r.at' : Int)) == 0) = false := by rw [beq_eq_false_iff_ne]; omega
      have e1 : (r.at' : Int) + ((z.2.2 : Int) - (r.at' : Int)) = (z.2.2 : Int) := by omega
      have x1 := wr64 ((r.at' : Int) + ((z.2.2 : Int) - (r.at' : Int))) (by omega) (by omega)
      rw [e1] at x1
      simp -implicitDefEqProofs -dsimp only [↓reduceIte, ↓W_seq, go_sem, WR_nil, evNews, Nat.reduceEqDiff, Nat.reduceAdd, Nat.reduceMul, Nat.reduceLeDiff, Nat.reduceLT, Int.cast_ofNat_Int, Int.reduceBNe, Int.reduceToNat, Int.reduceLT, Int.reduceLE, Int.reduceAdd, Int.reduceNeg, Int.reduceEq, reduceCtorEq, enc, bdV_some, hmy, hne, ho3, e0, e1, x1, hp, hlim]
      have hgo : [MV.str s, .int .i64 (z.2.2 : Int), .int .i64 r.g, .bool false] = encB s (r.go z.2.2) := by rw [encB_go s r _ b1]
      rw [hgo]
      refine (w216 s (r.go z.2.2) hs (by simp only [Rd.go]; omega) p lim (d + 1) hp1 _ ?_ ?_).wh ?_
      · simp only [u_tick, u_own, u_set _ _ _ _ hp1, u_mine]; exact hun
      · simp only [go_sem, if_true]
      cases hr2 : isRepB s (r.go z.2.2)
      · simp -implicitDefEqProofs -dsimp only [↓reduceIte, ↓W_seq, go_sem, WR_nil, evNews, Nat.reduceEqDiff, Nat.reduceAdd, Nat.reduceMul, Nat.reduceLeDiff, Nat.reduceLT, Int.cast_ofNat_Int, Int.reduceBNe, Int.reduceToNat, Int.reduceLT, Int.reduceLE, Int.reduceAdd, Int.reduceNeg, Int.reduceEq, reduceCtorEq, enc, hmy, hne, enc_take, encs, cut_set _ _ _ _ hp, cut_und _ _ hu, Bool.false_eq_true]
      · simp -implicitDefEqProofs -dsimp only [↓reduceIte, ↓W_seq, go_sem, WR_nil, evNews, Nat.reduceEqDiff, Nat.reduceAdd, Nat.reduceMul, Nat.reduceLeDiff, Nat.reduceLT, Int.cast_ofNat_Int, Int.reduceBNe, Int.reduceToNat, Int.reduceLT, Int.reduceLE, Int.reduceAdd, Int.reduceNeg, Int.reduceEq, reduceCtorEq, enc, hmy, hne]
        refine (w208 s (r.go z.2.2) p lim (d + 1) hp1 hlim _ ?_ ?_).wh ?_
        · simp only [u_tick, u_own, u_set _ _ _ _ hp1, u_mine]; exact hun
        · simp only [go_sem, hne, hmy, if_true, if_false]
        simp -implicitDefEqProofs -dsimp only [↓reduceIte, ↓W_seq, go_sem, WR_nil, evNews, Nat.reduceEqDiff, Nat.reduceAdd, Nat.reduceMul, Nat.reduceLeDiff, Nat.reduceLT, Int.cast_ofNat_Int, Int.reduceBNe, Int.reduceToNat, Int.reduceLT, Int.reduceLE, Int.reduceAdd, Int.reduceNeg, Int.reduceEq, reduceCtorEq, enc, hmy, hne, set_set, cut_set _ _ _ _ hp, cut_und _ _ hu]
end Go.Proofs.Tryz.E
