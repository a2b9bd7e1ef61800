/- Walks: what the functions compute. -/
import Derived.Test.YtgdecplonaaahaaDoorB1
set_option linter.unusedVariables false
set_option linter.unusedSimpArgs false
/- The program's reader of basic patterns: what stands next, what is wrong. -/
namespace Go.Proofs.Tryd.E
open Go.Mv
set_option maxHeartbeats 4000000
set_option maxRecDepth 20000
def encB (s : List UInt8) (r : Rd) : List MV := [.str s, .int .i64 r.at', .int .i64 r.g, .bool r.bad]
theorem encB_go (s : List UInt8) (r : Rd) (a : Nat) (h : r.bad = false) : encB s (r.go a) = [.str s, .int .i64 a, .int .i64 r.g, .bool false] := by simp only [encB, Rd.go, h]
theorem encB_good (s : List UInt8) (r : Rd) (h : r.bad = false) : encB s r = [.str s, .int .i64 r.at', .int .i64 r.g, .bool false] := by simp only [encB, h]
def hasT (s : List UInt8) (r : Rd) (t : List UInt8) : Bool := !r.bad && preS (s.drop r.at') t
theorem hasT_one (s : List UInt8) (r : Rd) (hr : r.at' ≤ s.length) (b : UInt8) : hasT s r [b] = (r.nx s == some b) := has_one s r hr b
theorem hasT_two (s : List UInt8) (r : Rd) (hr : r.at' ≤ s.length) (c : UInt8) : hasT s r [92, c] = hasE s r c := by
  unfold hasT hasE Rd.nx
  cases r.bad
  · simp only [Bool.not_false, Bool.true_and, Bool.false_eq_true, if_false]
    by_cases h : r.at' < s.length
    · rw [List.drop_eq_getElem_cons h, List.getElem?_eq_getElem h]
      by_cases h2 : r.at' + 1 < s.length
      · rw [List.drop_eq_getElem_cons h2, pre_two, List.getElem?_eq_getElem h2]
        rw [Bool.eq_iff_iff]; simp
      · rw [List.drop_eq_nil_of_le (by omega), pre_two1, List.getElem?_eq_none (by omega)]
        rw [Bool.eq_iff_iff]; simp
    · rw [List.drop_eq_nil_of_le (by omega), pre_nil _ (by simp), List.getElem?_eq_none (by omega)]
      simp
  · simp
theorem drop_str (s : List UInt8) (n : Nat) : (s.take s.length).drop n = s.drop n := by rw [List.take_length]
theorem w211 (s : List UInt8) (r : Rd) (hs : s.length ≤ 1000000) (hr : r.at' ≤ s.length) (p : Mv.Loc) (lim d : Nat) (hp : p.d < d) (σ : Sto) (hu : σ.Und d) (ho : σ.ob p = some (encB s r)) : Ret lim d 24 [.ptr p 0] σ (.str (s.drop r.at')) σ := by
  rw [encB] at ho
  have e1 : (0 : Int) ≤ (r.at' : Int) ∧ (r.at' : Int) ≤ (s.length : Int) := by omega
  unfold Ret
  rw [WF_body (C := X) rfl Go.Proofs.Tryd.func24 rfl (by kernel_rfl)]; simp only [Go.Proofs.Tryd.results24]
  simp -implicitDefEqProofs -dsimp only [↓reduceIte, not_false_eq_true, ↓W_seq, go_sem, WR_nil, evNews, if_true, if_false, and_true, true_and, Nat.reduceEqDiff, Nat.reduceAdd, Nat.reduceMul, Nat.reduceLeDiff, Nat.reduceLT, Int.cast_ofNat_Int, Int.reduceBNe, Int.reduceToNat, Int.reduceLT, Int.reduceLE, Int.reduceToNat, Int.reduceAdd, Int.reduceNeg, Int.natCast_zero, Int.natCast_one, Int.le_refl, Int.reduceEq, Int.lt_irrefl, reduceCtorEq, enc]
  rw [D_dr (by kernel_rfl) rfl]
  simp -implicitDefEqProofs -dsimp only [↓reduceIte, not_false_eq_true, ↓W_seq, go_sem, WR_nil, evNews, if_true, if_false, and_true, true_and, Nat.reduceEqDiff, Nat.reduceAdd, Nat.reduceMul, Nat.reduceLeDiff, Nat.reduceLT, Int.cast_ofNat_Int, Int.reduceBNe, Int.reduceToNat, Int.reduceLT, Int.reduceLE, Int.reduceToNat, Int.reduceAdd, Int.reduceNeg, Int.natCast_zero, Int.natCast_one, Int.le_refl, Int.reduceEq, Int.lt_irrefl, reduceCtorEq, enc, ho, bnd, e1, drop_str, cut_und _ _ hu]
theorem w207 (s : List UInt8) (r : Rd) (t : List UInt8) (hs : s.length ≤ 1000000) (hr : r.at' ≤ s.length) (p : Mv.Loc) (lim d : Nat) (hp : p.d < d) (σ : Sto) (hu : σ.Und d) (ho : σ.ob p = some (encB s r)) : Ret lim d 17 [.ptr p 0, .str t] σ (.bool (hasT s r t)) σ := by
  have hun := und_succ hu
  have ho2 := ho
  rw [encB] at ho2
  unfold Ret hasT
  rw [WF_body (C := X) rfl Go.Proofs.Tryd.func17 rfl (by kernel_rfl)]; simp only [Go.Proofs.Tryd.results17]
  cases hb : r.bad
  · rw [hb] at ho2
    simp -implicitDefEqProofs -dsimp only [↓reduceIte, not_false_eq_true, ↓W_seq, go_sem, WR_nil, evNews, if_true, if_false, and_true, true_and, Nat.reduceEqDiff, Nat.reduceAdd, Nat.reduceMul, Nat.reduceLeDiff, Nat.reduceLT, Int.cast_ofNat_Int, Int.reduceBNe, Int.reduceToNat, Int.reduceLT, Int.reduceLE, Int.reduceToNat, Int.reduceAdd, Int.reduceNeg, Int.natCast_zero, Int.natCast_one, Int.le_refl, Int.reduceEq, Int.lt_irrefl, reduceCtorEq, enc, ho2]
    refine (w211 s r hs hr p lim (d + 1) (Nat.lt_succ_of_lt hp) _ hun ho).wh ?_
    simp -implicitDefEqProofs -dsimp only [↓reduceIte, not_false_eq_true, ↓W_seq, go_sem, WR_nil, evNews, if_true, if_false, and_true, true_and, Nat.reduceEqDiff, Nat.reduceAdd, Nat.reduceMul, Nat.reduceLeDiff, Nat.reduceLT, Int.cast_ofNat_Int, Int.reduceBNe, Int.reduceToNat, Int.reduceLT, Int.reduceLE, Int.reduceToNat, Int.reduceAdd, Int.reduceNeg, Int.natCast_zero, Int.natCast_one, Int.le_refl, Int.reduceEq, Int.lt_irrefl, reduceCtorEq, enc]
    refine (w81 (s.drop r.at') t (by rw [List.length_drop]; omega) lim (d + 1) _ hun).wh ?_
    simp -implicitDefEqProofs -dsimp only [↓reduceIte, not_false_eq_true, ↓W_seq, go_sem, WR_nil, evNews, if_true, if_false, and_true, true_and, Nat.reduceEqDiff, Nat.reduceAdd, Nat.reduceMul, Nat.reduceLeDiff, Nat.reduceLT, Int.cast_ofNat_Int, Int.reduceBNe, Int.reduceToNat, Int.reduceLT, Int.reduceLE, Int.reduceToNat, Int.reduceAdd, Int.reduceNeg, Int.natCast_zero, Int.natCast_one, Int.le_refl, Int.reduceEq, Int.lt_irrefl, reduceCtorEq, enc, cut_und _ _ hu, Bool.not_false]
  · rw [hb] at ho2
    simp -implicitDefEqProofs -dsimp only [↓reduceIte, not_false_eq_true, ↓W_seq, go_sem, WR_nil, evNews, if_true, if_false, and_true, true_and, Nat.reduceEqDiff, Nat.reduceAdd, Nat.reduceMul, Nat.reduceLeDiff, Nat.reduceLT, Int.cast_ofNat_Int, Int.reduceBNe, Int.reduceToNat, Int.reduceLT, Int.reduceLE, Int.reduceToNat, Int.reduceAdd, Int.reduceNeg, Int.natCast_zero, Int.natCast_one, Int.le_refl, Int.reduceEq, Int.lt_irrefl, reduceCtorEq, enc, ho2, cut_und _ _ hu, Bool.not_true, Bool.false_and]
theorem w208 (s : List UInt8) (r : Rd) (p : Mv.Loc) (lim d : Nat) (hp : p.d < d) (hlim : lim ≤ p.d) (σ : Sto) (hu : σ.Und d) (ho : σ.ob p = some (encB s r)) : Ret lim d 18 [.ptr p 0] σ (.agg (enc z0)) (σ.set p (encB s r.fail)) := by
  have hne := ne_my hp
  have hmy := my_ne hp
  rw [encB] at ho
  simp only [encB, Rd.fail]
  unfold Ret
  rw [WF_body (C := X) rfl Go.Proofs.Tryd.func18 rfl (by kernel_rfl)]; simp only [Go.Proofs.Tryd.results18]
  simp -implicitDefEqProofs -dsimp only [↓reduceIte, not_false_eq_true, ↓W_seq, go_sem, WR_nil, evNews, if_true, if_false, and_true, true_and, Nat.reduceEqDiff, Nat.reduceAdd, Nat.reduceMul, Nat.reduceLeDiff, Nat.reduceLT, Int.cast_ofNat_Int, Int.reduceBNe, Int.reduceToNat, Int.reduceLT, Int.reduceLE, Int.reduceToNat, Int.reduceAdd, Int.reduceNeg, Int.natCast_zero, Int.natCast_one, Int.le_refl, Int.reduceEq, Int.lt_irrefl, reduceCtorEq, enc, ho, hne, hmy, hp, hlim, cut_set _ _ _ _ hp, cut_und _ _ hu, z0, encs]
theorem w216 (s : List UInt8) (r : Rd) (hs : s.length ≤ 1000000) (hr : r.at' ≤ s.length) (p : Mv.Loc) (lim d : Nat) (hp : p.d < d) (σ : Sto) (hu : σ.Und d) (ho : σ.ob p = some (encB s r)) : Ret lim d 29 [.ptr p 0] σ (.bool (isRepB s r)) σ := by
  have hun := und_succ hu
  unfold Ret isRepB
  rw [WF_body (C := X) rfl Go.Proofs.Tryd.func29 rfl (by kernel_rfl)]; simp only [Go.Proofs.Tryd.results29]
  simp -implicitDefEqProofs -dsimp only [↓reduceIte, not_false_eq_true, ↓W_seq, go_sem, WR_nil, evNews, if_true, if_false, and_true, true_and, Nat.reduceEqDiff, Nat.reduceAdd, Nat.reduceMul, Nat.reduceLeDiff, Nat.reduceLT, Int.cast_ofNat_Int, Int.reduceBNe, Int.reduceToNat, Int.reduceLT, Int.reduceLE, Int.reduceToNat, Int.reduceAdd, Int.reduceNeg, Int.natCast_zero, Int.natCast_one, Int.le_refl, Int.reduceEq, Int.lt_irrefl, reduceCtorEq, enc, ba_data]
  refine (w207 s r [42] hs hr p lim (d + 1) (Nat.lt_succ_of_lt hp) _ hun ho).wh ?_
  rw [hasT_one s r hr]
  cases h : (r.nx s == some 42)
  · simp -implicitDefEqProofs -dsimp only [↓reduceIte, not_false_eq_true, ↓W_seq, go_sem, WR_nil, evNews, if_true, if_false, and_true, true_and, Nat.reduceEqDiff, Nat.reduceAdd, Nat.reduceMul, Nat.reduceLeDiff, Nat.reduceLT, Int.cast_ofNat_Int, Int.reduceBNe, Int.reduceToNat, Int.reduceLT, Int.reduceLE, Int.reduceToNat, Int.reduceAdd, Int.reduceNeg, Int.natCast_zero, Int.natCast_one, Int.le_refl, Int.reduceEq, Int.lt_irrefl, reduceCtorEq, enc, ba_data]
    refine (w207 s r [92, 123] hs hr p lim (d + 1) (Nat.lt_succ_of_lt hp) _ hun ho).wh ?_
    rw [hasT_two s r hr]
    simp -implicitDefEqProofs -dsimp only [↓reduceIte, not_false_eq_true, ↓W_seq, go_sem, WR_nil, evNews, if_true, if_false, and_true, true_and, Nat.reduceEqDiff, Nat.reduceAdd, Nat.reduceMul, Nat.reduceLeDiff, Nat.reduceLT, Int.cast_ofNat_Int, Int.reduceBNe, Int.reduceToNat, Int.reduceLT, Int.reduceLE, Int.reduceToNat, Int.reduceAdd, Int.reduceNeg, Int.natCast_zero, Int.natCast_one, Int.le_refl, Int.reduceEq, Int.lt_irrefl, reduceCtorEq, enc, Bool.false_or, cut_und _ _ hu]
  · simp -implicitDefEqProofs -dsimp only [↓reduceIte, not_false_eq_true, ↓W_seq, go_sem, WR_nil, evNews, if_true, if_false, and_true, true_and, Nat.reduceEqDiff, Nat.reduceAdd, Nat.reduceMul, Nat.reduceLeDiff, Nat.reduceLT, Int.cast_ofNat_Int, Int.reduceBNe, Int.reduceToNat, Int.reduceLT, Int.reduceLE, Int.reduceToNat, Int.reduceAdd, Int.reduceNeg, Int.natCast_zero, Int.natCast_one, Int.le_refl, Int.reduceEq, Int.lt_irrefl, reduceCtorEq, enc, Bool.true_or, cut_und _ _ hu]
theorem w206 (s : List UInt8) (r : Rd) (hs : s.length ≤ 1000000) (hr : r.at' ≤ s.length) (p : Mv.Loc) (lim d : Nat) (hp : p.d < d) (σ : Sto) (hu : σ.Und d) (ho : σ.ob p = some (encB s r)) : Ret lim d 16 [.ptr p 0] σ (.bool (overB s r)) σ := by
  have hun := und_succ hu
  have ho2 := ho
  rw [encB] at ho2
  unfold Ret
  rw [WF_body (C := X) rfl Go.Proofs.Tryd.func16 rfl (by kernel_rfl)]; simp only [Go.Proofs.Tryd.results16]
  simp -implicitDefEqProofs -dsimp only [↓reduceIte, not_false_eq_true, ↓W_seq, go_sem, WR_nil, evNews, if_true, if_false, and_true, true_and, Nat.reduceEqDiff, Nat.reduceAdd, Nat.reduceMul, Nat.reduceLeDiff, Nat.reduceLT, Int.cast_ofNat_Int, Int.reduceBNe, Int.reduceToNat, Int.reduceLT, Int.reduceLE, Int.reduceToNat, Int.reduceAdd, Int.reduceNeg, Int.natCast_zero, Int.natCast_one, Int.le_refl, Int.reduceEq, Int.lt_irrefl, reduceCtorEq, enc]
  rw [D_dr (by kernel_rfl) rfl]
  cases hb : r.bad
  · rw [hb] at ho2
    by_cases h : r.at' = s.length
    · have e1 : ((r.at' : Int) == (s.length : Int)) = true := by rw [beq_iff_eq]; omega
      have e2 : overB s r = true := by simp [overB, Rd.nx, hb, h]
      simp -implicitDefEqProofs -dsimp only [↓reduceIte, not_false_eq_true, ↓W_seq, go_sem, WR_nil, evNews, if_true, if_false, and_true, true_and, Nat.reduceEqDiff, Nat.reduceAdd, Nat.reduceMul, Nat.reduceLeDiff, Nat.reduceLT, Int.cast_ofNat_Int, Int.reduceBNe, Int.reduceToNat, Int.reduceLT, Int.reduceLE, Int.reduceToNat, Int.reduceAdd, Int.reduceNeg, Int.natCast_zero, Int.natCast_one, Int.le_refl, Int.reduceEq, Int.lt_irrefl, reduceCtorEq, enc, ho2, e1, e2, cut_und _ _ hu]
    · have e1 : ((r.at' : Int) == (s.length : Int)) = false := by rw [beq_eq_false_iff_ne]; omega
      have e2 : overB s r = hasE s r 41 := by
        have : s[r.at']? = some s[r.at'] := List.getElem?_eq_getElem (by omega)
        simp [overB, Rd.nx, hb, this]
      simp -implicitDefEqProofs -dsimp only [↓reduceIte, not_false_eq_true, ↓W_seq, go_sem, WR_nil, evNews, if_true, if_false, and_true, true_and, Nat.reduceEqDiff, Nat.reduceAdd, Nat.reduceMul, Nat.reduceLeDiff, Nat.reduceLT, Int.cast_ofNat_Int, Int.reduceBNe, Int.reduceToNat, Int.reduceLT, Int.reduceLE, Int.reduceToNat, Int.reduceAdd, Int.reduceNeg, Int.natCast_zero, Int.natCast_one, Int.le_refl, Int.reduceEq, Int.lt_irrefl, reduceCtorEq, enc, ho2, e1, ba_data]
      refine (w207 s r [92, 41] hs hr p (d + 1) (d + 1) (Nat.lt_succ_of_lt hp) _ hun ho).wh ?_
      rw [hasT_two s r hr]
      simp -implicitDefEqProofs -dsimp only [↓reduceIte, not_false_eq_true, ↓W_seq, go_sem, WR_nil, evNews, if_true, if_false, and_true, true_and, Nat.reduceEqDiff, Nat.reduceAdd, Nat.reduceMul, Nat.reduceLeDiff, Nat.reduceLT, Int.cast_ofNat_Int, Int.reduceBNe, Int.reduceToNat, Int.reduceLT, Int.reduceLE, Int.reduceToNat, Int.reduceAdd, Int.reduceNeg, Int.natCast_zero, Int.natCast_one, Int.le_refl, Int.reduceEq, Int.lt_irrefl, reduceCtorEq, enc, e2, cut_und _ _ hu]
  · rw [hb] at ho2
    have e2 : overB s r = true := by simp [overB, Rd.nx, hb]
    simp -implicitDefEqProofs -dsimp only [↓reduceIte, not_false_eq_true, ↓W_seq, go_sem, WR_nil, evNews, if_true, if_false, and_true, true_and, Nat.reduceEqDiff, Nat.reduceAdd, Nat.reduceMul, Nat.reduceLeDiff, Nat.reduceLT, Int.cast_ofNat_Int, Int.reduceBNe, Int.reduceToNat, Int.reduceLT, Int.reduceLE, Int.reduceToNat, Int.reduceAdd, Int.reduceNeg, Int.natCast_zero, Int.natCast_one, Int.le_refl, Int.reduceEq, Int.lt_irrefl, reduceCtorEq, enc, ho2, e2, cut_und _ _ hu]
end Go.Proofs.Tryd.E
