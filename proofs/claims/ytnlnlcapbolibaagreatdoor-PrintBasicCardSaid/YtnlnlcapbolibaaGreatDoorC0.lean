/- Walks: what the functions compute. -/
import Derived.Test.YtnlnlcapbolibaaGreatDoorWB1
set_option linter.unusedVariables false
set_option linter.unusedSimpArgs false
/- The other reader, of basic patterns: what stands next, what is wrong, how often. -/
namespace Go.Proofs.Tryz.E
open Go.Mv
set_option maxHeartbeats 4000000
set_option maxRecDepth 20000
def encT (s : List UInt8) (r : Rd) : List MV := [.str s, .int .i64 r.at', .bool false, .int .i64 r.g, .bool r.bad]
theorem encT_eq (s : List UInt8) (r : Rd) : encT s r = [.str s, .int .i64 r.at', .bool false, .int .i64 r.g, .bool r.bad] := rfl
theorem encT_go (s : List UInt8) (r : Rd) (a : Nat) (h : r.bad = false) : encT s (r.go a) = [.str s, .int .i64 a, .bool false, .int .i64 r.g, .bool false] := by simp only [encT, Rd.go, h]
theorem encT_good (s : List UInt8) (r : Rd) (h : r.bad = false) : encT s r = [.str s, .int .i64 r.at', .bool false, .int .i64 r.g, .bool false] := by simp only [encT, h]
theorem v33 (s : List UInt8) (r : Rd) (t : List UInt8) (hs : s.length ≤ 1000000) (ht : t.length ≤ 1000) (hr : r.at' ≤ s.length) (p : Mv.Loc) (lim d : Nat) (hp : p.d < d) (σ : Sto) (hu : σ.Und d) (ho : σ.ob p = some (encT s r)) : Ret lim d 38 [.ptr p 0, .str t] σ (.bool (!r.bad && preS (s.drop r.at') t)) σ := by
  obtain ⟨n, g, bad⟩ := r
  simp only [encT] at ho hr ⊢
  have x1 := wr64 ((s.length : Int) - n) (by omega) (by omega)
  have x2 := wr64 ((n : Int) + t.length) (by omega) (by omega)
  have hc := cut_at s n 0 t.length
  simp only [Nat.add_zero, List.drop_zero] at hc
  have t1 : ((n : Int) + t.length).toNat = n + t.length := by omega
  have p1 : (0 : Int) ≤ (n : Int) + t.length := by omega
  have p2 : (n : Int) ≤ ((n + t.length : Nat) : Int) := by omega
  unfold Ret
  rw [WF_body (C := X) rfl Go.Proofs.Tryz.func38 rfl (by kernel_rfl)]; simp only [Go.Proofs.Tryz.results38]
  simp -implicitDefEqProofs -dsimp only [↓reduceIte, ↓W_seq, go_sem, WR_nil, evNews, Nat.reduceEqDiff, Nat.reduceAdd, Nat.reduceMul, Nat.reduceLeDiff, Nat.reduceLT, Int.cast_ofNat_Int, Int.reduceBNe, Int.reduceToNat, Int.reduceLT, Int.reduceLE, Int.reduceAdd, Int.reduceNeg, Int.reduceEq, reduceCtorEq, enc]
  rw [D_dr (by kernel_rfl) rfl]
  cases bad
  · by_cases hl : t.length ≤ s.length - n
    · have e1 : ((t.length : Int) ≤ (s.length : Int) - n) := by omega
      have e2 : (n : Int) + t.length ≤ (s.length : Int) := by omega
      simp -implicitDefEqProofs -dsimp only [↓reduceIte, ↓W_seq, go_sem, WR_nil, evNews, Nat.reduceEqDiff, Nat.reduceAdd, Nat.reduceMul, Nat.reduceLeDiff, Nat.reduceLT, Int.cast_ofNat_Int, Int.reduceBNe, Int.reduceToNat, Int.reduceLT, Int.reduceLE, Int.reduceAdd, Int.reduceNeg, Int.reduceEq, reduceCtorEq, enc, ho, x1, x2, e1, e2, t1, p1, p2, hc, cut_und _ _ hu]
      rfl
    · have e1 : ¬ ((t.length : Int) ≤ (s.length : Int) - n) := by omega
      have e2 : preS (s.drop n) t = false := by
        cases h : preS (s.drop n) t with
        | false => rfl
        | true => have := pre_le h; rw [List.length_drop] at this; omega
      simp -implicitDefEqProofs -dsimp only [↓reduceIte, ↓W_seq, go_sem, WR_nil, evNews, Nat.reduceEqDiff, Nat.reduceAdd, Nat.reduceMul, Nat.reduceLeDiff, Nat.reduceLT, Int.cast_ofNat_Int, Int.reduceBNe, Int.reduceToNat, Int.reduceLT, Int.reduceLE, Int.reduceAdd, Int.reduceNeg, Int.reduceEq, reduceCtorEq, enc, ho, x1, e1, e2, cut_und _ _ hu]
  · simp -implicitDefEqProofs -dsimp only [↓reduceIte, ↓W_seq, go_sem, WR_nil, evNews, Nat.reduceEqDiff, Nat.reduceAdd, Nat.reduceMul, Nat.reduceLeDiff, Nat.reduceLT, Int.cast_ofNat_Int, Int.reduceBNe, Int.reduceToNat, Int.reduceLT, Int.reduceLE, Int.reduceAdd, Int.reduceNeg, Int.reduceEq, reduceCtorEq, enc, ho, cut_und _ _ hu]
theorem k1 (s : List UInt8) (r : Rd) (b : UInt8) (hs : s.length ≤ 1000000) (hr : r.at' ≤ s.length) (p : Mv.Loc) (lim d : Nat) (hp : p.d < d) (σ : Sto) (hu : σ.Und d) (ho : σ.ob p = some (encT s r)) : Ret lim d 38 [.ptr p 0, .str [b]] σ (.bool (r.nx s == some b)) σ := by
  rw [← has_one s r hr b]
  exact v33 s r [b] hs (by simp) hr p lim d hp σ hu ho
theorem has_two (s : List UInt8) (r : Rd) (hr : r.at' ≤ s.length) (c : UInt8) : (!r.bad && preS (s.drop r.at') [92, c]) = hasE s r c := by
  unfold hasE Rd.nx
  cases r.bad
  · simp only [Bool.not_false, Bool.true_and, Bool.false_eq_true, if_false]
    by_cases h : r.at' < s.length
    · rw [List.drop_eq_getElem_cons h, List.getElem?_eq_getElem h]
      by_cases h2 : r.at' + 1 < s.length
      · rw [List.drop_eq_getElem_cons h2, pre_two, List.getElem?_eq_getElem h2]
        rw [Bool.eq_iff_iff]; simp
      · rw [List.drop_eq_nil_of_le (by omega), pre_two1, List.getElem?_eq_none (by omega)]
        rw [Bool.eq_iff_iff]; simp
    · rw [List.drop_eq_nil_of_le (by omega), pre_nil _ (by simp), List.getElem?_eq_none (by omega)]
      simp
  · simp
theorem k2 (s : List UInt8) (r : Rd) (c : UInt8) (hs : s.length ≤ 1000000) (hr : r.at' ≤ s.length) (p : Mv.Loc) (lim d : Nat) (hp : p.d < d) (σ : Sto) (hu : σ.Und d) (ho : σ.ob p = some (encT s r)) : Ret lim d 38 [.ptr p 0, .str [92, c]] σ (.bool (hasE s r c)) σ := by
  rw [← has_two s r hr c]
  exact v33 s r [92, c] hs (by simp) hr p lim d hp σ hu ho
theorem v23 (s : List UInt8) (r : Rd) (p : Mv.Loc) (lim d : Nat) (hp : p.d < d) (σ : Sto) (hu : σ.Und d) (ho : σ.ob p = some (encT s r)) : Ret lim d 24 [.ptr p 0] σ (.bool (decide ((s.length : Int) ≤ (r.at' : Int)))) σ := by
  rw [encT] at ho
  unfold Ret
  rw [WF_body (C := X) rfl Go.Proofs.Tryz.func24 rfl (by kernel_rfl)]; simp only [Go.Proofs.Tryz.results24]
  simp -implicitDefEqProofs -dsimp only [↓reduceIte, ↓W_seq, go_sem, WR_nil, evNews, Nat.reduceEqDiff, Nat.reduceAdd, Nat.reduceMul, Nat.reduceLeDiff, Nat.reduceLT, Int.cast_ofNat_Int, Int.reduceBNe, Int.reduceToNat, Int.reduceLT, Int.reduceLE, Int.reduceAdd, Int.reduceNeg, Int.reduceEq, reduceCtorEq, enc]
  rw [D_dr (by kernel_rfl) rfl]
  simp -implicitDefEqProofs -dsimp only [↓reduceIte, ↓W_seq, go_sem, WR_nil, evNews, Nat.reduceEqDiff, Nat.reduceAdd, Nat.reduceMul, Nat.reduceLeDiff, Nat.reduceLT, Int.cast_ofNat_Int, Int.reduceBNe, Int.reduceToNat, Int.reduceLT, Int.reduceLE, Int.reduceAdd, Int.reduceNeg, Int.reduceEq, reduceCtorEq, enc, ho, cut_und _ _ hu]
theorem v24 (s : List UInt8) (r : Rd) (p : Mv.Loc) (lim d : Nat) (hp : p.d < d) (hlim : lim ≤ p.d) (σ : Sto) (hu : σ.Und d) (ho : σ.ob p = some (encT s r)) : Ret lim d 25 [.ptr p 0] σ (.agg (enc z0)) (σ.set p (encT s r.fail)) := by
  have hne := ne_my hp
  have hmy := my_ne hp
  rw [encT] at ho
  simp only [encT, Rd.fail]
  unfold Ret
  rw [WF_body (C := X) rfl Go.Proofs.Tryz.func25 rfl (by kernel_rfl)]; simp only [Go.Proofs.Tryz.results25]
  simp -implicitDefEqProofs -dsimp only [↓reduceIte, ↓W_seq, go_sem, WR_nil, evNews, Nat.reduceEqDiff, Nat.reduceAdd, Nat.reduceMul, Nat.reduceLeDiff, Nat.reduceLT, Int.cast_ofNat_Int, Int.reduceBNe, Int.reduceToNat, Int.reduceLT, Int.reduceLE, Int.reduceAdd, Int.reduceNeg, Int.reduceEq, reduceCtorEq, enc, ho, hne, hmy, hp, hlim, cut_set _ _ _ _ hp, cut_und _ _ hu, z0, encs]
theorem v42 (s : List UInt8) (r : Rd) (p : Mv.Loc) (lim d : Nat) (hp : p.d < d) (σ : Sto) (hu : σ.Und d) (ho : σ.ob p = some (encT s r)) : Ret lim d 56 [.ptr p 0] σ (.str [92, 41]) σ := by
  rw [encT] at ho
  unfold Ret
  rw [WF_body (C := X) rfl Go.Proofs.Tryz.func56 rfl (by kernel_rfl)]; simp only [Go.Proofs.Tryz.results56]
  simp -implicitDefEqProofs -dsimp only [↓reduceIte, ↓W_seq, go_sem, WR_nil, evNews, Nat.reduceEqDiff, Nat.reduceAdd, Nat.reduceMul, Nat.reduceLeDiff, Nat.reduceLT, Int.cast_ofNat_Int, Int.reduceBNe, Int.reduceToNat, Int.reduceLT, Int.reduceLE, Int.reduceAdd, Int.reduceNeg, Int.reduceEq, reduceCtorEq, enc, ho, ba_data, cut_und _ _ hu]
theorem v56 (s : List UInt8) (r : Rd) (p : Mv.Loc) (lim d : Nat) (hp : p.d < d) (σ : Sto) (hu : σ.Und d) (ho : σ.ob p = some (encT s r)) : Ret lim d 83 [.ptr p 0] σ (.str [92, 123]) σ := by
  rw [encT] at ho
  unfold Ret
  rw [WF_body (C := X) rfl Go.Proofs.Tryz.func83 rfl (by kernel_rfl)]; simp only [Go.Proofs.Tryz.results83]
  simp -implicitDefEqProofs -dsimp only [↓reduceIte, ↓W_seq, go_sem, WR_nil, evNews, Nat.reduceEqDiff, Nat.reduceAdd, Nat.reduceMul, Nat.reduceLeDiff, Nat.reduceLT, Int.cast_ofNat_Int, Int.reduceBNe, Int.reduceToNat, Int.reduceLT, Int.reduceLE, Int.reduceAdd, Int.reduceNeg, Int.reduceEq, reduceCtorEq, enc, ho, ba_data, cut_und _ _ hu]
theorem v57 (s : List UInt8) (r : Rd) (p : Mv.Loc) (lim d : Nat) (hp : p.d < d) (σ : Sto) (hu : σ.Und d) (ho : σ.ob p = some (encT s r)) : Ret lim d 84 [.ptr p 0] σ (.str [92, 40]) σ := by
  rw [encT] at ho
  unfold Ret
  rw [WF_body (C := X) rfl Go.Proofs.Tryz.func84 rfl (by kernel_rfl)]; simp only [Go.Proofs.Tryz.results84]
  simp -implicitDefEqProofs -dsimp only [↓reduceIte, ↓W_seq, go_sem, WR_nil, evNews, Nat.reduceEqDiff, Nat.reduceAdd, Nat.reduceMul, Nat.reduceLeDiff, Nat.reduceLT, Int.cast_ofNat_Int, Int.reduceBNe, Int.reduceToNat, Int.reduceLT, Int.reduceLE, Int.reduceAdd, Int.reduceNeg, Int.reduceEq, reduceCtorEq, enc, ho, ba_data, cut_und _ _ hu]
theorem v43 (s : List UInt8) (r : Rd) (hs : s.length ≤ 1000000) (hr : r.at' ≤ s.length) (p : Mv.Loc) (lim d : Nat) (hp : p.d < d) (σ : Sto) (hu : σ.Und d) (ho : σ.ob p = some (encT s r)) : Ret lim d 57 [.ptr p 0] σ (.bool (isRepB s r)) σ := by
  have hun := und_succ hu
  have hp1 := Nat.lt_succ_of_lt hp
  have ho2 := ho
  rw [encT] at ho2
  unfold Ret
  rw [WF_body (C := X) rfl Go.Proofs.Tryz.func57 rfl (by kernel_rfl)]; simp only [Go.Proofs.Tryz.results57]
  simp -implicitDefEqProofs -dsimp only [↓reduceIte, ↓W_seq, go_sem, WR_nil, evNews, Nat.reduceEqDiff, Nat.reduceAdd, Nat.reduceMul, Nat.reduceLeDiff, Nat.reduceLT, Int.cast_ofNat_Int, Int.reduceBNe, Int.reduceToNat, Int.reduceLT, Int.reduceLE, Int.reduceAdd, Int.reduceNeg, Int.reduceEq, reduceCtorEq, enc, ba_data]
  refine (k1 s r 42 hs hr p lim (d + 1) hp1 σ hun ho).wh ?_
  unfold isRepB
  cases h42 : r.nx s == some 42
  · simp -implicitDefEqProofs -dsimp only [↓reduceIte, ↓W_seq, go_sem, WR_nil, evNews, Nat.reduceEqDiff, Nat.reduceAdd, Nat.reduceMul, Nat.reduceLeDiff, Nat.reduceLT, Int.cast_ofNat_Int, Int.reduceBNe, Int.reduceToNat, Int.reduceLT, Int.reduceLE, Int.reduceAdd, Int.reduceNeg, Int.reduceEq, reduceCtorEq, enc]
    refine (v56 s r p lim (d + 1) hp1 σ hun ho).wh ?_
    simp -implicitDefEqProofs -dsimp only [↓reduceIte, ↓W_seq, go_sem, WR_nil, evNews, Nat.reduceEqDiff, Nat.reduceAdd, Nat.reduceMul, Nat.reduceLeDiff, Nat.reduceLT, Int.cast_ofNat_Int, Int.reduceBNe, Int.reduceToNat, Int.reduceLT, Int.reduceLE, Int.reduceAdd, Int.reduceNeg, Int.reduceEq, reduceCtorEq, enc]
    refine (k2 s r 123 hs hr p lim (d + 1) hp1 σ hun ho).wh ?_
    cases h123 : hasE s r 123
    · simp -implicitDefEqProofs -dsimp only [↓reduceIte, ↓W_seq, go_sem, WR_nil, evNews, Nat.reduceEqDiff, Nat.reduceAdd, Nat.reduceMul, Nat.reduceLeDiff, Nat.reduceLT, Int.cast_ofNat_Int, Int.reduceBNe, Int.reduceToNat, Int.reduceLT, Int.reduceLE, Int.reduceAdd, Int.reduceNeg, Int.reduceEq, reduceCtorEq, enc, ho2, Bool.or_self, cut_und _ _ hu]
    · simp -implicitDefEqProofs -dsimp only [↓reduceIte, ↓W_seq, go_sem, WR_nil, evNews, Nat.reduceEqDiff, Nat.reduceAdd, Nat.reduceMul, Nat.reduceLeDiff, Nat.reduceLT, Int.cast_ofNat_Int, Int.reduceBNe, Int.reduceToNat, Int.reduceLT, Int.reduceLE, Int.reduceAdd, Int.reduceNeg, Int.reduceEq, reduceCtorEq, enc, Bool.false_or, cut_und _ _ hu]
  · simp -implicitDefEqProofs -dsimp only [↓reduceIte, ↓W_seq, go_sem, WR_nil, evNews, Nat.reduceEqDiff, Nat.reduceAdd, Nat.reduceMul, Nat.reduceLeDiff, Nat.reduceLT, Int.cast_ofNat_Int, Int.reduceBNe, Int.reduceToNat, Int.reduceLT, Int.reduceLE, Int.reduceAdd, Int.reduceNeg, Int.reduceEq, reduceCtorEq, enc, Bool.true_or, cut_und _ _ hu]
theorem two_at (s : List UInt8) (n : Nat) : ((s.drop n).take 2 == [92, 125]) = closeB s n := by
  unfold closeB
  by_cases h : n < s.length
  · rw [List.drop_eq_getElem_cons h, List.getElem?_eq_getElem h]
    by_cases h2 : n + 1 < s.length
    · rw [List.drop_eq_getElem_cons h2, List.getElem?_eq_getElem h2]
      simp only [List.take_succ_cons, List.take_zero]
      rw [Bool.eq_iff_iff]; simp
    · rw [List.drop_eq_nil_of_le (by omega), List.getElem?_eq_none (show s.length ≤ n + 1 by omega)]
      rw [Bool.eq_iff_iff]; simp
  · rw [List.drop_eq_nil_of_le (by omega), List.getElem?_eq_none (by omega)]
    rw [Bool.eq_iff_iff]; simp
theorem brcB_eq (s : List UInt8) (n : Nat) : bracesB s n = if digsAt s (n + 2) = [] ∨ 255 < numV (digsAt s (n + 2)) then none else
    if s[n + 2 + (digsAt s (n + 2)).length]? = some 44 then
      if closeB s (n + 2 + (digsAt s (n + 2)).length + 1 + (digsAt s (n + 2 + (digsAt s (n + 2)).length + 1)).length) = true ∧ (digsAt s (n + 2 + (digsAt s (n + 2)).length + 1) = [] ∨ numV (digsAt s (n + 2 + (digsAt s (n + 2)).length + 1)) ≤ 255 ∧ numV (digsAt s (n + 2)) ≤ numV (digsAt s (n + 2 + (digsAt s (n + 2)).length + 1))) then
        some ((numV (digsAt s (n + 2)) : Int), if digsAt s (n + 2 + (digsAt s (n + 2)).length + 1) = [] then (-1 : Int) else (numV (digsAt s (n + 2 + (digsAt s (n + 2)).length + 1)) : Int), n + 2 + (digsAt s (n + 2)).length + 1 + (digsAt s (n + 2 + (digsAt s (n + 2)).length + 1)).length + 2) else none
    else if closeB s (n + 2 + (digsAt s (n + 2)).length) = true then some ((numV (digsAt s (n + 2)) : Int), (numV (digsAt s (n + 2)) : Int), n + 2 + (digsAt s (n + 2)).length + 2) else none := rfl
theorem tim_clo2 (s : List UInt8) (Q : Nat) (hQ : Q + 1 < s.length) (m k : Int) (B : Option (Int × Int × Nat)) (hB : B = if closeB s Q = true then some (m, k, Q + 2) else none) {σ σ' : Sto} (hσ : σ' = σ) :
    (0 ≤ (Q : Int) + 2 ∧ (Q : Int) + 2 ≤ (s.length : Int)) ∧ (Q : Int) ≤ (((Q : Int) + 2).toNat : Int) ∧
      if (!List.drop Q (List.take ((Q : Int) + 2).toNat s) == [92, 125]) = true then
        MV.tup [MV.int IntKind.i64 0, MV.int IntKind.i64 0, MV.int IntKind.i64 0, MV.bool false] = timV B ∧ σ' = σ
      else
        MV.tup [MV.int IntKind.i64 m, MV.int IntKind.i64 k, MV.int IntKind.i64 ((Q : Int) + 2), MV.bool true] = timV B ∧ σ' = σ := by
  have t1 : ((Q : Int) + 2).toNat = Q + 2 := by omega
  have hc := cut_at s Q 0 2
  simp only [Nat.add_zero, List.drop_zero] at hc
  refine ⟨⟨by omega, by omega⟩, by omega, ?_⟩
  rw [t1, hc, two_at]
  cases h : closeB s Q
  · rw [if_neg (by simp [h])] at hB
    exact ⟨by rw [hB]; rfl, hσ⟩
  · rw [if_pos h] at hB
    exact ⟨by rw [hB]; rfl, hσ⟩
theorem close_end {s : List UInt8} {Q : Nat} (h : ¬ Q + 1 < s.length) : closeB s Q = false := by
  cases hc : closeB s Q with
  | false => rfl
  | true => have := closeB_lt hc; omega
end Go.Proofs.Tryz.E
