/- Walks: what the functions compute. -/
import Derived.Test.YtklnfgmfcpcfcaaGreatDoorU3
set_option linter.unusedVariables false
set_option linter.unusedSimpArgs false
/- The document's labels, files' names; texts with a byte twice. -/
namespace Go.Proofs.Tryz.E
open Go.Mv
set_option maxHeartbeats 4000000
set_option maxRecDepth 20000
/-- A byte stands twice: from the first on. -/
def twB : List UInt8 → Bool
  | [] => false
  | b :: r => decide (0 ≤ idxB r b.toNat) || twB r
/-- .. or one stood ahead. -/
def twR (seen : List UInt8) : List UInt8 → Bool
  | [] => false
  | b :: r => seen.any (· == b) || twR (seen ++ [b]) r
theorem idxB_any (b : UInt8) : ∀ r : List UInt8, decide (0 ≤ idxB r b.toNat) = r.any (· == b)
  | [] => rfl
  | x :: r => by
    have ih := idxB_any b r
    have hu : idxB (x :: r) b.toNat = if (x.toNat : Int) = (b.toNat : Int) then 0 else if idxB r b.toNat < 0 then -1 else idxB r b.toNat + 1 := rfl
    rw [List.any_cons, ← ih, hu]
    by_cases h : x = b
    · subst h; simp
    · have hn : ¬ ((x.toNat : Int) = (b.toNat : Int)) := fun q => h (UInt8.toNat_inj.1 (by omega))
      have hx : (x == b) = false := by rw [beq_eq_false_iff_ne]; exact h
      rw [if_neg hn, hx, Bool.false_or]
      by_cases h2 : idxB r b.toNat < 0
      · rw [if_pos h2, decide_eq_false (by omega), decide_eq_false (by omega)]
      · rw [if_neg h2, decide_eq_true (by omega), decide_eq_true (by omega)]
theorem any_swap (b : UInt8) (r : List UInt8) (seen : List UInt8) : (r.any fun x => (seen ++ [b]).any (· == x)) = ((r.any fun x => seen.any (· == x)) || r.any (· == b)) := by
  induction r with
  | nil => rfl
  | cons x r ih =>
    have hx : (seen ++ [b]).any (· == x) = (seen.any (· == x) || x == b) := by
      rw [List.any_append, List.any_cons, List.any_nil, Bool.or_false]
      congr 1
      rw [Bool.eq_iff_iff, beq_iff_eq, beq_iff_eq, eq_comm]
    rw [List.any_cons, List.any_cons, List.any_cons, ih, hx]
    generalize seen.any (· == x) = p1
    generalize (x == b) = p2
    generalize (r.any fun x => seen.any (· == x)) = p3
    generalize (r.any fun x => x == b) = p4
    cases p1 <;> cases p2 <;> cases p3 <;> cases p4 <;> rfl
theorem twR_eq : ∀ (r seen : List UInt8), twR seen r = ((r.any fun x => seen.any (· == x)) || twB r)
  | [], _ => rfl
  | b :: r, seen => by
    rw [twR, twR_eq r, any_swap, twB, idxB_any, List.any_cons]
    cases seen.any (· == b) <;> cases (r.any fun x => seen.any (· == x)) <;> cases r.any (· == b) <;> rfl
theorem twR_nil (s : List UInt8) : twR [] s = twB s := by
  rw [twR_eq]
  have : (s.any fun x => ([] : List UInt8).any (· == x)) = false := List.any_eq_false.2 fun x _ => by simp only [List.any_nil]; exact Bool.false_ne_true
  rw [this, Bool.false_or]
theorem w683 (s : List UInt8) (hs : s.length ≤ 1000000) (lim d : Nat) (σ : Sto) (hu : σ.Und d) : Ret lim d 39 [.str s] σ (.bool (twB s)) σ := by
  have hun := und_succ hu
  unfold Ret
  rw [WF_body (C := X) rfl Go.Proofs.Tryz.func39 rfl (by kernel_rfl)]; simp only [Go.Proofs.Tryz.results39]
  simp -implicitDefEqProofs -dsimp only [↓reduceIte, ↓W_seq, go_sem, WR_nil, evNews, Nat.reduceEqDiff, Nat.reduceAdd, Nat.reduceMul, Nat.reduceLeDiff, Nat.reduceLT, Int.cast_ofNat_Int, Int.reduceBNe, Int.reduceToNat, Int.reduceLT, Int.reduceLE, Int.reduceAdd, Int.reduceNeg, Int.reduceEq, reduceCtorEq, enc]
  refine loop_h (I := fun k a st => ∃ (i : Nat), i + k = s.length ∧ a 6 = .int .i64 i ∧ a 5 = .int .i64 s.length ∧ a 0 = .str s ∧ twB (s.drop i) = twB s ∧ st = σ) ?_ s.length _ _ ?_
  · rintro k a st ⟨i, hk, h6, h5, h0, hE, rfl⟩
    by_cases hi : i < s.length
    · have e1 : ((i : Int) < (s.length : Int)) := by omega
      have e2 : (((i + 1 : Nat) : Int) ≤ (s.length : Int)) := by omega
      have x1 : IntKind.i64.wrap ((i : Int) + 1) = ((i + 1 : Nat) : Int) := by rw [wr64 _ (by omega) (by omega)]; omega
      have hb : s[i]? = some s[i] := List.getElem?_eq_getElem hi
      rw [List.drop_eq_getElem_cons hi, twB] at hE
      generalize s[i] = b at hb hE
      simp -implicitDefEqProofs -dsimp only [↓reduceIte, ↓W_seq, go_sem, WR_nil, evNews, Nat.reduceEqDiff, Nat.reduceAdd, Nat.reduceMul, Nat.reduceLeDiff, Nat.reduceLT, Int.cast_ofNat_Int, Int.reduceBNe, Int.reduceToNat, Int.reduceLT, Int.reduceLE, Int.reduceAdd, Int.reduceNeg, Int.reduceEq, reduceCtorEq, enc, e1, x1, h6, h5, h0, hb]
      rw [D_dr (by kernel_rfl) rfl]
      simp -implicitDefEqProofs -dsimp only [↓reduceIte, ↓W_seq, go_sem, WR_nil, evNews, Nat.reduceEqDiff, Nat.reduceAdd, Nat.reduceMul, Nat.reduceLeDiff, Nat.reduceLT, Int.cast_ofNat_Int, Int.reduceBNe, Int.reduceToNat, Int.reduceLT, Int.reduceLE, Int.reduceAdd, Int.reduceNeg, Int.reduceEq, reduceCtorEq, enc, e1, e2, x1, h6, h5, h0, hb, List.take_length]
      refine (w41 (s.drop (i + 1)) b (d + 1) (d + 1) _ hun).wh ?_
      cases hq : decide (0 ≤ idxB (s.drop (i + 1)) b.toNat)
      · rw [hq, Bool.false_or] at hE
        simp -implicitDefEqProofs -dsimp only [↓reduceIte, ↓W_seq, go_sem, WR_nil, evNews, Nat.reduceEqDiff, Nat.reduceAdd, Nat.reduceMul, Nat.reduceLeDiff, Nat.reduceLT, Int.cast_ofNat_Int, Int.reduceBNe, Int.reduceToNat, Int.reduceLT, Int.reduceLE, Int.reduceAdd, Int.reduceNeg, Int.reduceEq, reduceCtorEq, enc, hq, x1, h6, h5, h0]
        exact ⟨k - 1, by omega, i + 1, by omega, rfl, hE⟩
      · rw [hq, Bool.true_or] at hE
        simp -implicitDefEqProofs -dsimp only [↓reduceIte, ↓W_seq, go_sem, WR_nil, evNews, Nat.reduceEqDiff, Nat.reduceAdd, Nat.reduceMul, Nat.reduceLeDiff, Nat.reduceLT, Int.cast_ofNat_Int, Int.reduceBNe, Int.reduceToNat, Int.reduceLT, Int.reduceLE, Int.reduceAdd, Int.reduceNeg, Int.reduceEq, reduceCtorEq, enc, hq, ← hE, cut_und _ _ hu]
    · have e1 : ¬ ((i : Int) < (s.length : Int)) := by omega
      rw [List.drop_eq_nil_of_le (by omega)] at hE
      simp -implicitDefEqProofs -dsimp only [↓reduceIte, ↓W_seq, go_sem, WR_nil, evNews, Nat.reduceEqDiff, Nat.reduceAdd, Nat.reduceMul, Nat.reduceLeDiff, Nat.reduceLT, Int.cast_ofNat_Int, Int.reduceBNe, Int.reduceToNat, Int.reduceLT, Int.reduceLE, Int.reduceAdd, Int.reduceNeg, Int.reduceEq, reduceCtorEq, enc, e1, h6, h5, h0, ← hE, twB, cut_und _ _ hu]
  · refine ⟨0, Nat.zero_add _, ?_⟩
    simp -implicitDefEqProofs -dsimp only [↓reduceIte, ↓W_seq, go_sem, WR_nil, evNews, Nat.reduceEqDiff, Nat.reduceAdd, Nat.reduceMul, Nat.reduceLeDiff, Nat.reduceLT, Int.cast_ofNat_Int, Int.reduceBNe, Int.reduceToNat, Int.reduceLT, Int.reduceLE, Int.reduceAdd, Int.reduceNeg, Int.reduceEq, reduceCtorEq, enc, List.drop_zero]
theorem any_take {s : List UInt8} {k i : Nat} {b x : UInt8} (hk : k < i) (hi : i ≤ s.length) (hx : s[k]? = some x) : ((s.take i).drop k).any (· == b) = ((x == b) || ((s.take i).drop (k + 1)).any (· == b)) := by
  have hk2 : k < (s.take i).length := by rw [List.length_take]; omega
  have : (s.take i)[k] = x := by
    have h1 : (s.take i)[k]? = some x := by rw [List.getElem?_take_of_lt hk]; exact hx
    rw [List.getElem?_eq_getElem hk2] at h1
    exact Option.some.inj h1
  rw [List.drop_eq_getElem_cons hk2, this, List.any_cons]
theorem beqN (x b : UInt8) : ((b.toNat : Int) == (x.toNat : Int)) = (x == b) := by
  rw [Bool.eq_iff_iff, beq_iff_eq, beq_iff_eq]
  exact ⟨fun h => UInt8.toNat_inj.1 (by omega), fun h => by rw [h]⟩
theorem w694 (s : List UInt8) (hs : s.length ≤ 1000000) (lim d : Nat) (σ : Sto) (hu : σ.Und d) : Ret lim d 47 [.str s] σ (.bool (twB s)) σ := by
  have hun := und_succ hu
  rw [← twR_nil]
  unfold Ret
  rw [WF_body (C := X) rfl Go.Proofs.Tryz.func47 rfl (by kernel_rfl)]; simp only [Go.Proofs.Tryz.results47]
  simp -implicitDefEqProofs -dsimp only [↓reduceIte, ↓W_seq, go_sem, WR_nil, evNews, Nat.reduceEqDiff, Nat.reduceAdd, Nat.reduceMul, Nat.reduceLeDiff, Nat.reduceLT, Int.cast_ofNat_Int, Int.reduceBNe, Int.reduceToNat, Int.reduceLT, Int.reduceLE, Int.reduceAdd, Int.reduceNeg, Int.reduceEq, reduceCtorEq, enc]
  refine loop_h (I := fun k a st => ∃ (i : Nat), i + k = s.length ∧ a 7 = .int .i64 i ∧ a 6 = .int .i64 s.length ∧ a 0 = .str s ∧ twR (s.take i) (s.drop i) = twR [] s ∧ st = σ) ?_ s.length _ _ ?_
  · rintro k a st ⟨i, hk, h7, h6, h0, hE, rfl⟩
    by_cases hi : i < s.length
    · have e1 : ((i : Int) < (s.length : Int)) := by omega
      have x1 : IntKind.i64.wrap ((i : Int) + 1) = ((i + 1 : Nat) : Int) := by rw [wr64 _ (by omega) (by omega)]; omega
      have hb : s[i]? = some s[i] := List.getElem?_eq_getElem hi
      rw [List.drop_eq_getElem_cons hi, twR, ← List.take_succ_eq_append_getElem hi] at hE
      generalize s[i] = b at hb hE
      simp -implicitDefEqProofs -dsimp only [↓reduceIte, ↓W_seq, go_sem, WR_nil, evNews, Nat.reduceEqDiff, Nat.reduceAdd, Nat.reduceMul, Nat.reduceLeDiff, Nat.reduceLT, Int.cast_ofNat_Int, Int.reduceBNe, Int.reduceToNat, Int.reduceLT, Int.reduceLE, Int.reduceAdd, Int.reduceNeg, Int.reduceEq, reduceCtorEq, enc, e1, h7, h6, h0]
      refine loop_h (I := fun q a st' => ∃ (j : Nat), j + q = i ∧ a 11 = .int .i64 j ∧ a 10 = .int .i64 i ∧ a 3 = .int .i64 i ∧ a 7 = .int .i64 i ∧ a 6 = .int .i64 s.length ∧ a 0 = .str s ∧ ((s.take i).drop j).any (· == b) = (s.take i).any (· == b) ∧ st' = st) ?_ i _ _ ?_
      · rintro q a st' ⟨j, hj, g11, g10, g3, g7, g6, g0, hF, rfl⟩
        by_cases hji : j < i
        · have f1 : ((j : Int) < (i : Int)) := by omega
          have y1 : IntKind.i64.wrap ((j : Int) + 1) = ((j + 1 : Nat) : Int) := by rw [wr64 _ (by omega) (by omega)]; omega
          have hx : s[j]? = some s[j] := List.getElem?_eq_getElem (by omega)
          generalize s[j]'(by omega) = x at hx
          rw [any_take hji (by omega) hx] at hF
          have hxb := beqN x b
          simp -implicitDefEqProofs -dsimp only [↓reduceIte, ↓W_seq, go_sem, WR_nil, evNews, Nat.reduceEqDiff, Nat.reduceAdd, Nat.reduceMul, Nat.reduceLeDiff, Nat.reduceLT, Int.cast_ofNat_Int, Int.reduceBNe, Int.reduceToNat, Int.reduceLT, Int.reduceLE, Int.reduceAdd, Int.reduceNeg, Int.reduceEq, reduceCtorEq, enc, f1, g11, g10, g3, g7, g6, g0]
          rw [D_dr (by kernel_rfl) rfl]
          cases hq : x == b
          · rw [hq, Bool.false_or] at hF
            rw [hq] at hxb
            simp -implicitDefEqProofs -dsimp only [↓reduceIte, ↓W_seq, go_sem, WR_nil, evNews, Nat.reduceEqDiff, Nat.reduceAdd, Nat.reduceMul, Nat.reduceLeDiff, Nat.reduceLT, Int.cast_ofNat_Int, Int.reduceBNe, Int.reduceToNat, Int.reduceLT, Int.reduceLE, Int.reduceAdd, Int.reduceNeg, Int.reduceEq, reduceCtorEq, enc, f1, g11, g10, g3, g7, g6, g0, hb, hx, hxb, y1]
            exact ⟨q - 1, by omega, j + 1, by omega, rfl, hF⟩
          · rw [hq, Bool.true_or] at hF
            rw [hq] at hxb
            rw [← hF, Bool.true_or] at hE
            simp -implicitDefEqProofs -dsimp only [↓reduceIte, ↓W_seq, go_sem, WR_nil, evNews, Nat.reduceEqDiff, Nat.reduceAdd, Nat.reduceMul, Nat.reduceLeDiff, Nat.reduceLT, Int.cast_ofNat_Int, Int.reduceBNe, Int.reduceToNat, Int.reduceLT, Int.reduceLE, Int.reduceAdd, Int.reduceNeg, Int.reduceEq, reduceCtorEq, enc, f1, g11, g10, g3, g7, g6, g0, hb, hx, hxb, ← hE, cut_und _ _ hu]
        · have f1 : ¬ ((j : Int) < (i : Int)) := by omega
          have hn : (s.take i).any (· == b) = false := by rw [← hF, List.drop_eq_nil_of_le (by rw [List.length_take]; omega)]; rfl
          rw [hn, Bool.false_or] at hE
          simp -implicitDefEqProofs -dsimp only [↓reduceIte, ↓W_seq, go_sem, WR_nil, evNews, Nat.reduceEqDiff, Nat.reduceAdd, Nat.reduceMul, Nat.reduceLeDiff, Nat.reduceLT, Int.cast_ofNat_Int, Int.reduceBNe, Int.reduceToNat, Int.reduceLT, Int.reduceLE, Int.reduceAdd, Int.reduceNeg, Int.reduceEq, reduceCtorEq, enc, f1, g11, g10, g3, g7, g6, g0, x1]
          exact ⟨k - 1, by omega, i + 1, by omega, rfl, hE⟩
      · refine ⟨0, Nat.zero_add _, ?_⟩
        simp -implicitDefEqProofs -dsimp only [↓reduceIte, ↓W_seq, go_sem, WR_nil, evNews, Nat.reduceEqDiff, Nat.reduceAdd, Nat.reduceMul, Nat.reduceLeDiff, Nat.reduceLT, Int.cast_ofNat_Int, Int.reduceBNe, Int.reduceToNat, Int.reduceLT, Int.reduceLE, Int.reduceAdd, Int.reduceNeg, Int.reduceEq, reduceCtorEq, enc, List.drop_zero, h7, h6, h0]
    · have e1 : ¬ ((i : Int) < (s.length : Int)) := by omega
      rw [List.drop_eq_nil_of_le (by omega)] at hE
      simp -implicitDefEqProofs -dsimp only [↓reduceIte, ↓W_seq, go_sem, WR_nil, evNews, Nat.reduceEqDiff, Nat.reduceAdd, Nat.reduceMul, Nat.reduceLeDiff, Nat.reduceLT, Int.cast_ofNat_Int, Int.reduceBNe, Int.reduceToNat, Int.reduceLT, Int.reduceLE, Int.reduceAdd, Int.reduceNeg, Int.reduceEq, reduceCtorEq, enc, e1, h7, h6, h0, ← hE, twR, cut_und _ _ hu]
  · refine ⟨0, Nat.zero_add _, ?_⟩
    simp -implicitDefEqProofs -dsimp only [↓reduceIte, ↓W_seq, go_sem, WR_nil, evNews, Nat.reduceEqDiff, Nat.reduceAdd, Nat.reduceMul, Nat.reduceLeDiff, Nat.reduceLT, Int.cast_ofNat_Int, Int.reduceBNe, Int.reduceToNat, Int.reduceLT, Int.reduceLE, Int.reduceAdd, Int.reduceNeg, Int.reduceEq, reduceCtorEq, enc, List.drop_zero, List.take_zero]
/-- A blank. -/
def bl (b : UInt8) : Bool := ([32, 9] : List UInt8).contains b
theorem inS_bl (b : UInt8) : inS [32, 9] (b.toNat : Int) = bl b := by
  have : ∀ n : Fin 256, inS [32, 9] ((UInt8.ofNat n).toNat : Int) = bl (UInt8.ofNat n) := by decide
  have h := this ⟨b.toNat, UInt8.toNat_lt b⟩
  simpa using h
theorem inS_sg (b : UInt8) : inS [10, 59, 125] (b.toNat : Int) = ([10, 59, 125] : List UInt8).contains b := by
  have : ∀ n : Fin 256, inS [10, 59, 125] ((UInt8.ofNat n).toNat : Int) = ([10, 59, 125] : List UInt8).contains (UInt8.ofNat n) := by decide
  have h := this ⟨b.toNat, UInt8.toNat_lt b⟩
  simpa using h
theorem dropW_len (p : UInt8 → Bool) : ∀ l : List UInt8, (l.dropWhile p).length ≤ l.length
  | [] => Nat.le_refl _
  | b :: l => by
    rw [List.dropWhile_cons]
    split
    · exact Nat.le_succ_of_le (dropW_len p l)
    · exact Nat.le_refl _
theorem dropW_self (p : UInt8 → Bool) (b : UInt8) (l : List UInt8) : ((b :: l).dropWhile p == b :: l) = !p b := by
  rw [List.dropWhile_cons]
  cases h : p b
  · simp
  · have := dropW_len p l
    simp only [if_true, Bool.not_true]
    rw [beq_eq_false_iff_ne]
    intro e
    rw [e] at this
    simp at this
    omega
/-- A text that isn't empty stays whole just if no blank stands at its ends. -/
theorem trimB_self {s : List UInt8} {b c : UInt8} (hb : s[0]? = some b) (hc : s[s.length - 1]? = some c) : (trimB s == s) = (!bl b && !bl c) := by
  obtain ⟨r, hr⟩ : ∃ r, s.reverse = c :: r := by
    cases h : s.reverse with
    | nil => rw [List.reverse_eq_nil_iff] at h; subst h; simp at hb
    | cons x r =>
      refine ⟨r, ?_⟩
      have h1 : s.reverse[0]? = some x := by rw [h]; rfl
      have hl : 0 < s.length := (List.getElem?_eq_some_iff.1 hb).1
      rw [List.getElem?_reverse hl, Nat.sub_zero, hc] at h1
      cases h1
      rfl
  obtain ⟨t, rfl⟩ : ∃ t, s = b :: t := by
    cases s with
    | nil => simp at hb
    | cons x t => simp at hb; subst hb; exact ⟨t, rfl⟩
  unfold trimB
  have hd := dropW_self (([32, 9] : List UInt8).contains ·) c r
  have hh := dropW_self (([32, 9] : List UInt8).contains ·) b t
  rw [hr]
  cases h2 : bl c
  · have e : (c :: r).dropWhile (([32, 9] : List UInt8).contains ·) = c :: r := by
      have : ((c :: r).dropWhile (([32, 9] : List UInt8).contains ·) == c :: r) = true := by rw [hd]; show (!bl c) = true; rw [h2]; rfl
      exact beq_iff_eq.1 this
    rw [e, ← hr, List.reverse_reverse, hh]
    show (!bl b) = _
    simp
  · rw [Bool.not_true, Bool.and_false, beq_eq_false_iff_ne]
    intro e
    have l1 := dropW_len (([32, 9] : List UInt8).contains ·) ((c :: r).dropWhile (([32, 9] : List UInt8).contains ·)).reverse
    rw [e, List.length_reverse] at l1
    have l2 : ((c :: r).dropWhile (([32, 9] : List UInt8).contains ·)).length ≤ r.length := by
      rw [List.dropWhile_cons]
      have : ([32, 9] : List UInt8).contains c = true := h2
      simp only [this, if_true]
      exact dropW_len _ _
    have l3 : (b :: t).length = r.length + 1 := by rw [← List.length_reverse, hr]; rfl
    omega
theorem w691 (s : List UInt8) (lim d : Nat) (σ : Sto) (hu : σ.Und d) : Ret lim d 44 [.str s] σ (.bool (labB s)) σ := by
  have hun := und_succ hu
  unfold Ret
  rw [WF_body (C := X) rfl Go.Proofs.Tryz.func44 rfl (by kernel_rfl)]; simp only [Go.Proofs.Tryz.results44]
  by_cases h0 : s = []
  · subst h0
    simp -implicitDefEqProofs -dsimp only [↓reduceIte, ↓W_seq, go_sem, WR_nil, evNews, Nat.reduceEqDiff, Nat.reduceAdd, Nat.reduceMul, Nat.reduceLeDiff, Nat.reduceLT, Int.cast_ofNat_Int, Int.reduceBNe, Int.reduceToNat, Int.reduceLT, Int.reduceLE, Int.reduceAdd, Int.reduceNeg, Int.reduceEq, reduceCtorEq, enc, labB, cut_und _ _ hu]
  have hl := List.length_pos_iff.2 h0
  obtain ⟨b, hb⟩ : ∃ b, s[0]? = some b := ⟨_, List.getElem?_eq_getElem hl⟩
  obtain ⟨c, hc⟩ : ∃ c, s[s.length - 1]? = some c := ⟨_, List.getElem?_eq_getElem (by omega)⟩
  have e0 : (s == []) = false := by rw [beq_eq_false_iff_ne]; exact h0
  unfold labB
  rw [trimB_self hb hc, e0]
  by_cases h1 : s.length ≤ 20
  rotate_left
  · have e1 : (20 : Int) < (s.length : Int) := by omega
    have e2 : ¬ ((s.length : Int) < 1) := by omega
    simp -implicitDefEqProofs -dsimp only [↓reduceIte, ↓W_seq, go_sem, WR_nil, evNews, Nat.reduceEqDiff, Nat.reduceAdd, Nat.reduceMul, Nat.reduceLeDiff, Nat.reduceLT, Int.cast_ofNat_Int, Int.reduceBNe, Int.reduceToNat, Int.reduceLT, Int.reduceLE, Int.reduceAdd, Int.reduceNeg, Int.reduceEq, reduceCtorEq, enc, h1, e1, e2, cut_und _ _ hu, Bool.false_and, Bool.and_false]
  have e1 : ¬ ((20 : Int) < (s.length : Int)) := by omega
  have e2 : ¬ ((s.length : Int) < 1) := by omega
  have e3 : IntKind.i64.wrap ((s.length : Int) - 1) = ((s.length - 1 : Nat) : Int) := by rw [wr64 _ (by omega) (by omega)]; omega
  simp -implicitDefEqProofs -dsimp only [↓reduceIte, ↓W_seq, go_sem, WR_nil, evNews, Nat.reduceEqDiff, Nat.reduceAdd, Nat.reduceMul, Nat.reduceLeDiff, Nat.reduceLT, Int.cast_ofNat_Int, Int.reduceBNe, Int.reduceToNat, Int.reduceLT, Int.reduceLE, Int.reduceAdd, Int.reduceNeg, Int.reduceEq, reduceCtorEq, enc, e1, e2, hb]
  refine (w692 [32, 9] (b.toNat : Int) (by decide) lim (d + 1) _ hun).wh ?_
  rw [inS_bl]
  cases h3 : bl b
  rotate_left
  · simp -implicitDefEqProofs -dsimp only [↓reduceIte, ↓W_seq, go_sem, WR_nil, evNews, Nat.reduceEqDiff, Nat.reduceAdd, Nat.reduceMul, Nat.reduceLeDiff, Nat.reduceLT, Int.cast_ofNat_Int, Int.reduceBNe, Int.reduceToNat, Int.reduceLT, Int.reduceLE, Int.reduceAdd, Int.reduceNeg, Int.reduceEq, reduceCtorEq, enc, cut_und _ _ hu, Bool.false_and, Bool.and_false, Bool.not_true]
  simp -implicitDefEqProofs -dsimp only [↓reduceIte, ↓W_seq, go_sem, WR_nil, evNews, Nat.reduceEqDiff, Nat.reduceAdd, Nat.reduceMul, Nat.reduceLeDiff, Nat.reduceLT, Int.cast_ofNat_Int, Int.reduceBNe, Int.reduceToNat, Int.reduceLT, Int.reduceLE, Int.reduceAdd, Int.reduceNeg, Int.reduceEq, reduceCtorEq, enc, e3, hc]
  refine (w692 [32, 9] (c.toNat : Int) (by decide) lim (d + 1) _ hun).wh ?_
  rw [inS_bl]
  cases h4 : bl c
  rotate_left
  · simp -implicitDefEqProofs -dsimp only [↓reduceIte, ↓W_seq, go_sem, WR_nil, evNews, Nat.reduceEqDiff, Nat.reduceAdd, Nat.reduceMul, Nat.reduceLeDiff, Nat.reduceLT, Int.cast_ofNat_Int, Int.reduceBNe, Int.reduceToNat, Int.reduceLT, Int.reduceLE, Int.reduceAdd, Int.reduceNeg, Int.reduceEq, reduceCtorEq, enc, cut_und _ _ hu, Bool.false_and, Bool.and_false, Bool.not_true]
  simp only [decide_eq_true h1, Bool.not_false, Bool.true_and, Bool.and_true]
  simp -implicitDefEqProofs -dsimp only [↓reduceIte, ↓W_seq, go_sem, WR_nil, evNews, Nat.reduceEqDiff, Nat.reduceAdd, Nat.reduceMul, Nat.reduceLeDiff, Nat.reduceLT, Int.cast_ofNat_Int, Int.reduceBNe, Int.reduceToNat, Int.reduceLT, Int.reduceLE, Int.reduceAdd, Int.reduceNeg, Int.reduceEq, reduceCtorEq, enc]
  refine loop_h (I := fun k a st => ∃ (i : Nat), i + k = s.length ∧ a 27 = .int .i64 i ∧ a 26 = .int .i64 s.length ∧ a 0 = .str s ∧ (s.drop i).any (([10, 59, 125] : List UInt8).contains ·) = s.any (([10, 59, 125] : List UInt8).contains ·) ∧ st = σ) ?_ s.length _ _ ?_
  · rintro k a st ⟨i, hk, h27, h26, g0, hE, rfl⟩
    by_cases hi : i < s.length
    · have f1 : ((i : Int) < (s.length : Int)) := by omega
      have x1 : IntKind.i64.wrap ((i : Int) + 1) = ((i + 1 : Nat) : Int) := by rw [wr64 _ (by omega) (by omega)]; omega
      have hx : s[i]? = some s[i] := List.getElem?_eq_getElem hi
      rw [List.drop_eq_getElem_cons hi, List.any_cons] at hE
      generalize s[i] = x at hx hE
      simp -implicitDefEqProofs -dsimp only [↓reduceIte, ↓W_seq, go_sem, WR_nil, evNews, Nat.reduceEqDiff, Nat.reduceAdd, Nat.reduceMul, Nat.reduceLeDiff, Nat.reduceLT, Int.cast_ofNat_Int, Int.reduceBNe, Int.reduceToNat, Int.reduceLT, Int.reduceLE, Int.reduceAdd, Int.reduceNeg, Int.reduceEq, reduceCtorEq, enc, f1, h27, h26, g0, hx]
      refine (w692 [10, 59, 125] (x.toNat : Int) (by decide) lim (d + 1) _ hun).wh ?_
      rw [inS_sg]
      cases hq : ([10, 59, 125] : List UInt8).contains x
      · rw [hq, Bool.false_or] at hE
        simp -implicitDefEqProofs -dsimp only [↓reduceIte, ↓W_seq, go_sem, WR_nil, evNews, Nat.reduceEqDiff, Nat.reduceAdd, Nat.reduceMul, Nat.reduceLeDiff, Nat.reduceLT, Int.cast_ofNat_Int, Int.reduceBNe, Int.reduceToNat, Int.reduceLT, Int.reduceLE, Int.reduceAdd, Int.reduceNeg, Int.reduceEq, reduceCtorEq, enc, h27, h26, g0, x1]
        exact ⟨k - 1, by omega, i + 1, by omega, rfl, hE⟩
      · rw [hq, Bool.true_or] at hE
        simp -implicitDefEqProofs -dsimp only [↓reduceIte, ↓W_seq, go_sem, WR_nil, evNews, Nat.reduceEqDiff, Nat.reduceAdd, Nat.reduceMul, Nat.reduceLeDiff, Nat.reduceLT, Int.cast_ofNat_Int, Int.reduceBNe, Int.reduceToNat, Int.reduceLT, Int.reduceLE, Int.reduceAdd, Int.reduceNeg, Int.reduceEq, reduceCtorEq, enc, ← hE, cut_und _ _ hu]
    · have f1 : ¬ ((i : Int) < (s.length : Int)) := by omega
      rw [List.drop_eq_nil_of_le (by omega), List.any_nil] at hE
      simp -implicitDefEqProofs -dsimp only [↓reduceIte, ↓W_seq, go_sem, WR_nil, evNews, Nat.reduceEqDiff, Nat.reduceAdd, Nat.reduceMul, Nat.reduceLeDiff, Nat.reduceLT, Int.cast_ofNat_Int, Int.reduceBNe, Int.reduceToNat, Int.reduceLT, Int.reduceLE, Int.reduceAdd, Int.reduceNeg, Int.reduceEq, reduceCtorEq, enc, f1, h27, h26, g0, ← hE, cut_und _ _ hu]
  · refine ⟨0, Nat.zero_add _, ?_⟩
    simp -implicitDefEqProofs -dsimp only [↓reduceIte, ↓W_seq, go_sem, WR_nil, evNews, Nat.reduceEqDiff, Nat.reduceAdd, Nat.reduceMul, Nat.reduceLeDiff, Nat.reduceLT, Int.cast_ofNat_Int, Int.reduceBNe, Int.reduceToNat, Int.reduceLT, Int.reduceLE, Int.reduceAdd, Int.reduceNeg, Int.reduceEq, reduceCtorEq, enc, List.drop_zero]
theorem w693 (s : List UInt8) (lim d : Nat) (σ : Sto) (hu : σ.Und d) : Ret lim d 46 [.str s] σ (.bool (filB s)) σ := by
  have hun := und_succ hu
  unfold Ret
  rw [WF_body (C := X) rfl Go.Proofs.Tryz.func46 rfl (by kernel_rfl)]; simp only [Go.Proofs.Tryz.results46]
  cases s with
  | nil => simp -implicitDefEqProofs -dsimp only [↓reduceIte, ↓W_seq, go_sem, WR_nil, evNews, Nat.reduceEqDiff, Nat.reduceAdd, Nat.reduceMul, Nat.reduceLeDiff, Nat.reduceLT, Int.cast_ofNat_Int, Int.reduceBNe, Int.reduceToNat, Int.reduceLT, Int.reduceLE, Int.reduceAdd, Int.reduceNeg, Int.reduceEq, reduceCtorEq, enc, filB, cut_und _ _ hu]
  | cons b r =>
    have e2 : (1 : Int) ≤ ((b :: r).length : Int) := by simp only [List.length_cons]; omega
    have e0 : ((b :: r) == ([] : List UInt8)) = false := rfl
    by_cases h1 : (b :: r).length ≤ 20
    rotate_left
    · have e1 : ¬ (((b :: r).length : Int) ≤ 20) := by omega
      unfold filB
      simp only [e0, decide_eq_false h1, Bool.false_and, Bool.and_false]
      generalize hL : b :: r = s at *
      simp -implicitDefEqProofs -dsimp only [↓reduceIte, ↓W_seq, go_sem, WR_nil, evNews, Nat.reduceEqDiff, Nat.reduceAdd, Nat.reduceMul, Nat.reduceLeDiff, Nat.reduceLT, Int.cast_ofNat_Int, Int.reduceBNe, Int.reduceToNat, Int.reduceLT, Int.reduceLE, Int.reduceAdd, Int.reduceNeg, Int.reduceEq, reduceCtorEq, enc, e2, e1, cut_und _ _ hu]
    have e1 : ((b :: r).length : Int) ≤ 20 := by omega
    have hb : (b :: r)[0]? = some b := rfl
    have hw := w692 (b :: r) 10 (by omega) lim (d + 1)
    have h32 : ((b.toNat : Int) == 32) = (b == 32) := (beqN 32 b).trans (by rw [Bool.eq_iff_iff, beq_iff_eq, beq_iff_eq, eq_comm])
    have h9 : ((b.toNat : Int) == 9) = (b == 9) := (beqN 9 b).trans (by rw [Bool.eq_iff_iff, beq_iff_eq, beq_iff_eq, eq_comm])
    unfold filB
    simp only [e0, decide_eq_true h1]
    generalize b :: r = s at *
    simp -implicitDefEqProofs -dsimp only [↓reduceIte, ↓W_seq, go_sem, WR_nil, evNews, Nat.reduceEqDiff, Nat.reduceAdd, Nat.reduceMul, Nat.reduceLeDiff, Nat.reduceLT, Int.cast_ofNat_Int, Int.reduceBNe, Int.reduceToNat, Int.reduceLT, Int.reduceLE, Int.reduceAdd, Int.reduceNeg, Int.reduceEq, reduceCtorEq, enc, e2, e1]
    refine (hw _ hun).wh ?_
    cases h2 : inS s 10
    rotate_left
    · simp -implicitDefEqProofs -dsimp only [↓reduceIte, ↓W_seq, go_sem, WR_nil, evNews, Nat.reduceEqDiff, Nat.reduceAdd, Nat.reduceMul, Nat.reduceLeDiff, Nat.reduceLT, Int.cast_ofNat_Int, Int.reduceBNe, Int.reduceToNat, Int.reduceLT, Int.reduceLE, Int.reduceAdd, Int.reduceNeg, Int.reduceEq, reduceCtorEq, enc, cut_und _ _ hu]
    cases h3 : b == 32
    rotate_left
    · rw [h3] at h32
      have h32' : ((b.toNat : Int) != 32) = false := by rw [bne, h32]; rfl
      simp -implicitDefEqProofs -dsimp only [↓reduceIte, ↓W_seq, go_sem, WR_nil, evNews, Nat.reduceEqDiff, Nat.reduceAdd, Nat.reduceMul, Nat.reduceLeDiff, Nat.reduceLT, Int.cast_ofNat_Int, Int.reduceBNe, Int.reduceToNat, Int.reduceLT, Int.reduceLE, Int.reduceAdd, Int.reduceNeg, Int.reduceEq, reduceCtorEq, enc, hb, h32', cut_und _ _ hu]
    rw [h3] at h32
    have h32' : ((b.toNat : Int) != 32) = true := by rw [bne, h32]; rfl
    cases h4 : b == 9
    · rw [h4] at h9
      have h9' : ((b.toNat : Int) != 9) = true := by rw [bne, h9]; rfl
      simp -implicitDefEqProofs -dsimp only [↓reduceIte, ↓W_seq, go_sem, WR_nil, evNews, Nat.reduceEqDiff, Nat.reduceAdd, Nat.reduceMul, Nat.reduceLeDiff, Nat.reduceLT, Int.cast_ofNat_Int, Int.reduceBNe, Int.reduceToNat, Int.reduceLT, Int.reduceLE, Int.reduceAdd, Int.reduceNeg, Int.reduceEq, reduceCtorEq, enc, hb, h32', h9', cut_und _ _ hu]
    · rw [h4] at h9
      have h9' : ((b.toNat : Int) != 9) = false := by rw [bne, h9]; rfl
      simp -implicitDefEqProofs -dsimp only [↓reduceIte, ↓W_seq, go_sem, WR_nil, evNews, Nat.reduceEqDiff, Nat.reduceAdd, Nat.reduceMul, Nat.reduceLeDiff, Nat.reduceLT, Int.cast_ofNat_Int, Int.reduceBNe, Int.reduceToNat, Int.reduceLT, Int.reduceLE, Int.reduceAdd, Int.reduceNeg, Int.reduceEq, reduceCtorEq, enc, hb, h32', h9', cut_und _ _ hu]
end Go.Proofs.Tryz.E
