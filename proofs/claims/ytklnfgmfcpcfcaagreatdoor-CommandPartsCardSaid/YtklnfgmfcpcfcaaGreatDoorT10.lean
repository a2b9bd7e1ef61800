/- Walks: what the functions compute. -/
import Derived.Test.YtklnfgmfcpcfcaaGreatDoorT9
import Derived.Test.YtklnfgmfcpcfcaaGreatDoorE38c
set_option linter.unusedVariables false
set_option linter.unusedSimpArgs false
/- The law CommandParts: what it computes. -/
namespace Go.Proofs.Tryz.E
open Go.Mv
set_option maxHeartbeats 4000000
set_option maxRecDepth 20000
/-- Parts, each of bytes or of a group, no two of bytes side by side. -/
def okP : Bool → List Pt → Bool
  | _, [] => true
  | b, p :: r => ((p.1 == -1) == !(p.2 == [])) && !(b && p.1 == -1) && okP (p.1 == -1) r
theorem okP_fl {t : List UInt8} {n : Int} {l : List Pt} (hn : 0 ≤ n) (h : okP false l = true) : okP false (flP t ++ (n, []) :: l) = true := by
  have h1 : (n == -1) = false := by rw [beq_eq_false_iff_ne]; omega
  by_cases ht : t = []
  · subst ht
    simp [flP_nil, okP, h1, h]
  · have h2 : (t == []) = false := by rw [beq_eq_false_iff_ne]; exact ht
    simp [flP_some ht, okP, h1, h, ht]
theorem okP_e (t : List UInt8) : okP false (flP t) = true := by
  by_cases ht : t = []
  · subst ht; rfl
  · simp [flP_some ht, okP, ht]
theorem okP_parts : ∀ (n : Nat) (s t : List UInt8), s.length ≤ n → okP false (partsP s t) = true
  | _, [], t, _ => by rw [partsE]; exact okP_e t
  | 0, _ :: _, _, h => by simp at h
  | n + 1, [c], t, _ => by
    rw [partsP]
    split
    · exact okP_fl (Int.le_refl 0) rfl
    · exact okP_e _
  | n + 1, c :: e :: r, t, h => by
    simp only [List.length_cons] at h
    rw [partsP]
    split
    · exact okP_fl (Int.le_refl 0) (okP_parts n _ _ (by simp only [List.length_cons]; omega))
    · split
      · split
        · exact okP_fl (by omega) (okP_parts n _ _ (by omega))
        · split
          · exact okP_parts n _ _ (by omega)
          · exact okP_parts n _ _ (by omega)
      · exact okP_parts n _ _ (by simp only [List.length_cons]; omega)
theorem okP_at : ∀ (l : List Pt) (b : Bool) (i : Nat) (p : Pt), okP b l = true → l[i]? = some p → (p.1 == -1) = !(p.2 == [])
  | [], _, _, _, _, h => by simp at h
  | q :: r, b, 0, p, h, hp => by
    simp at hp
    subst hp
    simp only [okP, Bool.and_eq_true] at h
    exact beq_iff_eq.1 h.1.1
  | q :: r, b, i + 1, p, h, hp => by
    simp only [okP, Bool.and_eq_true] at h
    exact okP_at r _ i p h.2 (by simpa using hp)
theorem okP_next : ∀ (l : List Pt) (b : Bool) (i : Nat) (p q : Pt), okP b l = true → l[i]? = some q → l[i + 1]? = some p → (p.1 == -1) = true → (q.1 == -1) = false
  | [], _, _, _, _, _, h, _, _ => by simp at h
  | [x], _, 0, _, _, _, _, h, _ => by simp at h
  | x :: y :: r, b, 0, p, q, h, hq, hp, e => by
    simp at hp hq
    subst hp hq
    simp only [okP, Bool.and_eq_true] at h
    have := h.2.1.2
    rw [e, Bool.and_true] at this
    simpa using this
  | x :: r, b, i + 1, p, q, h, hq, hp, e => by
    simp only [okP, Bool.and_eq_true] at h
    exact okP_next r _ i p q h.2 (by simpa using hq) (by simpa using hp) e
theorem parts_len : ∀ (n : Nat) (s t : List UInt8), s.length ≤ n → (partsP s t).length ≤ s.length + t.length
  | _, [], t, _ => by rw [partsE]; simpa using flP_len t
  | 0, _ :: _, _, h => by simp at h
  | n + 1, [c], t, _ => by
    have := flP_len t
    rw [partsP]
    split
    · simp only [List.length_append, List.length_cons, List.length_nil]; omega
    · have := flP_len (t ++ [c])
      simp only [List.length_append, List.length_cons, List.length_nil] at *; omega
  | n + 1, c :: e :: r, t, h => by
    simp only [List.length_cons] at h
    have hf := flP_len t
    rw [partsP]
    split
    · have := parts_len n (e :: r) [] (by simp only [List.length_cons]; omega)
      simp only [List.length_append, List.length_cons, List.length_nil] at *; omega
    · split
      · split
        · have := parts_len n r [] (by omega)
          simp only [List.length_append, List.length_cons, List.length_nil] at *; omega
        · split
          · have := parts_len n r (t ++ [10]) (by omega)
            simp only [List.length_append, List.length_cons, List.length_nil] at *; omega
          · have := parts_len n r (t ++ [e]) (by omega)
            simp only [List.length_append, List.length_cons, List.length_nil] at *; omega
      · have := parts_len n (e :: r) (t ++ [c]) (by simp only [List.length_cons]; omega)
        simp only [List.length_append, List.length_cons, List.length_nil] at *; omega
theorem awkP_ev : tells (mev X 60 2 2 6 [] s0) = some true := by kernel_rfl
theorem w654P (lim d : Nat) (hlim : lim = 0) (hd : d = 2) : Ret lim d 6 [] s0 (.bool true) s0 := by
  subst hlim hd
  exact closed_wf X_ok.keep X_lm rfl (und0 2) (by omega) awkP_ev
theorem bin_bneq (x y : Bool) : binO X.P X.eqT .neq 4 (.bool x) (.bool y) = some (.bool (!(x == y))) := by
  cases x <;> cases y <;> kernel_rfl
section
set_option maxHeartbeats 8000000
theorem w653 (s : List UInt8) (lim d : Nat) (hlim : lim = 0) (hd : d = 1) : Ret lim d 3 [.str s] s0 (.bool true) s0 := by
  have hu : s0.Und 1 := und0 1
  have hun : s0.Und 2 := und0 2
  have hA := w654P 0 2 rfl rfl
  unfold Ret
  subst hlim hd
  rw [WF_body (C := X) rfl Go.Proofs.Tryz.func3 rfl (by kernel_rfl)]; simp only [Go.Proofs.Tryz.results3]
  simp -implicitDefEqProofs -dsimp only [↓reduceIte, ↓W_seq, go_sem, WR_nil, evNews, Nat.reduceEqDiff, Nat.reduceAdd, Nat.reduceMul, Nat.reduceLeDiff, Nat.reduceLT, Int.cast_ofNat_Int, Int.reduceBNe, Int.reduceToNat, Int.reduceLT, Int.reduceLE, Int.reduceAdd, Int.reduceNeg, Int.reduceEq, reduceCtorEq, enc]
  refine hA.wh ?_
  by_cases hl : s.length ≤ 1500
  rotate_left
  · have e1 : ((1500 : Int) < (s.length : Int)) := by omega
    simp -implicitDefEqProofs -dsimp only [↓reduceIte, ↓W_seq, go_sem, WR_nil, evNews, Nat.reduceEqDiff, Nat.reduceAdd, Nat.reduceMul, Nat.reduceLeDiff, Nat.reduceLT, Int.cast_ofNat_Int, Int.reduceBNe, Int.reduceToNat, Int.reduceLT, Int.reduceLE, Int.reduceAdd, Int.reduceNeg, Int.reduceEq, reduceCtorEq, enc, e1]
    refine hA.wh ?_
    simp -implicitDefEqProofs -dsimp only [↓reduceIte, ↓W_seq, go_sem, WR_nil, evNews, Nat.reduceEqDiff, Nat.reduceAdd, Nat.reduceMul, Nat.reduceLeDiff, Nat.reduceLT, Int.cast_ofNat_Int, Int.reduceBNe, Int.reduceToNat, Int.reduceLT, Int.reduceLE, Int.reduceAdd, Int.reduceNeg, Int.reduceEq, reduceCtorEq, enc, cut_und _ _ hu]
  have e1 : ¬ ((1500 : Int) < (s.length : Int)) := by omega
  simp -implicitDefEqProofs -dsimp only [↓reduceIte, ↓W_seq, go_sem, WR_nil, evNews, Nat.reduceEqDiff, Nat.reduceAdd, Nat.reduceMul, Nat.reduceLeDiff, Nat.reduceLT, Int.cast_ofNat_Int, Int.reduceBNe, Int.reduceToNat, Int.reduceLT, Int.reduceLE, Int.reduceAdd, Int.reduceNeg, Int.reduceEq, reduceCtorEq, enc, e1]
  refine (w662 s (by omega) 0 2 s0 (Nat.zero_le _) hun).wh ?_
  have hpl := parts_len s.length s [] (Nat.le_refl _)
  have hok := okP_parts s.length s [] (Nat.le_refl _)
  simp only [List.length_nil, Nat.add_zero] at hpl
  have hw3 := w663 (partsP s []) (by omega) 0 2 s0 (Nat.zero_le _) hun
  have hw4 := w664 s (by omega) 0 2 s0 (Nat.zero_le _) hun
  generalize hP : partsP s [] = l at *
  simp -implicitDefEqProofs -dsimp only [↓reduceIte, ↓W_seq, go_sem, WR_nil, evNews, Nat.reduceEqDiff, Nat.reduceAdd, Nat.reduceMul, Nat.reduceLeDiff, Nat.reduceLT, Int.cast_ofNat_Int, Int.reduceBNe, Int.reduceToNat, Int.reduceLT, Int.reduceLE, Int.reduceAdd, Int.reduceNeg, Int.reduceEq, reduceCtorEq, enc, encPs_len]
  refine loop_h (I := fun k a st => ∃ (i : Nat), i + k = l.length ∧ a 17 = .int .i64 i ∧ a 16 = .int .i64 l.length ∧ a 0 = .str s ∧ a 3 = .sl .no (encPs l) ∧ st = s0) ?_ l.length _ _ ?_
  · rintro k a st ⟨i, hk, h17, h16, h0, h3, rfl⟩
    by_cases hi : i < l.length
    · have g1 : ((i : Int) < (l.length : Int)) := by omega
      have x1 : IntKind.i64.wrap ((i : Int) + 1) = ((i + 1 : Nat) : Int) := by rw [wr64 _ (by omega) (by omega)]; omega
      have hp : l[i]? = some l[i] := List.getElem?_eq_getElem hi
      have hat := okP_at l false i _ hok hp
      have hel := encPs_at hi
      generalize hpe : l[i] = p at *
      obtain ⟨n, t⟩ := p
      simp only at hat
      simp -implicitDefEqProofs -dsimp only [↓reduceIte, ↓W_seq, go_sem, WR_nil, evNews, Nat.reduceEqDiff, Nat.reduceAdd, Nat.reduceMul, Nat.reduceLeDiff, Nat.reduceLT, Int.cast_ofNat_Int, Int.reduceBNe, Int.reduceToNat, Int.reduceLT, Int.reduceLE, Int.reduceAdd, Int.reduceNeg, Int.reduceEq, reduceCtorEq, enc, g1, h17, h16, h0, h3]
      rw [D_dr (by kernel_rfl) rfl]
      by_cases hn : n = -1
      · subst hn
        have ht : (t == []) = false := by simpa using hat
        by_cases hi0 : i = 0
        · subst hi0
          simp -implicitDefEqProofs -dsimp only [↓reduceIte, ↓W_seq, go_sem, WR_nil, evNews, Nat.reduceEqDiff, Nat.reduceAdd, Nat.reduceMul, Nat.reduceLeDiff, Nat.reduceLT, Int.cast_ofNat_Int, Int.reduceBNe, Int.reduceToNat, Int.reduceLT, Int.reduceLE, Int.reduceAdd, Int.reduceNeg, Int.reduceEq, reduceCtorEq, enc, g1, h17, h16, h0, h3, hel, encPt, ht, bin_bneq]
          exact ⟨k - 1, by omega, 1, by omega, rfl⟩
        · obtain ⟨j, rfl⟩ : ∃ j, i = j + 1 := ⟨i - 1, by omega⟩
          have hj : j < l.length := by omega
          have hq : l[j]? = some l[j] := List.getElem?_eq_getElem hj
          have hnx := okP_next l false j _ _ hok hq hp rfl
          have hej := encPs_at hj
          generalize l[j] = q at *
          obtain ⟨m, u⟩ := q
          simp only at hnx
          have x2 : IntKind.i64.wrap (((j + 1 : Nat) : Int) - 1) = (j : Int) := by rw [wr64 _ (by omega) (by omega)]; omega
          have g2 : (0 : Int) < ((j + 1 : Nat) : Int) := by omega
          simp -implicitDefEqProofs -dsimp only [↓reduceIte, ↓W_seq, go_sem, WR_nil, evNews, Nat.reduceEqDiff, Nat.reduceAdd, Nat.reduceMul, Nat.reduceLeDiff, Nat.reduceLT, Int.cast_ofNat_Int, Int.reduceBNe, Int.reduceToNat, Int.reduceLT, Int.reduceLE, Int.reduceAdd, Int.reduceNeg, Int.reduceEq, reduceCtorEq, enc, g1, g2, x1, x2, h17, h16, h0, h3, hel, hej, encPt, ht, hnx, bin_bneq]
          exact ⟨k - 1, by omega, j + 1 + 1, by omega, rfl⟩
      · have hn' : (n == -1) = false := by rw [beq_eq_false_iff_ne]; exact hn
        have ht : (t == []) = true := by rw [hn'] at hat; simpa using hat
        simp -implicitDefEqProofs -dsimp only [↓reduceIte, ↓W_seq, go_sem, WR_nil, evNews, Nat.reduceEqDiff, Nat.reduceAdd, Nat.reduceMul, Nat.reduceLeDiff, Nat.reduceLT, Int.cast_ofNat_Int, Int.reduceBNe, Int.reduceToNat, Int.reduceLT, Int.reduceLE, Int.reduceAdd, Int.reduceNeg, Int.reduceEq, reduceCtorEq, enc, g1, x1, h17, h16, h0, h3, hel, encPt, ht, hn', bin_bneq]
        exact ⟨k - 1, by omega, i + 1, by omega, rfl⟩
    · have g1 : ¬ ((i : Int) < (l.length : Int)) := by omega
      simp -implicitDefEqProofs -dsimp only [↓reduceIte, ↓W_seq, go_sem, WR_nil, evNews, Nat.reduceEqDiff, Nat.reduceAdd, Nat.reduceMul, Nat.reduceLeDiff, Nat.reduceLT, Int.cast_ofNat_Int, Int.reduceBNe, Int.reduceToNat, Int.reduceLT, Int.reduceLE, Int.reduceAdd, Int.reduceNeg, Int.reduceEq, reduceCtorEq, enc, g1, h17, h16, h0, h3]
      refine hw3.wh ?_
      simp -implicitDefEqProofs -dsimp only [↓reduceIte, ↓W_seq, go_sem, WR_nil, evNews, Nat.reduceEqDiff, Nat.reduceAdd, Nat.reduceMul, Nat.reduceLeDiff, Nat.reduceLT, Int.cast_ofNat_Int, Int.reduceBNe, Int.reduceToNat, Int.reduceLT, Int.reduceLE, Int.reduceAdd, Int.reduceNeg, Int.reduceEq, reduceCtorEq, enc, g1, h17, h16, h0, h3]
      refine hw4.wh ?_
      simp -implicitDefEqProofs -dsimp only [↓reduceIte, ↓W_seq, go_sem, WR_nil, evNews, Nat.reduceEqDiff, Nat.reduceAdd, Nat.reduceMul, Nat.reduceLeDiff, Nat.reduceLT, Int.cast_ofNat_Int, Int.reduceBNe, Int.reduceToNat, Int.reduceLT, Int.reduceLE, Int.reduceAdd, Int.reduceNeg, Int.reduceEq, reduceCtorEq, enc, g1, h17, h16, h0, h3]
      refine (w660 l l (by omega) 0 2 s0 hun).wh ?_
      simp -implicitDefEqProofs -dsimp only [↓reduceIte, ↓W_seq, go_sem, WR_nil, evNews, Nat.reduceEqDiff, Nat.reduceAdd, Nat.reduceMul, Nat.reduceLeDiff, Nat.reduceLT, Int.cast_ofNat_Int, Int.reduceBNe, Int.reduceToNat, Int.reduceLT, Int.reduceLE, Int.reduceAdd, Int.reduceNeg, Int.reduceEq, reduceCtorEq, enc, cut_und _ _ hu]
  · refine ⟨0, Nat.zero_add _, ?_⟩
    simp -implicitDefEqProofs -dsimp only [↓reduceIte, ↓W_seq, go_sem, WR_nil, evNews, Nat.reduceEqDiff, Nat.reduceAdd, Nat.reduceMul, Nat.reduceLeDiff, Nat.reduceLT, Int.cast_ofNat_Int, Int.reduceBNe, Int.reduceToNat, Int.reduceLT, Int.reduceLE, Int.reduceAdd, Int.reduceNeg, Int.reduceEq, reduceCtorEq, enc]
end
end Go.Proofs.Tryz.E
