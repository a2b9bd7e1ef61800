/- Walks: what the functions compute. -/
import Derived.Test.YtibjgennjjhfdaaE30
set_option linter.unusedVariables false
set_option linter.unusedSimpArgs false
/- The other reader: numbers, a repeat's bounds. -/
namespace Go.Proofs.Try.E
open Go.Mv
set_option maxHeartbeats 4000000
set_option maxRecDepth 20000
def numH (n : Int) : List UInt8 → Int
  | [] => n
  | b :: l => numH (if 1000 < n * 10 + ((b.toNat : Int) - 48) then 1000 else n * 10 + ((b.toNat : Int) - 48)) l
theorem numH_min : ∀ (l : List UInt8) (v : Nat), (∀ b ∈ l, dig b = true) → numH ((min v 1000 : Nat) : Int) l = ((min (l.foldl (fun n b => 10 * n + (b.toNat - 48)) v) 1000 : Nat) : Int)
  | [], v, _ => rfl
  | b :: l, v, h => by
    have hb := h b (List.mem_cons_self ..)
    simp only [dig, Bool.and_eq_true, decide_eq_true_eq] at hb
    rw [numH, List.foldl_cons, ← numH_min l _ fun x hx => h x (List.mem_cons_of_mem _ hx)]
    congr 1
    split <;> omega
def dgV (s : List UInt8) (n : Nat) : MV := .tup [.int .i64 (if digsAt s n = [] then -1 else if 255 < numV (digsAt s n) then -2 else (numV (digsAt s n) : Int)), .int .i64 (n + (digsAt s n).length : Nat)]
theorem w72 (s : List UInt8) (n : Nat) (hs : s.length ≤ 1000000) (hn : n ≤ s.length) (lim d : Nat) (σ : Sto) (hu : σ.Und d) : Ret lim d 72 [.str s, .int .i64 n] σ (dgV s n) σ := by
  have hA := digs_len s n
  have hAd := digs_dig s n
  have hfin := numH_min (digsAt s n) 0 hAd
  unfold Ret
  rw [WF_body (C := X) rfl Go.Proofs.Try.func72 rfl (by kernel_rfl)]; simp only [Go.Proofs.Try.results72]
  refine seq_cut (P := fun a s' => a 0 = .str s ∧ a 1 = .int .i64 n ∧ s'.cut d = σ) ?_ ?_
  rotate_left
  · simp -implicitDefEqProofs -dsimp only [↓reduceIte, not_false_eq_true, ↓W_seq, go_sem, WR_nil, evNews, if_true, if_false, and_true, true_and, Nat.reduceEqDiff, Nat.reduceAdd, Nat.reduceMul, Nat.reduceLeDiff, Nat.reduceLT, Int.cast_ofNat_Int, Int.reduceBNe, Int.reduceToNat, Int.reduceLT, Int.reduceLE, Int.reduceToNat, Int.reduceAdd, Int.reduceNeg, Int.natCast_zero, Int.natCast_one, Int.le_refl, Int.reduceEq, Int.lt_irrefl, reduceCtorEq, enc, cut_und _ _ hu]
  rintro a s' ⟨a0, a1, hcut⟩
  refine seq_cut (P := fun a s' => a 0 = .str s ∧ a 1 = .int .i64 n ∧ a 6 = .int .i64 0 ∧ a 7 = .int .i64 n ∧ s'.cut d = σ) ?_ ?_
  rotate_left
  · simp -implicitDefEqProofs -dsimp only [↓reduceIte, not_false_eq_true, ↓W_seq, go_sem, WR_nil, evNews, if_true, if_false, and_true, true_and, Nat.reduceEqDiff, Nat.reduceAdd, Nat.reduceMul, Nat.reduceLeDiff, Nat.reduceLT, Int.cast_ofNat_Int, Int.reduceBNe, Int.reduceToNat, Int.reduceLT, Int.reduceLE, Int.reduceToNat, Int.reduceAdd, Int.reduceNeg, Int.natCast_zero, Int.natCast_one, Int.le_refl, Int.reduceEq, Int.lt_irrefl, reduceCtorEq, enc, a0, a1, hcut]
  rintro a s' ⟨a0, a1, a6, a7, hcut⟩
  refine seq_cut (P := fun a s' => a 1 = .int .i64 (n + (digsAt s n).length : Nat) ∧ a 6 = .int .i64 ((min (numV (digsAt s n)) 1000 : Nat) : Int) ∧ a 7 = .int .i64 n ∧ s'.cut d = σ) ?_ ?_
  rotate_left
  · simp -implicitDefEqProofs -dsimp only [↓reduceIte, not_false_eq_true, ↓W_seq, go_sem, WR_nil, evNews, if_true, if_false, and_true, true_and, Nat.reduceEqDiff, Nat.reduceAdd, Nat.reduceMul, Nat.reduceLeDiff, Nat.reduceLT, Int.cast_ofNat_Int, Int.reduceBNe, Int.reduceToNat, Int.reduceLT, Int.reduceLE, Int.reduceToNat, Int.reduceAdd, Int.reduceNeg, Int.natCast_zero, Int.natCast_one, Int.le_refl, Int.reduceEq, Int.lt_irrefl, reduceCtorEq, enc]
    refine loop_h (I := fun f a s' => ∃ (m : Nat) (v : Int), m ≤ s.length ∧ f + m = s.length ∧ a 0 = .str s ∧ a 1 = .int .i64 m ∧ a 6 = .int .i64 v ∧ a 7 = .int .i64 n ∧ 0 ≤ v ∧ v ≤ 1000 ∧ s'.cut d = σ ∧ numH v (digsAt s m) = numH 0 (digsAt s n) ∧ m + (digsAt s m).length = n + (digsAt s n).length) ?_ (s.length - n) _ _ ?_
    · rintro f a s' ⟨m, v, hm, hf, a0, a1, a6, a7, v1, v2, hcut, hnum, hlen⟩
      have done : digsAt s m = [] → n + (digsAt s n).length = m ∧ ((min (numV (digsAt s n)) 1000 : Nat) : Int) = v := fun h => by
        rw [h] at hnum hlen
        refine ⟨by simpa using hlen.symm, ?_⟩
        rw [numV, ← hfin]
        exact hnum.symm
      rw [digs_at] at hnum hlen
      have hdm := digs_at s m
      by_cases hlt : m < s.length
      · have e1 : ((m : Int) < (s.length : Int)) := by omega
        have gm : s[m]? = some s[m] := List.getElem?_eq_getElem hlt
        rw [gm] at hnum hlen hdm
        simp only at hnum hlen hdm
        generalize s[m] = b at gm hnum hlen hdm
        cases hd : dig b
        · obtain ⟨d1, d2⟩ := done (by rw [hdm, hd]; rfl)
          simp only [dig, Bool.and_eq_false_iff, decide_eq_false_iff_not] at hd
          by_cases h48 : 48 ≤ b.toNat
          · have e2 : ((48 : Int) ≤ (b.toNat : Int)) := by omega
            have e3 : ¬ ((b.toNat : Int) ≤ 57) := by omega
            simp -implicitDefEqProofs -dsimp only [↓reduceIte, not_false_eq_true, ↓W_seq, go_sem, WR_nil, evNews, if_true, if_false, and_true, true_and, Nat.reduceEqDiff, Nat.reduceAdd, Nat.reduceMul, Nat.reduceLeDiff, Nat.reduceLT, Int.cast_ofNat_Int, Int.reduceBNe, Int.reduceToNat, Int.reduceLT, Int.reduceLE, Int.reduceToNat, Int.reduceAdd, Int.reduceNeg, Int.natCast_zero, Int.natCast_one, Int.le_refl, Int.reduceEq, Int.lt_irrefl, reduceCtorEq, enc, a0, a1, a6, a7, e1, gm, e2, e3, d1, d2, hcut]
          · have e2 : ¬ ((48 : Int) ≤ (b.toNat : Int)) := by omega
            simp -implicitDefEqProofs -dsimp only [↓reduceIte, not_false_eq_true, ↓W_seq, go_sem, WR_nil, evNews, if_true, if_false, and_true, true_and, Nat.reduceEqDiff, Nat.reduceAdd, Nat.reduceMul, Nat.reduceLeDiff, Nat.reduceLT, Int.cast_ofNat_Int, Int.reduceBNe, Int.reduceToNat, Int.reduceLT, Int.reduceLE, Int.reduceToNat, Int.reduceAdd, Int.reduceNeg, Int.natCast_zero, Int.natCast_one, Int.le_refl, Int.reduceEq, Int.lt_irrefl, reduceCtorEq, enc, a0, a1, a6, a7, e1, gm, e2, d1, d2, hcut]
        · have hdig := hd
          simp only [dig, Bool.and_eq_true, decide_eq_true_eq] at hdig
          rw [hd] at hnum hlen
          simp only [if_true, numH, List.length_cons] at hnum hlen
          have e2 : ((48 : Int) ≤ (b.toNat : Int)) := by omega
          have e3 : ((b.toNat : Int) ≤ 57) := by omega
          have x1 := wr64 ((m : Int) + 1) (by omega) (by omega)
          have x2 := wru8 ((b.toNat : Int) - 48) (by omega) (by omega)
          have x3 := wr64 ((b.toNat : Int) - 48) (by omega) (by omega)
          have x4 := wr64 (v * 10) (by omega) (by omega)
          have x5 := wr64 (v * 10 + ((b.toNat : Int) - 48)) (by omega) (by omega)
          simp -implicitDefEqProofs -dsimp only [↓reduceIte, not_false_eq_true, ↓W_seq, go_sem, WR_nil, evNews, if_true, if_false, and_true, true_and, Nat.reduceEqDiff, Nat.reduceAdd, Nat.reduceMul, Nat.reduceLeDiff, Nat.reduceLT, Int.cast_ofNat_Int, Int.reduceBNe, Int.reduceToNat, Int.reduceLT, Int.reduceLE, Int.reduceToNat, Int.reduceAdd, Int.reduceNeg, Int.natCast_zero, Int.natCast_one, Int.le_refl, Int.reduceEq, Int.lt_irrefl, reduceCtorEq, enc, a0, a1, a6, a7, e1, gm, e2, e3, x1, x2, x3, x4, x5]
          refine ⟨f - 1, by omega, m + 1, _, by omega, by omega, rfl, rfl, ?_, ?_, hcut, hnum, by omega⟩
          · split <;> omega
          · split <;> omega
      · have e1 : ¬ ((m : Int) < (s.length : Int)) := by omega
        have gm : s[m]? = none := List.getElem?_eq_none (by omega)
        rw [gm] at hdm
        obtain ⟨d1, d2⟩ := done hdm
        simp -implicitDefEqProofs -dsimp only [↓reduceIte, not_false_eq_true, ↓W_seq, go_sem, WR_nil, evNews, if_true, if_false, and_true, true_and, Nat.reduceEqDiff, Nat.reduceAdd, Nat.reduceMul, Nat.reduceLeDiff, Nat.reduceLT, Int.cast_ofNat_Int, Int.reduceBNe, Int.reduceToNat, Int.reduceLT, Int.reduceLE, Int.reduceToNat, Int.reduceAdd, Int.reduceNeg, Int.natCast_zero, Int.natCast_one, Int.le_refl, Int.reduceEq, Int.lt_irrefl, reduceCtorEq, enc, a0, a1, a6, a7, e1, d1, d2, hcut]
    · exact ⟨n, 0, hn, by omega, a0, a1, a6, a7, by omega, by omega, hcut, rfl, rfl⟩
  rintro a s' ⟨a1, a6, a7, hcut⟩
  unfold dgV
  generalize digsAt s n = A at hA hAd a1 a6
  by_cases hA0 : A = []
  · subst hA0
    have e1 : (((n + ([] : List UInt8).length : Nat) : Int) == (n : Int)) = true := by simp
    simp -implicitDefEqProofs -dsimp only [↓reduceIte, not_false_eq_true, ↓W_seq, go_sem, WR_nil, evNews, if_true, if_false, and_true, true_and, Nat.reduceEqDiff, Nat.reduceAdd, Nat.reduceMul, Nat.reduceLeDiff, Nat.reduceLT, Int.cast_ofNat_Int, Int.reduceBNe, Int.reduceToNat, Int.reduceLT, Int.reduceLE, Int.reduceToNat, Int.reduceAdd, Int.reduceNeg, Int.natCast_zero, Int.natCast_one, Int.le_refl, Int.reduceEq, Int.lt_irrefl, reduceCtorEq, enc, a1, a6, a7, e1, hcut]
  · have hl : A.length ≠ 0 := fun h => hA0 (List.length_eq_zero_iff.1 h)
    have e1 : (((n + A.length : Nat) : Int) == (n : Int)) = false := by rw [beq_eq_false_iff_ne]; omega
    by_cases hb : 255 < numV A
    · have e2 : ((255 : Int) < ((min (numV A) 1000 : Nat) : Int)) := by omega
      simp -implicitDefEqProofs -dsimp only [↓reduceIte, not_false_eq_true, ↓W_seq, go_sem, WR_nil, evNews, if_true, if_false, and_true, true_and, Nat.reduceEqDiff, Nat.reduceAdd, Nat.reduceMul, Nat.reduceLeDiff, Nat.reduceLT, Int.cast_ofNat_Int, Int.reduceBNe, Int.reduceToNat, Int.reduceLT, Int.reduceLE, Int.reduceToNat, Int.reduceAdd, Int.reduceNeg, Int.natCast_zero, Int.natCast_one, Int.le_refl, Int.reduceEq, Int.lt_irrefl, reduceCtorEq, enc, a1, a6, a7, e1, e2, hcut, hA0, hb]
    · have e2 : ¬ ((255 : Int) < ((min (numV A) 1000 : Nat) : Int)) := by omega
      have e3 : ((min (numV A) 1000 : Nat) : Int) = (numV A : Int) := by omega
      rw [e3] at a6 e2
      simp -implicitDefEqProofs -dsimp only [↓reduceIte, not_false_eq_true, ↓W_seq, go_sem, WR_nil, evNews, if_true, if_false, and_true, true_and, Nat.reduceEqDiff, Nat.reduceAdd, Nat.reduceMul, Nat.reduceLeDiff, Nat.reduceLT, Int.cast_ofNat_Int, Int.reduceBNe, Int.reduceToNat, Int.reduceLT, Int.reduceLE, Int.reduceToNat, Int.reduceAdd, Int.reduceNeg, Int.natCast_zero, Int.natCast_one, Int.le_refl, Int.reduceEq, Int.lt_irrefl, reduceCtorEq, enc, a1, a6, a7, e1, e2, hcut, hA0, hb]
end Go.Proofs.Try.E
