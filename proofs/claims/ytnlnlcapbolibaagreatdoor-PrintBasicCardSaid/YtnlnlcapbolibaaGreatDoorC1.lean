/- Walks: what the functions compute. -/
import Derived.Test.YtnlnlcapbolibaaGreatDoorC0
set_option linter.unusedVariables false
set_option linter.unusedSimpArgs false
/- The other reader, of basic patterns: how often; what is escaped, what is repeated. -/
namespace Go.Proofs.Tryz.E
open Go.Mv
set_option maxHeartbeats 4000000
set_option maxRecDepth 20000
theorem v60 (s : List UInt8) (r : Rd) (hs : s.length ≤ 1000000) (hrep : isRepB s r = true) (p : Mv.Loc) (lim d : Nat) (hp : p.d < d) (σ : Sto) (hu : σ.Und d) (ho : σ.ob p = some (encT s r)) : Ret lim d 87 [.ptr p 0] σ (timV (timesB s r)) σ := by
  have hun := und_succ hu
  have hp1 := Nat.lt_succ_of_lt hp
  have hnd : ¬ p.d = d := by omega
  obtain ⟨hb, hlt⟩ := repB_some hrep
  have ho2 := ho
  rw [encT_good s r hb] at ho2
  have x1 := wr64 ((r.at' : Int) + 1) (by omega) (by omega)
  have x1' := wr64 ((r.at' : Int) + 2) (by omega) (by omega)
  unfold Ret
  rw [WF_body (C := X) rfl Go.Proofs.Tryz.func87 rfl (by kernel_rfl)]; simp only [Go.Proofs.Tryz.results87]
  simp -implicitDefEqProofs -dsimp only [↓reduceIte, ↓W_seq, go_sem, WR_nil, evNews, Nat.reduceEqDiff, Nat.reduceAdd, Nat.reduceMul, Nat.reduceLeDiff, Nat.reduceLT, Int.cast_ofNat_Int, Int.reduceBNe, Int.reduceToNat, Int.reduceLT, Int.reduceLE, Int.reduceAdd, Int.reduceNeg, Int.reduceEq, reduceCtorEq, enc, ba_data]
  refine (k1 s r 42 hs (by omega) p lim (d + 1) hp1 σ hun ho).wh ?_
  unfold timesB
  cases h42 : r.nx s == some 42
  case true =>
    have h42' : r.nx s = some 42 := by simpa using h42
    rw [if_pos h42']
    simp -implicitDefEqProofs -dsimp only [↓reduceIte, ↓W_seq, go_sem, WR_nil, evNews, Nat.reduceEqDiff, Nat.reduceAdd, Nat.reduceMul, Nat.reduceLeDiff, Nat.reduceLT, Int.cast_ofNat_Int, Int.reduceBNe, Int.reduceToNat, Int.reduceLT, Int.reduceLE, Int.reduceAdd, Int.reduceNeg, Int.reduceEq, reduceCtorEq, enc]
    rw [D_lx [.tmp 15] (by kernel_rfl) (by kernel_rfl)]; simp -implicitDefEqProofs -dsimp only [↓reduceIte, ↓W_seq, go_sem, WR_nil, evNews, Nat.reduceEqDiff, Nat.reduceAdd, Nat.reduceMul, Nat.reduceLeDiff, Nat.reduceLT, Int.cast_ofNat_Int, Int.reduceBNe, Int.reduceToNat, Int.reduceLT, Int.reduceLE, Int.reduceAdd, Int.reduceNeg, Int.reduceEq, reduceCtorEq, enc, List.takeWhile_cons, List.dropWhile_cons, List.takeWhile_nil, List.dropWhile_nil, isTail, evNews, List.mem_cons, List.not_mem_nil, or_false, false_or, not_false_eq_true, not_true_eq_false, decide_true, decide_false, Bool.not_true, Bool.not_false, if_true, if_false, forall_eq, forall_eq_or_imp, false_imp_iff, implies_true, ne_eq, ct_lt1, ct_lt2, ct_lt3, ct_lt4, ct_lt5, ho2, x1, hnd, true_or]
    simp -implicitDefEqProofs -dsimp only [↓reduceIte, ↓W_seq, go_sem, WR_nil, evNews, Nat.reduceEqDiff, Nat.reduceAdd, Nat.reduceMul, Nat.reduceLeDiff, Nat.reduceLT, Int.cast_ofNat_Int, Int.reduceBNe, Int.reduceToNat, Int.reduceLT, Int.reduceLE, Int.reduceAdd, Int.reduceNeg, Int.reduceEq, reduceCtorEq, enc, timV_some, cut_und _ _ hu, Int.natCast_add]
  have h42' : ¬ r.nx s = some 42 := by rw [beq_eq_false_iff_ne] at h42; exact h42
  rw [if_neg h42']
  have hE : hasE s r 123 = true := by simpa [isRepB, h42] using hrep
  obtain ⟨-, h2⟩ := hasE_lt hE
  simp -implicitDefEqProofs -dsimp only [↓reduceIte, ↓W_seq, go_sem, WR_nil, evNews, Nat.reduceEqDiff, Nat.reduceAdd, Nat.reduceMul, Nat.reduceLeDiff, Nat.reduceLT, Int.cast_ofNat_Int, Int.reduceBNe, Int.reduceToNat, Int.reduceLT, Int.reduceLE, Int.reduceAdd, Int.reduceNeg, Int.reduceEq, reduceCtorEq, enc, ho2]
  rw [D_lx [] (by kernel_rfl) (by kernel_rfl)]; simp -implicitDefEqProofs -dsimp only [↓reduceIte, ↓W_seq, go_sem, WR_nil, evNews, Nat.reduceEqDiff, Nat.reduceAdd, Nat.reduceMul, Nat.reduceLeDiff, Nat.reduceLT, Int.cast_ofNat_Int, Int.reduceBNe, Int.reduceToNat, Int.reduceLT, Int.reduceLE, Int.reduceAdd, Int.reduceNeg, Int.reduceEq, reduceCtorEq, enc, List.takeWhile_cons, List.dropWhile_cons, List.takeWhile_nil, List.dropWhile_nil, isTail, evNews, List.mem_cons, List.not_mem_nil, or_false, false_or, not_false_eq_true, not_true_eq_false, decide_true, decide_false, Bool.not_true, Bool.not_false, if_true, if_false, forall_eq, forall_eq_or_imp, false_imp_iff, implies_true, ne_eq, ct_lt1, ct_lt2, ct_lt3, ct_lt4, ct_lt5, ho2]
  refine (v56 s r p (d + 1) (d + 1) hp1 σ hun ho).wh ?_
  simp -implicitDefEqProofs -dsimp only [↓reduceIte, ↓W_seq, go_sem, WR_nil, evNews, Nat.reduceEqDiff, Nat.reduceAdd, Nat.reduceMul, Nat.reduceLeDiff, Nat.reduceLT, Int.cast_ofNat_Int, Int.reduceBNe, Int.reduceToNat, Int.reduceLT, Int.reduceLE, Int.reduceAdd, Int.reduceNeg, Int.reduceEq, reduceCtorEq, enc, List.takeWhile_cons, List.dropWhile_cons, List.takeWhile_nil, List.dropWhile_nil, isTail, evNews, List.mem_cons, List.not_mem_nil, or_false, false_or, not_false_eq_true, not_true_eq_false, decide_true, decide_false, Bool.not_true, Bool.not_false, if_true, if_false, forall_eq, forall_eq_or_imp, false_imp_iff, implies_true, ne_eq, ct_lt1, ct_lt2, ct_lt3, ct_lt4, ct_lt5, x1']
  refine (w72 s (r.at' + 2) hs (by omega) (d + 1) (d + 1) σ hun).wh ?_
  have hA := digs_len s (r.at' + 2)
  rw [dgV_eq]
  have hBu := brcB_eq s r.at'
  generalize bracesB s r.at' = B at hBu ⊢
  generalize digsAt s (r.at' + 2) = A at hA hBu ⊢
  generalize hP : r.at' + 2 + A.length = P at hBu ⊢
  have hPl : P ≤ s.length := by omega
  by_cases hA0 : A = []
  · rw [if_pos (.inl hA0)] at hBu
    subst hA0
    simp -implicitDefEqProofs -dsimp only [↓reduceIte, ↓W_seq, go_sem, WR_nil, evNews, Nat.reduceEqDiff, Nat.reduceAdd, Nat.reduceMul, Nat.reduceLeDiff, Nat.reduceLT, Int.cast_ofNat_Int, Int.reduceBNe, Int.reduceToNat, Int.reduceLT, Int.reduceLE, Int.reduceAdd, Int.reduceNeg, Int.reduceEq, reduceCtorEq, enc, List.takeWhile_cons, List.dropWhile_cons, List.takeWhile_nil, List.dropWhile_nil, isTail, evNews, List.mem_cons, List.not_mem_nil, or_false, false_or, not_false_eq_true, not_true_eq_false, decide_true, decide_false, Bool.not_true, Bool.not_false, if_true, if_false, forall_eq, forall_eq_or_imp, false_imp_iff, implies_true, ne_eq, ct_lt1, ct_lt2, ct_lt3, ct_lt4, ct_lt5, hBu, timV_none, cut_und _ _ hu]
  by_cases hbig : 255 < numV A
  · rw [if_pos (.inr hbig)] at hBu
    simp -implicitDefEqProofs -dsimp only [↓reduceIte, ↓W_seq, go_sem, WR_nil, evNews, Nat.reduceEqDiff, Nat.reduceAdd, Nat.reduceMul, Nat.reduceLeDiff, Nat.reduceLT, Int.cast_ofNat_Int, Int.reduceBNe, Int.reduceToNat, Int.reduceLT, Int.reduceLE, Int.reduceAdd, Int.reduceNeg, Int.reduceEq, reduceCtorEq, enc, List.takeWhile_cons, List.dropWhile_cons, List.takeWhile_nil, List.dropWhile_nil, isTail, evNews, List.mem_cons, List.not_mem_nil, or_false, false_or, not_false_eq_true, not_true_eq_false, decide_true, decide_false, Bool.not_true, Bool.not_false, if_true, if_false, forall_eq, forall_eq_or_imp, false_imp_iff, implies_true, ne_eq, ct_lt1, ct_lt2, ct_lt3, ct_lt4, ct_lt5, hA0, hbig, hBu, timV_none, cut_und _ _ hu]
  rw [if_neg (by simp [hA0, hbig])] at hBu
  have e3 : ¬ ((numV A : Int) < 0) := by omega
  by_cases h44 : s[P]? = some 44
  · rw [if_pos h44] at hBu
    have hlt2 : P < s.length := by
      rcases Nat.lt_or_ge P s.length with h | h
      · exact h
      · rw [List.getElem?_eq_none h] at h44; cases h44
    have e4 : ((P : Int) < (s.length : Int)) := by omega
    have x3 := wr64 ((P : Int) + 1) (by omega) (by omega)
    have e44 : ((44 : UInt8) == 44) = true := rfl
    simp -implicitDefEqProofs -dsimp only [↓reduceIte, ↓W_seq, go_sem, WR_nil, evNews, Nat.reduceEqDiff, Nat.reduceAdd, Nat.reduceMul, Nat.reduceLeDiff, Nat.reduceLT, Int.cast_ofNat_Int, Int.reduceBNe, Int.reduceToNat, Int.reduceLT, Int.reduceLE, Int.reduceAdd, Int.reduceNeg, Int.reduceEq, reduceCtorEq, enc, List.takeWhile_cons, List.dropWhile_cons, List.takeWhile_nil, List.dropWhile_nil, isTail, evNews, List.mem_cons, List.not_mem_nil, or_false, false_or, not_false_eq_true, not_true_eq_false, decide_true, decide_false, Bool.not_true, Bool.not_false, if_true, if_false, forall_eq, forall_eq_or_imp, false_imp_iff, implies_true, ne_eq, ct_lt1, ct_lt2, ct_lt3, ct_lt4, ct_lt5, ho2, hA0, hbig, e3, e4, h44, e44, x3]
    refine (w72 s (P + 1) hs (by omega) lim (d + 1) σ hun).wh ?_
    rw [dgV_eq]
    have hC := digs_len s (P + 1)
    generalize digsAt s (P + 1) = C at hC hBu ⊢
    generalize hQ : P + 1 + C.length = Q at hBu ⊢
    have hQl : Q ≤ s.length := by omega
    by_cases hbc : C ≠ [] ∧ (255 < numV C ∨ numV C < numV A)
    · rw [if_neg (fun h => by rcases h.2 with h | h; exact hbc.1 h; omega)] at hBu
      by_cases hbb : 255 < numV C
      · simp -implicitDefEqProofs -dsimp only [↓reduceIte, ↓W_seq, go_sem, WR_nil, evNews, Nat.reduceEqDiff, Nat.reduceAdd, Nat.reduceMul, Nat.reduceLeDiff, Nat.reduceLT, Int.cast_ofNat_Int, Int.reduceBNe, Int.reduceToNat, Int.reduceLT, Int.reduceLE, Int.reduceAdd, Int.reduceNeg, Int.reduceEq, reduceCtorEq, enc, hbc.1, hbb, hBu, timV_none, cut_und _ _ hu]
      · have f1 : ((numV C : Int) == -2) = false := by rw [beq_eq_false_iff_ne]; omega
        have f2 : (0 : Int) ≤ (numV C : Int) := by omega
        have f3 : (numV C : Int) < (numV A : Int) := by omega
        simp -implicitDefEqProofs -dsimp only [↓reduceIte, ↓W_seq, go_sem, WR_nil, evNews, Nat.reduceEqDiff, Nat.reduceAdd, Nat.reduceMul, Nat.reduceLeDiff, Nat.reduceLT, Int.cast_ofNat_Int, Int.reduceBNe, Int.reduceToNat, Int.reduceLT, Int.reduceLE, Int.reduceAdd, Int.reduceNeg, Int.reduceEq, reduceCtorEq, enc, hbc.1, hbb, f1, f2, f3, hBu, timV_none, cut_und _ _ hu]
    · have hk : ∃ k : Int, (if C = [] then (-1 : Int) else if 255 < numV C then -2 else (numV C : Int)) = k ∧ (if C = [] then (-1 : Int) else (numV C : Int)) = k ∧ (k == -2) = false ∧ (if (decide (0 ≤ k)) = true then decide (k < (numV A : Int)) else false) = false := by
        by_cases hC0 : C = []
        · exact ⟨-1, by rw [if_pos hC0], by rw [if_pos hC0], rfl, rfl⟩
        · have hbc' : ¬ 255 < numV C ∧ ¬ numV C < numV A := by
            constructor
            · exact fun h => hbc ⟨hC0, .inl h⟩
            · exact fun h => hbc ⟨hC0, .inr h⟩
          refine ⟨numV C, by rw [if_neg hC0, if_neg hbc'.1], by rw [if_neg hC0], by rw [beq_eq_false_iff_ne]; omega, ?_⟩
          have : ¬ (numV C : Int) < (numV A : Int) := by omega
          simp [this]
      obtain ⟨k, k1, k2, k3, k4⟩ := hk
      rw [k1]
      rw [k2] at hBu
      have hiff : (closeB s Q = true ∧ (C = [] ∨ numV C ≤ 255 ∧ numV A ≤ numV C)) ↔ closeB s Q = true := by
        refine ⟨fun h => h.1, fun h => ⟨h, ?_⟩⟩
        by_cases hC0 : C = []
        · exact .inl hC0
        · right
          by_cases q1 : 255 < numV C
          · exact absurd ⟨hC0, .inl q1⟩ hbc
          · by_cases q2 : numV C < numV A
            · exact absurd ⟨hC0, .inr q2⟩ hbc
            · omega
      simp only [hiff] at hBu
      clear hiff k1 k2
      by_cases hlt3 : Q + 1 < s.length
      · have e5 : ¬ ((s.length : Int) - Q < 2) := by omega
        have x4 := wr64 ((s.length : Int) - Q) (by omega) (by omega)
        have x5 := wr64 ((Q : Int) + 2) (by omega) (by omega)
        by_cases k0 : 0 ≤ k
        · simp only [k0, decide_true, if_true] at k4
          simp -implicitDefEqProofs -dsimp only [↓reduceIte, ↓W_seq, go_sem, WR_nil, evNews, Nat.reduceEqDiff, Nat.reduceAdd, Nat.reduceMul, Nat.reduceLeDiff, Nat.reduceLT, Int.cast_ofNat_Int, Int.reduceBNe, Int.reduceToNat, Int.reduceLT, Int.reduceLE, Int.reduceAdd, Int.reduceNeg, Int.reduceEq, reduceCtorEq, enc, ho2, k3, k0, k4, e5, x4, x5, ba_data]
          exact tim_clo2 s Q hlt3 _ k B hBu (cut_und _ _ hu)
        · simp -implicitDefEqProofs -dsimp only [↓reduceIte, ↓W_seq, go_sem, WR_nil, evNews, Nat.reduceEqDiff, Nat.reduceAdd, Nat.reduceMul, Nat.reduceLeDiff, Nat.reduceLT, Int.cast_ofNat_Int, Int.reduceBNe, Int.reduceToNat, Int.reduceLT, Int.reduceLE, Int.reduceAdd, Int.reduceNeg, Int.reduceEq, reduceCtorEq, enc, ho2, k3, k0, e5, x4, x5, ba_data]
          exact tim_clo2 s Q hlt3 _ k B hBu (cut_und _ _ hu)
      · have e5 : ((s.length : Int) - Q < 2) := by omega
        have x4 := wr64 ((s.length : Int) - Q) (by omega) (by omega)
        rw [close_end hlt3, if_neg (by decide)] at hBu
        by_cases k0 : 0 ≤ k
        · simp only [k0, decide_true, if_true] at k4
          simp -implicitDefEqProofs -dsimp only [↓reduceIte, ↓W_seq, go_sem, WR_nil, evNews, Nat.reduceEqDiff, Nat.reduceAdd, Nat.reduceMul, Nat.reduceLeDiff, Nat.reduceLT, Int.cast_ofNat_Int, Int.reduceBNe, Int.reduceToNat, Int.reduceLT, Int.reduceLE, Int.reduceAdd, Int.reduceNeg, Int.reduceEq, reduceCtorEq, enc, ho2, k3, k0, k4, e5, x4, ba_data, hBu, timV_none, cut_und _ _ hu]
        · simp -implicitDefEqProofs -dsimp only [↓reduceIte, ↓W_seq, go_sem, WR_nil, evNews, Nat.reduceEqDiff, Nat.reduceAdd, Nat.reduceMul, Nat.reduceLeDiff, Nat.reduceLT, Int.cast_ofNat_Int, Int.reduceBNe, Int.reduceToNat, Int.reduceLT, Int.reduceLE, Int.reduceAdd, Int.reduceNeg, Int.reduceEq, reduceCtorEq, enc, ho2, k3, k0, e5, x4, ba_data, hBu, timV_none, cut_und _ _ hu]
  · rw [if_neg h44] at hBu
    by_cases hlt2 : P + 1 < s.length
    · have g1 : s[P]? = some s[P] := List.getElem?_eq_getElem (by omega)
      have e4 : ((P : Int) < (s.length : Int)) := by omega
      have e5 : ¬ ((s.length : Int) - P < 2) := by omega
      have x2 := wr64 ((s.length : Int) - P) (by omega) (by omega)
      have x3 := wr64 ((P : Int) + 2) (by omega) (by omega)
      have h44' : (s[P] == 44) = false := by rw [g1] at h44; simpa using h44
      generalize s[P] = b at g1 h44'
      simp -implicitDefEqProofs -dsimp only [↓reduceIte, ↓W_seq, go_sem, WR_nil, evNews, Nat.reduceEqDiff, Nat.reduceAdd, Nat.reduceMul, Nat.reduceLeDiff, Nat.reduceLT, Int.cast_ofNat_Int, Int.reduceBNe, Int.reduceToNat, Int.reduceLT, Int.reduceLE, Int.reduceAdd, Int.reduceNeg, Int.reduceEq, reduceCtorEq, enc, List.takeWhile_cons, List.dropWhile_cons, List.takeWhile_nil, List.dropWhile_nil, isTail, evNews, List.mem_cons, List.not_mem_nil, or_false, false_or, not_false_eq_true, not_true_eq_false, decide_true, decide_false, Bool.not_true, Bool.not_false, if_true, if_false, forall_eq, forall_eq_or_imp, false_imp_iff, implies_true, ne_eq, ct_lt1, ct_lt2, ct_lt3, ct_lt4, ct_lt5, ho2, hA0, hbig, e3, e4, g1, h44', e5, x2, x3, ba_data]
      exact tim_clo2 s P hlt2 _ _ B hBu (cut_und _ _ hu)
    · rw [close_end hlt2, if_neg (by decide)] at hBu
      have e5 : ((s.length : Int) - P < 2) := by omega
      have x2 := wr64 ((s.length : Int) - P) (by omega) (by omega)
      by_cases hlt3 : P < s.length
      · have g1 : s[P]? = some s[P] := List.getElem?_eq_getElem hlt3
        have e4 : ((P : Int) < (s.length : Int)) := by omega
        have h44' : (s[P] == 44) = false := by rw [g1] at h44; simpa using h44
        generalize s[P] = b at g1 h44'
        simp -implicitDefEqProofs -dsimp only [↓reduceIte, ↓W_seq, go_sem, WR_nil, evNews, Nat.reduceEqDiff, Nat.reduceAdd, Nat.reduceMul, Nat.reduceLeDiff, Nat.reduceLT, Int.cast_ofNat_Int, Int.reduceBNe, Int.reduceToNat, Int.reduceLT, Int.reduceLE, Int.reduceAdd, Int.reduceNeg, Int.reduceEq, reduceCtorEq, enc, List.takeWhile_cons, List.dropWhile_cons, List.takeWhile_nil, List.dropWhile_nil, isTail, evNews, List.mem_cons, List.not_mem_nil, or_false, false_or, not_false_eq_true, not_true_eq_false, decide_true, decide_false, Bool.not_true, Bool.not_false, if_true, if_false, forall_eq, forall_eq_or_imp, false_imp_iff, implies_true, ne_eq, ct_lt1, ct_lt2, ct_lt3, ct_lt4, ct_lt5, ho2, hA0, hbig, e3, e4, g1, h44', e5, x2, hBu, timV_none, ba_data, cut_und _ _ hu]
      · have e4 : ¬ ((P : Int) < (s.length : Int)) := by omega
        simp -implicitDefEqProofs -dsimp only [↓reduceIte, ↓W_seq, go_sem, WR_nil, evNews, Nat.reduceEqDiff, Nat.reduceAdd, Nat.reduceMul, Nat.reduceLeDiff, Nat.reduceLT, Int.cast_ofNat_Int, Int.reduceBNe, Int.reduceToNat, Int.reduceLT, Int.reduceLE, Int.reduceAdd, Int.reduceNeg, Int.reduceEq, reduceCtorEq, enc, List.takeWhile_cons, List.dropWhile_cons, List.takeWhile_nil, List.dropWhile_nil, isTail, evNews, List.mem_cons, List.not_mem_nil, or_false, false_or, not_false_eq_true, not_true_eq_false, decide_true, decide_false, Bool.not_true, Bool.not_false, if_true, if_false, forall_eq, forall_eq_or_imp, false_imp_iff, implies_true, ne_eq, ct_lt1, ct_lt2, ct_lt3, ct_lt4, ct_lt5, ho2, hA0, hbig, e3, e4, e5, x2, hBu, timV_none, ba_data, cut_und _ _ hu]
end Go.Proofs.Tryz.E
