/- Walks: what the functions compute. -/
import Derived.Test.YtklnfgmfcpcfcaaGreatDoorT8
set_option linter.unusedVariables false
set_option linter.unusedSimpArgs false
/- A replacement's parts, as the document has them; those of the package as the document's. -/
namespace Go.Proofs.Tryz.E
open Go.Mv
set_option maxHeartbeats 4000000
set_option maxRecDepth 20000
theorem slc_rparts : slc X.P 28 = some (75, 2, 24) := by kernel_rfl
theorem w663 (ps : List Pt) (hl : ps.length ≤ 100000) (lim d : Nat) (σ : Sto) (hlim : lim ≤ d) (hu : σ.Und d) : Ret lim d 9 [.sl .no (encPs ps)] σ (.sl .no (encPs ps)) σ := by
  have hun := und_succ hu
  unfold Ret
  rw [WF_body (C := X) rfl Go.Proofs.Tryz.func9 rfl (by kernel_rfl)]; simp only [Go.Proofs.Tryz.results9]
  simp -implicitDefEqProofs -dsimp only [↓reduceIte, ↓W_seq, go_sem, WR_nil, evNews, Nat.reduceEqDiff, Nat.reduceAdd, Nat.reduceMul, Nat.reduceLeDiff, Nat.reduceLT, Int.cast_ofNat_Int, Int.reduceBNe, Int.reduceToNat, Int.reduceLT, Int.reduceLE, Int.reduceAdd, Int.reduceNeg, Int.reduceEq, reduceCtorEq, enc, encPs_len]
  refine loop_h (I := fun k a s => ∃ (i : Nat) (v : MV) (acc : List Pt), i + k = ps.length ∧ a 7 = .int .i64 i ∧ a 6 = .int .i64 ps.length ∧ a 0 = .sl .no (encPs ps) ∧ a 3 = v ∧ OwnP s d v acc ∧ acc ++ ps.drop i = ps ∧ s.cut d = σ ∧ s.Und (d + 1)) ?_ ps.length _ _ ?_
  · rintro k a s ⟨i, v, acc, hk, h7, h6, h0, h3, hO, hc, hs, hs2⟩
    have hal : acc.length = i := by
      have := congrArg List.length hc
      simp at this; omega
    by_cases hi : i < ps.length
    · have e1 : ((i : Int) < (ps.length : Int)) := by omega
      have y7 := wr64 ((i : Int) + 1) (by omega) (by omega)
      obtain ⟨v', s', q1, q2, q3, q4, q5⟩ := app_ownP (P := X.P) (t := 28) (p := ps[i]) (tk := .own d (s.ct d)) (lim := lim) slc_rparts (ownP_tok hO (some (1, 2))) (by omega) hlim (und_tok hs2 _ _)
      unfold encPt at q1
      simp -implicitDefEqProofs -dsimp only [↓reduceIte, ↓W_seq, go_sem, WR_nil, evNews, Nat.reduceEqDiff, Nat.reduceAdd, Nat.reduceMul, Nat.reduceLeDiff, Nat.reduceLT, Int.cast_ofNat_Int, Int.reduceBNe, Int.reduceToNat, Int.reduceLT, Int.reduceLE, Int.reduceAdd, Int.reduceNeg, Int.reduceEq, reduceCtorEq, enc, e1, h7, h6, h0, h3, encPs_at hi, encPt, q1]
      refine ⟨k - 1, by omega, i + 1, v', acc ++ [ps[i]], by omega, by rw [y7]; rfl, rfl, q2, ?_, ?_, q4⟩
      · rw [List.append_assoc, List.singleton_append, ← List.drop_eq_getElem_cons hi, hc]
      · rw [q3, cut_tick, cut_own, hs]
    · have e1 : ¬ ((i : Int) < (ps.length : Int)) := by omega
      rw [List.drop_eq_nil_of_le (by omega), List.append_nil] at hc
      subst hc
      simp -implicitDefEqProofs -dsimp only [↓reduceIte, ↓W_seq, go_sem, WR_nil, evNews, Nat.reduceEqDiff, Nat.reduceAdd, Nat.reduceMul, Nat.reduceLeDiff, Nat.reduceLT, Int.cast_ofNat_Int, Int.reduceBNe, Int.reduceToNat, Int.reduceLT, Int.reduceLE, Int.reduceAdd, Int.reduceNeg, Int.reduceEq, reduceCtorEq, enc, e1, h7, h6, h0, h3, ownP_frz hO, ownP_res hO, hs]
  · refine ⟨0, .sl .nil [], [], Nat.zero_add _, ?_⟩
    simp -implicitDefEqProofs -dsimp only [↓reduceIte, ↓W_seq, go_sem, WR_nil, evNews, Nat.reduceEqDiff, Nat.reduceAdd, Nat.reduceMul, Nat.reduceLeDiff, Nat.reduceLT, Int.cast_ofNat_Int, Int.reduceBNe, Int.reduceToNat, Int.reduceLT, Int.reduceLE, Int.reduceAdd, Int.reduceNeg, Int.reduceEq, reduceCtorEq, enc, cut_und _ _ hu, hun]
    exact .inl ⟨rfl, rfl⟩
theorem rapp {lim d : Nat} {σ st : Sto} {v : MV} {acc : List Pt} (n : Int) (t : List UInt8) (hO : OwnP st d v acc) (hl : acc.length ≤ 100000) (hlim : lim ≤ d) (h1 : st.cut d = σ) (h2 : st.Und (d + 1)) :
    ∃ v' s', appO X.P lim d 28 ((st.own d (st.ct d) (some (1, 2))).tick d) v (.sl (.own d (st.ct d)) [[.int .i64 n, .str t]]) = some (v', s') ∧ OwnP s' d v' (acc ++ [(n, t)]) ∧ s'.cut d = σ ∧ s'.Und (d + 1) := by
  obtain ⟨v', s', q1, q2, q3, q4, q5⟩ := app_ownP (P := X.P) (t := 28) (p := (n, t)) (tk := .own d (st.ct d)) (lim := lim) slc_rparts (ownP_tok hO (some (1, 2))) hl hlim (und_tok h2 _ _)
  exact ⟨v', s', q1, q2, by rw [q3, cut_tick, cut_own, h1], q4⟩
theorem cut1 {s : List UInt8} {i : Nat} {b : UInt8} (h : s[i]? = some b) : (s.take (i + 1)).drop i = [b] := by
  obtain ⟨hi, he⟩ := List.getElem?_eq_some_iff.1 h
  rw [List.take_succ_eq_append_getElem hi, he, List.drop_append_of_le_length (by rw [List.length_take]; omega), List.drop_eq_nil_of_le (by rw [List.length_take]; omega)]
  rfl
section
set_option maxHeartbeats 8000000
theorem w664 (s : List UInt8) (hs : s.length ≤ 100000) (lim d : Nat) (σ : Sto) (hlim : lim ≤ d) (hu : σ.Und d) : Ret lim d 10 [.str s] σ (.sl .no (encPs (partsP s []))) σ := by
  have hun := und_succ hu
  unfold Ret
  rw [WF_body (C := X) rfl Go.Proofs.Tryz.func10 rfl (by kernel_rfl)]; simp only [Go.Proofs.Tryz.results10]
  simp -implicitDefEqProofs -dsimp only [↓reduceIte, ↓W_seq, go_sem, WR_nil, evNews, Nat.reduceEqDiff, Nat.reduceAdd, Nat.reduceMul, Nat.reduceLeDiff, Nat.reduceLT, Int.cast_ofNat_Int, Int.reduceBNe, Int.reduceToNat, Int.reduceLT, Int.reduceLE, Int.reduceAdd, Int.reduceNeg, Int.reduceEq, reduceCtorEq, enc]
  refine loop_h (I := fun k a st => ∃ (i : Nat) (t : List UInt8) (v : MV) (acc : List Pt), i + k = s.length + 1 ∧ a 5 = .int .i64 i ∧ a 0 = .str s ∧ a 4 = .str t ∧ a 3 = v ∧ OwnP st d v acc ∧ (i ≤ s.length → acc ++ partsP (s.drop i) t = partsP s []) ∧ (i = s.length + 1 → acc = partsP s []) ∧ acc.length + t.length ≤ i ∧ st.cut d = σ ∧ st.Und (d + 1)) ?_ (s.length + 1) _ _ ?_
  · rintro k a st ⟨i, t, v, acc, hk, h5, h0, h4, h3, hO, hE, hF, hL, hs1, hs2⟩
    by_cases hi : i ≤ s.length
    · replace hE := hE hi
      have e1 : ((i : Int) ≤ (s.length : Int)) := by omega
      have x1 : IntKind.i64.wrap ((i : Int) + 1) = ((i + 1 : Nat) : Int) := by rw [wr64 _ (by omega) (by omega)]; omega
      have x2 : IntKind.i64.wrap (((i + 1 : Nat) : Int) + 1) = ((i + 2 : Nat) : Int) := by rw [wr64 _ (by omega) (by omega)]; omega
      have hts : ∀ (x : List UInt8), x ≠ [] → (x == []) = false := fun x hx => by rw [beq_eq_false_iff_ne]; exact hx
      by_cases hend : i = s.length
      · have e2 : ((i : Int) == (s.length : Int)) = true := by rw [beq_iff_eq]; omega
        rw [List.drop_eq_nil_of_le (by omega), partsE] at hE
        by_cases ht : t = []
        · subst ht
          rw [flP_nil, List.append_nil] at hE
          simp -implicitDefEqProofs -dsimp only [↓reduceIte, ↓W_seq, go_sem, WR_nil, evNews, Nat.reduceEqDiff, Nat.reduceAdd, Nat.reduceMul, Nat.reduceLeDiff, Nat.reduceLT, Int.cast_ofNat_Int, Int.reduceBNe, Int.reduceToNat, Int.reduceLT, Int.reduceLE, Int.reduceAdd, Int.reduceNeg, Int.reduceEq, reduceCtorEq, enc, e1, e2, x1, h5, h0, h4, h3]
          exact ⟨k - 1, by omega, i + 1, [], v, acc, by omega, rfl, rfl, rfl, hO, fun _ => by omega, fun _ => hE, by simp only [List.length_nil]; omega, hs1, hs2⟩
        · rw [flP_some ht] at hE
          obtain ⟨v1, s1, q1, q2, q3, q4⟩ := rapp (-1) t hO (by omega) hlim hs1 hs2
          have hlt := List.length_pos_iff.2 ht
          simp -implicitDefEqProofs -dsimp only [↓reduceIte, ↓W_seq, go_sem, WR_nil, evNews, Nat.reduceEqDiff, Nat.reduceAdd, Nat.reduceMul, Nat.reduceLeDiff, Nat.reduceLT, Int.cast_ofNat_Int, Int.reduceBNe, Int.reduceToNat, Int.reduceLT, Int.reduceLE, Int.reduceAdd, Int.reduceNeg, Int.reduceEq, reduceCtorEq, enc, e1, e2, x1, h5, h0, h4, h3, hts t ht, q1]
          exact ⟨k - 1, by omega, i + 1, [], _, _, by omega, rfl, rfl, rfl, q2, fun _ => by omega, fun _ => hE, by simp only [List.length_nil, List.length_append, List.length_cons]; omega, q3, q4⟩
      · have e2 : ((i : Int) == (s.length : Int)) = false := by rw [beq_eq_false_iff_ne]; omega
        obtain ⟨b, hb⟩ : ∃ b, s[i]? = some b := ⟨_, List.getElem?_eq_getElem (by omega)⟩
        by_cases hb38 : b = 38
        · subst hb38
          rw [parts_and hb] at hE
          by_cases ht : t = []
          · subst ht
            obtain ⟨v1, s1, q1, q2, q3, q4⟩ := rapp 0 [] hO (by omega) hlim hs1 hs2
            simp -implicitDefEqProofs -dsimp only [↓reduceIte, ↓W_seq, go_sem, WR_nil, evNews, Nat.reduceEqDiff, Nat.reduceAdd, Nat.reduceMul, Nat.reduceLeDiff, Nat.reduceLT, Int.cast_ofNat_Int, Int.reduceBNe, Int.reduceToNat, Int.reduceLT, Int.reduceLE, Int.reduceAdd, Int.reduceNeg, Int.reduceEq, reduceCtorEq, enc, e1, e2, x1, h5, h0, h4, h3, hb, show ((38 : UInt8).toNat : Int) = 38 from rfl, q1]
            refine ⟨k - 1, by omega, i + 1, [], _, _, by omega, rfl, rfl, rfl, q2, fun _ => ?_, fun _ => by omega, by simp only [List.length_nil, List.length_append, List.length_cons] at *; omega, q3, q4⟩
            simpa [flP_nil] using hE
          · rw [flP_some ht] at hE
            have hlt := List.length_pos_iff.2 ht
            obtain ⟨v1, s1, q1, q2, q3, q4⟩ := rapp (-1) t hO (by omega) hlim hs1 hs2
            obtain ⟨v2, s2, r1, r2, r3, r4⟩ := rapp 0 [] q2 (by simp only [List.length_append, List.length_cons, List.length_nil]; omega) hlim q3 q4
            simp -implicitDefEqProofs -dsimp only [↓reduceIte, ↓W_seq, go_sem, WR_nil, evNews, Nat.reduceEqDiff, Nat.reduceAdd, Nat.reduceMul, Nat.reduceLeDiff, Nat.reduceLT, Int.cast_ofNat_Int, Int.reduceBNe, Int.reduceToNat, Int.reduceLT, Int.reduceLE, Int.reduceAdd, Int.reduceNeg, Int.reduceEq, reduceCtorEq, enc, e1, e2, x1, h5, h0, h4, h3, hb, show ((38 : UInt8).toNat : Int) = 38 from rfl, hts t ht, q1, r1]
            refine ⟨k - 1, by omega, i + 1, [], _, _, by omega, rfl, rfl, rfl, r2, fun _ => ?_, fun _ => by omega, by simp only [List.length_nil, List.length_append, List.length_cons] at *; omega, r3, r4⟩
            simpa using hE
        · have e38 : ((b.toNat : Int) == 38) = false := byte_ne (n := 38) (by decide) hb38
          by_cases hb92 : b = 92
          · subst hb92
            by_cases hn : i + 1 < s.length
            · have e3 : (((i + 1 : Nat) : Int) < (s.length : Int)) := by omega
              obtain ⟨c, hc⟩ : ∃ c, s[i + 1]? = some c := ⟨_, List.getElem?_eq_getElem hn⟩
              have hlt := c.toNat_lt
              rw [parts_esc hb hc] at hE
              by_cases hd : 49 ≤ c.toNat ∧ c.toNat ≤ 57
              · rw [if_pos hd] at hE
                have g1 : (49 : Int) ≤ (c.toNat : Int) := by omega
                have g2 : (c.toNat : Int) ≤ 57 := by omega
                have g3 : (0 : Int) ≤ (c.toNat : Int) - 48 := by omega
                have y1 : IntKind.u8.wrap ((c.toNat : Int) - 48) = (c.toNat : Int) - 48 := wru8P _ (by omega) (by omega)
                have y2 : IntKind.i64.wrap ((c.toNat : Int) - 48) = (c.toNat : Int) - 48 := wr64 _ (by omega) (by omega)
                by_cases ht : t = []
                · subst ht
                  obtain ⟨v1, s1, q1, q2, q3, q4⟩ := rapp ((c.toNat : Int) - 48) [] hO (by omega) hlim hs1 hs2
                  simp -implicitDefEqProofs -dsimp only [↓reduceIte, ↓W_seq, go_sem, WR_nil, evNews, Nat.reduceEqDiff, Nat.reduceAdd, Nat.reduceMul, Nat.reduceLeDiff, Nat.reduceLT, Int.cast_ofNat_Int, Int.reduceBNe, Int.reduceToNat, Int.reduceLT, Int.reduceLE, Int.reduceAdd, Int.reduceNeg, Int.reduceEq, reduceCtorEq, enc, e1, e2, e3, x1, x2, h5, h0, h4, h3, hb, hc, show ((92 : UInt8).toNat : Int) = 92 from rfl, g1, g2, y1, y2, g3, q1]
                  refine ⟨k - 2, by omega, i + 2, [], _, _, by omega, rfl, rfl, rfl, q2, fun _ => ?_, fun _ => by omega, by simp only [List.length_nil, List.length_append, List.length_cons] at *; omega, q3, q4⟩
                  simpa [flP_nil] using hE
                · rw [flP_some ht] at hE
                  have hlt := List.length_pos_iff.2 ht
                  obtain ⟨v1, s1, q1, q2, q3, q4⟩ := rapp (-1) t hO (by omega) hlim hs1 hs2
                  obtain ⟨v2, s2, r1, r2, r3, r4⟩ := rapp ((c.toNat : Int) - 48) [] q2 (by simp only [List.length_append, List.length_cons, List.length_nil]; omega) hlim q3 q4
                  simp -implicitDefEqProofs -dsimp only [↓reduceIte, ↓W_seq, go_sem, WR_nil, evNews, Nat.reduceEqDiff, Nat.reduceAdd, Nat.reduceMul, Nat.reduceLeDiff, Nat.reduceLT, Int.cast_ofNat_Int, Int.reduceBNe, Int.reduceToNat, Int.reduceLT, Int.reduceLE, Int.reduceAdd, Int.reduceNeg, Int.reduceEq, reduceCtorEq, enc, e1, e2, e3, x1, x2, h5, h0, h4, h3, hb, hc, show ((92 : UInt8).toNat : Int) = 92 from rfl, g1, g2, y1, y2, g3, hts t ht, q1, r1]
                  refine ⟨k - 2, by omega, i + 2, [], _, _, by omega, rfl, rfl, rfl, r2, fun _ => ?_, fun _ => by omega, by simp only [List.length_nil, List.length_append, List.length_cons] at *; omega, r3, r4⟩
                  simpa using hE
              · rw [if_neg hd] at hE
                have g : (decide ((49 : Int) ≤ (c.toNat : Int)) && decide ((c.toNat : Int) ≤ 57)) = false := by
                  rw [Bool.eq_false_iff]
                  intro e
                  simp only [Bool.and_eq_true, decide_eq_true_eq] at e
                  exact hd ⟨by omega, by omega⟩
                by_cases hc110 : c = 110
                · subst hc110
                  rw [if_pos rfl] at hE
                  simp -implicitDefEqProofs -dsimp only [↓reduceIte, ↓W_seq, go_sem, WR_nil, evNews, Nat.reduceEqDiff, Nat.reduceAdd, Nat.reduceMul, Nat.reduceLeDiff, Nat.reduceLT, Int.cast_ofNat_Int, Int.reduceBNe, Int.reduceToNat, Int.reduceLT, Int.reduceLE, Int.reduceAdd, Int.reduceNeg, Int.reduceEq, reduceCtorEq, enc, e1, e2, e3, x1, x2, h5, h0, h4, h3, hb, hc, show ((92 : UInt8).toNat : Int) = 92 from rfl, show ((110 : UInt8).toNat : Int) = 110 from rfl]
                  exact ⟨by omega, k - 2, by omega, i + 2, _, _, _, by omega, rfl, rfl, rfl, hO, fun _ => hE, fun _ => by omega, by simp only [List.length_nil, List.length_append, List.length_cons]; omega, hs1, hs2⟩
                · rw [if_neg hc110] at hE
                  have e110 : ((c.toNat : Int) == 110) = false := byte_ne (n := 110) (by decide) hc110
                  simp -implicitDefEqProofs -dsimp only [↓reduceIte, ↓W_seq, go_sem, WR_nil, evNews, Nat.reduceEqDiff, Nat.reduceAdd, Nat.reduceMul, Nat.reduceLeDiff, Nat.reduceLT, Int.cast_ofNat_Int, Int.reduceBNe, Int.reduceToNat, Int.reduceLT, Int.reduceLE, Int.reduceAdd, Int.reduceNeg, Int.reduceEq, reduceCtorEq, enc, e1, e2, e3, x1, x2, h5, h0, h4, h3, hb, hc, show ((92 : UInt8).toNat : Int) = 92 from rfl, g, e110, cut1 hc]
                  exact ⟨by omega, by omega, by omega, k - 2, by omega, i + 2, _, _, _, by omega, rfl, rfl, rfl, hO, fun _ => hE, fun _ => by omega, by simp only [List.length_nil, List.length_append, List.length_cons]; omega, hs1, hs2⟩
            · have e3 : ¬ (((i + 1 : Nat) : Int) < (s.length : Int)) := by omega
              rw [parts_end hb (by decide) (by omega)] at hE
              simp -implicitDefEqProofs -dsimp only [↓reduceIte, ↓W_seq, go_sem, WR_nil, evNews, Nat.reduceEqDiff, Nat.reduceAdd, Nat.reduceMul, Nat.reduceLeDiff, Nat.reduceLT, Int.cast_ofNat_Int, Int.reduceBNe, Int.reduceToNat, Int.reduceLT, Int.reduceLE, Int.reduceAdd, Int.reduceNeg, Int.reduceEq, reduceCtorEq, enc, e1, e2, e3, x1, x2, h5, h0, h4, h3, hb, show ((92 : UInt8).toNat : Int) = 92 from rfl, cut1 hb]
              exact ⟨by omega, by omega, by omega, k - 1, by omega, i + 1, _, _, _, by omega, rfl, rfl, rfl, hO, fun _ => hE, fun _ => by omega, by simp only [List.length_nil, List.length_append, List.length_cons]; omega, hs1, hs2⟩
          · have e92 : ((b.toNat : Int) == 92) = false := byte_ne (n := 92) (by decide) hb92
            rw [parts_lit hb hb38 hb92] at hE
            simp -implicitDefEqProofs -dsimp only [↓reduceIte, ↓W_seq, go_sem, WR_nil, evNews, Nat.reduceEqDiff, Nat.reduceAdd, Nat.reduceMul, Nat.reduceLeDiff, Nat.reduceLT, Int.cast_ofNat_Int, Int.reduceBNe, Int.reduceToNat, Int.reduceLT, Int.reduceLE, Int.reduceAdd, Int.reduceNeg, Int.reduceEq, reduceCtorEq, enc, e1, e2, e38, e92, x1, h5, h0, h4, h3, hb, cut1 hb]
            exact ⟨by omega, by omega, by omega, k - 1, by omega, i + 1, _, _, _, by omega, rfl, rfl, rfl, hO, fun _ => hE, fun _ => by omega, by simp only [List.length_nil, List.length_append, List.length_cons]; omega, hs1, hs2⟩
    · have e1 : ¬ ((i : Int) ≤ (s.length : Int)) := by omega
      replace hF := hF (by omega)
      subst hF
      simp -implicitDefEqProofs -dsimp only [↓reduceIte, ↓W_seq, go_sem, WR_nil, evNews, Nat.reduceEqDiff, Nat.reduceAdd, Nat.reduceMul, Nat.reduceLeDiff, Nat.reduceLT, Int.cast_ofNat_Int, Int.reduceBNe, Int.reduceToNat, Int.reduceLT, Int.reduceLE, Int.reduceAdd, Int.reduceNeg, Int.reduceEq, reduceCtorEq, enc, e1, h5, h0, h4, h3, ownP_frz hO, ownP_res hO, hs1]
  · refine ⟨0, [], .sl .nil [], [], Nat.zero_add _, ?_⟩
    simp -implicitDefEqProofs -dsimp only [↓reduceIte, ↓W_seq, go_sem, WR_nil, evNews, Nat.reduceEqDiff, Nat.reduceAdd, Nat.reduceMul, Nat.reduceLeDiff, Nat.reduceLT, Int.cast_ofNat_Int, Int.reduceBNe, Int.reduceToNat, Int.reduceLT, Int.reduceLE, Int.reduceAdd, Int.reduceNeg, Int.reduceEq, reduceCtorEq, enc, cut_und _ _ hu, hun, List.drop_zero, List.nil_append]
    exact ⟨.inl ⟨rfl, rfl⟩, fun _ => trivial, fun h => h.elim⟩
end
end Go.Proofs.Tryz.E
