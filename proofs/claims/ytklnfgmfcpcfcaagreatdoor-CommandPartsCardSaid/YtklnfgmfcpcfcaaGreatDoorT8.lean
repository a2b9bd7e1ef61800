/- Walks: what the functions compute. -/
import Derived.Test.YtklnfgmfcpcfcaaGreatDoorT7
set_option linter.unusedVariables false
set_option linter.unusedSimpArgs false
/- A replacement's parts: in plain words; as the package reads them. -/
namespace Go.Proofs.Tryz.E
open Go.Mv
set_option maxHeartbeats 4000000
set_option maxRecDepth 20000
/-- A replacement's parts; the bytes that were gathered ahead of it. -/
def partsP : List UInt8 → List UInt8 → List Pt
  | [], t => flP t
  | [c], t => if c = 38 then flP t ++ [(0, [])] else flP (t ++ [c])
  | c :: e :: r, t =>
    if c = 38 then flP t ++ (0, []) :: partsP (e :: r) []
    else if c = 92 then
      if 49 ≤ e.toNat ∧ e.toNat ≤ 57 then flP t ++ ((e.toNat : Int) - 48, []) :: partsP r []
      else if e = 110 then partsP r (t ++ [10])
      else partsP r (t ++ [e])
    else partsP (e :: r) (t ++ [c])
theorem partsE (t : List UInt8) : partsP [] t = flP t := by rw [partsP]
theorem parts_and {s : List UInt8} {i : Nat} {t : List UInt8} (h : s[i]? = some 38) : partsP (s.drop i) t = flP t ++ (0, []) :: partsP (s.drop (i + 1)) [] := by
  obtain ⟨hi, he⟩ := List.getElem?_eq_some_iff.1 h
  rw [List.drop_eq_getElem_cons hi, he]
  cases hr : s.drop (i + 1) with
  | nil => simp [partsP, flP_nil]
  | cons c r => rw [partsP, if_pos rfl]
theorem parts_end {s : List UInt8} {i : Nat} {t : List UInt8} {b : UInt8} (h : s[i]? = some b) (hb : b ≠ 38) (hn : i + 1 = s.length) : partsP (s.drop i) t = partsP (s.drop (i + 1)) (t ++ [b]) := by
  obtain ⟨hi, he⟩ := List.getElem?_eq_some_iff.1 h
  rw [List.drop_eq_getElem_cons hi, he, List.drop_eq_nil_of_le (by omega : s.length ≤ i + 1), partsE, partsP, if_neg hb]
theorem parts_lit {s : List UInt8} {i : Nat} {t : List UInt8} {b : UInt8} (h : s[i]? = some b) (hb : b ≠ 38) (hb2 : b ≠ 92) : partsP (s.drop i) t = partsP (s.drop (i + 1)) (t ++ [b]) := by
  obtain ⟨hi, he⟩ := List.getElem?_eq_some_iff.1 h
  by_cases hn : i + 1 = s.length
  · exact parts_end h hb hn
  · rw [List.drop_eq_getElem_cons hi, he, List.drop_eq_getElem_cons (by omega : i + 1 < s.length), partsP, if_neg hb, if_neg hb2]
theorem parts_esc {s : List UInt8} {i : Nat} {t : List UInt8} {c : UInt8} (h : s[i]? = some 92) (hc : s[i + 1]? = some c) : partsP (s.drop i) t =
    if 49 ≤ c.toNat ∧ c.toNat ≤ 57 then flP t ++ ((c.toNat : Int) - 48, []) :: partsP (s.drop (i + 2)) [] else if c = 110 then partsP (s.drop (i + 2)) (t ++ [10]) else partsP (s.drop (i + 2)) (t ++ [c]) := by
  obtain ⟨hi, he⟩ := List.getElem?_eq_some_iff.1 h
  obtain ⟨hj, hf⟩ := List.getElem?_eq_some_iff.1 hc
  rw [List.drop_eq_getElem_cons hi, he, List.drop_eq_getElem_cons hj, hf, partsP, if_neg (by decide), if_pos rfl]
theorem flP_len (t : List UInt8) : (flP t).length ≤ t.length := by
  unfold flP
  split
  · exact Nat.zero_le _
  · rename_i h; exact List.length_pos_iff.2 h
theorem byte_ne {b : UInt8} {n : Nat} (hn : n < 256) (h : b ≠ UInt8.ofNat n) : ((b.toNat : Int) == (n : Int)) = false := by
  rw [beq_eq_false_iff_ne]
  intro e
  have : b.toNat = n := by omega
  exact h (by rw [← this]; simp)
theorem wru8P (x : Int) (h : 0 ≤ x) (h2 : x < 256) : IntKind.u8.wrap x = x := by
  have : IntKind.u8.wrap x = x % 256 := by
    simp only [IntKind.wrap, IntKind.bits, IntKind.signed]
    simp
  rw [this]
  omega
theorem ofNP (x : UInt8) : UInt8.ofNat ((x.toNat : Int)).toNat = x := by simp
section
set_option maxHeartbeats 8000000
theorem w662 (s : List UInt8) (hs : s.length ≤ 100000) (lim d : Nat) (σ : Sto) (hlim : lim ≤ d) (hu : σ.Und d) : Ret lim d 7 [.str s] σ (.sl .no (encPs (partsP s []))) σ := by
  have hun := und_succ hu
  unfold Ret
  rw [WF_body (C := X) rfl Go.Proofs.Tryz.func7 rfl (by kernel_rfl)]; simp only [Go.Proofs.Tryz.results7]
  simp -implicitDefEqProofs -dsimp only [↓reduceIte, ↓W_seq, go_sem, WR_nil, evNews, Nat.reduceEqDiff, Nat.reduceAdd, Nat.reduceMul, Nat.reduceLeDiff, Nat.reduceLT, Int.cast_ofNat_Int, Int.reduceBNe, Int.reduceToNat, Int.reduceLT, Int.reduceLE, Int.reduceAdd, Int.reduceNeg, Int.reduceEq, reduceCtorEq, enc]
  refine loop_h (I := fun k a st => ∃ (i : Nat) (t : List UInt8) (acc : List Pt), i + k = s.length ∧ a 4 = .int .i64 i ∧ a 0 = .str s ∧ a 3 = .ptr ⟨d, 1000000 + (70 * 1024 + 3), σ.ct d⟩ 0 ∧ CB st ⟨d, 1000000 + (70 * 1024 + 3), σ.ct d⟩ acc t ∧ acc ++ partsP (s.drop i) t = partsP s [] ∧ acc.length + t.length ≤ i ∧ st.cut d = σ ∧ st.Und (d + 1)) ?_ s.length _ _ ?_
  · rintro k a st ⟨i, t, acc, hk, h4, h0, h3, hC, hE, hL, hs1, hs2⟩
    have hB : isB1 ⟨d, 1000000 + (70 * 1024 + 3), σ.ct d⟩ = true := by kernel_rfl
    by_cases hi : i < s.length
    · have e1 : ((i : Int) < (s.length : Int)) := by omega
      have x1 : IntKind.i64.wrap ((i : Int) + 1) = ((i + 1 : Nat) : Int) := by rw [wr64 _ (by omega) (by omega)]; omega
      have x2 : IntKind.i64.wrap (((i + 1 : Nat) : Int) + 1) = ((i + 2 : Nat) : Int) := by rw [wr64 _ (by omega) (by omega)]; omega
      obtain ⟨b, hb⟩ : ∃ b, s[i]? = some b := ⟨_, List.getElem?_eq_getElem hi⟩
      by_cases hb92 : b = 92
      · subst hb92
        by_cases hn : i + 1 < s.length
        · have e2 : (((i + 1 : Nat) : Int) < (s.length : Int)) := by omega
          obtain ⟨c, hc⟩ : ∃ c, s[i + 1]? = some c := ⟨_, List.getElem?_eq_getElem hn⟩
          have hlt := c.toNat_lt
          have hE2 := hE
          rw [parts_esc hb hc] at hE2
          by_cases hd : 49 ≤ c.toNat ∧ c.toNat ≤ 57
          · rw [if_pos hd] at hE2
            have g1 : (49 : Int) ≤ (c.toNat : Int) := by omega
            have g2 : (c.toNat : Int) ≤ 57 := by omega
            have y1 : IntKind.u8.wrap ((c.toNat : Int) - 48) = (c.toNat : Int) - 48 := wru8P _ (by omega) (by omega)
            have y2 : IntKind.i64.wrap ((c.toNat : Int) - 48) = (c.toNat : Int) - 48 := wr64 _ (by omega) (by omega)
            simp -implicitDefEqProofs -dsimp only [↓reduceIte, ↓W_seq, go_sem, WR_nil, evNews, Nat.reduceEqDiff, Nat.reduceAdd, Nat.reduceMul, Nat.reduceLeDiff, Nat.reduceLT, Int.cast_ofNat_Int, Int.reduceBNe, Int.reduceToNat, Int.reduceLT, Int.reduceLE, Int.reduceAdd, Int.reduceNeg, Int.reduceEq, reduceCtorEq, enc, e1, x1, x2, e2, h4, h0, h3, hb, hc, show ((92 : UInt8).toNat : Int) = 92 from rfl, g1, g2, y1, y2]
            refine w665 hC hlim (Nat.le_refl d) hs2 (by omega) (by omega) fun s' v q1 q2 q3 => ?_
            simp -implicitDefEqProofs -dsimp only [↓reduceIte, ↓W_seq, go_sem, WR_nil, evNews, Nat.reduceEqDiff, Nat.reduceAdd, Nat.reduceMul, Nat.reduceLeDiff, Nat.reduceLT, Int.cast_ofNat_Int, Int.reduceBNe, Int.reduceToNat, Int.reduceLT, Int.reduceLE, Int.reduceAdd, Int.reduceNeg, Int.reduceEq, reduceCtorEq, enc, x1, x2, h4, h0, h3]
            have := flP_len t
            refine ⟨k - 2, by omega, i + 2, [], _, by omega, rfl, q1, ?_, by simp only [List.length_append, List.length_cons, List.length_nil]; omega, (q2.cutE (Nat.le_succ d) (Nat.le_refl _)).trans hs1, q3⟩
            simpa using hE2
          · rw [if_neg hd] at hE2
            by_cases hc110 : c = 110
            · subst hc110
              rw [if_pos rfl] at hE2
              simp -implicitDefEqProofs -dsimp only [↓reduceIte, ↓W_seq, go_sem, WR_nil, evNews, Nat.reduceEqDiff, Nat.reduceAdd, Nat.reduceMul, Nat.reduceLeDiff, Nat.reduceLT, Int.cast_ofNat_Int, Int.reduceBNe, Int.reduceToNat, Int.reduceLT, Int.reduceLE, Int.reduceAdd, Int.reduceNeg, Int.reduceEq, reduceCtorEq, enc, e1, x1, x2, e2, h4, h0, h3, hb, hc, show ((92 : UInt8).toNat : Int) = 92 from rfl, show ((110 : UInt8).toNat : Int) = 110 from rfl]
              refine wB1 (c := 10) (by decide) hC hlim (Nat.le_refl d) hB hs2 (by omega) fun s' v q1 q2 q3 => ?_
              simp -implicitDefEqProofs -dsimp only [↓reduceIte, ↓W_seq, go_sem, WR_nil, evNews, Nat.reduceEqDiff, Nat.reduceAdd, Nat.reduceMul, Nat.reduceLeDiff, Nat.reduceLT, Int.cast_ofNat_Int, Int.reduceBNe, Int.reduceToNat, Int.reduceLT, Int.reduceLE, Int.reduceAdd, Int.reduceNeg, Int.reduceEq, reduceCtorEq, enc, x1, x2, h4, h0, h3]
              exact ⟨k - 2, by omega, i + 2, _, _, by omega, rfl, q1, hE2, by simp only [List.length_append, List.length_cons, List.length_nil]; omega, (q2.cutE (Nat.le_succ d) (Nat.le_refl _)).trans hs1, q3⟩
            · rw [if_neg hc110] at hE2
              have g : (decide ((49 : Int) ≤ (c.toNat : Int)) && decide ((c.toNat : Int) ≤ 57)) = false := by
                rw [Bool.eq_false_iff]
                intro e
                simp only [Bool.and_eq_true, decide_eq_true_eq] at e
                exact hd ⟨by omega, by omega⟩
              have e110 : ((c.toNat : Int) == 110) = false := byte_ne (n := 110) (by decide) hc110
              simp -implicitDefEqProofs -dsimp only [↓reduceIte, ↓W_seq, go_sem, WR_nil, evNews, Nat.reduceEqDiff, Nat.reduceAdd, Nat.reduceMul, Nat.reduceLeDiff, Nat.reduceLT, Int.cast_ofNat_Int, Int.reduceBNe, Int.reduceToNat, Int.reduceLT, Int.reduceLE, Int.reduceAdd, Int.reduceNeg, Int.reduceEq, reduceCtorEq, enc, e1, x1, x2, e2, h4, h0, h3, hb, hc, show ((92 : UInt8).toNat : Int) = 92 from rfl, g, e110]
              refine wB1 (c := (c.toNat : Int)) (by omega) hC hlim (Nat.le_refl d) hB hs2 (by omega) fun s' v q1 q2 q3 => ?_
              rw [ofNP] at q1
              simp -implicitDefEqProofs -dsimp only [↓reduceIte, ↓W_seq, go_sem, WR_nil, evNews, Nat.reduceEqDiff, Nat.reduceAdd, Nat.reduceMul, Nat.reduceLeDiff, Nat.reduceLT, Int.cast_ofNat_Int, Int.reduceBNe, Int.reduceToNat, Int.reduceLT, Int.reduceLE, Int.reduceAdd, Int.reduceNeg, Int.reduceEq, reduceCtorEq, enc, x1, x2, h4, h0, h3]
              exact ⟨k - 2, by omega, i + 2, _, _, by omega, rfl, q1, hE2, by simp only [List.length_append, List.length_cons, List.length_nil]; omega, (q2.cutE (Nat.le_succ d) (Nat.le_refl _)).trans hs1, q3⟩
        · have e2 : ¬ (((i + 1 : Nat) : Int) < (s.length : Int)) := by omega
          have hE2 := hE
          rw [parts_end hb (by decide) (by omega)] at hE2
          simp -implicitDefEqProofs -dsimp only [↓reduceIte, ↓W_seq, go_sem, WR_nil, evNews, Nat.reduceEqDiff, Nat.reduceAdd, Nat.reduceMul, Nat.reduceLeDiff, Nat.reduceLT, Int.cast_ofNat_Int, Int.reduceBNe, Int.reduceToNat, Int.reduceLT, Int.reduceLE, Int.reduceAdd, Int.reduceNeg, Int.reduceEq, reduceCtorEq, enc, e1, x1, x2, e2, h4, h0, h3, hb, show ((92 : UInt8).toNat : Int) = 92 from rfl]
          refine wB1 (c := 92) (by decide) hC hlim (Nat.le_refl d) hB hs2 (by omega) fun s' v q1 q2 q3 => ?_
          simp -implicitDefEqProofs -dsimp only [↓reduceIte, ↓W_seq, go_sem, WR_nil, evNews, Nat.reduceEqDiff, Nat.reduceAdd, Nat.reduceMul, Nat.reduceLeDiff, Nat.reduceLT, Int.cast_ofNat_Int, Int.reduceBNe, Int.reduceToNat, Int.reduceLT, Int.reduceLE, Int.reduceAdd, Int.reduceNeg, Int.reduceEq, reduceCtorEq, enc, x1, x2, h4, h0, h3]
          exact ⟨k - 1, by omega, i + 1, _, _, by omega, rfl, q1, hE2, by simp only [List.length_append, List.length_cons, List.length_nil]; omega, (q2.cutE (Nat.le_succ d) (Nat.le_refl _)).trans hs1, q3⟩
      · have e92 : ((b.toNat : Int) == 92) = false := byte_ne (n := 92) (by decide) hb92
        have hE2 := hE
        by_cases hb38 : b = 38
        · subst hb38
          rw [parts_and hb] at hE2
          simp -implicitDefEqProofs -dsimp only [↓reduceIte, ↓W_seq, go_sem, WR_nil, evNews, Nat.reduceEqDiff, Nat.reduceAdd, Nat.reduceMul, Nat.reduceLeDiff, Nat.reduceLT, Int.cast_ofNat_Int, Int.reduceBNe, Int.reduceToNat, Int.reduceLT, Int.reduceLE, Int.reduceAdd, Int.reduceNeg, Int.reduceEq, reduceCtorEq, enc, e1, x1, x2, h4, h0, h3, hb, show ((38 : UInt8).toNat : Int) = 38 from rfl]
          refine w665 hC hlim (Nat.le_refl d) hs2 (by omega) (by omega) fun s' v q1 q2 q3 => ?_
          simp -implicitDefEqProofs -dsimp only [↓reduceIte, ↓W_seq, go_sem, WR_nil, evNews, Nat.reduceEqDiff, Nat.reduceAdd, Nat.reduceMul, Nat.reduceLeDiff, Nat.reduceLT, Int.cast_ofNat_Int, Int.reduceBNe, Int.reduceToNat, Int.reduceLT, Int.reduceLE, Int.reduceAdd, Int.reduceNeg, Int.reduceEq, reduceCtorEq, enc, x1, x2, h4, h0, h3]
          have := flP_len t
          refine ⟨k - 1, by omega, i + 1, [], _, by omega, rfl, q1, ?_, by simp only [List.length_append, List.length_cons, List.length_nil]; omega, (q2.cutE (Nat.le_succ d) (Nat.le_refl _)).trans hs1, q3⟩
          simpa using hE2
        · have e38 : ((b.toNat : Int) == 38) = false := byte_ne (n := 38) (by decide) hb38
          rw [parts_lit hb hb38 hb92] at hE2
          have hlt := b.toNat_lt
          simp -implicitDefEqProofs -dsimp only [↓reduceIte, ↓W_seq, go_sem, WR_nil, evNews, Nat.reduceEqDiff, Nat.reduceAdd, Nat.reduceMul, Nat.reduceLeDiff, Nat.reduceLT, Int.cast_ofNat_Int, Int.reduceBNe, Int.reduceToNat, Int.reduceLT, Int.reduceLE, Int.reduceAdd, Int.reduceNeg, Int.reduceEq, reduceCtorEq, enc, e1, x1, x2, h4, h0, h3, hb, e92, e38]
          refine wB1 (c := (b.toNat : Int)) (by omega) hC hlim (Nat.le_refl d) hB hs2 (by omega) fun s' v q1 q2 q3 => ?_
          rw [ofNP] at q1
          simp -implicitDefEqProofs -dsimp only [↓reduceIte, ↓W_seq, go_sem, WR_nil, evNews, Nat.reduceEqDiff, Nat.reduceAdd, Nat.reduceMul, Nat.reduceLeDiff, Nat.reduceLT, Int.cast_ofNat_Int, Int.reduceBNe, Int.reduceToNat, Int.reduceLT, Int.reduceLE, Int.reduceAdd, Int.reduceNeg, Int.reduceEq, reduceCtorEq, enc, x1, x2, h4, h0, h3]
          exact ⟨k - 1, by omega, i + 1, _, _, by omega, rfl, q1, hE2, by simp only [List.length_append, List.length_cons, List.length_nil]; omega, (q2.cutE (Nat.le_succ d) (Nat.le_refl _)).trans hs1, q3⟩
    · have e1 : ¬ ((i : Int) < (s.length : Int)) := by omega
      rw [List.drop_eq_nil_of_le (by omega), partsE] at hE
      simp -implicitDefEqProofs -dsimp only [↓reduceIte, ↓W_seq, go_sem, WR_nil, evNews, Nat.reduceEqDiff, Nat.reduceAdd, Nat.reduceMul, Nat.reduceLeDiff, Nat.reduceLT, Int.cast_ofNat_Int, Int.reduceBNe, Int.reduceToNat, Int.reduceLT, Int.reduceLE, Int.reduceAdd, Int.reduceNeg, Int.reduceEq, reduceCtorEq, enc, e1, h4, h0, h3]
      refine w666 hC hlim (Nat.le_refl d) hs2 (by omega) (by omega) fun s' v q1 q2 q3 => ?_
      rw [hE] at q1
      obtain ⟨q, p, w, o1, o2, o3, o4⟩ := q1
      simp -implicitDefEqProofs -dsimp only [↓reduceIte, ↓W_seq, go_sem, WR_nil, evNews, Nat.reduceEqDiff, Nat.reduceAdd, Nat.reduceMul, Nat.reduceLeDiff, Nat.reduceLT, Int.cast_ofNat_Int, Int.reduceBNe, Int.reduceToNat, Int.reduceLT, Int.reduceLE, Int.reduceAdd, Int.reduceNeg, Int.reduceEq, reduceCtorEq, enc, h3, o1, ownP_frz o3, ownP_res o3]
      exact (q2.cutE (Nat.le_succ d) (Nat.le_refl _)).trans hs1
  · refine ⟨0, [], [], Nat.zero_add _, ?_⟩
    simp -implicitDefEqProofs -dsimp only [↓reduceIte, ↓W_seq, go_sem, WR_nil, evNews, Nat.reduceEqDiff, Nat.reduceAdd, Nat.reduceMul, Nat.reduceLeDiff, Nat.reduceLT, Int.cast_ofNat_Int, Int.reduceBNe, Int.reduceToNat, Int.reduceLT, Int.reduceLE, Int.reduceAdd, Int.reduceNeg, Int.reduceEq, reduceCtorEq, enc]
    refine ⟨⟨.sl .nil [], .nilp, .sl .nil [], by simp [Sto.set, Sto.tick], rfl, .inl ⟨rfl, rfl⟩, .inl ⟨rfl, rfl⟩⟩, cut_und _ _ hu, ?_⟩
    simp only [u_tick, u_mine]
    exact hun
end
end Go.Proofs.Tryz.E
