/- Walks: what the functions compute. -/
import Derived.Test.YthmimamdpcmnmaaGreatDoorE22
set_option linter.unusedVariables false
set_option linter.unusedSimpArgs false
/- The reader: a repeat's bounds; what begins with a backslash. -/
namespace Go.Proofs.Tryz.E
open Go.Mv
set_option maxHeartbeats 4000000
set_option maxRecDepth 20000
def brcV (o : Option (Int × Int × Nat)) : MV := match o with
  | some x => .tup [.int .i64 x.1, .int .i64 x.2.1, .bool true]
  | none => .tup [.int .i64 0, .int .i64 0, .bool false]
def brcR (r : Rd) (o : Option (Int × Int × Nat)) : Rd := match o with
  | some x => r.go x.2.2
  | none => r
theorem brcV_some (x : Int × Int × Nat) : brcV (some x) = .tup [.int .i64 x.1, .int .i64 x.2.1, .bool true] := rfl
theorem brcV_none : brcV none = .tup [.int .i64 0, .int .i64 0, .bool false] := rfl
theorem brcR_some (r : Rd) (x : Int × Int × Nat) : brcR r (some x) = r.go x.2.2 := rfl
theorem brcR_none (r : Rd) : brcR r none = r := rfl
theorem encP_go (s : List UInt8) (r : Rd) (a : Nat) (h : r.bad = false) : encP s (r.go a) = [.str s, .int .i64 a, .int .i64 r.g, .int .i64 (-1)] := by simp only [encP, Rd.go, h, Bool.false_eq_true, if_false]
theorem encP_good (s : List UInt8) (r : Rd) (h : r.bad = false) : encP s r = [.str s, .int .i64 r.at', .int .i64 r.g, .int .i64 (-1)] := by simp only [encP, h, Bool.false_eq_true, if_false]
theorem w66 (s : List UInt8) (r : Rd) (hs : s.length ≤ 1000000) (hr : r.at' < s.length) (hb : r.bad = false) (p : Mv.Loc) (lim d : Nat) (hp : p.d < d) (hlim : lim ≤ p.d) (σ : Sto) (hu : σ.Und d) (ho : σ.ob p = some (encP s r)) :
    Ret lim d 95 [.ptr p 0] σ (brcV (bracesS s r.at')) (σ.set p (encP s (brcR r (bracesS s r.at')))) := by
  have hun := und_succ hu
  have hne := ne_my hp
  have hmy := my_ne hp
  have hp1 := Nat.lt_succ_of_lt hp
  have hus : ∀ R : List MV, (σ.set p R).Und (d + 1) := fun R => by rw [u_set _ _ _ _ hp1]; exact hun
  have hos : ∀ R : List MV, (σ.set p R).ob p = some R := fun R => by simp only [go_sem, if_true]
  have ho2 := ho
  rw [encP_good s r hb] at ho2
  have x1 := wr64 ((r.at' : Int) + 1) (by omega) (by omega)
  have hA := digs_len s (r.at' + 1)
  have hAd := digs_dig s (r.at' + 1)
  have hgo1 : [MV.str s, .int .i64 ((r.at' : Int) + 1), .int .i64 r.g, .int .i64 (-1)] = encP s (r.go (r.at' + 1)) := by rw [encP_go s r _ hb]; rfl
  have hback : [MV.str s, .int .i64 r.at', .int .i64 r.g, .int .i64 (-1)] = encP s r := (encP_good s r hb).symm
  have hBu : bracesS s r.at' = if digsAt s (r.at' + 1) = [] ∨ 255 < numV (digsAt s (r.at' + 1)) then none else
    if s[r.at' + 1 + (digsAt s (r.at' + 1)).length]? = some 44 then
      if s[r.at' + 1 + (digsAt s (r.at' + 1)).length + 1 + (digsAt s (r.at' + 1 + (digsAt s (r.at' + 1)).length + 1)).length]? = some 125 ∧ (digsAt s (r.at' + 1 + (digsAt s (r.at' + 1)).length + 1) = [] ∨ numV (digsAt s (r.at' + 1 + (digsAt s (r.at' + 1)).length + 1)) ≤ 255 ∧ numV (digsAt s (r.at' + 1)) ≤ numV (digsAt s (r.at' + 1 + (digsAt s (r.at' + 1)).length + 1))) then
        some ((numV (digsAt s (r.at' + 1)) : Int), if digsAt s (r.at' + 1 + (digsAt s (r.at' + 1)).length + 1) = [] then (-1 : Int) else (numV (digsAt s (r.at' + 1 + (digsAt s (r.at' + 1)).length + 1)) : Int), r.at' + 1 + (digsAt s (r.at' + 1)).length + 1 + (digsAt s (r.at' + 1 + (digsAt s (r.at' + 1)).length + 1)).length + 1) else none
    else if s[r.at' + 1 + (digsAt s (r.at' + 1)).length]? = some 125 then some ((numV (digsAt s (r.at' + 1)) : Int), (numV (digsAt s (r.at' + 1)) : Int), r.at' + 1 + (digsAt s (r.at' + 1)).length + 1) else none := rfl
  generalize bracesS s r.at' = B at hBu
  unfold Ret
  rw [WF_body (C := X) rfl Go.Proofs.Tryz.func95 rfl (by kernel_rfl)]; simp only [Go.Proofs.Tryz.results95]
  simp -implicitDefEqProofs -dsimp only [↓reduceIte, ↓W_seq, go_sem, WR_nil, evNews, Nat.reduceEqDiff, Nat.reduceAdd, Nat.reduceMul, Nat.reduceLeDiff, Nat.reduceLT, Int.cast_ofNat_Int, Int.reduceBNe, Int.reduceToNat, Int.reduceLT, Int.reduceLE, Int.reduceAdd, Int.reduceNeg, Int.reduceEq, reduceCtorEq, enc, ho2, x1, hp, hlim, hgo1]
  refine (w77 s (r.go (r.at' + 1)) hs (by rw [go_at]; omega) hb p lim (d + 1) hp1 hlim _ (hus _) (hos _)).wh ?_
  simp only [go_at, go_go]
  generalize hAA : digsAt s (r.at' + 1) = A at hA hAd hBu
  generalize hP : r.at' + 1 + A.length = P at hBu
  have hPl : P ≤ s.length := by omega
  have hval : A ≠ [] → numG (-1) A = ((min (numV A) 256 : Nat) : Int) := numG_val A hAd
  have x2 := wr64 ((P : Int) + 1) (by omega) (by omega)
  simp -implicitDefEqProofs -dsimp only [↓reduceIte, ↓W_seq, go_sem, WR_nil, evNews, Nat.reduceEqDiff, Nat.reduceAdd, Nat.reduceMul, Nat.reduceLeDiff, Nat.reduceLT, Int.cast_ofNat_Int, Int.reduceBNe, Int.reduceToNat, Int.reduceLT, Int.reduceLE, Int.reduceAdd, Int.reduceNeg, Int.reduceEq, reduceCtorEq, enc, set_set, ba_data]
  refine (w31 s (r.go P) [44] hs p lim (d + 1) hp1 _ (hus _) (hos _)).wh ?_
  rw [go_nx s r P hb, isS_one]
  have bad1 : A = [] ∨ 255 < numV A → B = none := fun h => by rw [hBu, if_pos h]
  cases h44 : s[P]? == some 44
  · have h44' : ¬ s[P]? = some 44 := by rw [beq_eq_false_iff_ne] at h44; exact h44
    rw [if_neg h44'] at hBu
    by_cases hA0 : A = []
    · have hBn := bad1 (.inl hA0)
      subst hA0
      simp -implicitDefEqProofs -dsimp only [↓reduceIte, ↓W_seq, go_sem, WR_nil, evNews, Nat.reduceEqDiff, Nat.reduceAdd, Nat.reduceMul, Nat.reduceLeDiff, Nat.reduceLT, Int.cast_ofNat_Int, Int.reduceBNe, Int.reduceToNat, Int.reduceLT, Int.reduceLE, Int.reduceAdd, Int.reduceNeg, Int.reduceEq, reduceCtorEq, enc, numG, encP_go s r P hb, hp, hlim, hback, set_set, cut_set _ _ _ _ hp, cut_und _ _ hu, hBn, brcV_none, brcR_none]
    · rw [hval hA0]
      by_cases hbig : 255 < numV A
      · have hBn := bad1 (.inr hbig)
        have e1 : ¬ (((min (numV A) 256 : Nat) : Int) ≤ 255) := by omega
        have e2 : (0 : Int) ≤ ((min (numV A) 256 : Nat) : Int) := by omega
        simp -implicitDefEqProofs -dsimp only [↓reduceIte, ↓W_seq, go_sem, WR_nil, evNews, Nat.reduceEqDiff, Nat.reduceAdd, Nat.reduceMul, Nat.reduceLeDiff, Nat.reduceLT, Int.cast_ofNat_Int, Int.reduceBNe, Int.reduceToNat, Int.reduceLT, Int.reduceLE, Int.reduceAdd, Int.reduceNeg, Int.reduceEq, reduceCtorEq, enc, e1, e2, encP_go s r P hb, hp, hlim, hback, set_set, cut_set _ _ _ _ hp, cut_und _ _ hu, hBn, brcV_none, brcR_none]
      · have e0 : ((min (numV A) 256 : Nat) : Int) = (numV A : Int) := by omega
        have e1 : ((numV A : Int) ≤ 255) := by omega
        have e2 : (0 : Int) ≤ (numV A : Int) := by omega
        have e3 : ¬ ((numV A : Int) < 0) := by omega
        rw [if_neg (by simp [hA0, hbig])] at hBu
        rw [e0]
        simp -implicitDefEqProofs -dsimp only [↓reduceIte, ↓W_seq, go_sem, WR_nil, evNews, Nat.reduceEqDiff, Nat.reduceAdd, Nat.reduceMul, Nat.reduceLeDiff, Nat.reduceLT, Int.cast_ofNat_Int, Int.reduceBNe, Int.reduceToNat, Int.reduceLT, Int.reduceLE, Int.reduceAdd, Int.reduceNeg, Int.reduceEq, reduceCtorEq, enc, e1, e2, e3, ba_data]
        refine (w31 s (r.go P) [125] hs p lim (d + 1) hp1 _ (hus _) (hos _)).wh ?_
        rw [go_nx s r P hb, isS_one]
        cases h125 : s[P]? == some 125
        · have hBn : B = none := by
            rw [beq_eq_false_iff_ne] at h125
            rw [hBu, if_neg h125]
          simp -implicitDefEqProofs -dsimp only [↓reduceIte, ↓W_seq, go_sem, WR_nil, evNews, Nat.reduceEqDiff, Nat.reduceAdd, Nat.reduceMul, Nat.reduceLeDiff, Nat.reduceLT, Int.cast_ofNat_Int, Int.reduceBNe, Int.reduceToNat, Int.reduceLT, Int.reduceLE, Int.reduceAdd, Int.reduceNeg, Int.reduceEq, reduceCtorEq, enc, encP_go s r P hb, hp, hlim, hback, set_set, cut_set _ _ _ _ hp, cut_und _ _ hu, hBn, brcV_none, brcR_none]
        · rw [if_pos (by simpa using h125)] at hBu
          simp -implicitDefEqProofs -dsimp only [↓reduceIte, ↓W_seq, go_sem, WR_nil, evNews, Nat.reduceEqDiff, Nat.reduceAdd, Nat.reduceMul, Nat.reduceLeDiff, Nat.reduceLT, Int.cast_ofNat_Int, Int.reduceBNe, Int.reduceToNat, Int.reduceLT, Int.reduceLE, Int.reduceAdd, Int.reduceNeg, Int.reduceEq, reduceCtorEq, enc, encP_go s r P hb, x2, hp, hlim, set_set, cut_set _ _ _ _ hp, cut_und _ _ hu, hBu, brcV_some, brcR_some, encP_go s r (P + 1) hb, Int.natCast_add]
  · have h44' : s[P]? = some 44 := by simpa using h44
    have hPs : P < s.length := by
      rcases Nat.lt_or_ge P s.length with h | h
      · exact h
      · rw [List.getElem?_eq_none h] at h44'; cases h44'
    rw [if_pos h44'] at hBu
    have hgo2 : [MV.str s, .int .i64 ((P : Int) + 1), .int .i64 r.g, .int .i64 (-1)] = encP s (r.go (P + 1)) := by rw [encP_go s r _ hb]; rfl
    simp -implicitDefEqProofs -dsimp only [↓reduceIte, ↓W_seq, go_sem, WR_nil, evNews, Nat.reduceEqDiff, Nat.reduceAdd, Nat.reduceMul, Nat.reduceLeDiff, Nat.reduceLT, Int.cast_ofNat_Int, Int.reduceBNe, Int.reduceToNat, Int.reduceLT, Int.reduceLE, Int.reduceAdd, Int.reduceNeg, Int.reduceEq, reduceCtorEq, enc, encP_go s r P hb, x2, hp, hlim, set_set, hgo2]
    refine (w77 s (r.go (P + 1)) hs (by rw [go_at]; omega) hb p lim (d + 1) hp1 hlim _ (hus _) (hos _)).wh ?_
    simp only [go_at, go_go]
    have hC := digs_len s (P + 1)
    have hCd := digs_dig s (P + 1)
    generalize hCC : digsAt s (P + 1) = C at hC hCd hBu
    generalize hQ : P + 1 + C.length = Q at hBu
    have hQl : Q ≤ s.length := by omega
    have hvalC : C ≠ [] → numG (-1) C = ((min (numV C) 256 : Nat) : Int) := numG_val C hCd
    have x3 := wr64 ((Q : Int) + 1) (by omega) (by omega)
    by_cases hA0 : A = []
    · have hBn := bad1 (.inl hA0)
      subst hA0
      simp -implicitDefEqProofs -dsimp only [↓reduceIte, ↓W_seq, go_sem, WR_nil, evNews, Nat.reduceEqDiff, Nat.reduceAdd, Nat.reduceMul, Nat.reduceLeDiff, Nat.reduceLT, Int.cast_ofNat_Int, Int.reduceBNe, Int.reduceToNat, Int.reduceLT, Int.reduceLE, Int.reduceAdd, Int.reduceNeg, Int.reduceEq, reduceCtorEq, enc, numG, encP_go s r Q hb, hp, hlim, hback, set_set, cut_set _ _ _ _ hp, cut_und _ _ hu, hBn, brcV_none, brcR_none]
    · rw [hval hA0]
      by_cases hbig : 255 < numV A
      · have hBn := bad1 (.inr hbig)
        have e1 : ¬ (((min (numV A) 256 : Nat) : Int) ≤ 255) := by omega
        have e2 : (0 : Int) ≤ ((min (numV A) 256 : Nat) : Int) := by omega
        simp -implicitDefEqProofs -dsimp only [↓reduceIte, ↓W_seq, go_sem, WR_nil, evNews, Nat.reduceEqDiff, Nat.reduceAdd, Nat.reduceMul, Nat.reduceLeDiff, Nat.reduceLT, Int.cast_ofNat_Int, Int.reduceBNe, Int.reduceToNat, Int.reduceLT, Int.reduceLE, Int.reduceAdd, Int.reduceNeg, Int.reduceEq, reduceCtorEq, enc, e1, e2, encP_go s r Q hb, hp, hlim, hback, set_set, cut_set _ _ _ _ hp, cut_und _ _ hu, hBn, brcV_none, brcR_none]
      · have e0 : ((min (numV A) 256 : Nat) : Int) = (numV A : Int) := by omega
        have e1 : ((numV A : Int) ≤ 255) := by omega
        have e2 : (0 : Int) ≤ (numV A : Int) := by omega
        rw [if_neg (by simp [hA0, hbig])] at hBu
        rw [e0]
        by_cases hC0 : C = []
        · subst hC0
          simp only [true_or, and_true, if_true] at hBu
          simp -implicitDefEqProofs -dsimp only [↓reduceIte, ↓W_seq, go_sem, WR_nil, evNews, Nat.reduceEqDiff, Nat.reduceAdd, Nat.reduceMul, Nat.reduceLeDiff, Nat.reduceLT, Int.cast_ofNat_Int, Int.reduceBNe, Int.reduceToNat, Int.reduceLT, Int.reduceLE, Int.reduceAdd, Int.reduceNeg, Int.reduceEq, reduceCtorEq, enc, e1, e2, numG, ba_data, set_set]
          refine (w31 s (r.go Q) [125] hs p lim (d + 1) hp1 _ (hus _) (hos _)).wh ?_
          rw [go_nx s r Q hb, isS_one]
          cases h125 : s[Q]? == some 125
          · have hBn : B = none := by
              rw [beq_eq_false_iff_ne] at h125
              rw [hBu, if_neg h125]
            simp -implicitDefEqProofs -dsimp only [↓reduceIte, ↓W_seq, go_sem, WR_nil, evNews, Nat.reduceEqDiff, Nat.reduceAdd, Nat.reduceMul, Nat.reduceLeDiff, Nat.reduceLT, Int.cast_ofNat_Int, Int.reduceBNe, Int.reduceToNat, Int.reduceLT, Int.reduceLE, Int.reduceAdd, Int.reduceNeg, Int.reduceEq, reduceCtorEq, enc, encP_go s r Q hb, hp, hlim, hback, set_set, cut_set _ _ _ _ hp, cut_und _ _ hu, hBn, brcV_none, brcR_none]
          · rw [if_pos (by simpa using h125)] at hBu
            simp -implicitDefEqProofs -dsimp only [↓reduceIte, ↓W_seq, go_sem, WR_nil, evNews, Nat.reduceEqDiff, Nat.reduceAdd, Nat.reduceMul, Nat.reduceLeDiff, Nat.reduceLT, Int.cast_ofNat_Int, Int.reduceBNe, Int.reduceToNat, Int.reduceLT, Int.reduceLE, Int.reduceAdd, Int.reduceNeg, Int.reduceEq, reduceCtorEq, enc, encP_go s r Q hb, x3, hp, hlim, set_set, cut_set _ _ _ _ hp, cut_und _ _ hu, hBu, brcV_some, brcR_some, encP_go s r (Q + 1) hb, Int.natCast_add]
        · rw [hvalC hC0]
          simp only [hC0, false_or, if_false] at hBu
          by_cases hbg : 255 < numV C
          · have hBn : B = none := by rw [hBu, if_neg (by omega)]
            have e4 : ¬ (((min (numV C) 256 : Nat) : Int) ≤ 255) := by omega
            simp -implicitDefEqProofs -dsimp only [↓reduceIte, ↓W_seq, go_sem, WR_nil, evNews, Nat.reduceEqDiff, Nat.reduceAdd, Nat.reduceMul, Nat.reduceLeDiff, Nat.reduceLT, Int.cast_ofNat_Int, Int.reduceBNe, Int.reduceToNat, Int.reduceLT, Int.reduceLE, Int.reduceAdd, Int.reduceNeg, Int.reduceEq, reduceCtorEq, enc, e1, e2, e4, encP_go s r Q hb, hp, hlim, hback, set_set, cut_set _ _ _ _ hp, cut_und _ _ hu, hBn, brcV_none, brcR_none]
          · have e5 : ((min (numV C) 256 : Nat) : Int) = (numV C : Int) := by omega
            rw [e5]
            have e6 : ((numV C : Int) ≤ 255) := by omega
            have e7 : ¬ ((numV C : Int) < 0) := by omega
            by_cases hle : numV A ≤ numV C
            · have e8 : ((numV A : Int) ≤ (numV C : Int)) := by omega
              simp -implicitDefEqProofs -dsimp only [↓reduceIte, ↓W_seq, go_sem, WR_nil, evNews, Nat.reduceEqDiff, Nat.reduceAdd, Nat.reduceMul, Nat.reduceLeDiff, Nat.reduceLT, Int.cast_ofNat_Int, Int.reduceBNe, Int.reduceToNat, Int.reduceLT, Int.reduceLE, Int.reduceAdd, Int.reduceNeg, Int.reduceEq, reduceCtorEq, enc, e1, e2, e6, e7, e8, ba_data, set_set]
              refine (w31 s (r.go Q) [125] hs p lim (d + 1) hp1 _ (hus _) (hos _)).wh ?_
              rw [go_nx s r Q hb, isS_one]
              cases h125 : s[Q]? == some 125
              · have hBn : B = none := by
                  rw [beq_eq_false_iff_ne] at h125
                  rw [hBu, if_neg (fun h => h125 h.1)]
                simp -implicitDefEqProofs -dsimp only [↓reduceIte, ↓W_seq, go_sem, WR_nil, evNews, Nat.reduceEqDiff, Nat.reduceAdd, Nat.reduceMul, Nat.reduceLeDiff, Nat.reduceLT, Int.cast_ofNat_Int, Int.reduceBNe, Int.reduceToNat, Int.reduceLT, Int.reduceLE, Int.reduceAdd, Int.reduceNeg, Int.reduceEq, reduceCtorEq, enc, encP_go s r Q hb, hp, hlim, hback, set_set, cut_set _ _ _ _ hp, cut_und _ _ hu, hBn, brcV_none, brcR_none]
              · rw [if_pos ⟨by simpa using h125, by omega, hle⟩] at hBu
                simp -implicitDefEqProofs -dsimp only [↓reduceIte, ↓W_seq, go_sem, WR_nil, evNews, Nat.reduceEqDiff, Nat.reduceAdd, Nat.reduceMul, Nat.reduceLeDiff, Nat.reduceLT, Int.cast_ofNat_Int, Int.reduceBNe, Int.reduceToNat, Int.reduceLT, Int.reduceLE, Int.reduceAdd, Int.reduceNeg, Int.reduceEq, reduceCtorEq, enc, encP_go s r Q hb, x3, hp, hlim, set_set, cut_set _ _ _ _ hp, cut_und _ _ hu, hBu, brcV_some, brcR_some, encP_go s r (Q + 1) hb, Int.natCast_add]
            · have hBn : B = none := by rw [hBu, if_neg (fun h => hle h.2.2)]
              have e8 : ¬ ((numV A : Int) ≤ (numV C : Int)) := by omega
              simp -implicitDefEqProofs -dsimp only [↓reduceIte, ↓W_seq, go_sem, WR_nil, evNews, Nat.reduceEqDiff, Nat.reduceAdd, Nat.reduceMul, Nat.reduceLeDiff, Nat.reduceLT, Int.cast_ofNat_Int, Int.reduceBNe, Int.reduceToNat, Int.reduceLT, Int.reduceLE, Int.reduceAdd, Int.reduceNeg, Int.reduceEq, reduceCtorEq, enc, e1, e2, e6, e7, e8, encP_go s r Q hb, hp, hlim, hback, set_set, cut_set _ _ _ _ hp, cut_und _ _ hu, hBn, brcV_none, brcR_none]
end Go.Proofs.Tryz.E
