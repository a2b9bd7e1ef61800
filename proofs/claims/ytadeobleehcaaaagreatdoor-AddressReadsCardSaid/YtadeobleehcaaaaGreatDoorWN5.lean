/- Walks: what the functions compute. Walks: what the functions compute. -/
import Derived.Test.YtadeobleehcaaaaGreatDoorWN4
set_option linter.unusedVariables false
set_option linter.unusedSimpArgs false
/- The lexer: bracket expressions. -/
namespace Go.Proofs.Tryz.E
open Go.Mv
set_option maxHeartbeats 4000000
set_option maxRecDepth 20000
theorem isC_pre (l : List UInt8) : preS l [94] = isC l := by
 cases l with
 | nil => rfl
 | cons b r => simp [preS, isC]
theorem lin_ne {t : List UInt8} {b : UInt8} {r : List UInt8} (h : t = b :: r) (hb : b ≠ 10) : 1 ≤ (lin t).length := by
 subst h
 rw [lin, if_neg hb]
 simp
theorem w604 (t : List UInt8) (hs : t.length ≤ 1000000) (r0 : List UInt8) (ht : t = 91 :: r0) (lim d : Nat) (σ : Sto) (hu : σ.Und d) : Ret lim d 72 [.str t] σ (.int .i64 (brk t)) σ := by
 have hun := und_succ hu
 obtain ⟨ca, cb, hc⟩ := cut_lf t
 have hll := lin_len t
 have h10 := lin_no t
 have hl1 := lin_ne ht (by decide)
 unfold Ret
 unfold brk
 simp only
 generalize lin t = L at *
 have h2L : isC (L.drop 1) = true → 2 ≤ L.length := fun q => by
  simp only [isC, List.head?_drop, beq_iff_eq] at q
  have := (List.getElem?_eq_some_iff.1 q).1
  omega
 generalize hN : (if isC (L.drop 1) = true then 2 + brkF L.length (L.drop 2) true else 1 + brkF L.length (L.drop 1) true) = N
 rw [WF_body (C := X) rfl func72 rfl (by kernel_rfl)]; simp only [results72]
 simp -implicitDefEqProofs -dsimp only [↓reduceIte, ↓W_seq, go_sem, reduceCtorEq]
 refine (w87 t [10] hs lim (d + 1) _ hun).wh ?_
 rw [hc]
 have e1 : (0 : Int) ≤ 1 ∧ (1 : Int) ≤ (L.length : Int) := by omega
 have e2 : (1 : Int) ≤ (L.length : Int) := by omega
 have hp := isC_pre (L.drop 1)
 simp -implicitDefEqProofs -dsimp only [↓reduceIte, ↓W_seq, go_sem, Nat.reduceEqDiff, Int.reduceToNat, e1, List.take_length]
 refine (w81 (L.drop 1) [94] (by simp; omega) lim (d + 1) _ hun).wh ?_
 rw [hp]
 cases hC : isC (L.drop 1)
 ·rw [hC] at hN
  simp only [Bool.false_eq_true, if_false] at hN
  simp -implicitDefEqProofs -dsimp only [↓reduceIte, ↓W_seq, go_sem]
  refine loop_h (I := fun f a s' => ∃ (i k : Nat) (first : Bool), f = L.length - i ∧ i ≤ L.length ∧ L.length - i ≤ k ∧ a 3 = .str L ∧ a 6 = .int .i64 i ∧ a 7 = .bool first ∧ i + brkF k (L.drop i) first = N ∧ s'.cut d = σ ∧ s'.Und (d + 1)) ?_ (L.length - 1) _ _ ?_
  ·rintro f a s' ⟨i, k, first, hf, hi, hk, h3, h6, h7, hG, hcut, un⟩
   by_cases hlt : i < L.length
   ·obtain ⟨k, rfl⟩ : ∃ k', k = k' + 1 := ⟨k - 1, by omega⟩
    have g1 : ((i : Int) < (L.length : Int)) := by omega
    have g2 : L[i]? = some L[i] := List.getElem?_eq_getElem hlt
    have x1 : IntKind.i64.wrap ((i : Int) + 1) = ((i + 1 : Nat) : Int) := by rw [wr64 _ (by omega) (by omega)]; omega
    have hdi := List.drop_eq_getElem_cons hlt
    rw [hdi] at hG
    generalize L[i] = b at *
    have e93 := byte_lit b 93 (by decide)
    have e91 := byte_lit b 91 (by decide)
    simp only [Int.cast_ofNat_Int] at e93 e91
    have cont : ∀ (hG : i + (1 + brkF k (L.drop (i + 1)) false) = N), i + 1 + brkF k (L.drop (i + 1)) false = N := fun h => by omega
    simp only [brkF] at hG
    by_cases q93 : b = 93
    ·rw [show (b == UInt8.ofNat 93) = true by rw [q93]; rfl] at e93
     rw [show (b == UInt8.ofNat 91) = false by rw [q93]; rfl] at e91
     cases first
     ·rw [if_pos ⟨q93, rfl⟩] at hG
      subst hG
      simp -implicitDefEqProofs -dsimp only [↓reduceIte, ↓W_seq, go_sem, Nat.reduceEqDiff, h3, h6, h7, g1, g2, e93, x1, hcut]
     ·rw [if_neg (by simp), if_neg (by rw [q93]; simp)] at hG
      simp -implicitDefEqProofs -dsimp only [↓reduceIte, ↓W_seq, go_sem, Nat.reduceEqDiff, h3, h6, h7, g1, g2, e93, e91, x1]
      exact ⟨L.length - (i + 1), by omega, i + 1, k, false, rfl, by omega, by omega, by and_intros <;> first | rfl | omega | exact hcut | exact un⟩
    ·rw [show (b == UInt8.ofNat 93) = false by simpa using q93] at e93
     rw [if_neg (fun q => q93 q.1)] at hG
     by_cases q91 : b = 91
     ·rw [show (b == UInt8.ofNat 91) = true by rw [q91]; rfl] at e91
      by_cases hn : i + 1 < L.length
      ·have g3 : L[i + 1]? = some L[i + 1] := List.getElem?_eq_getElem hn
       have g4 : (((i + 1 : Nat) : Int) < (L.length : Int)) := by omega
       have hdi2 := List.drop_eq_getElem_cons hn
       rw [hdi2] at hG
       generalize L[i + 1] = x at *
       rw [List.head?_cons, List.headD_cons, List.tail_cons, isS_some] at hG
       have hin := idxB_in [46, 61, 58] x
       simp -implicitDefEqProofs -dsimp only [↓reduceIte, ↓W_seq, go_sem, Nat.reduceEqDiff, h3, h6, h7, g1, g2, g3, g4, e93, e91, x1]
       refine (w41 [46, 61, 58] x lim (d + 1) _ un).wh ?_
       cases hct : ([46, 61, 58] : List UInt8).contains x
       ·rw [hct] at hin
        have g5 : ¬ (0 ≤ idxB [46, 61, 58] x.toNat) := of_decide_eq_false hin
        rw [if_neg (by rw [hct]; simp), ← hdi2] at hG
        simp -implicitDefEqProofs -dsimp only [↓reduceIte, go_sem, Nat.reduceEqDiff, h3, h6, g5, x1]
        exact ⟨L.length - (i + 1), by omega, i + 1, k, false, rfl, by omega, by omega, by and_intros <;> first | rfl | omega | exact hcut | exact un⟩
       ·rw [hct] at hin
        have g5 : (0 ≤ idxB [46, 61, 58] x.toNat) := of_decide_eq_true hin
        rw [if_pos ⟨q91, hct⟩] at hG
        have hli : (0 : Int) ≤ (i : Int) ∧ (i : Int) ≤ (L.length : Int) := by omega
        have hl2 : (L.drop i).length = L.length - i := List.length_drop
        have h10i : (10 : UInt8) ∉ L.drop i := fun h => h10 (List.mem_of_mem_drop h)
        have hcv : closV (L.drop i) = match clo x (L.drop (i + 1 + 1)) with
         | none => -1
         | some j => (j : Int) + 4 := by unfold closV; rw [hdi, hdi2]; rfl
        have hli2 : (i : Int) ≤ (L.length : Int) := by omega
        simp -implicitDefEqProofs -dsimp only [↓reduceIte, ↓W_seq, go_sem, Nat.reduceEqDiff, h3, h6, g5, hli, List.take_length]
        refine (w606 (L.drop i) (by omega) (by omega) h10i lim (d + 1) _ un).wh ?_
        rw [hcv]
        cases hcl : clo x (L.drop (i + 1 + 1)) with
        | none =>
         rw [hcl] at hG
         simp only at hG
         have : N = L.length := by rw [← hG]; simp only [List.length_cons, List.length_drop]; omega
         subst this
         simp -implicitDefEqProofs -dsimp only [↓reduceIte, ↓W_seq, go_sem, Nat.reduceEqDiff, Int.reduceLT, Int.reduceNeg, h3, hcut]
        | some j =>
         rw [hcl] at hG
         simp only at hG
         have hj := clo_le _ _ _ hcl
         rw [List.length_drop] at hj
         have g6 : ¬ ((j : Int) + 4 < 0) := by omega
         have x2 : IntKind.i64.wrap ((i : Int) + ((j : Int) + 4)) = ((i + (j + 4) : Nat) : Int) := by rw [wr64 _ (by omega) (by omega)]; omega
         rw [← hdi2, List.drop_drop] at hG
         simp -implicitDefEqProofs -dsimp only [↓reduceIte, ↓W_seq, go_sem, Nat.reduceEqDiff, h3, h6, g6, x2]
         exact ⟨L.length - (i + (j + 4)), by omega, i + (j + 4), k, false, rfl, by omega, by omega, by and_intros <;> first | rfl | (rw [show i + (j + 4) = i + 1 + (j + 3) by omega]; omega) | exact hcut | exact un⟩
      ·have g4 : ¬ (((i + 1 : Nat) : Int) < (L.length : Int)) := by omega
       have hnil : L.drop (i + 1) = [] := List.drop_eq_nil_of_le (by omega)
       rw [if_neg (by rw [hnil]; simp [isS])] at hG
       simp -implicitDefEqProofs -dsimp only [↓reduceIte, ↓W_seq, go_sem, Nat.reduceEqDiff, h3, h6, h7, g1, g2, g4, e93, e91, x1]
       exact ⟨L.length - (i + 1), by omega, i + 1, k, false, rfl, by omega, by omega, by and_intros <;> first | rfl | omega | exact hcut | exact un⟩
     ·rw [show (b == UInt8.ofNat 91) = false by simpa using q91] at e91
      rw [if_neg (fun q => q91 q.1)] at hG
      simp -implicitDefEqProofs -dsimp only [↓reduceIte, ↓W_seq, go_sem, Nat.reduceEqDiff, h3, h6, h7, g1, g2, e93, e91, x1]
      exact ⟨L.length - (i + 1), by omega, i + 1, k, false, rfl, by omega, by omega, by and_intros <;> first | rfl | omega | exact hcut | exact un⟩
   ·have g1 : ¬ ((i : Int) < (L.length : Int)) := by omega
    have : N = L.length := by
     rw [← hG, List.drop_eq_nil_of_le (by omega)]
     cases k <;> simp [brkF] <;> omega
    subst this
    simp -implicitDefEqProofs -dsimp only [↓reduceIte, ↓W_seq, go_sem, Nat.reduceEqDiff, h3, h6, g1, hcut]
  ·exact ⟨1, L.length, true, rfl, by omega, by omega, rfl, rfl, rfl, hN, cut_und _ _ hu, hun⟩
 ·rw [hC] at hN
  simp only [if_true] at hN
  have h2 := h2L hC
  have y1 := wr64 2 (by decide) (by decide)
  simp -implicitDefEqProofs -dsimp only [↓reduceIte, ↓W_seq, go_sem, Nat.reduceEqDiff, Int.reduceAdd, y1]
  refine loop_h (I := fun f a s' => ∃ (i k : Nat) (first : Bool), f = L.length - i ∧ i ≤ L.length ∧ L.length - i ≤ k ∧ a 3 = .str L ∧ a 6 = .int .i64 i ∧ a 7 = .bool first ∧ i + brkF k (L.drop i) first = N ∧ s'.cut d = σ ∧ s'.Und (d + 1)) ?_ (L.length - 2) _ _ ?_
  ·rintro f a s' ⟨i, k, first, hf, hi, hk, h3, h6, h7, hG, hcut, un⟩
   by_cases hlt : i < L.length
   ·obtain ⟨k, rfl⟩ : ∃ k', k = k' + 1 := ⟨k - 1, by omega⟩
    have g1 : ((i : Int) < (L.length : Int)) := by omega
    have g2 : L[i]? = some L[i] := List.getElem?_eq_getElem hlt
    have x1 : IntKind.i64.wrap ((i : Int) + 1) = ((i + 1 : Nat) : Int) := by rw [wr64 _ (by omega) (by omega)]; omega
    have hdi := List.drop_eq_getElem_cons hlt
    rw [hdi] at hG
    generalize L[i] = b at *
    have e93 := byte_lit b 93 (by decide)
    have e91 := byte_lit b 91 (by decide)
    simp only [Int.cast_ofNat_Int] at e93 e91
    have cont : ∀ (hG : i + (1 + brkF k (L.drop (i + 1)) false) = N), i + 1 + brkF k (L.drop (i + 1)) false = N := fun h => by omega
    simp only [brkF] at hG
    by_cases q93 : b = 93
    ·rw [show (b == UInt8.ofNat 93) = true by rw [q93]; rfl] at e93
     rw [show (b == UInt8.ofNat 91) = false by rw [q93]; rfl] at e91
     cases first
     ·rw [if_pos ⟨q93, rfl⟩] at hG
      subst hG
      simp -implicitDefEqProofs -dsimp only [↓reduceIte, ↓W_seq, go_sem, Nat.reduceEqDiff, h3, h6, h7, g1, g2, e93, x1, hcut]
     ·rw [if_neg (by simp), if_neg (by rw [q93]; simp)] at hG
      simp -implicitDefEqProofs -dsimp only [↓reduceIte, ↓W_seq, go_sem, Nat.reduceEqDiff, h3, h6, h7, g1, g2, e93, e91, x1]
      exact ⟨L.length - (i + 1), by omega, i + 1, k, false, rfl, by omega, by omega, by and_intros <;> first | rfl | omega | exact hcut | exact un⟩
    ·rw [show (b == UInt8.ofNat 93) = false by simpa using q93] at e93
     rw [if_neg (fun q => q93 q.1)] at hG
     by_cases q91 : b = 91
     ·rw [show (b == UInt8.ofNat 91) = true by rw [q91]; rfl] at e91
      by_cases hn : i + 1 < L.length
      ·have g3 : L[i + 1]? = some L[i + 1] := List.getElem?_eq_getElem hn
       have g4 : (((i + 1 : Nat) : Int) < (L.length : Int)) := by omega
       have hdi2 := List.drop_eq_getElem_cons hn
       rw [hdi2] at hG
       generalize L[i + 1] = x at *
       rw [List.head?_cons, List.headD_cons, List.tail_cons, isS_some] at hG
       have hin := idxB_in [46, 61, 58] x
       simp -implicitDefEqProofs -dsimp only [↓reduceIte, ↓W_seq, go_sem, Nat.reduceEqDiff, h3, h6, h7, g1, g2, g3, g4, e93, e91, x1]
       refine (w41 [46, 61, 58] x lim (d + 1) _ un).wh ?_
       cases hct : ([46, 61, 58] : List UInt8).contains x
       ·rw [hct] at hin
        have g5 : ¬ (0 ≤ idxB [46, 61, 58] x.toNat) := of_decide_eq_false hin
        rw [if_neg (by rw [hct]; simp), ← hdi2] at hG
        simp -implicitDefEqProofs -dsimp only [↓reduceIte, go_sem, Nat.reduceEqDiff, h3, h6, g5, x1]
        exact ⟨L.length - (i + 1), by omega, i + 1, k, false, rfl, by omega, by omega, by and_intros <;> first | rfl | omega | exact hcut | exact un⟩
       ·rw [hct] at hin
        have g5 : (0 ≤ idxB [46, 61, 58] x.toNat) := of_decide_eq_true hin
        rw [if_pos ⟨q91, hct⟩] at hG
        have hli : (0 : Int) ≤ (i : Int) ∧ (i : Int) ≤ (L.length : Int) := by omega
        have hl2 : (L.drop i).length = L.length - i := List.length_drop
        have h10i : (10 : UInt8) ∉ L.drop i := fun h => h10 (List.mem_of_mem_drop h)
        have hcv : closV (L.drop i) = match clo x (L.drop (i + 1 + 1)) with
         | none => -1
         | some j => (j : Int) + 4 := by unfold closV; rw [hdi, hdi2]; rfl
        have hli2 : (i : Int) ≤ (L.length : Int) := by omega
        simp -implicitDefEqProofs -dsimp only [↓reduceIte, ↓W_seq, go_sem, Nat.reduceEqDiff, h3, h6, g5, hli, List.take_length]
        refine (w606 (L.drop i) (by omega) (by omega) h10i lim (d + 1) _ un).wh ?_
        rw [hcv]
        cases hcl : clo x (L.drop (i + 1 + 1)) with
        | none =>
         rw [hcl] at hG
         simp only at hG
         have : N = L.length := by rw [← hG]; simp only [List.length_cons, List.length_drop]; omega
         subst this
         simp -implicitDefEqProofs -dsimp only [↓reduceIte, ↓W_seq, go_sem, Nat.reduceEqDiff, Int.reduceLT, Int.reduceNeg, h3, hcut]
        | some j =>
         rw [hcl] at hG
         simp only at hG
         have hj := clo_le _ _ _ hcl
         rw [List.length_drop] at hj
         have g6 : ¬ ((j : Int) + 4 < 0) := by omega
         have x2 : IntKind.i64.wrap ((i : Int) + ((j : Int) + 4)) = ((i + (j + 4) : Nat) : Int) := by rw [wr64 _ (by omega) (by omega)]; omega
         rw [← hdi2, List.drop_drop] at hG
         simp -implicitDefEqProofs -dsimp only [↓reduceIte, ↓W_seq, go_sem, Nat.reduceEqDiff, h3, h6, g6, x2]
         exact ⟨L.length - (i + (j + 4)), by omega, i + (j + 4), k, false, rfl, by omega, by omega, by and_intros <;> first | rfl | (rw [show i + (j + 4) = i + 1 + (j + 3) by omega]; omega) | exact hcut | exact un⟩
      ·have g4 : ¬ (((i + 1 : Nat) : Int) < (L.length : Int)) := by omega
       have hnil : L.drop (i + 1) = [] := List.drop_eq_nil_of_le (by omega)
       rw [if_neg (by rw [hnil]; simp [isS])] at hG
       simp -implicitDefEqProofs -dsimp only [↓reduceIte, ↓W_seq, go_sem, Nat.reduceEqDiff, h3, h6, h7, g1, g2, g4, e93, e91, x1]
       exact ⟨L.length - (i + 1), by omega, i + 1, k, false, rfl, by omega, by omega, by and_intros <;> first | rfl | omega | exact hcut | exact un⟩
     ·rw [show (b == UInt8.ofNat 91) = false by simpa using q91] at e91
      rw [if_neg (fun q => q91 q.1)] at hG
      simp -implicitDefEqProofs -dsimp only [↓reduceIte, ↓W_seq, go_sem, Nat.reduceEqDiff, h3, h6, h7, g1, g2, e93, e91, x1]
      exact ⟨L.length - (i + 1), by omega, i + 1, k, false, rfl, by omega, by omega, by and_intros <;> first | rfl | omega | exact hcut | exact un⟩
   ·have g1 : ¬ ((i : Int) < (L.length : Int)) := by omega
    have : N = L.length := by
     rw [← hG, List.drop_eq_nil_of_le (by omega)]
     cases k <;> simp [brkF] <;> omega
    subst this
    simp -implicitDefEqProofs -dsimp only [↓reduceIte, ↓W_seq, go_sem, Nat.reduceEqDiff, h3, h6, g1, hcut]
  ·exact ⟨2, L.length, true, rfl, by omega, by omega, rfl, rfl, rfl, hN, cut_und _ _ hu, hun⟩
theorem set_self {σ : Sto} {p : Mv.Loc} {cs : List MV} (ho : σ.ob p = some cs) : σ.set p cs = σ := by
 refine Sto.ext' (fun l => ?_) (fun _ _ => rfl) fun _ => rfl
 simp only [Sto.set]
 split
 ·rename_i e; subst e; exact ho.symm
 ·rfl
theorem blL_yes {s : List UInt8} {n : Nat} {b : UInt8} (h : s[n]? = some b) (hb : b = 32 ∨ b = 9) : blL s n = blL s (n + 1) + 1 := by
 obtain ⟨hn, rfl⟩ := List.getElem?_eq_some_iff.1 h
 have h1 := dw_le (p := fun b => [32, 9].contains b) (s.drop (n + 1))
 unfold blL
 rw [List.drop_eq_getElem_cons hn, List.dropWhile_cons, if_pos (by rcases hb with e | e <;> rw [e] <;> decide)]
 simp only [List.length_cons]
 omega
theorem blL_no {s : List UInt8} {n : Nat} (h : ∀ b, s[n]? = some b → b ≠ 32 ∧ b ≠ 9) : blL s n = 0 := by
 unfold blL
 by_cases hn : n < s.length
 ·have := h _ (List.getElem?_eq_getElem hn)
  rw [List.drop_eq_getElem_cons hn, List.dropWhile_cons, if_neg (by simp [this.1, this.2])]
  omega
 ·rw [List.drop_eq_nil_of_le (by omega)]; rfl
theorem blL_le (s : List UInt8) (n : Nat) (hn : n ≤ s.length) : n + blL s n ≤ s.length := by
 have h1 := dw_le (p := fun b => [32, 9].contains b) (s.drop n)
 unfold blL
 rw [List.length_drop] at h1 ⊢
 omega
theorem w615 (s : List UInt8) (hs : s.length ≤ 1000000) (n0 : Nat) (hn0 : n0 ≤ s.length) (p : Mv.Loc) (lim d : Nat) (hp : p.d < d) (hlim : lim ≤ p.d) (σ : Sto) (hu : σ.Und d) (ho : σ.ob p = some (encL s n0)) :
  Ret lim d 22 [.ptr p 0] σ (.tup []) (σ.set p (encL s (n0 + blL s n0))) := by
 have hun := und_succ hu
 have hne := ne_my hp
 have hmy := my_ne hp
 have hp1 := Nat.lt_succ_of_lt hp
 unfold Ret
 generalize hF : n0 + blL s n0 = F
 rw [WF_body (C := X) rfl func22 rfl (by kernel_rfl)]; simp only [results22]
 simp -implicitDefEqProofs -dsimp only [go_sem]
 refine loop_h (I := fun f a s' => ∃ n : Nat, f = s.length - n ∧ n ≤ s.length ∧ n + blL s n = F ∧ a 0 = .ptr p 0 ∧ s'.ob p = some (encL s n) ∧ s'.cut d = σ.set p (encL s n) ∧ s'.Und (d + 1)) ?_ (s.length - n0) _ _ ?_
 ·rintro f a s' ⟨n, hf, hn, hG, h0, o, hcut, un⟩
  have o2 := o
  rw [encL] at o2
  have g32 := byte_lit (pkL s n) 32 (by decide)
  have g9 := byte_lit (pkL s n) 9 (by decide)
  simp only [Int.cast_ofNat_Int] at g32 g9
  have x2 : ((n : Int) + 1) = ((n + 1 : Nat) : Int) := by omega
  have hnx : pkL s n = 32 ∨ pkL s n = 9 → n < s.length ∧ blL s n = blL s (n + 1) + 1 := fun h => by
   have hl : n < s.length := by
    rcases Nat.lt_or_ge n s.length with q | q
    ·exact q
    ·have : pkL s n = 0 := by simp [pkL, List.getElem?_eq_none q]
     rw [this] at h; rcases h with h | h <;> cases h
   refine ⟨hl, blL_yes (b := pkL s n) ?_ h⟩
   simp [pkL, List.getElem?_eq_getElem hl]
  simp -implicitDefEqProofs -dsimp only [↓reduceIte, ↓W_seq, go_sem, h0]
  refine (w613 s n p lim (d + 1) hp1 _ un o).wh ?_
  by_cases h1 : pkL s n = 32
  ·obtain ⟨hl, hb⟩ := hnx (.inl h1)
   have e : ((pkL s n).toNat : Int) == 32 := by rw [h1]; rfl
   have x1 := wr64 ((n + 1 : Nat) : Int) (by omega) (by omega)
   simp -implicitDefEqProofs -dsimp only [↓reduceIte, go_sem, Nat.reduceEqDiff, Nat.reduceAdd, reduceCtorEq, h0, e, o2, x2, x1, hlim, hp]
   refine ⟨s.length - (n + 1), by omega, n + 1, rfl, by omega, by omega, ?_, ?_, ?_⟩
   ·simp only [encL]
   ·rw [cut_set _ _ _ _ hp, hcut, set_set]; rfl
   ·rw [u_set _ _ _ _ hp1]; exact un
  ·have e : (((pkL s n).toNat : Int) == 32) = false := by rw [beq_eq_false_iff_ne]; intro q; exact h1 (UInt8.toNat_inj.1 (by have : (32 : UInt8).toNat = 32 := rfl; omega))
   simp -implicitDefEqProofs -dsimp only [↓reduceIte, go_sem, Nat.reduceEqDiff, reduceCtorEq, h0, e]
   refine (w613 s n p lim (d + 1) hp1 _ un o).wh ?_
   by_cases h2 : pkL s n = 9
   ·obtain ⟨hl, hb⟩ := hnx (.inr h2)
    have e9 : ((pkL s n).toNat : Int) == 9 := by rw [h2]; rfl
    have x1 := wr64 ((n + 1 : Nat) : Int) (by omega) (by omega)
    simp -implicitDefEqProofs -dsimp only [↓reduceIte, go_sem, Nat.reduceEqDiff, Nat.reduceAdd, reduceCtorEq, h0, e9, o2, x2, x1, hlim, hp]
    refine ⟨s.length - (n + 1), by omega, n + 1, rfl, by omega, by omega, ?_, ?_, ?_⟩
    ·simp only [encL]
    ·rw [cut_set _ _ _ _ hp, hcut, set_set]; rfl
    ·rw [u_set _ _ _ _ hp1]; exact un
   ·have e9 : (((pkL s n).toNat : Int) == 9) = false := by rw [beq_eq_false_iff_ne]; intro q; exact h2 (UInt8.toNat_inj.1 (by have : (9 : UInt8).toNat = 9 := rfl; omega))
    have hb : blL s n = 0 := blL_no fun b hb => by
     have : pkL s n = b := by simp [pkL, hb]
     exact ⟨fun q => h1 (by rw [this, q]), fun q => h2 (by rw [this, q])⟩
    rw [hb] at hG
    subst hG
    simp -implicitDefEqProofs -dsimp only [↓reduceIte, go_sem, Nat.reduceEqDiff, e9, hcut]
 ·refine ⟨n0, rfl, hn0, hF, rfl, ho, ?_, hun⟩
  rw [cut_und _ _ hu, set_self ho]
theorem w617 (s : List UInt8) (hs : s.length ≤ 1000000) (n : Nat) (hn : n ≤ s.length) (p : Mv.Loc) (lim d : Nat) (hp : p.d < d) (hlim : lim ≤ p.d) (σ : Sto) (hu : σ.Und d) (ho : σ.ob p = some (encL s n)) :
  Ret lim d 35 [.ptr p 0] σ (numT s n) (σ.set p (encL s (numP s n))) := by
 have hun := und_succ hu
 have hp1 := Nat.lt_succ_of_lt hp
 have hkl := dgL_le s n
 have hd := dgL_at s n
 have ho2 := ho
 rw [encL] at ho2
 have hdl : (s.drop n).length = s.length - n := List.length_drop
 unfold Ret numT numP
 rw [WF_body (C := X) rfl func35 rfl (by kernel_rfl)]; simp only [results35]
 simp -implicitDefEqProofs -dsimp only [↓W_seq, go_sem]
 rw [D_lx [.tmp 8] (by kernel_rfl) (by kernel_rfl)]; simp -implicitDefEqProofs -dsimp only [↓reduceIte, ↓W_seq, go_sem, evNews, Nat.reduceEqDiff, reduceCtorEq, List.takeWhile_cons, List.dropWhile_cons, isTail, evNews, List.mem_cons, List.not_mem_nil, or_false, Bool.not_true, Bool.not_false, forall_eq, ne_eq, ho2]
 refine ⟨.inl (by omega), ?_⟩
 refine loop_h (I := fun f a s' => ∃ i : Nat, i + f = dgL s n ∧ a 0 = .ptr p 0 ∧ a 5 = .int .i64 ((n + i : Nat) : Int) ∧ a 4 = .int .i64 ((min (numV ((s.drop n).take i)) 1000000001 : Nat) : Int) ∧ s' = σ) ?_ (dgL s n) _ _ ?_
 ·rintro f a s' ⟨i, hf, h0, h5, h4, rfl⟩
  by_cases hi : i < dgL s n
  ·obtain ⟨c, hc, c1, c2⟩ := hd i hi
   have hc' : s[n + i]? = some c := by rw [List.getElem?_drop] at hc; exact hc
   have e1 : (((n + i : Nat) : Int) < (s.length : Int)) := by omega
   have hdg : dig c = true := by simp [dig, c1, c2]
   have hil : i < (s.drop n).length := by omega
   have hc2 : (s.drop n)[i] = c := by rw [List.getElem?_eq_getElem hil] at hc; exact Option.some.inj hc
   have hst := numV_step hil
   rw [hc2] at hst
   obtain ⟨m, hm, hm2⟩ : ∃ m, min (numV ((s.drop n).take i)) 1000000001 = m ∧ m ≤ 1000000001 := ⟨_, rfl, Nat.min_le_right _ _⟩
   rw [hm] at h4
   have y1 := wr64 (10 * (m : Int)) (by omega) (by omega)
   have y2 : IntKind.u8.wrap ((c.toNat : Int) - 48) = (c.toNat : Int) - 48 := by
    have : IntKind.u8.wrap ((c.toNat : Int) - 48) = ((c.toNat : Int) - 48) % 256 := by simp [IntKind.wrap, IntKind.bits, IntKind.signed]
    rw [this]; omega
   have y3 := wr64 ((c.toNat : Int) - 48) (by omega) (by omega)
   have y5 := wr64 (10 * (m : Int) + ((c.toNat : Int) - 48)) (by omega) (by omega)
   have y6 := wr64 (((n + i : Nat) : Int) + 1) (by omega) (by omega)
   have hnx : ((min (numV ((s.drop n).take (i + 1))) 1000000001 : Nat) : Int) = if (1000000001 : Int) < 10 * (m : Int) + ((c.toNat : Int) - 48) then 1000000001 else 10 * (m : Int) + ((c.toNat : Int) - 48) := by
    rw [hst]
    split <;> omega
   simp -implicitDefEqProofs -dsimp only [↓reduceIte, ↓W_seq, go_sem, Nat.reduceEqDiff, reduceCtorEq, h0, h5, ho2, e1, hc']
   refine (w616 c lim (d + 1) _ hun).wh ?_
   rw [hdg]
   by_cases hM : (1000000001 : Int) < 10 * (m : Int) + ((c.toNat : Int) - 48)
   ·rw [if_pos hM] at hnx
    simp -implicitDefEqProofs -dsimp only [↓reduceIte, ↓W_seq, go_sem, Nat.reduceEqDiff, reduceCtorEq, h0, h5, h4, ho2, hc', y1, y2, y3, y5, y6, mm, mmGo, hM]
    exact ⟨f - 1, by omega, i + 1, by omega, congrArg _ (by omega), congrArg _ hnx.symm⟩
   ·rw [if_neg hM] at hnx
    simp -implicitDefEqProofs -dsimp only [↓reduceIte, ↓W_seq, go_sem, Nat.reduceEqDiff, reduceCtorEq, h0, h5, h4, ho2, hc', y1, y2, y3, y5, y6, mm, mmGo, hM]
    exact ⟨f - 1, by omega, i + 1, by omega, congrArg _ (by omega), congrArg _ hnx.symm⟩
  ·have ei : i = dgL s n := by have := hf; omega
   subst ei
   have cb : (if (((n + dgL s n : Nat) : Int) == (n : Int)) = true then true else decide ((1000000000 : Int) < ((min (numV ((s.drop n).take (dgL s n))) 1000000001 : Nat) : Int))) = decide (dgL s n = 0 ∨ 1000000000 < numW s n) := by
    unfold numW
    by_cases hz : dgL s n = 0
    ·rw [if_pos (by rw [beq_iff_eq]; omega), decide_eq_true (.inl hz)]
    ·rw [if_neg (by rw [beq_iff_eq]; omega)]
     rw [decide_eq_decide]
     constructor
     ·intro q; right; omega
     ·rintro (q | q)
      ·omega
      ·omega
   have hnd : ∀ c, s[n + dgL s n]? = some c → dig c = false := fun c hc => by
    have := dg_end (s.drop n) c (by rw [List.getElem?_drop]; exact hc)
    exact (dig_is c).symm.trans this
   by_cases hl : n + dgL s n < s.length
   ·have e1 : (((n + dgL s n : Nat) : Int) < (s.length : Int)) := by omega
    have gi : s[n + dgL s n]? = some s[n + dgL s n] := List.getElem?_eq_getElem hl
    have hdg := hnd _ gi
    simp -implicitDefEqProofs -dsimp only [↓reduceIte, ↓W_seq, go_sem, Nat.reduceEqDiff, reduceCtorEq, h0, h5, ho2, e1, gi]
    refine (w616 _ lim (d + 1) _ hun).wh ?_
    rw [hdg]
    simp -implicitDefEqProofs -dsimp only [↓reduceIte, ↓W_seq, go_sem, Nat.reduceEqDiff, Nat.reduceAdd, reduceCtorEq, h0, h5, h4, ho2]
    rw [cb]
    by_cases hW : dgL s n = 0 ∨ 1000000000 < numW s n
    ·rw [if_pos (decide_eq_true hW), if_pos hW, if_pos hW]
     exact ⟨rfl, by rw [cut_und _ _ hu, set_self ho]⟩
    ·rw [if_neg (by simpa using hW), if_pos hp, if_pos hlim]
     refine ⟨_, rfl, ?_⟩
     rw [if_neg hW, if_neg hW]
     have hmv : ((min (numV ((s.drop n).take (dgL s n))) 1000000001 : Nat) : Int) = (numW s n : Int) := by
      have : ¬ 1000000000 < numW s n := fun q => hW (.inr q)
      unfold numW at this ⊢
      omega
     exact ⟨by rw [hmv], by rw [cut_set _ _ _ _ hp, cut_und _ _ hu]; rfl⟩
   ·have e1 : ¬ (((n + dgL s n : Nat) : Int) < (s.length : Int)) := by omega
    simp -implicitDefEqProofs -dsimp only [↓reduceIte, ↓W_seq, go_sem, Nat.reduceEqDiff, Nat.reduceAdd, reduceCtorEq, h0, h5, h4, ho2, e1]
    rw [cb]
    by_cases hW : dgL s n = 0 ∨ 1000000000 < numW s n
    ·rw [if_pos (decide_eq_true hW), if_pos hW, if_pos hW]
     exact ⟨rfl, by rw [cut_und _ _ hu, set_self ho]⟩
    ·rw [if_neg (by simpa using hW), if_pos hp, if_pos hlim]
     refine ⟨_, rfl, ?_⟩
     rw [if_neg hW, if_neg hW]
     have hmv : ((min (numV ((s.drop n).take (dgL s n))) 1000000001 : Nat) : Int) = (numW s n : Int) := by
      have : ¬ 1000000000 < numW s n := fun q => hW (.inr q)
      unfold numW at this ⊢
      omega
     exact ⟨by rw [hmv], by rw [cut_set _ _ _ _ hp, cut_und _ _ hu]; rfl⟩
 ·exact ⟨0, Nat.zero_add _, rfl, rfl, by simp [upd, numV], rfl⟩
end Go.Proofs.Tryz.E
