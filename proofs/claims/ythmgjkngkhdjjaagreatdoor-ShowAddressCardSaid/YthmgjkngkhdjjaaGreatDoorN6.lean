/- Walks: what the functions compute. -/
import Derived.Test.YthmgjkngkhdjjaaGreatDoorWN5
set_option linter.unusedVariables false
set_option linter.unusedSimpArgs false
/- The reference's lexer: bracket expressions, text up to a delimiter. -/
namespace Go.Proofs.Tryz.E
open Go.Mv
set_option maxHeartbeats 4000000
set_option maxRecDepth 20000
theorem lin_atS {s : List UInt8} {n i : Nat} (h : i < (lin (s.drop n)).length) : s[n + i]? = (lin (s.drop n))[i]? ∧ (lin (s.drop n))[i]? ≠ some 10 := by
 have := lin_at (s.drop n) i h
 rw [List.getElem?_drop] at this
 exact this
theorem lin_endS {s : List UInt8} {n : Nat} : s[n + (lin (s.drop n)).length]? = none ∨ s[n + (lin (s.drop n)).length]? = some 10 := by
 have hl := lin_len (s.drop n)
 by_cases h : (lin (s.drop n)).length < (s.drop n).length
 ·have := lin_end _ h
  rw [List.getElem?_drop] at this
  exact .inr this
 ·left
  rw [List.length_drop] at h hl
  exact List.getElem?_eq_none (by omega)
theorem at_line {s : List UInt8} {n i : Nat} (h : i < (lin (s.drop n)).length) : ∃ b, s[n + i]? = some b ∧ (lin (s.drop n))[i]? = some b ∧ b ≠ 10 ∧ n + i < s.length := by
 obtain ⟨h1, h2⟩ := lin_atS h
 have h3 : (lin (s.drop n))[i]? = some (lin (s.drop n))[i] := List.getElem?_eq_getElem h
 rw [h3] at h1 h2
 exact ⟨_, h1, h3, fun e => h2 (by rw [e]), (List.getElem?_eq_some_iff.1 h1).1⟩
theorem w622 (s : List UInt8) (hs : s.length ≤ 1000000) (n : Nat) (hn : s[n]? = some 91) (lim d : Nat) (σ : Sto) (hu : σ.Und d) : Ret lim d 91 [.str s, .int .i64 n] σ (.int .i64 ((n + brk (s.drop n) : Nat) : Int)) σ := by
 have hun := und_succ hu
 obtain ⟨hnl, hn0⟩ := List.getElem?_eq_some_iff.1 hn
 have hll := lin_len (s.drop n)
 rw [List.length_drop] at hll
 have hl1 : 1 ≤ (lin (s.drop n)).length := lin_ne (List.drop_eq_getElem_cons hnl) (by rw [hn0]; decide)
 have hat : ∀ i, i < (lin (s.drop n)).length → ∃ b, s[n + i]? = some b ∧ (lin (s.drop n))[i]? = some b ∧ b ≠ 10 ∧ n + i < s.length := fun i h => at_line h
 have hend := lin_endS (s := s) (n := n)
 unfold Ret
 unfold brk
 simp only
 generalize lin (s.drop n) = L at *
 generalize hN : (if isC (L.drop 1) = true then 2 + brkF L.length (L.drop 2) true else 1 + brkF L.length (L.drop 1) true) = N
 have x1 : IntKind.i64.wrap ((n : Int) + 1) = ((n + 1 : Nat) : Int) := by rw [wr64 _ (by omega) (by omega)]; omega
 have x2 : IntKind.i64.wrap (((n + 1 : Nat) : Int) + 1) = ((n + 2 : Nat) : Int) := by rw [wr64 _ (by omega) (by omega)]; omega
 rw [WF_body (C := X) rfl func91 rfl (by kernel_rfl)]; simp only [results91]
 by_cases hC : isC (L.drop 1) = true
 ·rw [if_pos hC] at hN
  obtain ⟨h1, h2⟩ : 1 < L.length ∧ s[n + 1]? = some 94 := by
   simp only [isC, List.head?_drop, beq_iff_eq] at hC
   have q := (List.getElem?_eq_some_iff.1 hC).1
   obtain ⟨b, b1, b2, _⟩ := hat 1 q
   rw [hC] at b2
   exact ⟨q, by rw [b1, b2]⟩
  have e1 : (((n + 1 : Nat) : Int) < (s.length : Int)) := by have := (List.getElem?_eq_some_iff.1 h2).1; omega
  simp -implicitDefEqProofs -dsimp only [go_sem, enc, x1, x2, e1, h2, show ((94 : UInt8).toNat : Int) = 94 from rfl, beq_self_eq_true]
  refine loop_h (I := fun f a s' => ∃ (i k : Nat) (first : Bool), f = L.length - i ∧ i ≤ L.length ∧ L.length - i ≤ k ∧ a 0 = .str s ∧ a 1 = .int .i64 ((n + i : Nat) : Int) ∧ a 5 = .bool first ∧ i + brkF k (L.drop i) first = N ∧ s' = σ) ?_ (L.length - 2) _ _ ?_
  ·rintro f a s' ⟨i, k, first, hf, hi, hk, h0, h1, h5, hG, rfl⟩
   by_cases hlt : i < L.length
   ·obtain ⟨k, rfl⟩ : ∃ k', k = k' + 1 := ⟨k - 1, by omega⟩
    obtain ⟨b, b1, b2, b3, b4⟩ := hat i hlt
    have g1 : (((n + i : Nat) : Int) < (s.length : Int)) := by omega
    have x1 : IntKind.i64.wrap (((n + i : Nat) : Int) + 1) = ((n + (i + 1) : Nat) : Int) := by rw [wr64 _ (by omega) (by omega)]; omega
    have hdi := List.drop_eq_getElem_cons hlt
    have hLi : L[i] = b := by rw [List.getElem?_eq_getElem hlt] at b2; exact Option.some.inj b2
    rw [hLi] at hdi
    rw [hdi] at hG
    have e10 := byte_lit b 10 (by decide)
    have e93 := byte_lit b 93 (by decide)
    have e91 := byte_lit b 91 (by decide)
    simp only [Int.cast_ofNat_Int] at e93 e91 e10
    rw [show (b == UInt8.ofNat 10) = false by simpa using b3] at e10
    have n10 : ((b.toNat : Int) != 10) = true := by rw [bne, e10]; rfl
    simp only [brkF] at hG
    by_cases q93 : b = 93
    ·rw [show (b == UInt8.ofNat 93) = true by rw [q93]; rfl] at e93
     rw [show (b == UInt8.ofNat 91) = false by rw [q93]; rfl] at e91
     cases first
     ·rw [if_pos ⟨q93, rfl⟩] at hG
      subst hG
      simp -implicitDefEqProofs -dsimp only [go_sem, enc, h0, h1, h5, g1, b1, n10, e93, x1, cut_und _ _ hu]
     ·rw [if_neg (by simp), if_neg (by rw [q93]; simp)] at hG
      simp -implicitDefEqProofs -dsimp only [go_sem, enc, h0, h1, h5, g1, b1, n10, e93, e91, x1]
      exact ⟨L.length - (i + 1), by omega, i + 1, k, false, rfl, by omega, by omega, by and_intros <;> first | rfl | omega⟩
    ·rw [show (b == UInt8.ofNat 93) = false by simpa using q93] at e93
     rw [if_neg (fun q => q93 q.1)] at hG
     by_cases q91 : b = 91
     ·rw [show (b == UInt8.ofNat 91) = true by rw [q91]; rfl] at e91
      by_cases hn1 : i + 1 < L.length
      ·obtain ⟨x, c1, c2, c3, c4⟩ := hat (i + 1) hn1
       have g4 : (((n + (i + 1) : Nat) : Int) < (s.length : Int)) := by omega
       have hdi2 := List.drop_eq_getElem_cons hn1
       have hLi2 : L[i + 1] = x := by rw [List.getElem?_eq_getElem hn1] at c2; exact Option.some.inj c2
       rw [hLi2] at hdi2
       rw [hdi2] at hG
       rw [List.head?_cons, List.headD_cons, List.tail_cons, isS_some] at hG
       have e46 := byte_lit x 46 (by decide)
       have e61 := byte_lit x 61 (by decide)
       have e58 := byte_lit x 58 (by decide)
       simp only [Int.cast_ofNat_Int] at e46 e61 e58
       have hct : ([46, 61, 58] : List UInt8).contains x = ((x == UInt8.ofNat 46) || ((x == UInt8.ofNat 61) || (x == UInt8.ofNat 58))) := by
        simp only [List.contains_cons, List.contains_nil, Bool.or_false]; rfl
       rw [hct] at hG
       generalize (x == UInt8.ofNat 46) = p46 at *
       generalize (x == UInt8.ofNat 61) = p61 at *
       generalize (x == UInt8.ofNat 58) = p58 at *
       cases hor : (p46 || (p61 || p58))
       ·rw [if_neg (by rw [hor]; simp), ← hdi2] at hG
        simp only [Bool.or_eq_false_iff] at hor
        obtain ⟨rfl, rfl, rfl⟩ := hor
        simp -implicitDefEqProofs -dsimp only [go_sem, enc, h0, h1, h5, g1, b1, n10, e93, e91, x1, g4, c1, e46, e61, e58]
        exact ⟨L.length - (i + 1), by omega, i + 1, k, false, rfl, by omega, by omega, by and_intros <;> first | rfl | omega⟩
       ·rw [if_pos ⟨q91, hor⟩] at hG
        have x3 : IntKind.i64.wrap (((n + i : Nat) : Int) + 2) = ((n + (i + 2 + 0) : Nat) : Int) := by rw [wr64 _ (by omega) (by omega)]; omega
        have hor3 : (if (if p46 = true then true else p61) = true then true else p58) = true := by
         cases p46 <;> cases p61 <;> cases p58 <;> first | rfl | cases hor
        simp -implicitDefEqProofs -dsimp only [go_sem, enc, h0, h1, h5, g1, b1, n10, e93, e91, x1, g4, c1, e46, e61, e58, hor3, x3]
        have hjl : ∀ jj, clo x (L.drop (i + 1 + 1)) = some jj → jj + 2 ≤ L.length - (i + 2) := fun jj q => by
         have := clo_le _ _ _ q
         rwa [List.length_drop] at this
        refine loop_h (I := fun f2 a s2 => ∃ j : Nat, f2 = L.length - (i + 2 + j) ∧ i + 2 + j ≤ L.length ∧ a 0 = .str s ∧ a 1 = .int .i64 ((n + (i + 2 + j) : Nat) : Int) ∧ a 6 = .int .u8 x.toNat ∧ clo x (L.drop (i + 1 + 1)) = (clo x (L.drop (i + 2 + j))).map (· + j) ∧ s2 = s') ?_ (L.length - (i + 2)) _ _ ?_
        ·rintro f2 a2 s2 ⟨j, hf2, hj, k0, k1, k6, kc, rfl⟩
         by_cases hm : i + 2 + j < L.length
         ·obtain ⟨y, d1, d2, d3, d4⟩ := hat (i + 2 + j) hm
          have hdj := List.drop_eq_getElem_cons hm
          have hLj : L[i + 2 + j] = y := by rw [List.getElem?_eq_getElem hm] at d2; exact Option.some.inj d2
          rw [hLj] at hdj
          rw [hdj, clo] at kc
          have t1 : (((n + (i + 2 + j) : Nat) : Int) < (s.length : Int)) := by omega
          have t1' : ¬ ((s.length : Int) ≤ ((n + (i + 2 + j) : Nat) : Int)) := by omega
          have ey10 := byte_lit y 10 (by decide)
          simp only [Int.cast_ofNat_Int] at ey10
          rw [show (y == UInt8.ofNat 10) = false by simpa using d3] at ey10
          have m10 : ((y.toNat : Int) != 10) = true := by rw [bne, ey10]; rfl
          have ey := byte_eq y x
          have x4 : IntKind.i64.wrap (((n + (i + 2 + j) : Nat) : Int) + 1) = ((n + (i + 2 + (j + 1)) : Nat) : Int) := by rw [wr64 _ (by omega) (by omega)]; omega
          have x5 : IntKind.i64.wrap (((n + (i + 2 + j) : Nat) : Int) + 2) = ((n + (i + (j + 4)) : Nat) : Int) := by rw [wr64 _ (by omega) (by omega)]; omega
          have knext : ((clo x (L.drop (i + 2 + j + 1))).map (· + 1)).map (· + j) = (clo x (L.drop (i + 2 + (j + 1)))).map (· + (j + 1)) := by
           rw [show i + 2 + (j + 1) = i + 2 + j + 1 by omega, Option.map_map]
           congr 1
           funext q
           simp only [Function.comp]
           omega
          by_cases hyx : y = x
          ·rw [show (y == x) = true by simpa using hyx] at ey
           by_cases hm1 : i + 2 + (j + 1) < L.length
           ·obtain ⟨z, z1, z2, z3, z4⟩ := hat (i + 2 + (j + 1)) hm1
            have hz0 : (L.drop (i + 2 + j + 1)).head? = some z := by rw [List.head?_drop]; exact z2
            have t2 : (((n + (i + 2 + (j + 1)) : Nat) : Int) < (s.length : Int)) := by omega
            have ez := byte_lit z 93 (by decide)
            simp only [Int.cast_ofNat_Int] at ez
            by_cases hz : z = 93
            ·rw [show (z == UInt8.ofNat 93) = true by rw [hz]; rfl] at ez
             rw [if_pos ⟨hyx, by rw [hz0, hz]⟩] at kc
             simp only [Option.map_some, Nat.zero_add] at kc
             have hjj := hjl j kc
             rw [kc] at hG
             simp only at hG
             rw [← hdi2, List.drop_drop] at hG
             simp -implicitDefEqProofs -dsimp only [go_sem, enc, k0, k1, k6, t1, t1', d1, m10, ey10, ey, x4, x5, t2, z1, ez]
             exact ⟨L.length - (i + (j + 4)), by omega, i + (j + 4), k, false, rfl, by omega, by omega, by and_intros <;> first | rfl | (rw [show i + (j + 4) = i + 1 + (j + 3) by omega]; omega)⟩
            ·rw [show (z == UInt8.ofNat 93) = false by simpa using hz] at ez
             rw [if_neg (fun q => hz (by rw [hz0] at q; exact Option.some.inj q.2)), knext] at kc
             simp -implicitDefEqProofs -dsimp only [go_sem, enc, k0, k1, k6, t1, d1, m10, ey10, ey, x4, t2, z1, ez]
             exact ⟨L.length - (i + 2 + (j + 1)), by omega, j + 1, rfl, by omega, by and_intros <;> first | rfl | exact kc⟩
           ·have hz0 : (L.drop (i + 2 + j + 1)).head? = none := by rw [List.head?_drop]; exact List.getElem?_eq_none (by omega)
            rw [if_neg (fun q => by rw [hz0] at q; cases q.2), knext] at kc
            have hLm : L.length = i + 2 + (j + 1) := by omega
            have hend2 := hend
            rw [hLm] at hend2
            rcases hend2 with hend2 | hend2
            ·have t2 : ¬ (((n + (i + 2 + (j + 1)) : Nat) : Int) < (s.length : Int)) := by have := List.getElem?_eq_none_iff.1 hend2; omega
             simp -implicitDefEqProofs -dsimp only [go_sem, enc, k0, k1, k6, t1, d1, m10, ey10, ey, x4, t2]
             exact ⟨L.length - (i + 2 + (j + 1)), by omega, j + 1, rfl, by omega, by and_intros <;> first | rfl | exact kc⟩
            ·have t2 : (((n + (i + 2 + (j + 1)) : Nat) : Int) < (s.length : Int)) := by have := (List.getElem?_eq_some_iff.1 hend2).1; omega
             have ez : (((10 : UInt8).toNat : Int) == 93) = false := rfl
             simp -implicitDefEqProofs -dsimp only [go_sem, enc, k0, k1, k6, t1, d1, m10, ey10, ey, x4, t2, hend2, ez]
             exact ⟨L.length - (i + 2 + (j + 1)), by omega, j + 1, rfl, by omega, by and_intros <;> first | rfl | exact kc⟩
          ·rw [show (y == x) = false by simpa using hyx] at ey
           rw [if_neg (fun q => hyx q.1), knext] at kc
           simp -implicitDefEqProofs -dsimp only [go_sem, enc, k0, k1, k6, t1, d1, m10, ey10, ey, x4]
           exact ⟨L.length - (i + 2 + (j + 1)), by omega, j + 1, rfl, by omega, by and_intros <;> first | rfl | exact kc⟩
         ·have em : i + 2 + j = L.length := by omega
          rw [em, List.drop_eq_nil_of_le (Nat.le_refl _)] at kc
          simp only [clo, Option.map_none] at kc
          rw [kc] at hG
          simp only [List.length_cons, List.length_drop] at hG
          have hNL : N = L.length := by omega
          subst hNL
          rw [em] at k1
          rcases hend with hend | hend
          ·have t1 : ¬ (((n + L.length : Nat) : Int) < (s.length : Int)) := by have := List.getElem?_eq_none_iff.1 hend; omega
           have t1' : ((s.length : Int) ≤ ((n + L.length : Nat) : Int)) := by omega
           simp -implicitDefEqProofs -dsimp only [go_sem, enc, k0, k1, k6, t1, t1', cut_und _ _ hu]
          ·have t1 : (((n + L.length : Nat) : Int) < (s.length : Int)) := by have := (List.getElem?_eq_some_iff.1 hend).1; omega
           have t1' : ¬ ((s.length : Int) ≤ ((n + L.length : Nat) : Int)) := by omega
           have n10' : (((10 : UInt8).toNat : Int) != 10) = false := rfl
           have e10' : (((10 : UInt8).toNat : Int) == 10) = true := rfl
           simp -implicitDefEqProofs -dsimp only [go_sem, enc, k0, k1, k6, t1, t1', hend, n10', e10', cut_und _ _ hu]
        ·exact ⟨0, rfl, by omega, by and_intros <;> first | rfl | assumption | (cases clo x (L.drop (i + 1 + 1)) <;> rfl)⟩
      ·have hnil : L.drop (i + 1) = [] := List.drop_eq_nil_of_le (by omega)
       rw [if_neg (by rw [hnil]; simp [isS])] at hG
       rw [show L.length = i + 1 by omega] at hend
       rcases hend with hend | hend
       ·have g4 : ¬ (((n + (i + 1) : Nat) : Int) < (s.length : Int)) := by have := List.getElem?_eq_none_iff.1 hend; omega
        simp -implicitDefEqProofs -dsimp only [go_sem, enc, h0, h1, h5, g1, b1, n10, e93, e91, x1, g4]
        exact ⟨L.length - (i + 1), by omega, i + 1, k, false, rfl, by omega, by omega, by and_intros <;> first | rfl | omega⟩
       ·have g4 : (((n + (i + 1) : Nat) : Int) < (s.length : Int)) := by have := (List.getElem?_eq_some_iff.1 hend).1; omega
        simp -implicitDefEqProofs -dsimp only [go_sem, enc, h0, h1, h5, g1, b1, n10, e93, e91, x1, g4, hend, show ((10 : UInt8).toNat : Int) = 10 from rfl, Int.reduceBEq]
        exact ⟨L.length - (i + 1), by omega, i + 1, k, false, rfl, by omega, by omega, by and_intros <;> first | rfl | omega⟩
     ·rw [show (b == UInt8.ofNat 91) = false by simpa using q91] at e91
      rw [if_neg (fun q => q91 q.1)] at hG
      simp -implicitDefEqProofs -dsimp only [go_sem, enc, h0, h1, h5, g1, b1, n10, e93, e91, x1]
      exact ⟨L.length - (i + 1), by omega, i + 1, k, false, rfl, by omega, by omega, by and_intros <;> first | rfl | omega⟩
   ·have ei : i = L.length := by omega
    have : N = L.length := by
     rw [← hG, List.drop_eq_nil_of_le (by omega)]
     cases k <;> simp [brkF] <;> omega
    subst this ei
    rcases hend with hend | hend
    ·have g1 : ¬ (((n + L.length : Nat) : Int) < (s.length : Int)) := by have := List.getElem?_eq_none_iff.1 hend; omega
     simp -implicitDefEqProofs -dsimp only [go_sem, enc, h0, h1, g1, cut_und _ _ hu]
    ·have g1 : (((n + L.length : Nat) : Int) < (s.length : Int)) := by have := (List.getElem?_eq_some_iff.1 hend).1; omega
     have n10 : (((10 : UInt8).toNat : Int) != 10) = false := rfl
     simp -implicitDefEqProofs -dsimp only [go_sem, enc, h0, h1, g1, hend, n10, cut_und _ _ hu]
  ·exact ⟨2, L.length, true, rfl, by omega, by omega, rfl, rfl, rfl, hN, rfl⟩
 ·rw [if_neg hC] at hN
  by_cases h1 : 1 < L.length
  ·obtain ⟨b, b1, b2, b3, b4⟩ := hat 1 h1
   have hb94 : b ≠ 94 := fun e => hC (by simp [isC, List.head?_drop, b2, e])
   have e1 : (((n + 1 : Nat) : Int) < (s.length : Int)) := by omega
   have e2 : ((b.toNat : Int) == 94) = false := by have := byte_lit b 94 (by decide); simp only [Int.cast_ofNat_Int] at this; rw [this]; simpa using hb94
   simp -implicitDefEqProofs -dsimp only [go_sem, enc, x1, e1, b1, e2]
   refine loop_h (I := fun f a s' => ∃ (i k : Nat) (first : Bool), f = L.length - i ∧ i ≤ L.length ∧ L.length - i ≤ k ∧ a 0 = .str s ∧ a 1 = .int .i64 ((n + i : Nat) : Int) ∧ a 5 = .bool first ∧ i + brkF k (L.drop i) first = N ∧ s' = σ) ?_ (L.length - 1) _ _ ?_
   ·rintro f a s' ⟨i, k, first, hf, hi, hk, h0, h1, h5, hG, rfl⟩
    by_cases hlt : i < L.length
    ·obtain ⟨k, rfl⟩ : ∃ k', k = k' + 1 := ⟨k - 1, by omega⟩
     obtain ⟨b, b1, b2, b3, b4⟩ := hat i hlt
     have g1 : (((n + i : Nat) : Int) < (s.length : Int)) := by omega
     have x1 : IntKind.i64.wrap (((n + i : Nat) : Int) + 1) = ((n + (i + 1) : Nat) : Int) := by rw [wr64 _ (by omega) (by omega)]; omega
     have hdi := List.drop_eq_getElem_cons hlt
     have hLi : L[i] = b := by rw [List.getElem?_eq_getElem hlt] at b2; exact Option.some.inj b2
     rw [hLi] at hdi
     rw [hdi] at hG
     have e10 := byte_lit b 10 (by decide)
     have e93 := byte_lit b 93 (by decide)
     have e91 := byte_lit b 91 (by decide)
     simp only [Int.cast_ofNat_Int] at e93 e91 e10
     rw [show (b == UInt8.ofNat 10) = false by simpa using b3] at e10
     have n10 : ((b.toNat : Int) != 10) = true := by rw [bne, e10]; rfl
     simp only [brkF] at hG
     by_cases q93 : b = 93
     ·rw [show (b == UInt8.ofNat 93) = true by rw [q93]; rfl] at e93
      rw [show (b == UInt8.ofNat 91) = false by rw [q93]; rfl] at e91
      cases first
      ·rw [if_pos ⟨q93, rfl⟩] at hG
       subst hG
       simp -implicitDefEqProofs -dsimp only [go_sem, enc, h0, h1, h5, g1, b1, n10, e93, x1, cut_und _ _ hu]
      ·rw [if_neg (by simp), if_neg (by rw [q93]; simp)] at hG
       simp -implicitDefEqProofs -dsimp only [go_sem, enc, h0, h1, h5, g1, b1, n10, e93, e91, x1]
       exact ⟨L.length - (i + 1), by omega, i + 1, k, false, rfl, by omega, by omega, by and_intros <;> first | rfl | omega⟩
     ·rw [show (b == UInt8.ofNat 93) = false by simpa using q93] at e93
      rw [if_neg (fun q => q93 q.1)] at hG
      by_cases q91 : b = 91
      ·rw [show (b == UInt8.ofNat 91) = true by rw [q91]; rfl] at e91
       by_cases hn1 : i + 1 < L.length
       ·obtain ⟨x, c1, c2, c3, c4⟩ := hat (i + 1) hn1
        have g4 : (((n + (i + 1) : Nat) : Int) < (s.length : Int)) := by omega
        have hdi2 := List.drop_eq_getElem_cons hn1
        have hLi2 : L[i + 1] = x := by rw [List.getElem?_eq_getElem hn1] at c2; exact Option.some.inj c2
        rw [hLi2] at hdi2
        rw [hdi2] at hG
        rw [List.head?_cons, List.headD_cons, List.tail_cons, isS_some] at hG
        have e46 := byte_lit x 46 (by decide)
        have e61 := byte_lit x 61 (by decide)
        have e58 := byte_lit x 58 (by decide)
        simp only [Int.cast_ofNat_Int] at e46 e61 e58
        have hct : ([46, 61, 58] : List UInt8).contains x = ((x == UInt8.ofNat 46) || ((x == UInt8.ofNat 61) || (x == UInt8.ofNat 58))) := by
         simp only [List.contains_cons, List.contains_nil, Bool.or_false]; rfl
        rw [hct] at hG
        generalize (x == UInt8.ofNat 46) = p46 at *
        generalize (x == UInt8.ofNat 61) = p61 at *
        generalize (x == UInt8.ofNat 58) = p58 at *
        cases hor : (p46 || (p61 || p58))
        ·rw [if_neg (by rw [hor]; simp), ← hdi2] at hG
         simp only [Bool.or_eq_false_iff] at hor
         obtain ⟨rfl, rfl, rfl⟩ := hor
         simp -implicitDefEqProofs -dsimp only [go_sem, enc, h0, h1, h5, g1, b1, n10, e93, e91, x1, g4, c1, e46, e61, e58]
         exact ⟨L.length - (i + 1), by omega, i + 1, k, false, rfl, by omega, by omega, by and_intros <;> first | rfl | omega⟩
        ·rw [if_pos ⟨q91, hor⟩] at hG
         have x3 : IntKind.i64.wrap (((n + i : Nat) : Int) + 2) = ((n + (i + 2 + 0) : Nat) : Int) := by rw [wr64 _ (by omega) (by omega)]; omega
         have hor3 : (if (if p46 = true then true else p61) = true then true else p58) = true := by
          cases p46 <;> cases p61 <;> cases p58 <;> first | rfl | cases hor
         simp -implicitDefEqProofs -dsimp only [go_sem, enc, h0, h1, h5, g1, b1, n10, e93, e91, x1, g4, c1, e46, e61, e58, hor3, x3]
         have hjl : ∀ jj, clo x (L.drop (i + 1 + 1)) = some jj → jj + 2 ≤ L.length - (i + 2) := fun jj q => by
          have := clo_le _ _ _ q
          rwa [List.length_drop] at this
         refine loop_h (I := fun f2 a s2 => ∃ j : Nat, f2 = L.length - (i + 2 + j) ∧ i + 2 + j ≤ L.length ∧ a 0 = .str s ∧ a 1 = .int .i64 ((n + (i + 2 + j) : Nat) : Int) ∧ a 6 = .int .u8 x.toNat ∧ clo x (L.drop (i + 1 + 1)) = (clo x (L.drop (i + 2 + j))).map (· + j) ∧ s2 = s') ?_ (L.length - (i + 2)) _ _ ?_
         ·rintro f2 a2 s2 ⟨j, hf2, hj, k0, k1, k6, kc, rfl⟩
          by_cases hm : i + 2 + j < L.length
          ·obtain ⟨y, d1, d2, d3, d4⟩ := hat (i + 2 + j) hm
           have hdj := List.drop_eq_getElem_cons hm
           have hLj : L[i + 2 + j] = y := by rw [List.getElem?_eq_getElem hm] at d2; exact Option.some.inj d2
           rw [hLj] at hdj
           rw [hdj, clo] at kc
           have t1 : (((n + (i + 2 + j) : Nat) : Int) < (s.length : Int)) := by omega
           have t1' : ¬ ((s.length : Int) ≤ ((n + (i + 2 + j) : Nat) : Int)) := by omega
           have ey10 := byte_lit y 10 (by decide)
           simp only [Int.cast_ofNat_Int] at ey10
           rw [show (y == UInt8.ofNat 10) = false by simpa using d3] at ey10
           have m10 : ((y.toNat : Int) != 10) = true := by rw [bne, ey10]; rfl
           have ey := byte_eq y x
           have x4 : IntKind.i64.wrap (((n + (i + 2 + j) : Nat) : Int) + 1) = ((n + (i + 2 + (j + 1)) : Nat) : Int) := by rw [wr64 _ (by omega) (by omega)]; omega
           have x5 : IntKind.i64.wrap (((n + (i + 2 + j) : Nat) : Int) + 2) = ((n + (i + (j + 4)) : Nat) : Int) := by rw [wr64 _ (by omega) (by omega)]; omega
           have knext : ((clo x (L.drop (i + 2 + j + 1))).map (· + 1)).map (· + j) = (clo x (L.drop (i + 2 + (j + 1)))).map (· + (j + 1)) := by
            rw [show i + 2 + (j + 1) = i + 2 + j + 1 by omega, Option.map_map]
            congr 1
            funext q
            simp only [Function.comp]
            omega
           by_cases hyx : y = x
           ·rw [show (y == x) = true by simpa using hyx] at ey
            by_cases hm1 : i + 2 + (j + 1) < L.length
            ·obtain ⟨z, z1, z2, z3, z4⟩ := hat (i + 2 + (j + 1)) hm1
             have hz0 : (L.drop (i + 2 + j + 1)).head? = some z := by rw [List.head?_drop]; exact z2
             have t2 : (((n + (i + 2 + (j + 1)) : Nat) : Int) < (s.length : Int)) := by omega
             have ez := byte_lit z 93 (by decide)
             simp only [Int.cast_ofNat_Int] at ez
             by_cases hz : z = 93
             ·rw [show (z == UInt8.ofNat 93) = true by rw [hz]; rfl] at ez
              rw [if_pos ⟨hyx, by rw [hz0, hz]⟩] at kc
              simp only [Option.map_some, Nat.zero_add] at kc
              have hjj := hjl j kc
              rw [kc] at hG
              simp only at hG
              rw [← hdi2, List.drop_drop] at hG
              simp -implicitDefEqProofs -dsimp only [go_sem, enc, k0, k1, k6, t1, t1', d1, m10, ey10, ey, x4, x5, t2, z1, ez]
              exact ⟨L.length - (i + (j + 4)), by omega, i + (j + 4), k, false, rfl, by omega, by omega, by and_intros <;> first | rfl | (rw [show i + (j + 4) = i + 1 + (j + 3) by omega]; omega)⟩
             ·rw [show (z == UInt8.ofNat 93) = false by simpa using hz] at ez
              rw [if_neg (fun q => hz (by rw [hz0] at q; exact Option.some.inj q.2)), knext] at kc
              simp -implicitDefEqProofs -dsimp only [go_sem, enc, k0, k1, k6, t1, d1, m10, ey10, ey, x4, t2, z1, ez]
              exact ⟨L.length - (i + 2 + (j + 1)), by omega, j + 1, rfl, by omega, by and_intros <;> first | rfl | exact kc⟩
            ·have hz0 : (L.drop (i + 2 + j + 1)).head? = none := by rw [List.head?_drop]; exact List.getElem?_eq_none (by omega)
             rw [if_neg (fun q => by rw [hz0] at q; cases q.2), knext] at kc
             have hLm : L.length = i + 2 + (j + 1) := by omega
             have hend2 := hend
             rw [hLm] at hend2
             rcases hend2 with hend2 | hend2
             ·have t2 : ¬ (((n + (i + 2 + (j + 1)) : Nat) : Int) < (s.length : Int)) := by have := List.getElem?_eq_none_iff.1 hend2; omega
              simp -implicitDefEqProofs -dsimp only [go_sem, enc, k0, k1, k6, t1, d1, m10, ey10, ey, x4, t2]
              exact ⟨L.length - (i + 2 + (j + 1)), by omega, j + 1, rfl, by omega, by and_intros <;> first | rfl | exact kc⟩
             ·have t2 : (((n + (i + 2 + (j + 1)) : Nat) : Int) < (s.length : Int)) := by have := (List.getElem?_eq_some_iff.1 hend2).1; omega
              have ez : (((10 : UInt8).toNat : Int) == 93) = false := rfl
              simp -implicitDefEqProofs -dsimp only [go_sem, enc, k0, k1, k6, t1, d1, m10, ey10, ey, x4, t2, hend2, ez]
              exact ⟨L.length - (i + 2 + (j + 1)), by omega, j + 1, rfl, by omega, by and_intros <;> first | rfl | exact kc⟩
           ·rw [show (y == x) = false by simpa using hyx] at ey
            rw [if_neg (fun q => hyx q.1), knext] at kc
            simp -implicitDefEqProofs -dsimp only [go_sem, enc, k0, k1, k6, t1, d1, m10, ey10, ey, x4]
            exact ⟨L.length - (i + 2 + (j + 1)), by omega, j + 1, rfl, by omega, by and_intros <;> first | rfl | exact kc⟩
          ·have em : i + 2 + j = L.length := by omega
           rw [em, List.drop_eq_nil_of_le (Nat.le_refl _)] at kc
           simp only [clo, Option.map_none] at kc
           rw [kc] at hG
           simp only [List.length_cons, List.length_drop] at hG
           have hNL : N = L.length := by omega
           subst hNL
           rw [em] at k1
           rcases hend with hend | hend
           ·have t1 : ¬ (((n + L.length : Nat) : Int) < (s.length : Int)) := by have := List.getElem?_eq_none_iff.1 hend; omega
            have t1' : ((s.length : Int) ≤ ((n + L.length : Nat) : Int)) := by omega
            simp -implicitDefEqProofs -dsimp only [go_sem, enc, k0, k1, k6, t1, t1', cut_und _ _ hu]
           ·have t1 : (((n + L.length : Nat) : Int) < (s.length : Int)) := by have := (List.getElem?_eq_some_iff.1 hend).1; omega
            have t1' : ¬ ((s.length : Int) ≤ ((n + L.length : Nat) : Int)) := by omega
            have n10' : (((10 : UInt8).toNat : Int) != 10) = false := rfl
            have e10' : (((10 : UInt8).toNat : Int) == 10) = true := rfl
            simp -implicitDefEqProofs -dsimp only [go_sem, enc, k0, k1, k6, t1, t1', hend, n10', e10', cut_und _ _ hu]
         ·exact ⟨0, rfl, by omega, by and_intros <;> first | rfl | assumption | (cases clo x (L.drop (i + 1 + 1)) <;> rfl)⟩
       ·have hnil : L.drop (i + 1) = [] := List.drop_eq_nil_of_le (by omega)
        rw [if_neg (by rw [hnil]; simp [isS])] at hG
        rw [show L.length = i + 1 by omega] at hend
        rcases hend with hend | hend
        ·have g4 : ¬ (((n + (i + 1) : Nat) : Int) < (s.length : Int)) := by have := List.getElem?_eq_none_iff.1 hend; omega
         simp -implicitDefEqProofs -dsimp only [go_sem, enc, h0, h1, h5, g1, b1, n10, e93, e91, x1, g4]
         exact ⟨L.length - (i + 1), by omega, i + 1, k, false, rfl, by omega, by omega, by and_intros <;> first | rfl | omega⟩
        ·have g4 : (((n + (i + 1) : Nat) : Int) < (s.length : Int)) := by have := (List.getElem?_eq_some_iff.1 hend).1; omega
         simp -implicitDefEqProofs -dsimp only [go_sem, enc, h0, h1, h5, g1, b1, n10, e93, e91, x1, g4, hend, show ((10 : UInt8).toNat : Int) = 10 from rfl, Int.reduceBEq]
         exact ⟨L.length - (i + 1), by omega, i + 1, k, false, rfl, by omega, by omega, by and_intros <;> first | rfl | omega⟩
      ·rw [show (b == UInt8.ofNat 91) = false by simpa using q91] at e91
       rw [if_neg (fun q => q91 q.1)] at hG
       simp -implicitDefEqProofs -dsimp only [go_sem, enc, h0, h1, h5, g1, b1, n10, e93, e91, x1]
       exact ⟨L.length - (i + 1), by omega, i + 1, k, false, rfl, by omega, by omega, by and_intros <;> first | rfl | omega⟩
    ·have ei : i = L.length := by omega
     have : N = L.length := by
      rw [← hG, List.drop_eq_nil_of_le (by omega)]
      cases k <;> simp [brkF] <;> omega
     subst this ei
     rcases hend with hend | hend
     ·have g1 : ¬ (((n + L.length : Nat) : Int) < (s.length : Int)) := by have := List.getElem?_eq_none_iff.1 hend; omega
      simp -implicitDefEqProofs -dsimp only [go_sem, enc, h0, h1, g1, cut_und _ _ hu]
     ·have g1 : (((n + L.length : Nat) : Int) < (s.length : Int)) := by have := (List.getElem?_eq_some_iff.1 hend).1; omega
      have n10 : (((10 : UInt8).toNat : Int) != 10) = false := rfl
      simp -implicitDefEqProofs -dsimp only [go_sem, enc, h0, h1, g1, hend, n10, cut_und _ _ hu]
   ·exact ⟨1, L.length, true, rfl, by omega, by omega, rfl, rfl, rfl, hN, rfl⟩
  ·have hL1 : L.length = 1 := by omega
   have hend1 := hend
   rw [hL1] at hend1
   rcases hend1 with hend1 | hend1
   ·have e1 : ¬ (((n + 1 : Nat) : Int) < (s.length : Int)) := by have := List.getElem?_eq_none_iff.1 hend1; omega
    simp -implicitDefEqProofs -dsimp only [go_sem, enc, x1, e1]
    refine loop_h (I := fun f a s' => ∃ (i k : Nat) (first : Bool), f = L.length - i ∧ i ≤ L.length ∧ L.length - i ≤ k ∧ a 0 = .str s ∧ a 1 = .int .i64 ((n + i : Nat) : Int) ∧ a 5 = .bool first ∧ i + brkF k (L.drop i) first = N ∧ s' = σ) ?_ (L.length - 1) _ _ ?_
    ·rintro f a s' ⟨i, k, first, hf, hi, hk, h0, h1, h5, hG, rfl⟩
     by_cases hlt : i < L.length
     ·obtain ⟨k, rfl⟩ : ∃ k', k = k' + 1 := ⟨k - 1, by omega⟩
      obtain ⟨b, b1, b2, b3, b4⟩ := hat i hlt
      have g1 : (((n + i : Nat) : Int) < (s.length : Int)) := by omega
      have x1 : IntKind.i64.wrap (((n + i : Nat) : Int) + 1) = ((n + (i + 1) : Nat) : Int) := by rw [wr64 _ (by omega) (by omega)]; omega
      have hdi := List.drop_eq_getElem_cons hlt
      have hLi : L[i] = b := by rw [List.getElem?_eq_getElem hlt] at b2; exact Option.some.inj b2
      rw [hLi] at hdi
      rw [hdi] at hG
      have e10 := byte_lit b 10 (by decide)
      have e93 := byte_lit b 93 (by decide)
      have e91 := byte_lit b 91 (by decide)
      simp only [Int.cast_ofNat_Int] at e93 e91 e10
      rw [show (b == UInt8.ofNat 10) = false by simpa using b3] at e10
      have n10 : ((b.toNat : Int) != 10) = true := by rw [bne, e10]; rfl
      simp only [brkF] at hG
      by_cases q93 : b = 93
      ·rw [show (b == UInt8.ofNat 93) = true by rw [q93]; rfl] at e93
       rw [show (b == UInt8.ofNat 91) = false by rw [q93]; rfl] at e91
       cases first
       ·rw [if_pos ⟨q93, rfl⟩] at hG
        subst hG
        simp -implicitDefEqProofs -dsimp only [go_sem, enc, h0, h1, h5, g1, b1, n10, e93, x1, cut_und _ _ hu]
       ·rw [if_neg (by simp), if_neg (by rw [q93]; simp)] at hG
        simp -implicitDefEqProofs -dsimp only [go_sem, enc, h0, h1, h5, g1, b1, n10, e93, e91, x1]
        exact ⟨L.length - (i + 1), by omega, i + 1, k, false, rfl, by omega, by omega, by and_intros <;> first | rfl | omega⟩
      ·rw [show (b == UInt8.ofNat 93) = false by simpa using q93] at e93
       rw [if_neg (fun q => q93 q.1)] at hG
       by_cases q91 : b = 91
       ·rw [show (b == UInt8.ofNat 91) = true by rw [q91]; rfl] at e91
        by_cases hn1 : i + 1 < L.length
        ·obtain ⟨x, c1, c2, c3, c4⟩ := hat (i + 1) hn1
         have g4 : (((n + (i + 1) : Nat) : Int) < (s.length : Int)) := by omega
         have hdi2 := List.drop_eq_getElem_cons hn1
         have hLi2 : L[i + 1] = x := by rw [List.getElem?_eq_getElem hn1] at c2; exact Option.some.inj c2
         rw [hLi2] at hdi2
         rw [hdi2] at hG
         rw [List.head?_cons, List.headD_cons, List.tail_cons, isS_some] at hG
         have e46 := byte_lit x 46 (by decide)
         have e61 := byte_lit x 61 (by decide)
         have e58 := byte_lit x 58 (by decide)
         simp only [Int.cast_ofNat_Int] at e46 e61 e58
         have hct : ([46, 61, 58] : List UInt8).contains x = ((x == UInt8.ofNat 46) || ((x == UInt8.ofNat 61) || (x == UInt8.ofNat 58))) := by
          simp only [List.contains_cons, List.contains_nil, Bool.or_false]; rfl
         rw [hct] at hG
         generalize (x == UInt8.ofNat 46) = p46 at *
         generalize (x == UInt8.ofNat 61) = p61 at *
         generalize (x == UInt8.ofNat 58) = p58 at *
         cases hor : (p46 || (p61 || p58))
         ·rw [if_neg (by rw [hor]; simp), ← hdi2] at hG
          simp only [Bool.or_eq_false_iff] at hor
          obtain ⟨rfl, rfl, rfl⟩ := hor
          simp -implicitDefEqProofs -dsimp only [go_sem, enc, h0, h1, h5, g1, b1, n10, e93, e91, x1, g4, c1, e46, e61, e58]
          exact ⟨L.length - (i + 1), by omega, i + 1, k, false, rfl, by omega, by omega, by and_intros <;> first | rfl | omega⟩
         ·rw [if_pos ⟨q91, hor⟩] at hG
          have x3 : IntKind.i64.wrap (((n + i : Nat) : Int) + 2) = ((n + (i + 2 + 0) : Nat) : Int) := by rw [wr64 _ (by omega) (by omega)]; omega
          have hor3 : (if (if p46 = true then true else p61) = true then true else p58) = true := by
           cases p46 <;> cases p61 <;> cases p58 <;> first | rfl | cases hor
          simp -implicitDefEqProofs -dsimp only [go_sem, enc, h0, h1, h5, g1, b1, n10, e93, e91, x1, g4, c1, e46, e61, e58, hor3, x3]
          have hjl : ∀ jj, clo x (L.drop (i + 1 + 1)) = some jj → jj + 2 ≤ L.length - (i + 2) := fun jj q => by
           have := clo_le _ _ _ q
           rwa [List.length_drop] at this
          refine loop_h (I := fun f2 a s2 => ∃ j : Nat, f2 = L.length - (i + 2 + j) ∧ i + 2 + j ≤ L.length ∧ a 0 = .str s ∧ a 1 = .int .i64 ((n + (i + 2 + j) : Nat) : Int) ∧ a 6 = .int .u8 x.toNat ∧ clo x (L.drop (i + 1 + 1)) = (clo x (L.drop (i + 2 + j))).map (· + j) ∧ s2 = s') ?_ (L.length - (i + 2)) _ _ ?_
          ·rintro f2 a2 s2 ⟨j, hf2, hj, k0, k1, k6, kc, rfl⟩
           by_cases hm : i + 2 + j < L.length
           ·obtain ⟨y, d1, d2, d3, d4⟩ := hat (i + 2 + j) hm
            have hdj := List.drop_eq_getElem_cons hm
            have hLj : L[i + 2 + j] = y := by rw [List.getElem?_eq_getElem hm] at d2; exact Option.some.inj d2
            rw [hLj] at hdj
            rw [hdj, clo] at kc
            have t1 : (((n + (i + 2 + j) : Nat) : Int) < (s.length : Int)) := by omega
            have t1' : ¬ ((s.length : Int) ≤ ((n + (i + 2 + j) : Nat) : Int)) := by omega
            have ey10 := byte_lit y 10 (by decide)
            simp only [Int.cast_ofNat_Int] at ey10
            rw [show (y == UInt8.ofNat 10) = false by simpa using d3] at ey10
            have m10 : ((y.toNat : Int) != 10) = true := by rw [bne, ey10]; rfl
            have ey := byte_eq y x
            have x4 : IntKind.i64.wrap (((n + (i + 2 + j) : Nat) : Int) + 1) = ((n + (i + 2 + (j + 1)) : Nat) : Int) := by rw [wr64 _ (by omega) (by omega)]; omega
            have x5 : IntKind.i64.wrap (((n + (i + 2 + j) : Nat) : Int) + 2) = ((n + (i + (j + 4)) : Nat) : Int) := by rw [wr64 _ (by omega) (by omega)]; omega
            have knext : ((clo x (L.drop (i + 2 + j + 1))).map (· + 1)).map (· + j) = (clo x (L.drop (i + 2 + (j + 1)))).map (· + (j + 1)) := by
             rw [show i + 2 + (j + 1) = i + 2 + j + 1 by omega, Option.map_map]
             congr 1
             funext q
             simp only [Function.comp]
             omega
            by_cases hyx : y = x
            ·rw [show (y == x) = true by simpa using hyx] at ey
             by_cases hm1 : i + 2 + (j + 1) < L.length
             ·obtain ⟨z, z1, z2, z3, z4⟩ := hat (i + 2 + (j + 1)) hm1
              have hz0 : (L.drop (i + 2 + j + 1)).head? = some z := by rw [List.head?_drop]; exact z2
              have t2 : (((n + (i + 2 + (j + 1)) : Nat) : Int) < (s.length : Int)) := by omega
              have ez := byte_lit z 93 (by decide)
              simp only [Int.cast_ofNat_Int] at ez
              by_cases hz : z = 93
              ·rw [show (z == UInt8.ofNat 93) = true by rw [hz]; rfl] at ez
               rw [if_pos ⟨hyx, by rw [hz0, hz]⟩] at kc
               simp only [Option.map_some, Nat.zero_add] at kc
               have hjj := hjl j kc
               rw [kc] at hG
               simp only at hG
               rw [← hdi2, List.drop_drop] at hG
               simp -implicitDefEqProofs -dsimp only [go_sem, enc, k0, k1, k6, t1, t1', d1, m10, ey10, ey, x4, x5, t2, z1, ez]
               exact ⟨L.length - (i + (j + 4)), by omega, i + (j + 4), k, false, rfl, by omega, by omega, by and_intros <;> first | rfl | (rw [show i + (j + 4) = i + 1 + (j + 3) by omega]; omega)⟩
              ·rw [show (z == UInt8.ofNat 93) = false by simpa using hz] at ez
               rw [if_neg (fun q => hz (by rw [hz0] at q; exact Option.some.inj q.2)), knext] at kc
               simp -implicitDefEqProofs -dsimp only [go_sem, enc, k0, k1, k6, t1, d1, m10, ey10, ey, x4, t2, z1, ez]
               exact ⟨L.length - (i + 2 + (j + 1)), by omega, j + 1, rfl, by omega, by and_intros <;> first | rfl | exact kc⟩
             ·have hz0 : (L.drop (i + 2 + j + 1)).head? = none := by rw [List.head?_drop]; exact List.getElem?_eq_none (by omega)
              rw [if_neg (fun q => by rw [hz0] at q; cases q.2), knext] at kc
              have hLm : L.length = i + 2 + (j + 1) := by omega
              have hend2 := hend
              rw [hLm] at hend2
              rcases hend2 with hend2 | hend2
              ·have t2 : ¬ (((n + (i + 2 + (j + 1)) : Nat) : Int) < (s.length : Int)) := by have := List.getElem?_eq_none_iff.1 hend2; omega
               simp -implicitDefEqProofs -dsimp only [go_sem, enc, k0, k1, k6, t1, d1, m10, ey10, ey, x4, t2]
               exact ⟨L.length - (i + 2 + (j + 1)), by omega, j + 1, rfl, by omega, by and_intros <;> first | rfl | exact kc⟩
              ·have t2 : (((n + (i + 2 + (j + 1)) : Nat) : Int) < (s.length : Int)) := by have := (List.getElem?_eq_some_iff.1 hend2).1; omega
               have ez : (((10 : UInt8).toNat : Int) == 93) = false := rfl
               simp -implicitDefEqProofs -dsimp only [go_sem, enc, k0, k1, k6, t1, d1, m10, ey10, ey, x4, t2, hend2, ez]
               exact ⟨L.length - (i + 2 + (j + 1)), by omega, j + 1, rfl, by omega, by and_intros <;> first | rfl | exact kc⟩
            ·rw [show (y == x) = false by simpa using hyx] at ey
             rw [if_neg (fun q => hyx q.1), knext] at kc
             simp -implicitDefEqProofs -dsimp only [go_sem, enc, k0, k1, k6, t1, d1, m10, ey10, ey, x4]
             exact ⟨L.length - (i + 2 + (j + 1)), by omega, j + 1, rfl, by omega, by and_intros <;> first | rfl | exact kc⟩
           ·have em : i + 2 + j = L.length := by omega
            rw [em, List.drop_eq_nil_of_le (Nat.le_refl _)] at kc
            simp only [clo, Option.map_none] at kc
            rw [kc] at hG
            simp only [List.length_cons, List.length_drop] at hG
            have hNL : N = L.length := by omega
            subst hNL
            rw [em] at k1
            rcases hend with hend | hend
            ·have t1 : ¬ (((n + L.length : Nat) : Int) < (s.length : Int)) := by have := List.getElem?_eq_none_iff.1 hend; omega
             have t1' : ((s.length : Int) ≤ ((n + L.length : Nat) : Int)) := by omega
             simp -implicitDefEqProofs -dsimp only [go_sem, enc, k0, k1, k6, t1, t1', cut_und _ _ hu]
            ·have t1 : (((n + L.length : Nat) : Int) < (s.length : Int)) := by have := (List.getElem?_eq_some_iff.1 hend).1; omega
             have t1' : ¬ ((s.length : Int) ≤ ((n + L.length : Nat) : Int)) := by omega
             have n10' : (((10 : UInt8).toNat : Int) != 10) = false := rfl
             have e10' : (((10 : UInt8).toNat : Int) == 10) = true := rfl
             simp -implicitDefEqProofs -dsimp only [go_sem, enc, k0, k1, k6, t1, t1', hend, n10', e10', cut_und _ _ hu]
          ·exact ⟨0, rfl, by omega, by and_intros <;> first | rfl | assumption | (cases clo x (L.drop (i + 1 + 1)) <;> rfl)⟩
        ·have hnil : L.drop (i + 1) = [] := List.drop_eq_nil_of_le (by omega)
         rw [if_neg (by rw [hnil]; simp [isS])] at hG
         rw [show L.length = i + 1 by omega] at hend
         rcases hend with hend | hend
         ·have g4 : ¬ (((n + (i + 1) : Nat) : Int) < (s.length : Int)) := by have := List.getElem?_eq_none_iff.1 hend; omega
          simp -implicitDefEqProofs -dsimp only [go_sem, enc, h0, h1, h5, g1, b1, n10, e93, e91, x1, g4]
          exact ⟨L.length - (i + 1), by omega, i + 1, k, false, rfl, by omega, by omega, by and_intros <;> first | rfl | omega⟩
         ·have g4 : (((n + (i + 1) : Nat) : Int) < (s.length : Int)) := by have := (List.getElem?_eq_some_iff.1 hend).1; omega
          simp -implicitDefEqProofs -dsimp only [go_sem, enc, h0, h1, h5, g1, b1, n10, e93, e91, x1, g4, hend, show ((10 : UInt8).toNat : Int) = 10 from rfl, Int.reduceBEq]
          exact ⟨L.length - (i + 1), by omega, i + 1, k, false, rfl, by omega, by omega, by and_intros <;> first | rfl | omega⟩
       ·rw [show (b == UInt8.ofNat 91) = false by simpa using q91] at e91
        rw [if_neg (fun q => q91 q.1)] at hG
        simp -implicitDefEqProofs -dsimp only [go_sem, enc, h0, h1, h5, g1, b1, n10, e93, e91, x1]
        exact ⟨L.length - (i + 1), by omega, i + 1, k, false, rfl, by omega, by omega, by and_intros <;> first | rfl | omega⟩
     ·have ei : i = L.length := by omega
      have : N = L.length := by
       rw [← hG, List.drop_eq_nil_of_le (by omega)]
       cases k <;> simp [brkF] <;> omega
      subst this ei
      rcases hend with hend | hend
      ·have g1 : ¬ (((n + L.length : Nat) : Int) < (s.length : Int)) := by have := List.getElem?_eq_none_iff.1 hend; omega
       simp -implicitDefEqProofs -dsimp only [go_sem, enc, h0, h1, g1, cut_und _ _ hu]
      ·have g1 : (((n + L.length : Nat) : Int) < (s.length : Int)) := by have := (List.getElem?_eq_some_iff.1 hend).1; omega
       have n10 : (((10 : UInt8).toNat : Int) != 10) = false := rfl
       simp -implicitDefEqProofs -dsimp only [go_sem, enc, h0, h1, g1, hend, n10, cut_und _ _ hu]
    ·exact ⟨1, L.length, true, rfl, by omega, by omega, rfl, rfl, rfl, hN, rfl⟩
   ·have e1 : (((n + 1 : Nat) : Int) < (s.length : Int)) := by have := (List.getElem?_eq_some_iff.1 hend1).1; omega
    have e2 : (((10 : UInt8).toNat : Int) == 94) = false := rfl
    simp -implicitDefEqProofs -dsimp only [go_sem, enc, x1, e1, hend1, e2]
    refine loop_h (I := fun f a s' => ∃ (i k : Nat) (first : Bool), f = L.length - i ∧ i ≤ L.length ∧ L.length - i ≤ k ∧ a 0 = .str s ∧ a 1 = .int .i64 ((n + i : Nat) : Int) ∧ a 5 = .bool first ∧ i + brkF k (L.drop i) first = N ∧ s' = σ) ?_ (L.length - 1) _ _ ?_
    ·rintro f a s' ⟨i, k, first, hf, hi, hk, h0, h1, h5, hG, rfl⟩
     by_cases hlt : i < L.length
     ·obtain ⟨k, rfl⟩ : ∃ k', k = k' + 1 := ⟨k - 1, by omega⟩
      obtain ⟨b, b1, b2, b3, b4⟩ := hat i hlt
      have g1 : (((n + i : Nat) : Int) < (s.length : Int)) := by omega
      have x1 : IntKind.i64.wrap (((n + i : Nat) : Int) + 1) = ((n + (i + 1) : Nat) : Int) := by rw [wr64 _ (by omega) (by omega)]; omega
      have hdi := List.drop_eq_getElem_cons hlt
      have hLi : L[i] = b := by rw [List.getElem?_eq_getElem hlt] at b2; exact Option.some.inj b2
      rw [hLi] at hdi
      rw [hdi] at hG
      have e10 := byte_lit b 10 (by decide)
      have e93 := byte_lit b 93 (by decide)
      have e91 := byte_lit b 91 (by decide)
      simp only [Int.cast_ofNat_Int] at e93 e91 e10
      rw [show (b == UInt8.ofNat 10) = false by simpa using b3] at e10
      have n10 : ((b.toNat : Int) != 10) = true := by rw [bne, e10]; rfl
      simp only [brkF] at hG
      by_cases q93 : b = 93
      ·rw [show (b == UInt8.ofNat 93) = true by rw [q93]; rfl] at e93
       rw [show (b == UInt8.ofNat 91) = false by rw [q93]; rfl] at e91
       cases first
       ·rw [if_pos ⟨q93, rfl⟩] at hG
        subst hG
        simp -implicitDefEqProofs -dsimp only [go_sem, enc, h0, h1, h5, g1, b1, n10, e93, x1, cut_und _ _ hu]
       ·rw [if_neg (by simp), if_neg (by rw [q93]; simp)] at hG
        simp -implicitDefEqProofs -dsimp only [go_sem, enc, h0, h1, h5, g1, b1, n10, e93, e91, x1]
        exact ⟨L.length - (i + 1), by omega, i + 1, k, false, rfl, by omega, by omega, by and_intros <;> first | rfl | omega⟩
      ·rw [show (b == UInt8.ofNat 93) = false by simpa using q93] at e93
       rw [if_neg (fun q => q93 q.1)] at hG
       by_cases q91 : b = 91
       ·rw [show (b == UInt8.ofNat 91) = true by rw [q91]; rfl] at e91
        by_cases hn1 : i + 1 < L.length
        ·obtain ⟨x, c1, c2, c3, c4⟩ := hat (i + 1) hn1
         have g4 : (((n + (i + 1) : Nat) : Int) < (s.length : Int)) := by omega
         have hdi2 := List.drop_eq_getElem_cons hn1
         have hLi2 : L[i + 1] = x := by rw [List.getElem?_eq_getElem hn1] at c2; exact Option.some.inj c2
         rw [hLi2] at hdi2
         rw [hdi2] at hG
         rw [List.head?_cons, List.headD_cons, List.tail_cons, isS_some] at hG
         have e46 := byte_lit x 46 (by decide)
         have e61 := byte_lit x 61 (by decide)
         have e58 := byte_lit x 58 (by decide)
         simp only [Int.cast_ofNat_Int] at e46 e61 e58
         have hct : ([46, 61, 58] : List UInt8).contains x = ((x == UInt8.ofNat 46) || ((x == UInt8.ofNat 61) || (x == UInt8.ofNat 58))) := by
          simp only [List.contains_cons, List.contains_nil, Bool.or_false]; rfl
         rw [hct] at hG
         generalize (x == UInt8.ofNat 46) = p46 at *
         generalize (x == UInt8.ofNat 61) = p61 at *
         generalize (x == UInt8.ofNat 58) = p58 at *
         cases hor : (p46 || (p61 || p58))
         ·rw [if_neg (by rw [hor]; simp), ← hdi2] at hG
          simp only [Bool.or_eq_false_iff] at hor
          obtain ⟨rfl, rfl, rfl⟩ := hor
          simp -implicitDefEqProofs -dsimp only [go_sem, enc, h0, h1, h5, g1, b1, n10, e93, e91, x1, g4, c1, e46, e61, e58]
          exact ⟨L.length - (i + 1), by omega, i + 1, k, false, rfl, by omega, by omega, by and_intros <;> first | rfl | omega⟩
         ·rw [if_pos ⟨q91, hor⟩] at hG
          have x3 : IntKind.i64.wrap (((n + i : Nat) : Int) + 2) = ((n + (i + 2 + 0) : Nat) : Int) := by rw [wr64 _ (by omega) (by omega)]; omega
          have hor3 : (if (if p46 = true then true else p61) = true then true else p58) = true := by
           cases p46 <;> cases p61 <;> cases p58 <;> first | rfl | cases hor
          simp -implicitDefEqProofs -dsimp only [go_sem, enc, h0, h1, h5, g1, b1, n10, e93, e91, x1, g4, c1, e46, e61, e58, hor3, x3]
          have hjl : ∀ jj, clo x (L.drop (i + 1 + 1)) = some jj → jj + 2 ≤ L.length - (i + 2) := fun jj q => by
           have := clo_le _ _ _ q
           rwa [List.length_drop] at this
          refine loop_h (I := fun f2 a s2 => ∃ j : Nat, f2 = L.length - (i + 2 + j) ∧ i + 2 + j ≤ L.length ∧ a 0 = .str s ∧ a 1 = .int .i64 ((n + (i + 2 + j) : Nat) : Int) ∧ a 6 = .int .u8 x.toNat ∧ clo x (L.drop (i + 1 + 1)) = (clo x (L.drop (i + 2 + j))).map (· + j) ∧ s2 = s') ?_ (L.length - (i + 2)) _ _ ?_
          ·rintro f2 a2 s2 ⟨j, hf2, hj, k0, k1, k6, kc, rfl⟩
           by_cases hm : i + 2 + j < L.length
           ·obtain ⟨y, d1, d2, d3, d4⟩ := hat (i + 2 + j) hm
            have hdj := List.drop_eq_getElem_cons hm
            have hLj : L[i + 2 + j] = y := by rw [List.getElem?_eq_getElem hm] at d2; exact Option.some.inj d2
            rw [hLj] at hdj
            rw [hdj, clo] at kc
            have t1 : (((n + (i + 2 + j) : Nat) : Int) < (s.length : Int)) := by omega
            have t1' : ¬ ((s.length : Int) ≤ ((n + (i + 2 + j) : Nat) : Int)) := by omega
            have ey10 := byte_lit y 10 (by decide)
            simp only [Int.cast_ofNat_Int] at ey10
            rw [show (y == UInt8.ofNat 10) = false by simpa using d3] at ey10
            have m10 : ((y.toNat : Int) != 10) = true := by rw [bne, ey10]; rfl
            have ey := byte_eq y x
            have x4 : IntKind.i64.wrap (((n + (i + 2 + j) : Nat) : Int) + 1) = ((n + (i + 2 + (j + 1)) : Nat) : Int) := by rw [wr64 _ (by omega) (by omega)]; omega
            have x5 : IntKind.i64.wrap (((n + (i + 2 + j) : Nat) : Int) + 2) = ((n + (i + (j + 4)) : Nat) : Int) := by rw [wr64 _ (by omega) (by omega)]; omega
            have knext : ((clo x (L.drop (i + 2 + j + 1))).map (· + 1)).map (· + j) = (clo x (L.drop (i + 2 + (j + 1)))).map (· + (j + 1)) := by
             rw [show i + 2 + (j + 1) = i + 2 + j + 1 by omega, Option.map_map]
             congr 1
             funext q
             simp only [Function.comp]
             omega
            by_cases hyx : y = x
            ·rw [show (y == x) = true by simpa using hyx] at ey
             by_cases hm1 : i + 2 + (j + 1) < L.length
             ·obtain ⟨z, z1, z2, z3, z4⟩ := hat (i + 2 + (j + 1)) hm1
              have hz0 : (L.drop (i + 2 + j + 1)).head? = some z := by rw [List.head?_drop]; exact z2
              have t2 : (((n + (i + 2 + (j + 1)) : Nat) : Int) < (s.length : Int)) := by omega
              have ez := byte_lit z 93 (by decide)
              simp only [Int.cast_ofNat_Int] at ez
              by_cases hz : z = 93
              ·rw [show (z == UInt8.ofNat 93) = true by rw [hz]; rfl] at ez
               rw [if_pos ⟨hyx, by rw [hz0, hz]⟩] at kc
               simp only [Option.map_some, Nat.zero_add] at kc
               have hjj := hjl j kc
               rw [kc] at hG
               simp only at hG
               rw [← hdi2, List.drop_drop] at hG
               simp -implicitDefEqProofs -dsimp only [go_sem, enc, k0, k1, k6, t1, t1', d1, m10, ey10, ey, x4, x5, t2, z1, ez]
               exact ⟨L.length - (i + (j + 4)), by omega, i + (j + 4), k, false, rfl, by omega, by omega, by and_intros <;> first | rfl | (rw [show i + (j + 4) = i + 1 + (j + 3) by omega]; omega)⟩
              ·rw [show (z == UInt8.ofNat 93) = false by simpa using hz] at ez
               rw [if_neg (fun q => hz (by rw [hz0] at q; exact Option.some.inj q.2)), knext] at kc
               simp -implicitDefEqProofs -dsimp only [go_sem, enc, k0, k1, k6, t1, d1, m10, ey10, ey, x4, t2, z1, ez]
               exact ⟨L.length - (i + 2 + (j + 1)), by omega, j + 1, rfl, by omega, by and_intros <;> first | rfl | exact kc⟩
             ·have hz0 : (L.drop (i + 2 + j + 1)).head? = none := by rw [List.head?_drop]; exact List.getElem?_eq_none (by omega)
              rw [if_neg (fun q => by rw [hz0] at q; cases q.2), knext] at kc
              have hLm : L.length = i + 2 + (j + 1) := by omega
              have hend2 := hend
              rw [hLm] at hend2
              rcases hend2 with hend2 | hend2
              ·have t2 : ¬ (((n + (i + 2 + (j + 1)) : Nat) : Int) < (s.length : Int)) := by have := List.getElem?_eq_none_iff.1 hend2; omega
               simp -implicitDefEqProofs -dsimp only [go_sem, enc, k0, k1, k6, t1, d1, m10, ey10, ey, x4, t2]
               exact ⟨L.length - (i + 2 + (j + 1)), by omega, j + 1, rfl, by omega, by and_intros <;> first | rfl | exact kc⟩
              ·have t2 : (((n + (i + 2 + (j + 1)) : Nat) : Int) < (s.length : Int)) := by have := (List.getElem?_eq_some_iff.1 hend2).1; omega
               have ez : (((10 : UInt8).toNat : Int) == 93) = false := rfl
               simp -implicitDefEqProofs -dsimp only [go_sem, enc, k0, k1, k6, t1, d1, m10, ey10, ey, x4, t2, hend2, ez]
               exact ⟨L.length - (i + 2 + (j + 1)), by omega, j + 1, rfl, by omega, by and_intros <;> first | rfl | exact kc⟩
            ·rw [show (y == x) = false by simpa using hyx] at ey
             rw [if_neg (fun q => hyx q.1), knext] at kc
             simp -implicitDefEqProofs -dsimp only [go_sem, enc, k0, k1, k6, t1, d1, m10, ey10, ey, x4]
             exact ⟨L.length - (i + 2 + (j + 1)), by omega, j + 1, rfl, by omega, by and_intros <;> first | rfl | exact kc⟩
           ·have em : i + 2 + j = L.length := by omega
            rw [em, List.drop_eq_nil_of_le (Nat.le_refl _)] at kc
            simp only [clo, Option.map_none] at kc
            rw [kc] at hG
            simp only [List.length_cons, List.length_drop] at hG
            have hNL : N = L.length := by omega
            subst hNL
            rw [em] at k1
            rcases hend with hend | hend
            ·have t1 : ¬ (((n + L.length : Nat) : Int) < (s.length : Int)) := by have := List.getElem?_eq_none_iff.1 hend; omega
             have t1' : ((s.length : Int) ≤ ((n + L.length : Nat) : Int)) := by omega
             simp -implicitDefEqProofs -dsimp only [go_sem, enc, k0, k1, k6, t1, t1', cut_und _ _ hu]
            ·have t1 : (((n + L.length : Nat) : Int) < (s.length : Int)) := by have := (List.getElem?_eq_some_iff.1 hend).1; omega
             have t1' : ¬ ((s.length : Int) ≤ ((n + L.length : Nat) : Int)) := by omega
             have n10' : (((10 : UInt8).toNat : Int) != 10) = false := rfl
             have e10' : (((10 : UInt8).toNat : Int) == 10) = true := rfl
             simp -implicitDefEqProofs -dsimp only [go_sem, enc, k0, k1, k6, t1, t1', hend, n10', e10', cut_und _ _ hu]
          ·exact ⟨0, rfl, by omega, by and_intros <;> first | rfl | assumption | (cases clo x (L.drop (i + 1 + 1)) <;> rfl)⟩
        ·have hnil : L.drop (i + 1) = [] := List.drop_eq_nil_of_le (by omega)
         rw [if_neg (by rw [hnil]; simp [isS])] at hG
         rw [show L.length = i + 1 by omega] at hend
         rcases hend with hend | hend
         ·have g4 : ¬ (((n + (i + 1) : Nat) : Int) < (s.length : Int)) := by have := List.getElem?_eq_none_iff.1 hend; omega
          simp -implicitDefEqProofs -dsimp only [go_sem, enc, h0, h1, h5, g1, b1, n10, e93, e91, x1, g4]
          exact ⟨L.length - (i + 1), by omega, i + 1, k, false, rfl, by omega, by omega, by and_intros <;> first | rfl | omega⟩
         ·have g4 : (((n + (i + 1) : Nat) : Int) < (s.length : Int)) := by have := (List.getElem?_eq_some_iff.1 hend).1; omega
          simp -implicitDefEqProofs -dsimp only [go_sem, enc, h0, h1, h5, g1, b1, n10, e93, e91, x1, g4, hend, show ((10 : UInt8).toNat : Int) = 10 from rfl, Int.reduceBEq]
          exact ⟨L.length - (i + 1), by omega, i + 1, k, false, rfl, by omega, by omega, by and_intros <;> first | rfl | omega⟩
       ·rw [show (b == UInt8.ofNat 91) = false by simpa using q91] at e91
        rw [if_neg (fun q => q91 q.1)] at hG
        simp -implicitDefEqProofs -dsimp only [go_sem, enc, h0, h1, h5, g1, b1, n10, e93, e91, x1]
        exact ⟨L.length - (i + 1), by omega, i + 1, k, false, rfl, by omega, by omega, by and_intros <;> first | rfl | omega⟩
     ·have ei : i = L.length := by omega
      have : N = L.length := by
       rw [← hG, List.drop_eq_nil_of_le (by omega)]
       cases k <;> simp [brkF] <;> omega
      subst this ei
      rcases hend with hend | hend
      ·have g1 : ¬ (((n + L.length : Nat) : Int) < (s.length : Int)) := by have := List.getElem?_eq_none_iff.1 hend; omega
       simp -implicitDefEqProofs -dsimp only [go_sem, enc, h0, h1, g1, cut_und _ _ hu]
      ·have g1 : (((n + L.length : Nat) : Int) < (s.length : Int)) := by have := (List.getElem?_eq_some_iff.1 hend).1; omega
       have n10 : (((10 : UInt8).toNat : Int) != 10) = false := rfl
       simp -implicitDefEqProofs -dsimp only [go_sem, enc, h0, h1, g1, hend, n10, cut_und _ _ hu]
    ·exact ⟨1, L.length, true, rfl, by omega, by omega, rfl, rfl, rfl, hN, rfl⟩
end Go.Proofs.Tryz.E
