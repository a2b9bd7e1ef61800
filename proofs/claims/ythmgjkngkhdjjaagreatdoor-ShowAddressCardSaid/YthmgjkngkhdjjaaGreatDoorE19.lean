/- Walks: what the functions compute. -/
import Derived.Test.YthmgjkngkhdjjaaGreatDoorWE18
set_option linter.unusedVariables false
set_option linter.unusedSimpArgs false
/- A member, on the other side. -/
namespace Go.Proofs.Tryz.E
open Go.Mv
set_option maxHeartbeats 4000000
set_option maxRecDepth 20000
structure P69 (s : List UInt8) (n d c0 : Nat) (σ : Sto) (a : Nat → MV) (s' : Sto) : Prop where
 a0 : a 0 = .str s
 a1 : a 1 = .int .i64 n
 a4 : a 4 = .ptr ⟨d, 4, c0⟩ 0
 a7 : a 7 = .ptr ⟨d, 7, c0 + 1⟩ 0
 o4 : s'.ob ⟨d, 4, c0⟩ = some (encS z4)
 o7 : s'.ob ⟨d, 7, c0 + 1⟩ = some (encS z4)
 cut : s'.cut d = σ
 und : s'.Und (d + 1)
theorem w69 (s : List UInt8) (n : Nat) (hs : s.length ≤ 1000000) (hn : n < s.length) (lim d : Nat) (σ : Sto) (hu : σ.Und d) :
  WF X lim d 149 [.str s, .int .i64 n] σ (fun v s' => MemR n (memberS (s.drop n)) v ∧ s' = σ) := by
 have hun := und_succ hu
 have hul : (s.drop n).length = s.length - n := List.length_drop
 have w1 := wr64 ((n : Int) + 1) (by omega) (by omega)
 have w2 := wr64 ((n : Int) + 2) (by omega) (by omega)
 have w3 := wr64 ((n : Int) + 3) (by omega) (by omega)
 have w5 := wr64 ((n : Int) + 5) (by omega) (by omega)
 have ws := wr64 ((s.length : Int) - n) (by omega) (by omega)
 have t1 : ((n : Int) + 1).toNat = n + 1 := by omega
 have t2 : ((n : Int) + 2).toNat = n + 2 := by omega
 have t3 : ((n : Int) + 3).toNat = n + 3 := by omega
 have t5 : ((n : Int) + 5).toNat = n + 5 := by omega
 have p1 : (0 : Int) ≤ (n : Int) + 1 := by omega
 have p2 : (0 : Int) ≤ (n : Int) + 2 := by omega
 have p3 : (0 : Int) ≤ (n : Int) + 3 := by omega
 have p5 : (0 : Int) ≤ (n : Int) + 5 := by omega
 have hmem : memberS (s.drop n) = if preS (s.drop n) [91, 58] = true then clsS (s.drop n) else if preS (s.drop n) [91, 61] = true then (namedS 61 (s.drop n)).map fun x => (oneS x.1, x.2) else (signS (s.drop n)).bind fun x => rngS x ((s.drop n).drop x.2) := rfl
 generalize memberS (s.drop n) = M at hmem
 rw [WF_body (C := X) rfl func149 rfl (by kernel_rfl)]; simp only [results149]
 refine seq_cut (P := fun a s' => a 0 = .str s ∧ a 1 = .int .i64 n ∧ a 4 = .ptr ⟨d, 4, σ.ct d⟩ 0 ∧ s'.ob ⟨d, 4, σ.ct d⟩ = some (encS z4) ∧ s'.cut d = σ ∧ s'.Und (d + 1) ∧ s'.ct d = σ.ct d + 1) ?_ ?_
 rotate_left
 ·simp -implicitDefEqProofs -dsimp only [go_sem, cut_und _ _ hu, u_tick, u_mine, hun]
  rfl
 rintro a s' ⟨a0, a1, a4, o4, hcut, hus, hct⟩
 refine seq_cut (P := P69 s n d (σ.ct d) σ) ?_ ?_
 rotate_left
 ·simp -implicitDefEqProofs -dsimp only [go_sem, hct]
  refine ⟨a0, a1, a4, rfl, ?_, ?_, ?_, ?_⟩
  ·simp -implicitDefEqProofs -dsimp only [go_sem, o4]
  ·simp -implicitDefEqProofs -dsimp only [go_sem]; rfl
  ·simp -implicitDefEqProofs -dsimp only [go_sem, hcut]
  ·simp only [u_tick, u_mine]; exact hus
 clear a0 a1 a4 o4 hcut hus hct
 intro a s' p
 have fin : ∀ (q : List Int), q.length = 4 → putC (encS z4) (encS q) 0 = encS q := fun q hq => encS_put _ _ (by rw [encS_len, hq]; rfl)
 have z4l : z4.length = 4 := rfl
 refine seq_cut (P := fun a s' => preS (s.drop n) [91, 61] = false ∧ P69 s n d (σ.ct d) σ a s') ?_ ?_
 rotate_left
 ·generalize ht : s.drop n = t at hul hmem
  have hat := fun i => at_drop ht i
  have hct := fun i j => cut_at s n i j
  rw [ht] at hct
  have g0 := hat 0
  have g1 := hat 1
  have g2 := hat 2
  have c35 := hct 3 5
  simp only [Nat.add_zero] at g0
  match t, hul, g0, g1, g2, c35 with
  | [], hul, g0, g1, g2, c35 => simp at hul; omega
  | [b], hul, g0, g1, g2, c35 =>
   simp only [List.length_cons, List.length_nil] at hul
   have e2 : ¬ ((2 : Int) ≤ (s.length : Int) - n) := by omega
   simp -implicitDefEqProofs -dsimp only [go_sem, p.a0, p.a1, ws, e2]
   exact ⟨by rw [pre_two1], p.a0, p.a1, p.a4, p.a7, p.o4, p.o7, p.cut, p.und⟩
  | b :: c :: r, hul, g0, g1, g2, c35 =>
   simp only [List.length_cons] at hul
   have e2 : ((2 : Int) ≤ (s.length : Int) - n) := by omega
   simp only [List.getElem?_cons_zero, List.getElem?_cons_succ] at g0 g1 g2
   cases hb : b == 91
   ·simp -implicitDefEqProofs -dsimp only [go_sem, p.a0, p.a1, ws, e2, g0, hb]
    exact ⟨by rw [pre_two, hb]; rfl, p.a0, p.a1, p.a4, p.a7, p.o4, p.o7, p.cut, p.und⟩
   ·cases hc : c == 61
    ·simp -implicitDefEqProofs -dsimp only [go_sem, p.a0, p.a1, ws, e2, g0, g1, hb, hc, w1, t1, p1]
     exact ⟨by rw [pre_two, hb, hc]; rfl, p.a0, p.a1, p.a4, p.a7, p.o4, p.o7, p.cut, p.und⟩
    ·have hb' := beq_iff_eq.1 hb
     have hc' := beq_iff_eq.1 hc
     subst hb' hc'
     rw [pre_two, pre_two] at hmem
     simp only [show ((91 : UInt8) == 91 && (61 : UInt8) == 58) = false from rfl, show ((91 : UInt8) == 91 && (61 : UInt8) == 61) = true from rfl, Bool.false_eq_true, if_false, if_true] at hmem
     by_cases h5 : (91 :: 61 :: r).length < 5
     ·rw [named_short 61 h5, Option.map_none] at hmem
      subst hmem
      have e5 : ((s.length : Int) - n < 5) := by simp at h5; omega
      simp -implicitDefEqProofs -dsimp only [go_sem, p.a0, p.a1, ws, e2, e5, g0, g1, hb, hc, w1, t1, p1, p.a4, p.a7, p.o7, p.o4, encS_take z4 z4l, fin z4 z4l, z4l, encS_len, p.cut, MemR_none]
      exact ⟨z4, 0, rfl, z4l⟩
     ·have h5' : 3 ≤ r.length := by simp at h5; omega
      obtain ⟨c', x, y, r', rfl⟩ := len3 h5'
      simp only [List.getElem?_cons_zero, List.take_succ_cons, List.take_zero, List.drop_succ_cons, List.drop_zero] at g2 c35
      simp only [List.length_cons] at hul
      rw [named_at] at hmem
      have e5 : ¬ ((s.length : Int) - n < 5) := by omega
      have e6 : (n : Int) + 5 ≤ (s.length : Int) := by omega
      have e7 : (n : Int) + 3 ≤ ((n + 5 : Nat) : Int) := by omega
      have e8 : (n : Int) + 3 ≤ (n : Int) + 5 := by omega
      have hq1 : c'.toNat < 256 := UInt8.toNat_lt _
      have hone := wl z4 c'.toNat c'.toNat rfl
      cases hx10 : (!(c' == 10) && (x == 61 && y == 93))
      ·rw [hx10] at hmem
       simp only [Bool.false_eq_true, if_false, Option.map_none] at hmem
       subst hmem
       cases h10 : c' == 10
       ·have hxy : ([x, y] == ([61, 93] : List UInt8)) = false := by rw [two_beq]; rw [h10] at hx10; simpa using hx10
        simp -implicitDefEqProofs -dsimp only [go_sem, p.a0, p.a1, e2, e5, e6, e7, g0, g1, g2, c35, ws, w1, w2, w3, w5, t1, t2, t3, t5, p1, p2, p3, p5, hb, hc, h10, hxy, p.a4, p.a7, p.o7, p.o4, encS_take z4 z4l, fin z4 z4l, z4l, encS_len, p.cut, MemR_none]
        exact ⟨z4, 0, rfl, z4l⟩
       ·simp -implicitDefEqProofs -dsimp only [go_sem, p.a0, p.a1, e2, e5, g0, g1, g2, ws, w1, w2, t1, t2, p1, p2, hb, hc, h10, p.a4, p.a7, p.o7, p.o4, encS_take z4 z4l, fin z4 z4l, z4l, encS_len, p.cut, MemR_none]
        exact ⟨z4, 0, rfl, z4l⟩
      ·rw [hx10] at hmem
       simp only [if_true, Option.map_some] at hmem
       subst hmem
       simp only [Bool.and_eq_true, Bool.not_eq_true'] at hx10
       obtain ⟨h10, hx, hy⟩ := hx10
       have hxy : ([x, y] == ([61, 93] : List UInt8)) = true := by rw [two_beq, hx, hy]; rfl
       simp -implicitDefEqProofs -dsimp only [go_sem, p.a0, p.a1, e2, e5, e6, e7, g0, g1, g2, c35, ws, w1, w2, w3, w5, t1, t2, t3, t5, p1, p2, p3, p5, hb, hc, h10, hxy]
       rw [D_lx [] (by kernel_rfl) (by kernel_rfl)]; simp -implicitDefEqProofs -dsimp only [go_sem, List.takeWhile_cons, List.dropWhile_cons, isTail, evNews, List.not_mem_nil, decide_false, Bool.not_true, Bool.not_false, false_imp_iff, implies_true, ne_eq, p.a0, p.a1, p.a7, p.o7, w2, t2, p2, g2, encS_take z4 z4l, z4l]
       refine (w78 z4 rfl c'.toNat c'.toNat hq1 hq1 (d + 1) (d + 1) _ p.und).wh ?_
       simp -implicitDefEqProofs -dsimp only [go_sem, List.not_mem_nil, not_false_eq_true, decide_true, p.a1, p.a4, p.o4, w5, hone, fin _ hone, encS_take _ hone, p.cut, MemR_some, Int.natCast_add]
       exact ⟨Nat.le_refl 4, rfl⟩
 rintro a s' ⟨hne1, p⟩
 rw [hne1] at hmem
 simp only [Bool.false_eq_true, if_false] at hmem
 refine seq_cut (P := fun a s' => preS (s.drop n) [91, 58] = false ∧ P69 s n d (σ.ct d) σ a s') ?_ ?_
 rotate_left
 ·generalize ht : s.drop n = t at hul hmem
  have hat := fun i => at_drop ht i
  have g0 := hat 0
  have g1 := hat 1
  simp only [Nat.add_zero] at g0
  match t, hul, g0, g1 with
  | [], hul, g0, g1 => simp at hul; omega
  | [b], hul, g0, g1 =>
   simp only [List.length_cons, List.length_nil] at hul
   have e2 : ¬ ((2 : Int) ≤ (s.length : Int) - n) := by omega
   simp -implicitDefEqProofs -dsimp only [go_sem, p.a0, p.a1, ws, e2]
   exact ⟨by rw [pre_two1], p.a0, p.a1, p.a4, p.a7, p.o4, p.o7, p.cut, p.und⟩
  | b :: c :: r, hul, g0, g1 =>
   simp only [List.length_cons] at hul
   have e2 : ((2 : Int) ≤ (s.length : Int) - n) := by omega
   simp only [List.getElem?_cons_zero, List.getElem?_cons_succ] at g0 g1
   cases hb : b == 91
   ·simp -implicitDefEqProofs -dsimp only [go_sem, p.a0, p.a1, ws, e2, g0, hb]
    exact ⟨by rw [pre_two, hb]; rfl, p.a0, p.a1, p.a4, p.a7, p.o4, p.o7, p.cut, p.und⟩
   ·cases hc : c == 58
    ·simp -implicitDefEqProofs -dsimp only [go_sem, p.a0, p.a1, ws, e2, g0, g1, hb, hc, w1, t1, p1]
     exact ⟨by rw [pre_two, hb, hc]; rfl, p.a0, p.a1, p.a4, p.a7, p.o4, p.o7, p.cut, p.und⟩
    ·rw [pre_two, hb, hc] at hmem
     simp only [Bool.and_self, if_true] at hmem
     have hr : s.drop (n + 2) = r := by
      have := congrArg (List.drop 2) ht
      rwa [List.drop_drop] at this
     have hM : M = if idxS (s.drop (n + 2)) [58, 93] < 0 then none else if (rangesS ((s.drop (n + 2)).take (idxS (s.drop (n + 2)) [58, 93]).toNat) == []) = true then none else some (classS ((s.drop (n + 2)).take (idxS (s.drop (n + 2)) [58, 93]).toNat), ((s.drop (n + 2)).take (idxS (s.drop (n + 2)) [58, 93]).toNat).length + 4) := by
      rw [hmem, clsS, show (b :: c :: r).drop 2 = r from rfl, hr]
     generalize hD : idxS (s.drop (n + 2)) [58, 93] = D at hM
     simp -implicitDefEqProofs -dsimp only [go_sem, p.a0, p.a1, ws, e2, g0, g1, hb, hc, w1, t1, p1, w2]
     refine loop_h (I := fun j a s' => ∃ k : Nat, k + j = s.length ∧ n + 2 ≤ k ∧ a 8 = .int .i64 k ∧ P69 s n d (σ.ct d) σ a s' ∧ D = if idxS (s.drop k) [58, 93] < 0 then -1 else idxS (s.drop k) [58, 93] + ((k : Int) - (n + 2))) ?_ (s.length - (n + 2)) _ _ ?_
     ·rintro j a s' ⟨k, hk, hk2, a8, p, hDk⟩
      have v1 := wr64 ((k : Int) + 1) (by omega) (by omega)
      have v2 := wr64 ((k : Int) + 2) (by omega) (by omega)
      have x2 : ((k : Int) + 2).toNat = k + 2 := by omega
      have y2 : (0 : Int) ≤ (k : Int) + 2 := by omega
      have y3 : (k : Int) ≤ (k : Int) + 2 := by omega
      have y4 : (k : Int) ≤ ((k + 2 : Nat) : Int) := by omega
      have ck := cut_at s k 0 2
      simp only [Nat.add_zero, List.drop_zero] at ck
      by_cases hkl : k + 1 < s.length
      ·have f1 : ((k : Int) + 1 < (s.length : Int)) := by omega
       have f2 : (k : Int) + 2 ≤ (s.length : Int) := by omega
       have hdk := List.drop_eq_getElem_cons (show k < s.length by omega)
       cases hhit : ((s.drop k).take 2 == [58, 93])
       ·simp -implicitDefEqProofs -dsimp only [go_sem, p.a0, a8, v1, v2, f1, f2, x2, y2, y4, ck, hhit]
        refine ⟨j - 1, by omega, k + 1, by omega, by omega, rfl, ⟨p.a0, p.a1, p.a4, p.a7, p.o4, p.o7, p.cut, p.und⟩, ?_⟩
        have hms := beq_eq_false_iff_ne.1 hhit
        rw [hdk] at hms hDk
        rw [idx_miss _ _ hms] at hDk
        rw [hDk]
        by_cases hz : idxS (s.drop (k + 1)) [58, 93] < 0
        ·simp [hz]
        ·have : ¬ idxS (s.drop (k + 1)) [58, 93] + 1 < 0 := by omega
         simp only [hz, this, if_false]
         omega
       ·have h0 := idx_hit _ (beq_iff_eq.1 hhit)
        rw [h0] at hDk
        simp only [Int.lt_irrefl, if_false, Int.zero_add] at hDk
        have hDn : ¬ D < 0 := by omega
        have hDt : D.toNat = k - (n + 2) := by omega
        have hck : (s.take k).drop (n + 2) = (s.drop (n + 2)).take (k - (n + 2)) := by rw [List.drop_take]
        rw [hDt] at hM
        simp only [hDn, if_false] at hM
        have z1 : ((n : Int) + 2) ≤ (k : Int) := by omega
        have z2 : (k : Int) ≤ (s.length : Int) := by omega
        have hln : ((s.drop (n + 2)).take (k - (n + 2))).length = k - (n + 2) := by rw [List.length_take, List.length_drop]; omega
        generalize hN : (s.drop (n + 2)).take (k - (n + 2)) = N at hM hck hln
        have hcl := classS_len N
        simp -implicitDefEqProofs -dsimp only [go_sem, p.a0, p.a1, a8, v1, v2, f1, f2, x2, y2, y4, ck, hhit, w2, t2, p2, z1, z2, hck]
        refine (w79 N lim (d + 1) _ p.und).wh ?_
        simp -implicitDefEqProofs -dsimp only [go_sem, p.a4, p.o4, hcl, encS_put, encS_take _ hcl, fin _ hcl, encS_len, a8, v2]
        refine ⟨Nat.le_refl 4, ?_, p.cut⟩
        cases hr0 : rangesS N == []
        ·rw [hr0] at hM
         simp only [Bool.false_eq_true, if_false] at hM
         rw [hM, MemR_some]
         simp only [hln, Bool.not_false]
         rw [show ((n + (k - (n + 2) + 4) : Nat) : Int) = (k : Int) + 2 by omega]
        ·rw [hr0] at hM
         simp only [if_true] at hM
         rw [hM, MemR_none]
         exact ⟨_, _, rfl, hcl⟩
      ·have f1 : ¬ ((k : Int) + 1 < (s.length : Int)) := by omega
       have hsh := idx_short (s.drop k) (by rw [List.length_drop]; omega)
       rw [hsh] at hDk
       simp only [show ((-1 : Int) < 0) from by decide, if_true] at hDk
       rw [hDk] at hM
       simp only [show ((-1 : Int) < 0) from by decide, if_true] at hM
       subst hM
       simp -implicitDefEqProofs -dsimp only [go_sem, p.a0, a8, v1, f1, p.a4, p.a7, p.o7, p.o4, encS_take z4 z4l, fin z4 z4l, z4l, encS_len, p.cut, MemR_none]
       exact ⟨z4, 0, rfl, z4l⟩
     ·refine ⟨n + 2, by omega, Nat.le_refl _, rfl, ⟨p.a0, p.a1, p.a4, p.a7, p.o4, p.o7, p.cut, p.und⟩, ?_⟩
      rw [hD]
      have hDge : -1 ≤ D := by rw [← hD]; exact idxS_ge _ _
      split <;> omega
 rintro a s' ⟨hne2, p⟩
 rw [hne2] at hmem
 simp only [Bool.false_eq_true, if_false] at hmem
 have hsn : signS (s.drop n) = singleS (s.drop n) := by simp only [signS, hne1, hne2, Bool.or_self, Bool.false_eq_true, if_false]
 rw [hsn] at hmem
 refine seq_cut (P := fun a s' => ((singleS (s.drop n) = none ∧ a 13 = .bool false) ∨ ∃ x : UInt8 × Nat, singleS (s.drop n) = some x ∧ a 13 = .bool true ∧ a 11 = .int .u8 x.1.toNat ∧ a 12 = .int .i64 (n + x.2 : Nat)) ∧ P69 s n d (σ.ct d) σ a s') ?_ ?_
 rotate_left
 ·simp -implicitDefEqProofs -dsimp only [go_sem, p.a0, p.a1]
  refine (w80 s n hs (by omega) lim (d + 1) _ p.und).wh ?_
  cases hsg : singleS (s.drop n) with
  | none =>
   simp -implicitDefEqProofs -dsimp only [go_sem, sngV_none]
   exact ⟨.inl (by first | trivial | rfl), p.a0, p.a1, p.a4, p.a7, p.o4, p.o7, p.cut, p.und⟩
  | some x =>
   simp -implicitDefEqProofs -dsimp only [go_sem, sngV_some]
   exact ⟨.inr ⟨x, rfl, rfl, rfl⟩, p.a0, p.a1, p.a4, p.a7, p.o4, p.o7, p.cut, p.und⟩
 rintro a s' ⟨hor, p⟩
 refine seq_cut (P := fun a s' => ∃ x : UInt8 × Nat, singleS (s.drop n) = some x ∧ a 11 = .int .u8 x.1.toNat ∧ a 12 = .int .i64 (n + x.2 : Nat) ∧ P69 s n d (σ.ct d) σ a s') ?_ ?_
 rotate_left
 ·rcases hor with ⟨hsg, a13⟩ | ⟨x, hsg, a13, a11, a12⟩
  ·rw [hsg, Option.bind_none] at hmem
   subst hmem
   simp -implicitDefEqProofs -dsimp only [go_sem, a13, p.a4, p.a7, p.o7, p.o4, encS_take z4 z4l, fin z4 z4l, z4l, encS_len, p.cut, MemR_none]
   exact ⟨z4, 0, rfl, z4l⟩
  ·simp -implicitDefEqProofs -dsimp only [go_sem, a13]
   exact ⟨x, hsg, a11, a12, p.a0, p.a1, p.a4, p.a7, p.o4, p.o7, p.cut, p.und⟩
 clear hor
 rintro a s' ⟨x, hsg, a11, a12, p⟩
 rw [hsg, Option.bind_some, List.drop_drop] at hmem
 have hle := single_le _ _ hsg
 rw [List.length_drop] at hle
 generalize hm : n + x.2 = m at hmem a12
 have hml : m ≤ s.length := by omega
 have hul2 : (s.drop m).length = s.length - m := List.length_drop
 have hx1 : x.1.toNat < 256 := UInt8.toNat_lt _
 have hone := wl z4 x.1.toNat x.1.toNat rfl
 have m1 := wr64 ((m : Int) + 1) (by omega) (by omega)
 have m2 := wr64 ((m : Int) + 2) (by omega) (by omega)
 have ms := wr64 ((s.length : Int) - m) (by omega) (by omega)
 have r1 : ((m : Int) + 1).toNat = m + 1 := by omega
 have r2 : ((m : Int) + 2).toNat = m + 2 := by omega
 have q1 : (0 : Int) ≤ (m : Int) + 1 := by omega
 have q2 : (0 : Int) ≤ (m : Int) + 2 := by omega
 refine seq_cut (P := fun a s' => ∃ b c r, s.drop m = b :: c :: r ∧ rngS x (s.drop m) = ((signS (c :: r)).bind fun y => if (decide (y.1.toNat < x.1.toNat) || c == 45 && !preS (s.drop (m + (1 + y.2))) [93]) = true then none else some (withS z4 x.1.toNat y.1.toNat, x.2 + 1 + y.2)) ∧ a 11 = .int .u8 x.1.toNat ∧ a 12 = .int .i64 m ∧ P69 s n d (σ.ct d) σ a s') ?_ ?_
 rotate_left
 ·generalize ht : s.drop m = t at hul2 hmem
  have hat := fun i => at_drop ht i
  have g0 := hat 0
  have g1 := hat 1
  simp only [Nat.add_zero] at g0
  match t, hul2, g0, g1, ht with
  | [], hul2, g0, g1, ht =>
   simp only [List.length_nil] at hul2
   have e2 : ((s.length : Int) - m < 2) := by omega
   rw [show rngS x [] = some (oneS x.1, x.2) from rfl] at hmem
   subst hmem
   simp -implicitDefEqProofs -dsimp only [go_sem, p.a0, a11, a12, ms, e2, p.a7, p.o7, encS_take z4 z4l, encS_len]
   refine ⟨Nat.le_refl 4, (w78 z4 rfl x.1.toNat x.1.toNat hx1 hx1 lim (d + 1) _ p.und).wh ?_⟩
   simp -implicitDefEqProofs -dsimp only [go_sem, p.a4, p.o4, hone, fin _ hone, encS_take _ hone, encS_len, p.cut, MemR_some, a12, hm]
   exact ⟨Nat.le_refl 4, rfl⟩
  | [b], hul2, g0, g1, ht =>
   simp only [List.length_cons, List.length_nil] at hul2
   have e2 : ((s.length : Int) - m < 2) := by omega
   rw [show rngS x [b] = some (oneS x.1, x.2) by unfold rngS; simp] at hmem
   subst hmem
   simp -implicitDefEqProofs -dsimp only [go_sem, p.a0, a11, a12, ms, e2, p.a7, p.o7, encS_take z4 z4l, encS_len]
   refine ⟨Nat.le_refl 4, (w78 z4 rfl x.1.toNat x.1.toNat hx1 hx1 lim (d + 1) _ p.und).wh ?_⟩
   simp -implicitDefEqProofs -dsimp only [go_sem, p.a4, p.o4, hone, fin _ hone, encS_take _ hone, encS_len, p.cut, MemR_some, a12, hm]
   exact ⟨Nat.le_refl 4, rfl⟩
  | b :: c :: r, hul2, g0, g1, ht =>
   simp only [List.length_cons] at hul2
   have e2 : ¬ ((s.length : Int) - m < 2) := by omega
   simp only [List.getElem?_cons_zero, List.getElem?_cons_succ] at g0 g1
   have hrg : rngS x (b :: c :: r) = if (!(b == 45) || c == 93) = true then some (oneS x.1, x.2) else ((signS (c :: r)).bind fun y => if (decide (y.1.toNat < x.1.toNat) || c == 45 && !preS (s.drop (m + (1 + y.2))) [93]) = true then none else some (withS z4 x.1.toNat y.1.toNat, x.2 + 1 + y.2)) := by
    unfold rngS
    rw [pre_one, pre_two]
    have hdd : ∀ k, List.drop (1 + k) (b :: c :: r) = s.drop (m + (1 + k)) := fun k => by rw [← ht, List.drop_drop]
    have hlen : decide ((b :: c :: r).length < 2) = false := by simp
    rw [hlen, show List.drop 1 (b :: c :: r) = c :: r from rfl, pre_one]
    simp only [hdd]
    cases b == 45 <;> cases c == 93 <;> rfl
   cases hb : b == 45
   ·rw [hrg, hb] at hmem
    simp only [Bool.not_false, Bool.true_or, if_true] at hmem
    subst hmem
    simp -implicitDefEqProofs -dsimp only [go_sem, p.a0, a11, a12, ms, e2, g0, hb, p.a7, p.o7, encS_take z4 z4l, encS_len]
    refine ⟨Nat.le_refl 4, (w78 z4 rfl x.1.toNat x.1.toNat hx1 hx1 lim (d + 1) _ p.und).wh ?_⟩
    simp -implicitDefEqProofs -dsimp only [go_sem, p.a4, p.o4, hone, fin _ hone, encS_take _ hone, encS_len, p.cut, MemR_some, a12, hm]
    exact ⟨Nat.le_refl 4, rfl⟩
   ·cases hc : c == 93
    ·simp -implicitDefEqProofs -dsimp only [go_sem, p.a0, a11, a12, ms, e2, g0, g1, hb, hc, m1, r1, q1]
     refine ⟨b, c, r, rfl, ?_, p.a0, p.a1, p.a4, p.a7, p.o4, p.o7, p.cut, p.und⟩
     rw [hrg, hb, hc]
     simp only [Bool.not_true, Bool.or_self, Bool.false_eq_true, if_false]
    ·rw [hrg, hb, hc] at hmem
     simp only [Bool.or_true, if_true] at hmem
     subst hmem
     simp -implicitDefEqProofs -dsimp only [go_sem, p.a0, a11, a12, ms, e2, g0, g1, hb, hc, m1, r1, q1, p.a7, p.o7, encS_take z4 z4l, encS_len]
     refine ⟨Nat.le_refl 4, (w78 z4 rfl x.1.toNat x.1.toNat hx1 hx1 lim (d + 1) _ p.und).wh ?_⟩
     simp -implicitDefEqProofs -dsimp only [go_sem, p.a4, p.o4, hone, fin _ hone, encS_take _ hone, encS_len, p.cut, MemR_some, a12, hm]
     exact ⟨Nat.le_refl 4, rfl⟩
 rintro a s' ⟨b, c, r, hdr, hrg, a11, a12, p⟩
 rw [hrg] at hmem
 have hat := fun i => at_drop hdr i
 have g1 := hat 1
 have g2 := hat 2
 have hdr1 : s.drop (m + 1) = c :: r := by
  have := congrArg (List.drop 1) hdr
  rwa [List.drop_drop] at this
 rw [hdr] at hul2
 simp only [List.length_cons] at hul2
 simp only [List.getElem?_cons_zero, List.getElem?_cons_succ] at g1 g2
 refine seq_cut (P := fun a s' => ((singleS (c :: r) = none ∧ a 13 = .bool false) ∨ ∃ y : UInt8 × Nat, singleS (c :: r) = some y ∧ a 13 = .bool true ∧ a 14 = .int .u8 y.1.toNat ∧ a 15 = .int .i64 (m + 1 + y.2 : Nat)) ∧ a 11 = .int .u8 x.1.toNat ∧ a 12 = .int .i64 m ∧ P69 s n d (σ.ct d) σ a s') ?_ ?_
 rotate_left
 ·simp -implicitDefEqProofs -dsimp only [go_sem, p.a0, a12, m1]
  refine (w80 s (m + 1) hs (by omega) lim (d + 1) _ p.und).wh ?_
  rw [hdr1]
  cases hsg2 : singleS (c :: r) with
  | none =>
   simp -implicitDefEqProofs -dsimp only [go_sem, sngV_none]
   exact ⟨.inl (by first | trivial | rfl), a11, a12, p.a0, p.a1, p.a4, p.a7, p.o4, p.o7, p.cut, p.und⟩
  | some y =>
   simp -implicitDefEqProofs -dsimp only [go_sem, sngV_some]
   exact ⟨.inr ⟨y, rfl, rfl, rfl⟩, a11, a12, p.a0, p.a1, p.a4, p.a7, p.o4, p.o7, p.cut, p.und⟩
 rintro a s' ⟨hor, a11, a12, p⟩
 have done : M = none → MemR n M (.tup [.agg (encS z4), .int .i64 0, .bool false]) := fun h => by rw [h, MemR_none]; exact ⟨z4, 0, rfl, z4l⟩
 rcases hor with ⟨hsg2, a13⟩ | ⟨y, hsg2, a13, a14, a15⟩
 ·have hM : M = none := by
   rw [hmem]
   unfold signS
   rw [hsg2]
   split <;> rfl
  simp -implicitDefEqProofs -dsimp only [go_sem, a13, p.a4, p.a7, p.o7, p.o4, encS_take z4 z4l, fin z4 z4l, z4l, encS_len, p.cut]
  exact done hM
 ·have hle2 := single_le _ _ hsg2
  simp only [List.length_cons] at hle2
  have hy1 : y.1.toNat < 256 := UInt8.toNat_lt _
  have htwo := wl z4 x.1.toNat y.1.toNat rfl
  generalize hk : m + 1 + y.2 = k at a15
  have hk2 : m + (1 + y.2) = k := by omega
  have ks := wr64 ((s.length : Int) - k) (by omega) (by omega)
  have hlt : decide ((y.1.toNat : Int) < (x.1.toNat : Int)) = decide (y.1.toNat < x.1.toNat) := by
   by_cases h : y.1.toNat < x.1.toNat
   ·rw [decide_eq_true h, decide_eq_true (by omega)]
   ·rw [decide_eq_false h, decide_eq_false (by omega)]
  have good : (preS (c :: r) [91, 61] || preS (c :: r) [91, 58]) = false → (decide (y.1.toNat < x.1.toNat) || c == 45 && !preS (s.drop k) [93]) = false → M = some (withS z4 x.1.toNat y.1.toNat, x.2 + 1 + y.2) := fun h1 h2 => by
   rw [hmem]
   simp only [signS, h1, hsg2, Bool.false_eq_true, if_false, Option.bind_some, hk2, h2]
  have badA : (preS (c :: r) [91, 61] || preS (c :: r) [91, 58]) = true → M = none := fun h1 => by
   rw [hmem]
   simp only [signS, h1, if_true, Option.bind_none]
  have badB : (decide (y.1.toNat < x.1.toNat) || c == 45 && !preS (s.drop k) [93]) = true → M = none := fun h2 => by
   rw [hmem]
   simp only [signS, hsg2]
   split
   ·rfl
   ·simp only [Option.bind_some, hk2, h2, if_true]
  have out : M = some (withS z4 x.1.toNat y.1.toNat, x.2 + 1 + y.2) → MemR n M (.tup [.agg (encS (withS z4 x.1.toNat y.1.toNat)), .int .i64 k, .bool true]) := fun h => by
   rw [h, MemR_some]
   simp only
   rw [show n + (x.2 + 1 + y.2) = k by omega]
  have hkd : ∀ z q, s.drop k = z :: q → s[k]? = some z := fun z q h => by
   have := at_drop h 0
   simpa using this
  have hkl : (s.drop k).length = s.length - k := List.length_drop
  match r, hul2, g2, hsg2, good, badA with
  | [], hul2, g2, hsg2, good, badA =>
   simp only [List.length_nil] at hul2
   have e3 : ¬ ((3 : Int) ≤ (s.length : Int) - m) := by omega
   rw [pre_two1, pre_two1] at good
   by_cases hkl2 : k < s.length
   ·have hdk := List.drop_eq_getElem_cons hkl2
    have gk : s[k]? = some s[k] := List.getElem?_eq_getElem hkl2
    have ek : ¬ ((s.length : Int) - k < 1) := by omega
    have ek2 : (0 : Int) ≤ (k : Int) := by omega
    cases hz : s[k] == 93
    ·have hpk : preS (s.drop k) [93] = false := by rw [hdk, pre_one]; exact hz
     simp -implicitDefEqProofs -dsimp only [go_sem, p.a0, a11, a12, a13, a14, a15, ms, m1, r1, q1, g1, hlt, ks, gk, ek, hz, e3, p.a4, p.a7, p.o7, p.o4, encS_take z4 z4l, fin z4 z4l, z4l, encS_len, p.cut]
     cases hl : decide (y.1.toNat < x.1.toNat) <;> cases h45 : c == 45
     all_goals simp only [Bool.false_eq_true, if_false, if_true, ite_self]
     all_goals first | exact done (badB (by rw [hl, h45, hpk]; rfl)) | (refine (w78 z4 rfl x.1.toNat y.1.toNat hx1 hy1 lim (d + 1) _ p.und).wh ?_; simp -implicitDefEqProofs -dsimp only [go_sem, p.a4, p.o4, a15, htwo, fin _ htwo, encS_take _ htwo, encS_len, p.cut]; exact ⟨Nat.le_refl 4, out (good rfl (by rw [hl, h45, hpk]; rfl))⟩)
    ·have hpk : preS (s.drop k) [93] = true := by rw [hdk, pre_one]; exact hz
     simp -implicitDefEqProofs -dsimp only [go_sem, p.a0, a11, a12, a13, a14, a15, ms, m1, r1, q1, g1, hlt, ks, gk, ek, hz, e3, p.a4, p.a7, p.o7, p.o4, encS_take z4 z4l, fin z4 z4l, z4l, encS_len, p.cut]
     cases hl : decide (y.1.toNat < x.1.toNat) <;> cases h45 : c == 45
     all_goals simp only [Bool.false_eq_true, if_false, if_true]
     all_goals first | exact done (badB (by rw [hl, h45, hpk]; rfl)) | (refine (w78 z4 rfl x.1.toNat y.1.toNat hx1 hy1 lim (d + 1) _ p.und).wh ?_; simp -implicitDefEqProofs -dsimp only [go_sem, p.a4, p.o4, a15, htwo, fin _ htwo, encS_take _ htwo, encS_len, p.cut]; exact ⟨Nat.le_refl 4, out (good rfl (by rw [hl, h45, hpk]; rfl))⟩)
   ·have ek : ((s.length : Int) - k < 1) := by omega
    have hpk : preS (s.drop k) [93] = false := by rw [List.drop_eq_nil_of_le (by omega)]; exact pre_nil _ (by simp)
    simp -implicitDefEqProofs -dsimp only [go_sem, p.a0, a11, a12, a13, a14, a15, ms, m1, r1, q1, g1, hlt, ks, ek, e3, p.a4, p.a7, p.o7, p.o4, encS_take z4 z4l, fin z4 z4l, z4l, encS_len, p.cut]
    cases hl : decide (y.1.toNat < x.1.toNat) <;> cases h45 : c == 45
    all_goals simp only [Bool.false_eq_true, if_false, if_true, ite_self]
    all_goals first | exact done (badB (by rw [hl, h45, hpk]; rfl)) | (refine (w78 z4 rfl x.1.toNat y.1.toNat hx1 hy1 lim (d + 1) _ p.und).wh ?_; simp -implicitDefEqProofs -dsimp only [go_sem, p.a4, p.o4, a15, htwo, fin _ htwo, encS_take _ htwo, encS_len, p.cut]; exact ⟨Nat.le_refl 4, out (good rfl (by rw [hl, h45, hpk]; rfl))⟩)
  | e :: r', hul2, g2, hsg2, good, badA =>
   simp only [List.length_cons] at hul2
   have e3 : ((3 : Int) ≤ (s.length : Int) - m) := by omega
   simp only [List.getElem?_cons_zero] at g2
   rw [pre_two, pre_two] at good badA
   by_cases hkl2 : k < s.length
   ·have hdk := List.drop_eq_getElem_cons hkl2
    have gk : s[k]? = some s[k] := List.getElem?_eq_getElem hkl2
    have ek : ¬ ((s.length : Int) - k < 1) := by omega
    have ek2 : (0 : Int) ≤ (k : Int) := by omega
    cases hz : s[k] == 93
    ·have hpk : preS (s.drop k) [93] = false := by rw [hdk, pre_one]; exact hz
     simp -implicitDefEqProofs -dsimp only [go_sem, p.a0, a11, a12, a13, a14, a15, ms, m1, r1, q1, m2, r2, q2, g1, hlt, ks, gk, ek, hz, e3, p.a4, p.a7, p.o7, p.o4, encS_take z4 z4l, fin z4 z4l, z4l, encS_len, p.cut, g2]
     cases hl : decide (y.1.toNat < x.1.toNat) <;> cases h45 : c == 45 <;> cases h91 : c == 91 <;> cases h61 : e == 61 <;> cases h58 : e == 58
     all_goals simp only [Bool.false_eq_true, if_false, if_true, gm_t, gm_f, Bool.and_self, Bool.and_false, Bool.and_true, ite_self]
     all_goals first | exact done (badB (by rw [hl, h45, hpk]; rfl)) | exact done (badA (by rw [h91, h61, h58]; rfl)) | (refine (w78 z4 rfl x.1.toNat y.1.toNat hx1 hy1 lim (d + 1) _ p.und).wh ?_; simp -implicitDefEqProofs -dsimp only [go_sem, p.a4, p.o4, a15, htwo, fin _ htwo, encS_take _ htwo, encS_len, p.cut]; exact ⟨Nat.le_refl 4, out (good (by rw [h91, h61, h58]; rfl) (by rw [hl, h45, hpk]; rfl))⟩)
    ·have hpk : preS (s.drop k) [93] = true := by rw [hdk, pre_one]; exact hz
     simp -implicitDefEqProofs -dsimp only [go_sem, p.a0, a11, a12, a13, a14, a15, ms, m1, r1, q1, m2, r2, q2, g1, hlt, ks, gk, ek, hz, e3, p.a4, p.a7, p.o7, p.o4, encS_take z4 z4l, fin z4 z4l, z4l, encS_len, p.cut, g2]
     cases hl : decide (y.1.toNat < x.1.toNat) <;> cases h45 : c == 45 <;> cases h91 : c == 91 <;> cases h61 : e == 61 <;> cases h58 : e == 58
     all_goals simp only [Bool.false_eq_true, if_false, if_true, gm_t, gm_f, Bool.and_self, Bool.and_false, Bool.and_true, ite_self]
     all_goals first | exact done (badB (by rw [hl, h45, hpk]; rfl)) | exact done (badA (by rw [h91, h61, h58]; rfl)) | (refine (w78 z4 rfl x.1.toNat y.1.toNat hx1 hy1 lim (d + 1) _ p.und).wh ?_; simp -implicitDefEqProofs -dsimp only [go_sem, p.a4, p.o4, a15, htwo, fin _ htwo, encS_take _ htwo, encS_len, p.cut]; exact ⟨Nat.le_refl 4, out (good (by rw [h91, h61, h58]; rfl) (by rw [hl, h45, hpk]; rfl))⟩)
   ·have ek : ((s.length : Int) - k < 1) := by omega
    have hpk : preS (s.drop k) [93] = false := by rw [List.drop_eq_nil_of_le (by omega)]; exact pre_nil _ (by simp)
    simp -implicitDefEqProofs -dsimp only [go_sem, p.a0, a11, a12, a13, a14, a15, ms, m1, r1, q1, m2, r2, q2, g1, hlt, ks, ek, e3, p.a4, p.a7, p.o7, p.o4, encS_take z4 z4l, fin z4 z4l, z4l, encS_len, p.cut, g2]
    cases hl : decide (y.1.toNat < x.1.toNat) <;> cases h45 : c == 45 <;> cases h91 : c == 91 <;> cases h61 : e == 61 <;> cases h58 : e == 58
    all_goals simp only [Bool.false_eq_true, if_false, if_true, gm_t, gm_f, Bool.and_self, Bool.and_false, Bool.and_true, ite_self]
    all_goals first | exact done (badB (by rw [hl, h45, hpk]; rfl)) | exact done (badA (by rw [h91, h61, h58]; rfl)) | (refine (w78 z4 rfl x.1.toNat y.1.toNat hx1 hy1 lim (d + 1) _ p.und).wh ?_; simp -implicitDefEqProofs -dsimp only [go_sem, p.a4, p.o4, a15, htwo, fin _ htwo, encS_take _ htwo, encS_len, p.cut]; exact ⟨Nat.le_refl 4, out (good (by rw [h91, h61, h58]; rfl) (by rw [hl, h45, hpk]; rfl))⟩)
end Go.Proofs.Tryz.E
