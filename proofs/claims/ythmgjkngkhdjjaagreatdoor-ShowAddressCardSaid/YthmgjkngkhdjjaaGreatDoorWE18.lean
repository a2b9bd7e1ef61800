/- Walks: what the functions compute. Walks: what the functions compute. -/
import Derived.Test.YthmgjkngkhdjjaaGreatDoorE16
set_option linter.unusedVariables false
set_option linter.unusedSimpArgs false
/- A bracket's members. -/
namespace Go.Proofs.Tryz.E
open Go.Mv
set_option maxHeartbeats 4000000
set_option maxRecDepth 20000
theorem w74 (s : List UInt8) (n : Nat) (hs : s.length ≤ 1000000) (hn : n ≤ s.length) (p : Mv.Loc) (lim d : Nat) (hp : p.d < d) (hlim : lim ≤ p.d) (σ : Sto) (hu : σ.Und d) (ho : σ.ob p = some (encR s n)) :
  WF X lim d 138 [.ptr p 0] σ (MemV s p n (memberS (s.drop n)) σ) := by
 have hset := set_same ho
 have hun := und_succ hu
 have hne := ne_my hp
 have hmy := my_ne hp
 have hp1 := Nat.lt_succ_of_lt hp
 have ho2 := ho
 rw [encR] at ho2
 have hun1 : ∀ (t c : Nat) (cs : List MV), ((σ.set ⟨d, t, c⟩ cs).tick d).Und (d + 1) := fun t c cs => by simp only [u_tick, u_mine]; exact hun
 have hob1 : ∀ (t c : Nat) (cs : List MV), ((σ.set ⟨d, t, c⟩ cs).tick d).ob p = some (encR s n) := fun t c cs => by simp only [go_sem, hne, if_false]; exact ho
 have hmem : memberS (s.drop n) = if preS (s.drop n) [91, 58] = true then clsS (s.drop n) else if preS (s.drop n) [91, 61] = true then (namedS 61 (s.drop n)).map fun x => (oneS x.1, x.2) else (signS (s.drop n)).bind fun x => rngS x ((s.drop n).drop x.2) := rfl
 generalize memberS (s.drop n) = M at hmem
 have zlen : (encS z4).length = 4 := rfl
 have fin : ∀ (q : List Int), q.length = 4 → putC [.int .u64 0, .int .u64 0, .int .u64 0, .int .u64 0] (encS q) 0 = encS q := fun q hq => encS_put _ _ (by rw [hq]; rfl)
 have hun2 : ∀ (t c : Nat) (cs R : List MV), (((σ.set ⟨d, t, c⟩ cs).set p R).tick d).Und (d + 1) := fun t c cs R => by simp only [u_tick, u_set _ _ _ _ hp1, u_mine]; exact hun
 have hob2 : ∀ (t c : Nat) (cs R : List MV), (((σ.set ⟨d, t, c⟩ cs).set p R).tick d).ob p = some R := fun t c cs R => by simp only [go_sem, if_true]
 rw [WF_body (C := X) rfl func138 rfl (by kernel_rfl)]; simp only [results138]
 simp -implicitDefEqProofs -dsimp only [go_sem]
 refine (w73 s _ n hs p lim (d + 1) hp1 _ (hun1 ..) (hob1 ..)).wh ?_
 cases hb1 : preS (s.drop n) [91, 58]
 ·rw [hb1] at hmem
  simp only [Bool.false_eq_true, if_false] at hmem
  simp -implicitDefEqProofs -dsimp only [go_sem]
  refine (w73 s _ n hs p lim (d + 1) hp1 _ (hun1 ..) (hob1 ..)).wh ?_
  cases hb2 : preS (s.drop n) [91, 61]
  ·rw [hb2] at hmem
   simp only [Bool.false_eq_true, if_false] at hmem
   simp -implicitDefEqProofs -dsimp only [go_sem]
   refine (w85 s n hs hn p lim (d + 1) hp1 hlim _ (hun1 ..) (hob1 ..)).wh ?_
   cases hsg : signS (s.drop n) with
   | none =>
    rw [hsg, Option.bind_none] at hmem
    subst hmem
    simp -implicitDefEqProofs -dsimp only [go_sem, sgnV_none, sgnN_none, MemV_none, hmy]
    exact ⟨z4, n, rfl, by simp only [go_sem, cut_set _ _ _ _ hp, cut_und _ _ hu], rfl⟩
   | some x =>
    rw [hsg, Option.bind_some, List.drop_drop] at hmem
    have hle := sign_le _ _ hsg
    rw [List.length_drop] at hle
    have hm4 : n + x.2 ≤ s.length := by omega
    generalize hm : n + x.2 = m at hmem hm4
    have hul : (s.drop m).length = s.length - m := List.length_drop
    have hx1 : x.1.toNat < 256 := UInt8.toNat_lt _
    have w1 := wr64 ((m : Int) + 1) (by omega) (by omega)
    have hone := wl z4 x.1.toNat x.1.toNat rfl
    unfold rngS at hmem
    simp -implicitDefEqProofs -dsimp only [go_sem, sgnV_some, sgnN_some, hm]
    rw [D_dr (by kernel_rfl) rfl]
    simp -implicitDefEqProofs -dsimp only [go_sem]
    refine (w73 s _ m hs p (d + 1) (d + 1) hp1 _ (hun2 ..) (hob2 ..)).wh ?_
    cases hc1 : preS (s.drop m) [45]
    ·rw [hc1] at hmem
     simp only [Bool.not_false, Bool.true_or, if_true] at hmem
     subst hmem
     simp -implicitDefEqProofs -dsimp only [go_sem]
     refine (w84 z4 rfl x.1.toNat x.1.toNat hx1 hx1 lim (d + 1) _ (hun2 ..)).wh ?_
     simp -implicitDefEqProofs -dsimp only [go_sem, hone, hmy, hm, fin _ hone, encS_take _ hone, MemV_some, encR, cut_set _ _ _ _ hp, cut_und _ _ hu]
     exact ⟨rfl, hone⟩
    ·rw [hc1] at hmem
     simp -implicitDefEqProofs -dsimp only [go_sem]
     refine (w73 s _ m hs p (d + 1) (d + 1) hp1 _ (hun2 ..) (hob2 ..)).wh ?_
     cases hc2 : preS (s.drop m) [45, 93]
     ·rw [hc2] at hmem
      simp -implicitDefEqProofs -dsimp only [go_sem, encR]
      by_cases hc3 : (s.drop m).length < 2
      ·have e3 : ((s.length : Int) ≤ (m : Int) + 1) := by omega
       rw [decide_eq_true hc3] at hmem
       simp only [Bool.not_true, Bool.false_or, if_true] at hmem
       subst hmem
       simp -implicitDefEqProofs -dsimp only [go_sem, w1, e3]
       refine (w84 z4 rfl x.1.toNat x.1.toNat hx1 hx1 lim (d + 1) _ (hun2 ..)).wh ?_
       simp -implicitDefEqProofs -dsimp only [go_sem, hone, hmy, hm, fin _ hone, encS_take _ hone, MemV_some, encR, cut_set _ _ _ _ hp, cut_und _ _ hu]
       exact ⟨rfl, hone⟩
      ·have e3 : ¬ ((s.length : Int) ≤ (m : Int) + 1) := by omega
       rw [decide_eq_false hc3] at hmem
       simp only [Bool.not_true, Bool.or_self, Bool.false_eq_true, if_false, List.drop_drop] at hmem
       simp -implicitDefEqProofs -dsimp only [go_sem, w1, e3, hp, hlim]
       rw [show [MV.str s, MV.int .i64 ((m : Int) + 1)] = encR s (m + 1) from rfl]
       have hm1 : m + 1 ≤ s.length := by omega
       refine (w73 s _ (m + 1) hs p lim (d + 1) hp1 _ (hun2 ..) (hob2 ..)).wh ?_
       simp -implicitDefEqProofs -dsimp only [go_sem]
       refine (w85 s (m + 1) hs hm1 p lim (d + 1) hp1 hlim _ (hun2 ..) (hob2 ..)).wh ?_
       cases hsg2 : signS (s.drop (m + 1)) with
       | none =>
        rw [hsg2, Option.bind_none] at hmem
        subst hmem
        simp -implicitDefEqProofs -dsimp only [go_sem, sgnV_none, sgnN_none]
        simp -implicitDefEqProofs -dsimp only [go_sem, hmy, MemV_none]
        exact ⟨z4, m + 1, rfl, by simp only [go_sem, cut_set _ _ _ _ hp, cut_und _ _ hu], rfl⟩
       | some y =>
        rw [hsg2, Option.bind_some] at hmem
        have hle2 := sign_le _ _ hsg2
        rw [List.length_drop] at hle2
        have hy1 : y.1.toNat < 256 := UInt8.toNat_lt _
        have htwo := wl z4 x.1.toNat y.1.toNat rfl
        have hmy2 : m + 1 + y.2 = m + (1 + y.2) := by omega
        have hm5 : m + (1 + y.2) = n + (x.2 + 1 + y.2) := by omega
        simp -implicitDefEqProofs -dsimp only [go_sem, sgnV_some, sgnN_some, hmy2]
        by_cases hlt : y.1.toNat < x.1.toNat
        ·have e5 : ((y.1.toNat : Int) < (x.1.toNat : Int)) := by omega
         rw [decide_eq_true hlt] at hmem
         simp only [Bool.true_or, if_true] at hmem
         subst hmem
         simp -implicitDefEqProofs -dsimp only [go_sem, decide_true, e5, hmy, MemV_none]
         exact ⟨z4, m + (1 + y.2), rfl, by simp only [go_sem, cut_set _ _ _ _ hp, cut_und _ _ hu], rfl⟩
        ·have e5 : ¬ ((y.1.toNat : Int) < (x.1.toNat : Int)) := by omega
         rw [decide_eq_false hlt] at hmem
         simp only [Bool.false_or] at hmem
         cases hd1 : preS (s.drop (m + 1)) [45]
         ·rw [hd1] at hmem
          simp only [Bool.false_and, Bool.false_eq_true, if_false] at hmem
          subst hmem
          simp -implicitDefEqProofs -dsimp only [go_sem, e5]
          refine (w84 z4 rfl x.1.toNat y.1.toNat hx1 hy1 lim (d + 1) _ (hun2 ..)).wh ?_
          simp -implicitDefEqProofs -dsimp only [go_sem, htwo, hmy, fin _ htwo, encS_take _ htwo, MemV_some, encR, cut_set _ _ _ _ hp, cut_und _ _ hu, hm5]
         ·rw [hd1] at hmem
          simp only [Bool.true_and] at hmem
          simp -implicitDefEqProofs -dsimp only [go_sem, e5]
          refine (w73 s _ (m + (1 + y.2)) hs p lim (d + 1) hp1 _ (hun2 ..) (hob2 ..)).wh ?_
          cases hd2 : preS (s.drop (m + (1 + y.2))) [93]
          ·rw [hd2] at hmem
           simp only [Bool.not_false, if_true] at hmem
           subst hmem
           simp -implicitDefEqProofs -dsimp only [go_sem, decide_false, Bool.not_false, e5, hmy, MemV_none]
           exact ⟨z4, m + (1 + y.2), rfl, by simp only [go_sem, cut_set _ _ _ _ hp, cut_und _ _ hu], rfl⟩
          ·rw [hd2] at hmem
           simp only [Bool.not_true, Bool.false_eq_true, if_false] at hmem
           subst hmem
           simp -implicitDefEqProofs -dsimp only [go_sem, e5]
           refine (w84 z4 rfl x.1.toNat y.1.toNat hx1 hy1 lim (d + 1) _ (hun2 ..)).wh ?_
           simp -implicitDefEqProofs -dsimp only [go_sem, htwo, hmy, fin _ htwo, encS_take _ htwo, MemV_some, encR, cut_set _ _ _ _ hp, cut_und _ _ hu, hm5]
     ·rw [hc2] at hmem
      simp only [Bool.not_true, Bool.false_or, Bool.true_or, if_true] at hmem
      subst hmem
      simp -implicitDefEqProofs -dsimp only [go_sem]
      refine (w84 z4 rfl x.1.toNat x.1.toNat hx1 hx1 lim (d + 1) _ (hun2 ..)).wh ?_
      simp -implicitDefEqProofs -dsimp only [go_sem, hone, hmy, hm, fin _ hone, encS_take _ hone, MemV_some, encR, cut_set _ _ _ _ hp, cut_und _ _ hu]
      exact ⟨rfl, hone⟩
  ·rw [hb2] at hmem
   simp only [if_true] at hmem
   simp -implicitDefEqProofs -dsimp only [go_sem]
   refine (w83 s 61 n hs hn p lim (d + 1) hp1 hlim _ (hun1 ..) (hob1 ..)).wh ?_
   cases hnm : namedS 61 (s.drop n) with
   | none =>
    have hone := wl z4 0 0 rfl
    rw [hnm, Option.map_none] at hmem
    subst hmem
    simp -implicitDefEqProofs -dsimp only [go_sem, sgnV_none, sgnN_none]
    refine (w84 z4 rfl 0 0 (by decide) (by decide) lim (d + 1) _ (hun2 ..)).wh ?_
    simp -implicitDefEqProofs -dsimp only [go_sem, hone, hmy, fin _ hone, encS_take _ hone, MemV_none, encR, cut_set _ _ _ _ hp, cut_und _ _ hu]
    exact ⟨_, n, rfl, rfl, hone⟩
   | some x =>
    have hone := wl z4 x.1.toNat x.1.toNat rfl
    have hx1 : x.1.toNat < 256 := UInt8.toNat_lt _
    rw [hnm, Option.map_some] at hmem
    subst hmem
    simp -implicitDefEqProofs -dsimp only [go_sem, sgnV_some, sgnN_some]
    refine (w84 z4 rfl x.1.toNat x.1.toNat hx1 hx1 lim (d + 1) _ (hun2 ..)).wh ?_
    simp -implicitDefEqProofs -dsimp only [go_sem, hone, hmy, fin _ hone, encS_take _ hone, MemV_some, encR, cut_set _ _ _ _ hp, cut_und _ _ hu]
    exact ⟨rfl, hone⟩
 ·rw [hb1] at hmem
  simp only [if_true] at hmem
  have := pre_le hb1
  rw [List.length_drop] at this
  simp only [List.length_cons, List.length_nil] at this
  simp -implicitDefEqProofs -dsimp only [go_sem]
  rw [WF_h.symm]
  refine (w82 s n hs (by omega) p lim (d + 1) hp1 hlim _ (hun1 ..) (hob1 ..)).mono fun v s' hv => ?_
  rw [← hmem] at hv
  cases M with
  | none =>
   obtain ⟨q, m, rfl, rfl, hq⟩ := hv
   simp -implicitDefEqProofs -dsimp only [go_sem, hmy, hq, fin _ hq, encS_take _ hq, MemV_none, cut_set _ _ _ _ hp, cut_und _ _ hu]
   exact ⟨q, m, rfl, rfl, hq⟩
  | some x =>
   obtain ⟨rfl, rfl, hq⟩ := hv
   simp -implicitDefEqProofs -dsimp only [go_sem, hmy, hq, fin _ hq, encS_take _ hq, MemV_some, cut_set _ _ _ _ hp, cut_und _ _ hu]
theorem pre_two (b c x y : UInt8) (r : List UInt8) : preS (b :: c :: r) [x, y] = (b == x && c == y) := by
 rw [preS, Bool.eq_iff_iff]; simp
theorem pre_two1 (b x y : UInt8) : preS [b] [x, y] = false := by simp [preS]
theorem pre_one (b x : UInt8) (r : List UInt8) : preS (b :: r) [x] = (b == x) := by
 rw [preS, Bool.eq_iff_iff]; simp
theorem pre_nil (p : List UInt8) (h : p ≠ []) : preS [] p = false := by
 simp only [preS, List.take_nil, beq_eq_false_iff_ne]; exact fun e => h e.symm
theorem cut_at (s : List UInt8) (n i j : Nat) : (s.take (n + j)).drop (n + i) = ((s.drop n).take j).drop i := by
 rw [List.drop_take, List.drop_take, List.drop_drop]
 congr 1
 omega
theorem at_drop {s t : List UInt8} {n : Nat} (h : s.drop n = t) (i : Nat) : s[n + i]? = t[i]? := by rw [← h, List.getElem?_drop]
def sngV (o : Option (UInt8 × Nat)) (n : Nat) : MV := match o with
 | some x => .tup [.int .u8 x.1.toNat, .int .i64 (n + x.2 : Nat), .bool true]
 | none => .tup [.int .u8 0, .int .i64 0, .bool false]
theorem sngV_some (x : UInt8 × Nat) (n : Nat) : sngV (some x) n = .tup [.int .u8 x.1.toNat, .int .i64 (n + x.2 : Nat), .bool true] := rfl
theorem sngV_none (n : Nat) : sngV none n = .tup [.int .u8 0, .int .i64 0, .bool false] := rfl
theorem k92_10 : ((92 : UInt8) == 10) = false := rfl
theorem k92_91 : ((92 : UInt8) == 91) = false := rfl
theorem k92_92 : ((92 : UInt8) == 92) = true := rfl
theorem k91_10 : ((91 : UInt8) == 10) = false := rfl
theorem k91_91 : ((91 : UInt8) == 91) = true := rfl
theorem k91_92 : ((91 : UInt8) == 92) = false := rfl
theorem single_two (b c : UInt8) (r : List UInt8) : singleS (b :: c :: r) = if (b == 10) = true then none else if (b == 91 && c == 46) = true then namedS 46 (b :: c :: r) else if (b == 92 && c == 110) = true then some (10, 2) else some (b, 1) := by
 simp only [singleS, pre_two]
theorem single_one (b : UInt8) : singleS [b] = if (b == 10) = true then none else some (b, 1) := by
 simp only [singleS, pre_two1, Bool.false_eq_true, if_false]
theorem len3 {t : List UInt8} (h : 3 ≤ t.length) : ∃ a b c r, t = a :: b :: c :: r := by
 match t, h with
 | a :: b :: c :: r, _ => exact ⟨a, b, c, r, rfl⟩
 | [], h => simp at h
 | [_], h => simp at h
 | [_, _], h => simp at h
theorem w80 (s : List UInt8) (n : Nat) (hs : s.length ≤ 1000000) (hn : n ≤ s.length) (lim d : Nat) (σ : Sto) (hu : σ.Und d) : Ret lim d 164 [.str s, .int .i64 n] σ (sngV (singleS (s.drop n)) n) σ := by
 have hul : (s.drop n).length = s.length - n := List.length_drop
 have w1 := wr64 ((n : Int) + 1) (by omega) (by omega)
 have w2 := wr64 ((n : Int) + 2) (by omega) (by omega)
 have w3 := wr64 ((n : Int) + 3) (by omega) (by omega)
 have w5 := wr64 ((n : Int) + 5) (by omega) (by omega)
 have ws := wr64 ((s.length : Int) - n) (by omega) (by omega)
 have t1 : ((n : Int) + 1).toNat = n + 1 := by omega
 have t2 : ((n : Int) + 2).toNat = n + 2 := by omega
 have t3 : ((n : Int) + 3).toNat = n + 3 := by omega
 have t5 : ((n : Int) + 5).toNat = n + 5 := by omega
 have p1 : (0 : Int) ≤ (n : Int) + 1 := by omega
 have p2 : (0 : Int) ≤ (n : Int) + 2 := by omega
 have p3 : (0 : Int) ≤ (n : Int) + 3 := by omega
 have p5 : (0 : Int) ≤ (n : Int) + 5 := by omega
 generalize ht : s.drop n = t at hul
 have hat := fun i => at_drop ht i
 have hct := fun i j => cut_at s n i j
 rw [ht] at hct
 have g0 := hat 0
 have g1 := hat 1
 have g2 := hat 2
 have c35 := hct 3 5
 simp only [Nat.add_zero] at g0
 unfold Ret
 rw [WF_body (C := X) rfl func164 rfl (by kernel_rfl)]; simp only [results164]
 match t, hul, g0, g1, g2, c35 with
 | [], hul, g0, g1, g2, c35 =>
  simp only [List.length_nil] at hul
  have e1 : ((s.length : Int) ≤ (n : Int)) := by omega
  simp -implicitDefEqProofs -dsimp only [go_sem, e1, single_nil, sngV_none, cut_und _ _ hu]
 | [b], hul, g0, g1, g2, c35 =>
  simp only [List.length_cons, List.length_nil] at hul
  have e1 : ¬ ((s.length : Int) ≤ (n : Int)) := by omega
  have e2 : ¬ ((2 : Int) ≤ (s.length : Int) - n) := by omega
  rw [single_one]
  simp -implicitDefEqProofs -dsimp only [go_sem, e1, e2, g0, ws, w1]
  cases b == 10 <;> simp -implicitDefEqProofs -dsimp only [go_sem, sngV_none, sngV_some, cut_und _ _ hu, Int.natCast_add]
 | b :: c :: r, hul, g0, g1, g2, c35 =>
  simp only [List.length_cons] at hul
  have e1 : ¬ ((s.length : Int) ≤ (n : Int)) := by omega
  have e2 : ((2 : Int) ≤ (s.length : Int) - n) := by omega
  simp only [List.getElem?_cons_zero, List.getElem?_cons_succ] at g0 g1 g2
  rw [single_two]
  by_cases hb : b = 92
  ·subst hb
   simp -implicitDefEqProofs -dsimp only [go_sem, e1, e2, g0, g1, ws, w1, w2, t1, p1, k92_10, k92_91, k92_92]
   cases c == 110 <;> simp -implicitDefEqProofs -dsimp only [go_sem, sngV_some, cut_und _ _ hu, Int.natCast_add]
   rfl
  ·have hb' : (b == 92) = false := beq_eq_false_iff_ne.2 hb
   by_cases hb2 : b = 91
   ·subst hb2
    cases hc : c == 46
    ·simp -implicitDefEqProofs -dsimp only [go_sem, e1, e2, g0, g1, ws, w1, t1, p1, k91_10, k91_91, k91_92, hc]
     simp -implicitDefEqProofs -dsimp only [go_sem, sngV_some, cut_und _ _ hu, Int.natCast_add]
    ·by_cases h5 : (91 :: c :: r).length < 5
     ·rw [named_short 46 h5]
      have e5 : ((s.length : Int) - n < 5) := by simp at h5; omega
      simp -implicitDefEqProofs -dsimp only [go_sem, e1, e2, e5, g0, g1, ws, w1, t1, p1, k91_10, k91_91, k91_92, hc, sngV_none, cut_und _ _ hu]
     ·have h5' : 3 ≤ r.length := by simp at h5; omega
      obtain ⟨c', x, y, r', rfl⟩ := len3 h5'
      simp only [List.getElem?_cons_zero, List.take_succ_cons, List.take_zero, List.drop_succ_cons, List.drop_zero] at g2 c35
      simp only [List.length_cons] at hul
      rw [named_at]
      have e5 : ¬ ((s.length : Int) - n < 5) := by omega
      have e6 : (n : Int) + 5 ≤ (s.length : Int) := by omega
      have e7 : (n : Int) + 3 ≤ ((n + 5 : Nat) : Int) := by omega
      have e8 : (n : Int) + 3 ≤ (n : Int) + 5 := by omega
      simp -implicitDefEqProofs -dsimp only [go_sem, e1, e2, e5, g0, g1, g2, ws, w1, w2, w3, w5, t1, t2, p1, p2, k91_10, k91_91, k91_92, hc]
      cases h10 : c' == 10 <;> cases hx : x == 46 <;> cases hy : y == 93 <;> simp -implicitDefEqProofs -dsimp only [go_sem, e6, e8, t3, t5, p3, p5, c35, two_beq, hx, hy, sngV_none, sngV_some, cut_und _ _ hu, Int.natCast_add]
   ·have hb2' : (b == 91) = false := beq_eq_false_iff_ne.2 hb2
    cases h10 : b == 10 <;> simp -implicitDefEqProofs -dsimp only [go_sem, e1, e2, g0, ws, w1, hb', hb2', h10, sngV_none, sngV_some, cut_und _ _ hu, Int.natCast_add]
theorem idx_short (u : List UInt8) (h : u.length < 2) : idxS u [58, 93] = -1 := by
 match u, h with
 | [], _ => rfl
 | [b], _ =>
  have : ¬ ([58, 93] : List UInt8) <+: [b] := fun q => by have := q.length_le; simp at this
  simp [idxS, this]
 | _ :: _ :: _, h => simp only [List.length_cons] at h; omega
theorem idx_hit (u : List UInt8) (h : u.take 2 = [58, 93]) : idxS u [58, 93] = 0 := by
 match u, h with
 | b :: u, h =>
  have : ([58, 93] : List UInt8) <+: (b :: u) := List.prefix_iff_eq_take.2 h.symm
  simp [idxS, this]
theorem idx_miss (b : UInt8) (u : List UInt8) (h : ¬ (b :: u).take 2 = [58, 93]) : idxS (b :: u) [58, 93] = if idxS u [58, 93] < 0 then -1 else idxS u [58, 93] + 1 := by
 have : ¬ ([58, 93] : List UInt8) <+: (b :: u) := fun q => h (List.prefix_iff_eq_take.1 q).symm
 simp [idxS, this]
theorem idxS_ge : ∀ (s t : List UInt8), -1 ≤ idxS s t
 | [], t => by simp only [idxS]; split <;> omega
 | b :: s, t => by
  have := idxS_ge s t
  simp only [idxS]
  split
  ·omega
  ·split <;> omega
def MemR (n : Nat) (o : Option (List Int × Nat)) (v : MV) : Prop := match o with
 | some x => v = .tup [.agg (encS x.1), .int .i64 (n + x.2 : Nat), .bool true]
 | none => ∃ q k, v = .tup [.agg (encS q), .int .i64 k, .bool false] ∧ q.length = 4
theorem MemR_some {n : Nat} {x : List Int × Nat} {v : MV} : MemR n (some x) v ↔ v = .tup [.agg (encS x.1), .int .i64 (n + x.2 : Nat), .bool true] := Iff.rfl
theorem MemR_none {n : Nat} {v : MV} : MemR n none v ↔ ∃ q k, v = .tup [.agg (encS q), .int .i64 k, .bool false] ∧ q.length = 4 := Iff.rfl
end Go.Proofs.Tryz.E
