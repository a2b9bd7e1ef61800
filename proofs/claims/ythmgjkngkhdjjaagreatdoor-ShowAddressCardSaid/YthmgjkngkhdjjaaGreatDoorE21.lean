/- Walks: what the functions compute. -/
import Derived.Test.YthmgjkngkhdjjaaGreatDoorE20
set_option linter.unusedVariables false
set_option linter.unusedSimpArgs false
/- A bracket, of the other side. -/
namespace Go.Proofs.Tryz.E
open Go.Mv
set_option maxHeartbeats 4000000
set_option maxRecDepth 20000
structure P59 (s : List UInt8) (d c0 : Nat) (σ : Sto) (nt first : Bool) (n : Nat) (acc : List Int) (a : Nat → MV) (s' : Sto) : Prop where
 a0 : a 0 = .str s
 a1 : a 1 = .int .i64 n
 a4 : a 4 = .ptr ⟨d, 4, c0⟩ 0
 a7 : a 7 = .bool nt
 a8 : a 8 = .ptr ⟨d, 8, c0 + 1⟩ 0
 a9 : a 9 = .bool first
 o4 : s'.ob ⟨d, 4, c0⟩ = some (encS z4)
 o8 : s'.ob ⟨d, 8, c0 + 1⟩ = some (encS acc)
 cut : s'.cut d = σ
 und : s'.Und (d + 1)
 ct : c0 + 1 + 1 ≤ s'.ct d
 al : acc.length = 4
theorem w59 (s : List UInt8) (n : Nat) (hs : s.length ≤ 1000000) (h91 : s[n]? = some 91) (lim d : Nat) (hlim : lim ≤ d) (σ : Sto) (hu : σ.Und d) : Ret lim d 134 [.str s, .int .i64 n] σ (brkV n (bracketS (s.drop (n + 1)))) σ := by
 have hun := und_succ hu
 have hn : n < s.length := by
  rcases Nat.lt_or_ge n s.length with h | h
  ·exact h
  ·rw [List.getElem?_eq_none h] at h91; cases h91
 have e1 : ¬ ((n : Int) < 0) := by omega
 have e2 : ¬ ((s.length : Int) ≤ (n : Int)) := by omega
 have w1 := wr64 ((n : Int) + 1) (by omega) (by omega)
 have w2 := wr64 ((n : Int) + 1 + 1) (by omega) (by omega)
 have t1 : ((n : Int) + 1).toNat = n + 1 := by omega
 have p1 : (0 : Int) ≤ (n : Int) + 1 := by omega
 have k91 : (((91 : UInt8).toNat : Int) != 91) = false := rfl
 have z4l : z4.length = 4 := rfl
 have hdl : (s.drop (n + 1)).length = s.length - (n + 1) := List.length_drop
 have hdl2 : (s.drop (n + 1 + 1)).length = s.length - (n + 1 + 1) := List.length_drop
 have hd1 : (s.drop (n + 1)).drop 1 = s.drop (n + 1 + 1) := by rw [List.drop_drop]
 have hnot : ∀ b : Bool, preS (s.drop (n + 1)) [94] = b → (decide ((n : Int) + 1 < (s.length : Int)) = true ∧ ∃ c, s[n + 1]? = some c ∧ (c == 94) = b) ∨ (b = false ∧ ¬ ((n : Int) + 1 < (s.length : Int))) := fun b hb => by
  by_cases h : n + 1 < s.length
  ·left
   refine ⟨decide_eq_true (by omega), s[n + 1], List.getElem?_eq_getElem h, ?_⟩
   rw [List.drop_eq_getElem_cons h, pre_one] at hb
   exact hb
  ·right
   rw [List.drop_eq_nil_of_le (by omega), pre_nil _ (by simp)] at hb
   exact ⟨hb.symm, by omega⟩
 unfold Ret
 rw [WF_body (C := X) rfl func134 rfl (by kernel_rfl)]; simp only [results134]
 unfold bracketS
 cases hnt : preS (s.drop (n + 1)) [94]
 ·rcases hnot _ hnt with ⟨f1, c, gc, hc⟩ | ⟨_, f1⟩
  ·have f1 := of_decide_eq_true f1
   simp only [Bool.false_eq_true, if_false, hd1]
   generalize hT : (membersS ((s.drop (n + 1)).length + 1) true z4 (s.drop (n + 1))) = T
   simp -implicitDefEqProofs -dsimp only [go_sem, e1, e2, h91, k91, w1, t1, p1, f1, gc, hc]
   refine loop_h (I := fun f a s' => ∃ (m : Nat) (first : Bool) (acc : List Int), P59 s d (σ.ct d) σ false first m acc a s' ∧ m ≤ s.length ∧ (n + 1) ≤ m ∧ (s.drop m).length + 1 ≤ f ∧ Rest T (m - (n + 1)) (membersS f first acc (s.drop m))) ?_ ((s.drop (n + 1)).length + 1) _ _ ?_
   ·rintro f a s' ⟨m, first, acc, p, hm, hm0, hf, hr⟩
    have hct := p.ct
    rw [List.length_drop] at hf
    obtain ⟨f, rfl⟩ : ∃ g, f = g + 1 := ⟨f - 1, by omega⟩
    have wm := wr64 ((m : Int) + 1) (by omega) (by omega)
    by_cases hlt : m < s.length
    ·have f1 : ¬ ((s.length : Int) ≤ (m : Int)) := by omega
     have gm := List.getElem?_eq_getElem hlt
     have hmem := w69 s m hs hlt lim (d + 1) s' p.und
     have hdm := List.drop_eq_getElem_cons hlt
     cases hend : s[m] == 93
     ·have hff : (!first && preS (s.drop m) [93]) = false := by rw [hdm, pre_one, hend, Bool.and_false]
      simp -implicitDefEqProofs -dsimp only [go_sem, p.a0, p.a1, f1, gm, hend]
      rw [WF_h.symm]
      refine hmem.mono fun v s2 hv => ?_
      obtain ⟨hv, rfl⟩ := hv
      cases hM : memberS (s.drop m) with
      | none =>
       rw [hM, MemR_none] at hv
       obtain ⟨q, kk, rfl, hq⟩ := hv
       have hTn := rest_none hr hff hM
       simp -implicitDefEqProofs -dsimp only [go_sem, p.a4, p.o4, hq, fin4 q hq, encS_len, z4l, p.cut, hTn]
       rw [z4e, fin5 _ _ z4l z4l, encS_take z4 z4l, encS_frz, encS_len]
       exact ⟨Nat.le_refl 4, _, rfl, rfl⟩
      | some x =>
       rw [hM, MemR_some] at hv
       subst hv
       have hml := member_le _ _ hM
       rw [List.length_drop] at hml
       have hq := hml.2.2
       have hr2 := rest_step hr hff hM
       rw [List.drop_drop] at hr2
       have hol : (orS acc x.1).length = 4 := orS4 p.al hq
       simp -implicitDefEqProofs -dsimp only [go_sem, p.a8, p.o8, hq, fin4 _ hq, encS_len, encS_take _ p.al, encS_take _ hq, p.al]
       refine (w70 acc x.1 p.al hq lim (d + 1) _ ?_).wh ?_
       ·simp only [go_sem, u_tick, u_mine]; exact p.und
       simp -implicitDefEqProofs -dsimp only [go_sem, p.a8, p.o8, hol, p.al, encS_len, fin5 _ _ p.al hol]
       refine ⟨f, Nat.lt_succ_self f, m + x.2, false, orS acc x.1, ⟨p.a0, rfl, p.a4, p.a7, p.a8, rfl, ?_, ?_, ?_, ?_, ?_, hol⟩, by omega, by omega, by rw [List.length_drop]; omega, ?_⟩
       ·simp only [go_sem, Nat.reduceEqDiff, and_false, false_and, if_false, p.o4]
       ·simp only [go_sem, Nat.reduceEqDiff, and_false, false_and, if_false, if_true]
       ·simp only [go_sem, p.cut]
       ·simp only [go_sem, u_tick, u_mine]; exact p.und
       ·simp only [go_sem]; omega
       ·rw [show m + x.2 - (n + 1) = m - (n + 1) + x.2 by omega]; exact hr2
     ·cases first
      ·have hpe : preS (s.drop m) [93] = true := by rw [hdm, pre_one, hend]
       have hT2 := rest_end hr hpe
       have hnl : (notS acc).length = 4 := by rw [notS_len]; exact p.al
       simp -implicitDefEqProofs -dsimp only [go_sem, p.a0, p.a1, p.a9, f1, gm, hend, p.a4, p.a7, p.a8, p.o8, p.o4, p.al, encS_len, encS_take acc p.al, wm]
       rw [fin5 _ _ z4l p.al, encS_take _ p.al, encS_frz, hT2, encS_len, p.al]
       refine ⟨Nat.le_refl 4, Nat.le_refl 4, _, rfl, ?_, p.cut⟩
       rw [Option.map_some, brkV_some]
       simp only
       rw [show ((n + (m - (n + 1) + 2) : Nat) : Int) = (m : Int) + 1 by omega]
      ·have hff : (!true && preS (s.drop m) [93]) = false := rfl
       simp -implicitDefEqProofs -dsimp only [go_sem, p.a0, p.a1, p.a9, f1, gm, hend]
       rw [WF_h.symm]
       refine hmem.mono fun v s2 hv => ?_
       obtain ⟨hv, rfl⟩ := hv
       cases hM : memberS (s.drop m) with
       | none =>
        rw [hM, MemR_none] at hv
        obtain ⟨q, kk, rfl, hq⟩ := hv
        have hTn := rest_none hr hff hM
        simp -implicitDefEqProofs -dsimp only [go_sem, p.a4, p.o4, hq, fin4 q hq, encS_len, z4l, p.cut, hTn]
        rw [z4e, fin5 _ _ z4l z4l, encS_take z4 z4l, encS_frz, encS_len]
        exact ⟨Nat.le_refl 4, _, rfl, rfl⟩
       | some x =>
        rw [hM, MemR_some] at hv
        subst hv
        have hml := member_le _ _ hM
        rw [List.length_drop] at hml
        have hq := hml.2.2
        have hr2 := rest_step hr hff hM
        rw [List.drop_drop] at hr2
        have hol : (orS acc x.1).length = 4 := orS4 p.al hq
        simp -implicitDefEqProofs -dsimp only [go_sem, p.a8, p.o8, hq, fin4 _ hq, encS_len, encS_take _ p.al, encS_take _ hq, p.al]
        refine (w70 acc x.1 p.al hq lim (d + 1) _ ?_).wh ?_
        ·simp only [go_sem, u_tick, u_mine]; exact p.und
        simp -implicitDefEqProofs -dsimp only [go_sem, p.a8, p.o8, hol, p.al, encS_len, fin5 _ _ p.al hol]
        refine ⟨f, Nat.lt_succ_self f, m + x.2, false, orS acc x.1, ⟨p.a0, rfl, p.a4, p.a7, p.a8, rfl, ?_, ?_, ?_, ?_, ?_, hol⟩, by omega, by omega, by rw [List.length_drop]; omega, ?_⟩
        ·simp only [go_sem, Nat.reduceEqDiff, and_false, false_and, if_false, p.o4]
        ·simp only [go_sem, Nat.reduceEqDiff, and_false, false_and, if_false, if_true]
        ·simp only [go_sem, p.cut]
        ·simp only [go_sem, u_tick, u_mine]; exact p.und
        ·simp only [go_sem]; omega
        ·rw [show m + x.2 - (n + 1) = m - (n + 1) + x.2 by omega]; exact hr2
    ·have f1 : ((s.length : Int) ≤ (m : Int)) := by omega
     have hnil : s.drop m = [] := List.drop_eq_nil_of_le (by omega)
     have hff : (!first && preS (s.drop m) [93]) = false := by rw [hnil, pre_nil _ (by simp), Bool.and_false]
     have hTn := rest_none hr hff (by rw [hnil]; rfl)
     simp -implicitDefEqProofs -dsimp only [go_sem, p.a0, p.a1, f1, p.a4, p.o4, encS_len, p.cut, hTn]
     rw [z4e, fin5 _ _ z4l z4l, encS_take z4 z4l, encS_frz, encS_len]
     exact ⟨Nat.le_refl 4, Nat.le_refl 4, _, rfl, rfl⟩
   ·refine ⟨(n + 1), true, z4, ⟨rfl, rfl, rfl, rfl, rfl, rfl, ?_, ?_, ?_, ?_, ?_, rfl⟩, by omega, Nat.le_refl _, by omega, ?_⟩
    ·simp only [go_sem, Nat.reduceEqDiff, and_false, false_and, if_false, if_true, z4e]
    ·simp only [go_sem, if_true, z4e]
    ·simp only [go_sem, cut_und _ _ hu]
    ·simp only [go_sem, u_tick, u_mine]; exact hun
    ·simp only [go_sem]; first | done | omega
    ·rw [Nat.sub_self]
     unfold Rest
     rw [hT]
     cases T <;> simp
  ·skip
   simp only [Bool.false_eq_true, if_false, hd1]
   generalize hT : (membersS ((s.drop (n + 1)).length + 1) true z4 (s.drop (n + 1))) = T
   simp -implicitDefEqProofs -dsimp only [go_sem, e1, e2, h91, k91, w1, f1]
   refine loop_h (I := fun f a s' => ∃ (m : Nat) (first : Bool) (acc : List Int), P59 s d (σ.ct d) σ false first m acc a s' ∧ m ≤ s.length ∧ (n + 1) ≤ m ∧ (s.drop m).length + 1 ≤ f ∧ Rest T (m - (n + 1)) (membersS f first acc (s.drop m))) ?_ ((s.drop (n + 1)).length + 1) _ _ ?_
   ·rintro f a s' ⟨m, first, acc, p, hm, hm0, hf, hr⟩
    have hct := p.ct
    rw [List.length_drop] at hf
    obtain ⟨f, rfl⟩ : ∃ g, f = g + 1 := ⟨f - 1, by omega⟩
    have wm := wr64 ((m : Int) + 1) (by omega) (by omega)
    by_cases hlt : m < s.length
    ·have f1 : ¬ ((s.length : Int) ≤ (m : Int)) := by omega
     have gm := List.getElem?_eq_getElem hlt
     have hmem := w69 s m hs hlt lim (d + 1) s' p.und
     have hdm := List.drop_eq_getElem_cons hlt
     cases hend : s[m] == 93
     ·have hff : (!first && preS (s.drop m) [93]) = false := by rw [hdm, pre_one, hend, Bool.and_false]
      simp -implicitDefEqProofs -dsimp only [go_sem, p.a0, p.a1, f1, gm, hend]
      rw [WF_h.symm]
      refine hmem.mono fun v s2 hv => ?_
      obtain ⟨hv, rfl⟩ := hv
      cases hM : memberS (s.drop m) with
      | none =>
       rw [hM, MemR_none] at hv
       obtain ⟨q, kk, rfl, hq⟩ := hv
       have hTn := rest_none hr hff hM
       simp -implicitDefEqProofs -dsimp only [go_sem, p.a4, p.o4, hq, fin4 q hq, encS_len, z4l, p.cut, hTn]
       rw [z4e, fin5 _ _ z4l z4l, encS_take z4 z4l, encS_frz, encS_len]
       exact ⟨Nat.le_refl 4, _, rfl, rfl⟩
      | some x =>
       rw [hM, MemR_some] at hv
       subst hv
       have hml := member_le _ _ hM
       rw [List.length_drop] at hml
       have hq := hml.2.2
       have hr2 := rest_step hr hff hM
       rw [List.drop_drop] at hr2
       have hol : (orS acc x.1).length = 4 := orS4 p.al hq
       simp -implicitDefEqProofs -dsimp only [go_sem, p.a8, p.o8, hq, fin4 _ hq, encS_len, encS_take _ p.al, encS_take _ hq, p.al]
       refine (w70 acc x.1 p.al hq lim (d + 1) _ ?_).wh ?_
       ·simp only [go_sem, u_tick, u_mine]; exact p.und
       simp -implicitDefEqProofs -dsimp only [go_sem, p.a8, p.o8, hol, p.al, encS_len, fin5 _ _ p.al hol]
       refine ⟨f, Nat.lt_succ_self f, m + x.2, false, orS acc x.1, ⟨p.a0, rfl, p.a4, p.a7, p.a8, rfl, ?_, ?_, ?_, ?_, ?_, hol⟩, by omega, by omega, by rw [List.length_drop]; omega, ?_⟩
       ·simp only [go_sem, Nat.reduceEqDiff, and_false, false_and, if_false, p.o4]
       ·simp only [go_sem, Nat.reduceEqDiff, and_false, false_and, if_false, if_true]
       ·simp only [go_sem, p.cut]
       ·simp only [go_sem, u_tick, u_mine]; exact p.und
       ·simp only [go_sem]; omega
       ·rw [show m + x.2 - (n + 1) = m - (n + 1) + x.2 by omega]; exact hr2
     ·cases first
      ·have hpe : preS (s.drop m) [93] = true := by rw [hdm, pre_one, hend]
       have hT2 := rest_end hr hpe
       have hnl : (notS acc).length = 4 := by rw [notS_len]; exact p.al
       simp -implicitDefEqProofs -dsimp only [go_sem, p.a0, p.a1, p.a9, f1, gm, hend, p.a4, p.a7, p.a8, p.o8, p.o4, p.al, encS_len, encS_take acc p.al, wm]
       rw [fin5 _ _ z4l p.al, encS_take _ p.al, encS_frz, hT2, encS_len, p.al]
       refine ⟨Nat.le_refl 4, Nat.le_refl 4, _, rfl, ?_, p.cut⟩
       rw [Option.map_some, brkV_some]
       simp only
       rw [show ((n + (m - (n + 1) + 2) : Nat) : Int) = (m : Int) + 1 by omega]
      ·have hff : (!true && preS (s.drop m) [93]) = false := rfl
       simp -implicitDefEqProofs -dsimp only [go_sem, p.a0, p.a1, p.a9, f1, gm, hend]
       rw [WF_h.symm]
       refine hmem.mono fun v s2 hv => ?_
       obtain ⟨hv, rfl⟩ := hv
       cases hM : memberS (s.drop m) with
       | none =>
        rw [hM, MemR_none] at hv
        obtain ⟨q, kk, rfl, hq⟩ := hv
        have hTn := rest_none hr hff hM
        simp -implicitDefEqProofs -dsimp only [go_sem, p.a4, p.o4, hq, fin4 q hq, encS_len, z4l, p.cut, hTn]
        rw [z4e, fin5 _ _ z4l z4l, encS_take z4 z4l, encS_frz, encS_len]
        exact ⟨Nat.le_refl 4, _, rfl, rfl⟩
       | some x =>
        rw [hM, MemR_some] at hv
        subst hv
        have hml := member_le _ _ hM
        rw [List.length_drop] at hml
        have hq := hml.2.2
        have hr2 := rest_step hr hff hM
        rw [List.drop_drop] at hr2
        have hol : (orS acc x.1).length = 4 := orS4 p.al hq
        simp -implicitDefEqProofs -dsimp only [go_sem, p.a8, p.o8, hq, fin4 _ hq, encS_len, encS_take _ p.al, encS_take _ hq, p.al]
        refine (w70 acc x.1 p.al hq lim (d + 1) _ ?_).wh ?_
        ·simp only [go_sem, u_tick, u_mine]; exact p.und
        simp -implicitDefEqProofs -dsimp only [go_sem, p.a8, p.o8, hol, p.al, encS_len, fin5 _ _ p.al hol]
        refine ⟨f, Nat.lt_succ_self f, m + x.2, false, orS acc x.1, ⟨p.a0, rfl, p.a4, p.a7, p.a8, rfl, ?_, ?_, ?_, ?_, ?_, hol⟩, by omega, by omega, by rw [List.length_drop]; omega, ?_⟩
        ·simp only [go_sem, Nat.reduceEqDiff, and_false, false_and, if_false, p.o4]
        ·simp only [go_sem, Nat.reduceEqDiff, and_false, false_and, if_false, if_true]
        ·simp only [go_sem, p.cut]
        ·simp only [go_sem, u_tick, u_mine]; exact p.und
        ·simp only [go_sem]; omega
        ·rw [show m + x.2 - (n + 1) = m - (n + 1) + x.2 by omega]; exact hr2
    ·have f1 : ((s.length : Int) ≤ (m : Int)) := by omega
     have hnil : s.drop m = [] := List.drop_eq_nil_of_le (by omega)
     have hff : (!first && preS (s.drop m) [93]) = false := by rw [hnil, pre_nil _ (by simp), Bool.and_false]
     have hTn := rest_none hr hff (by rw [hnil]; rfl)
     simp -implicitDefEqProofs -dsimp only [go_sem, p.a0, p.a1, f1, p.a4, p.o4, encS_len, p.cut, hTn]
     rw [z4e, fin5 _ _ z4l z4l, encS_take z4 z4l, encS_frz, encS_len]
     exact ⟨Nat.le_refl 4, Nat.le_refl 4, _, rfl, rfl⟩
   ·refine ⟨(n + 1), true, z4, ⟨rfl, rfl, rfl, rfl, rfl, rfl, ?_, ?_, ?_, ?_, ?_, rfl⟩, by omega, Nat.le_refl _, by omega, ?_⟩
    ·simp only [go_sem, Nat.reduceEqDiff, and_false, false_and, if_false, if_true, z4e]
    ·simp only [go_sem, if_true, z4e]
    ·simp only [go_sem, cut_und _ _ hu]
    ·simp only [go_sem, u_tick, u_mine]; exact hun
    ·simp only [go_sem]; first | done | omega
    ·rw [Nat.sub_self]
     unfold Rest
     rw [hT]
     cases T <;> simp
 ·rcases hnot _ hnt with ⟨f1, c, gc, hc⟩ | ⟨hf, _⟩
  ·have f1 := of_decide_eq_true f1
   simp only [if_true, hd1]
   generalize hT : (membersS ((s.drop (n + 1)).length + 1) true z4 (s.drop (n + 1 + 1))) = T
   simp -implicitDefEqProofs -dsimp only [go_sem, e1, e2, h91, k91, w1, t1, p1, f1, gc, hc, w2]
   refine loop_h (I := fun f a s' => ∃ (m : Nat) (first : Bool) (acc : List Int), P59 s d (σ.ct d) σ true first m acc a s' ∧ m ≤ s.length ∧ (n + 1 + 1) ≤ m ∧ (s.drop m).length + 1 ≤ f ∧ Rest T (m - (n + 1 + 1)) (membersS f first acc (s.drop m))) ?_ ((s.drop (n + 1)).length + 1) _ _ ?_
   ·rintro f a s' ⟨m, first, acc, p, hm, hm0, hf, hr⟩
    have hct := p.ct
    rw [List.length_drop] at hf
    obtain ⟨f, rfl⟩ : ∃ g, f = g + 1 := ⟨f - 1, by omega⟩
    have wm := wr64 ((m : Int) + 1) (by omega) (by omega)
    by_cases hlt : m < s.length
    ·have f1 : ¬ ((s.length : Int) ≤ (m : Int)) := by omega
     have gm := List.getElem?_eq_getElem hlt
     have hmem := w69 s m hs hlt lim (d + 1) s' p.und
     have hdm := List.drop_eq_getElem_cons hlt
     cases hend : s[m] == 93
     ·have hff : (!first && preS (s.drop m) [93]) = false := by rw [hdm, pre_one, hend, Bool.and_false]
      simp -implicitDefEqProofs -dsimp only [go_sem, p.a0, p.a1, f1, gm, hend]
      rw [WF_h.symm]
      refine hmem.mono fun v s2 hv => ?_
      obtain ⟨hv, rfl⟩ := hv
      cases hM : memberS (s.drop m) with
      | none =>
       rw [hM, MemR_none] at hv
       obtain ⟨q, kk, rfl, hq⟩ := hv
       have hTn := rest_none hr hff hM
       simp -implicitDefEqProofs -dsimp only [go_sem, p.a4, p.o4, hq, fin4 q hq, encS_len, z4l, p.cut, hTn]
       rw [z4e, fin5 _ _ z4l z4l, encS_take z4 z4l, encS_frz, encS_len]
       exact ⟨Nat.le_refl 4, _, rfl, rfl⟩
      | some x =>
       rw [hM, MemR_some] at hv
       subst hv
       have hml := member_le _ _ hM
       rw [List.length_drop] at hml
       have hq := hml.2.2
       have hr2 := rest_step hr hff hM
       rw [List.drop_drop] at hr2
       have hol : (orS acc x.1).length = 4 := orS4 p.al hq
       simp -implicitDefEqProofs -dsimp only [go_sem, p.a8, p.o8, hq, fin4 _ hq, encS_len, encS_take _ p.al, encS_take _ hq, p.al]
       refine (w70 acc x.1 p.al hq lim (d + 1) _ ?_).wh ?_
       ·simp only [go_sem, u_tick, u_mine]; exact p.und
       simp -implicitDefEqProofs -dsimp only [go_sem, p.a8, p.o8, hol, p.al, encS_len, fin5 _ _ p.al hol]
       refine ⟨f, Nat.lt_succ_self f, m + x.2, false, orS acc x.1, ⟨p.a0, rfl, p.a4, p.a7, p.a8, rfl, ?_, ?_, ?_, ?_, ?_, hol⟩, by omega, by omega, by rw [List.length_drop]; omega, ?_⟩
       ·simp only [go_sem, Nat.reduceEqDiff, and_false, false_and, if_false, p.o4]
       ·simp only [go_sem, Nat.reduceEqDiff, and_false, false_and, if_false, if_true]
       ·simp only [go_sem, p.cut]
       ·simp only [go_sem, u_tick, u_mine]; exact p.und
       ·simp only [go_sem]; omega
       ·rw [show m + x.2 - (n + 1 + 1) = m - (n + 1 + 1) + x.2 by omega]; exact hr2
     ·cases first
      ·have hpe : preS (s.drop m) [93] = true := by rw [hdm, pre_one, hend]
       have hT2 := rest_end hr hpe
       have hnl : (notS acc).length = 4 := by rw [notS_len]; exact p.al
       simp -implicitDefEqProofs -dsimp only [go_sem, p.a0, p.a1, p.a9, f1, gm, hend, p.a7, p.a8, p.o8, p.al, encS_len, encS_take acc p.al]
       refine (w71 acc p.al lim (d + 1) _ p.und).wh ?_
       simp -implicitDefEqProofs -dsimp only [go_sem, p.a1, p.a4, p.a8, p.o8, p.o4, p.al, encS_len, fin5 _ _ p.al hnl, encS_take _ hnl, hnl, wm]
       rw [fin5 _ _ z4l hnl, encS_take _ hnl, encS_frz, hT2, encS_len, hnl]
       refine ⟨Nat.le_refl 4, Nat.le_refl 4, _, rfl, ?_, p.cut⟩
       rw [Option.map_some, brkV_some]
       simp only
       rw [show ((n + (m - (n + 1 + 1) + 3) : Nat) : Int) = (m : Int) + 1 by omega]
      ·have hff : (!true && preS (s.drop m) [93]) = false := rfl
       simp -implicitDefEqProofs -dsimp only [go_sem, p.a0, p.a1, p.a9, f1, gm, hend]
       rw [WF_h.symm]
       refine hmem.mono fun v s2 hv => ?_
       obtain ⟨hv, rfl⟩ := hv
       cases hM : memberS (s.drop m) with
       | none =>
        rw [hM, MemR_none] at hv
        obtain ⟨q, kk, rfl, hq⟩ := hv
        have hTn := rest_none hr hff hM
        simp -implicitDefEqProofs -dsimp only [go_sem, p.a4, p.o4, hq, fin4 q hq, encS_len, z4l, p.cut, hTn]
        rw [z4e, fin5 _ _ z4l z4l, encS_take z4 z4l, encS_frz, encS_len]
        exact ⟨Nat.le_refl 4, _, rfl, rfl⟩
       | some x =>
        rw [hM, MemR_some] at hv
        subst hv
        have hml := member_le _ _ hM
        rw [List.length_drop] at hml
        have hq := hml.2.2
        have hr2 := rest_step hr hff hM
        rw [List.drop_drop] at hr2
        have hol : (orS acc x.1).length = 4 := orS4 p.al hq
        simp -implicitDefEqProofs -dsimp only [go_sem, p.a8, p.o8, hq, fin4 _ hq, encS_len, encS_take _ p.al, encS_take _ hq, p.al]
        refine (w70 acc x.1 p.al hq lim (d + 1) _ ?_).wh ?_
        ·simp only [go_sem, u_tick, u_mine]; exact p.und
        simp -implicitDefEqProofs -dsimp only [go_sem, p.a8, p.o8, hol, p.al, encS_len, fin5 _ _ p.al hol]
        refine ⟨f, Nat.lt_succ_self f, m + x.2, false, orS acc x.1, ⟨p.a0, rfl, p.a4, p.a7, p.a8, rfl, ?_, ?_, ?_, ?_, ?_, hol⟩, by omega, by omega, by rw [List.length_drop]; omega, ?_⟩
        ·simp only [go_sem, Nat.reduceEqDiff, and_false, false_and, if_false, p.o4]
        ·simp only [go_sem, Nat.reduceEqDiff, and_false, false_and, if_false, if_true]
        ·simp only [go_sem, p.cut]
        ·simp only [go_sem, u_tick, u_mine]; exact p.und
        ·simp only [go_sem]; omega
        ·rw [show m + x.2 - (n + 1 + 1) = m - (n + 1 + 1) + x.2 by omega]; exact hr2
    ·have f1 : ((s.length : Int) ≤ (m : Int)) := by omega
     have hnil : s.drop m = [] := List.drop_eq_nil_of_le (by omega)
     have hff : (!first && preS (s.drop m) [93]) = false := by rw [hnil, pre_nil _ (by simp), Bool.and_false]
     have hTn := rest_none hr hff (by rw [hnil]; rfl)
     simp -implicitDefEqProofs -dsimp only [go_sem, p.a0, p.a1, f1, p.a4, p.o4, encS_len, p.cut, hTn]
     rw [z4e, fin5 _ _ z4l z4l, encS_take z4 z4l, encS_frz, encS_len]
     exact ⟨Nat.le_refl 4, Nat.le_refl 4, _, rfl, rfl⟩
   ·refine ⟨(n + 1 + 1), true, z4, ⟨rfl, rfl, rfl, rfl, rfl, rfl, ?_, ?_, ?_, ?_, ?_, rfl⟩, by omega, Nat.le_refl _, by omega, ?_⟩
    ·simp only [go_sem, Nat.reduceEqDiff, and_false, false_and, if_false, if_true, z4e]
    ·simp only [go_sem, if_true, z4e]
    ·simp only [go_sem, cut_und _ _ hu]
    ·simp only [go_sem, u_tick, u_mine]; exact hun
    ·simp only [go_sem]; first | done | omega
    ·rw [Nat.sub_self]
     unfold Rest
     rw [hT]
     cases T <;> simp
  ·cases hf
end Go.Proofs.Tryz.E
