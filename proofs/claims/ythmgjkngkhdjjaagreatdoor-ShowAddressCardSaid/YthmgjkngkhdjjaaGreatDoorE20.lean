/- Walks: what the functions compute. -/
import Derived.Test.YthmgjkngkhdjjaaGreatDoorE19
set_option linter.unusedVariables false
set_option linter.unusedSimpArgs false
/- A bracket, of both sides. -/
namespace Go.Proofs.Tryz.E
open Go.Mv
set_option maxHeartbeats 4000000
set_option maxRecDepth 20000
def brkV (n : Nat) (o : Option (List Int × Nat)) : MV := match o with
 | some x => .tup [.agg (encS x.1), .int .i64 (n + x.2 : Nat), .int .i64 0]
 | none => .tup [.agg (encS z4), .int .i64 0, .int .i64 10]
theorem brkV_some (n : Nat) (x : List Int × Nat) : brkV n (some x) = .tup [.agg (encS x.1), .int .i64 (n + x.2 : Nat), .int .i64 0] := rfl
theorem brkV_none (n : Nat) : brkV n none = .tup [.agg (encS z4), .int .i64 0, .int .i64 10] := rfl
theorem fin4 (q : List Int) (hq : q.length = 4) : putC [.int .u64 0, .int .u64 0, .int .u64 0, .int .u64 0] (encS q) 0 = encS q := encS_put _ _ (by rw [hq]; rfl)
theorem fin5 (r q : List Int) (hr : r.length = 4) (hq : q.length = 4) : putC (encS r) (encS q) 0 = encS q := encS_put _ _ (by rw [encS_len, hq, hr])
theorem z4e : [MV.int .u64 0, .int .u64 0, .int .u64 0, .int .u64 0] = encS z4 := rfl
def Rest (T : Option (List Int × Nat)) (k : Nat) (R : Option (List Int × Nat)) : Prop := T = R.map fun y => (y.1, k + y.2)
theorem rest_step {T : Option (List Int × Nat)} {k f : Nat} {first : Bool} {acc : List Int} {t : List UInt8} {x : List Int × Nat} (h : Rest T k (membersS (f + 1) first acc t)) (hf : (!first && preS t [93]) = false) (hx : memberS t = some x) : Rest T (k + x.2) (membersS f false (orS acc x.1) (t.drop x.2)) := by
 unfold Rest at h ⊢
 rw [h, membersS, hf, hx]
 simp only [Bool.false_eq_true, if_false, Option.bind_some, Option.map_map]
 congr 1
 funext y
 simp only [Function.comp, Nat.add_assoc]
theorem rest_none {T : Option (List Int × Nat)} {k f : Nat} {first : Bool} {acc : List Int} {t : List UInt8} (h : Rest T k (membersS (f + 1) first acc t)) (hf : (!first && preS t [93]) = false) (hx : memberS t = none) : T = none := by
 unfold Rest at h
 rw [h, membersS, hf, hx]
 rfl
theorem rest_end {T : Option (List Int × Nat)} {k f : Nat} {acc : List Int} {t : List UInt8} (h : Rest T k (membersS (f + 1) false acc t)) (hf : preS t [93] = true) : T = some (acc, k) := by
 unfold Rest at h
 rw [h, membersS, hf]
 rfl
structure P64 (s : List UInt8) (d c0 : Nat) (σ : Sto) (nt first : Bool) (n : Nat) (acc : List Int) (a : Nat → MV) (s' : Sto) : Prop where
 a4 : a 4 = .ptr ⟨d, 4, c0⟩ 0
 a7 : a 7 = .ptr ⟨d, 32, c0 + 1⟩ 0
 a8 : a 8 = .bool nt
 a9 : a 9 = .ptr ⟨d, 9, c0 + 1 + 1⟩ 0
 a10 : a 10 = .bool first
 o4 : s'.ob ⟨d, 4, c0⟩ = some (encS z4)
 oR : s'.ob ⟨d, 32, c0 + 1⟩ = some (encR s n)
 o9 : s'.ob ⟨d, 9, c0 + 1 + 1⟩ = some (encS acc)
 cut : s'.cut d = σ
 und : s'.Und (d + 1)
 ct : c0 + 1 + 1 + 1 ≤ s'.ct d
 al : acc.length = 4
theorem w64 (s : List UInt8) (n : Nat) (hs : s.length ≤ 1000000) (h91 : s[n]? = some 91) (lim d : Nat) (hlim : lim ≤ d) (σ : Sto) (hu : σ.Und d) : Ret lim d 124 [.str s, .int .i64 n] σ (brkV n (bracketS (s.drop (n + 1)))) σ := by
 have hun := und_succ hu
 have hn : n < s.length := by
  rcases Nat.lt_or_ge n s.length with h | h
  ·exact h
  ·rw [List.getElem?_eq_none h] at h91; cases h91
 have e1 : ¬ ((n : Int) < 0) := by omega
 have e2 : ¬ ((s.length : Int) ≤ (n : Int)) := by omega
 have w1 := wr64 ((n : Int) + 1) (by omega) (by omega)
 have w2 := wr64 ((n : Int) + 1 + 1) (by omega) (by omega)
 have hR : [MV.str s, MV.int .i64 ((n : Int) + 1)] = encR s (n + 1) := rfl
 have hR2 : [MV.str s, MV.int .i64 ((n : Int) + 1 + 1)] = encR s (n + 1 + 1) := rfl
 have k91 : (((91 : UInt8).toNat : Int) != 91) = false := rfl
 have z4l : z4.length = 4 := rfl
 have hdl : (s.drop (n + 1)).length = s.length - (n + 1) := List.length_drop
 have hdl2 : (s.drop (n + 1 + 1)).length = s.length - (n + 1 + 1) := List.length_drop
 have hd1 : (s.drop (n + 1)).drop 1 = s.drop (n + 1 + 1) := by rw [List.drop_drop]
 unfold Ret
 rw [WF_body (C := X) rfl func124 rfl (by kernel_rfl)]; simp only [results124]
 simp -implicitDefEqProofs -dsimp only [go_sem, e1, e2, h91, k91, w1, hR]
 refine (w73 s _ (n + 1) hs ⟨d, 32, σ.ct d + 1⟩ lim (d + 1) (Nat.lt_succ_self d) _ ?_ ?_).wh ?_
 ·simp only [go_sem, u_tick, u_mine]; exact hun
 ·simp only [go_sem, if_true]
 unfold bracketS
 cases hnt : preS (s.drop (n + 1)) [94]
 ·skip
  skip
  simp only [Bool.false_eq_true, if_false, hd1]
  generalize hT : (membersS ((s.drop (n + 1)).length + 1) true z4 (s.drop (n + 1))) = T
  simp -implicitDefEqProofs -dsimp only [go_sem]
  refine loop_h (I := fun f a s' => ∃ (m : Nat) (first : Bool) (acc : List Int), P64 s d (σ.ct d) σ false first m acc a s' ∧ m ≤ s.length ∧ (n + 1) ≤ m ∧ (s.drop m).length + 1 ≤ f ∧ Rest T (m - (n + 1)) (membersS f first acc (s.drop m))) ?_ ((s.drop (n + 1)).length + 1) _ _ ?_
  ·rintro f a s' ⟨m, first, acc, p, hm, hm0, hf, hr⟩
   have hct := p.ct
   have hpo := p.oR
   rw [List.length_drop] at hf
   obtain ⟨f, rfl⟩ : ∃ g, f = g + 1 := ⟨f - 1, by omega⟩
   have hx := fun t => w73 s t m hs ⟨d, 32, σ.ct d + 1⟩ lim (d + 1) (Nat.lt_succ_self d) s' p.und p.oR
   have hmem := w74 s m hs hm ⟨d, 32, σ.ct d + 1⟩ lim (d + 1) (Nat.lt_succ_self d) hlim s' p.und p.oR
   cases first
   ·simp -implicitDefEqProofs -dsimp only [go_sem, p.a10, p.a7]
    refine (hx [93]).wh ?_
    cases hend : preS (s.drop m) [93]
    ·have hff : (!false && preS (s.drop m) [93]) = false := by rw [hend]; rfl
     simp -implicitDefEqProofs -dsimp only [go_sem, p.a7]
     rw [WF_h.symm]
     refine hmem.mono fun v s2 hv => ?_
     cases hM : memberS (s.drop m) with
     | none =>
      rw [hM] at hv
      obtain ⟨q, mm, rfl, rfl, hq⟩ := hv
      have hTn := rest_none hr hff hM
      simp -implicitDefEqProofs -dsimp only [go_sem, p.a4, p.o4, hq, fin4 q hq, encS_len, z4l, p.cut, hTn]
      rw [z4e, fin5 _ _ z4l z4l, encS_take z4 z4l, encS_frz, encS_len]
      exact ⟨Nat.le_refl 4, _, rfl, rfl⟩
     | some x =>
      rw [hM] at hv
      obtain ⟨rfl, rfl, hq⟩ := hv
      have hml := member_le _ _ hM
      rw [List.length_drop] at hml
      have hr2 := rest_step hr hff hM
      rw [List.drop_drop] at hr2
      have hol : (orS acc x.1).length = 4 := orS4 p.al hq
      simp -implicitDefEqProofs -dsimp only [go_sem, p.a9, p.o9, hq, fin4 _ hq, encS_len, encS_take _ p.al, encS_take _ hq, p.al]
      refine (w75 acc x.1 p.al hq lim (d + 1) _ ?_).wh ?_
      ·simp only [go_sem, u_tick, u_mine]; exact p.und
      simp -implicitDefEqProofs -dsimp only [go_sem, p.a9, p.o9, hol, p.al, encS_len, fin5 _ _ p.al hol]
      refine ⟨f, Nat.lt_succ_self f, m + x.2, false, orS acc x.1, ⟨p.a4, p.a7, p.a8, p.a9, rfl, ?_, ?_, ?_, ?_, ?_, ?_, hol⟩, by omega, by omega, by rw [List.length_drop]; omega, ?_⟩
      ·simp only [go_sem, Nat.reduceEqDiff, and_false, false_and, if_false, p.o4]
      ·simp only [go_sem, Nat.reduceEqDiff, and_false, false_and, if_false, if_true]
      ·simp only [go_sem, Nat.reduceEqDiff, and_false, false_and, if_false, if_true]
      ·simp only [go_sem, p.cut]
      ·simp only [go_sem, u_tick, u_mine]; exact p.und
      ·simp only [go_sem]; omega
      ·rw [show m + x.2 - (n + 1) = m - (n + 1) + x.2 by omega]; exact hr2
    ·have hT2 := rest_end hr hend
     have hpo2 := p.oR
     rw [encR] at hpo2
     have wm := wr64 ((m : Int) + 1) (by omega) (by omega)
     have hnl : (notS acc).length = 4 := by rw [notS_len]; exact p.al
     simp -implicitDefEqProofs -dsimp only [go_sem, p.a8]
     rw [D_lx [.tmp 66] (by kernel_rfl) (by kernel_rfl)]; simp -implicitDefEqProofs -dsimp only [go_sem, List.takeWhile_cons, List.dropWhile_cons, isTail, evNews, List.mem_cons, List.not_mem_nil, or_false, false_or, not_false_eq_true, not_true_eq_false, decide_true, Bool.not_true, Bool.not_false, forall_eq, ne_eq, p.a4, p.a7, p.a9, hpo2, p.o9, p.o4, encS_len, encS_take acc p.al, p.al, wm]
     rw [hT2, fin5 _ _ z4l p.al, encS_take _ p.al, encS_frz, encS_len, p.al]
     refine ⟨by omega, Nat.le_refl 4, Nat.le_refl 4, _, rfl, ?_, p.cut⟩
     rw [Option.map_some, brkV_some]
     simp only
     rw [show ((n + (m - (n + 1) + 2) : Nat) : Int) = (m : Int) + 1 by omega]
   ·have hff : (!true && preS (s.drop m) [93]) = false := rfl
    simp -implicitDefEqProofs -dsimp only [go_sem, p.a10, p.a7]
    rw [WF_h.symm]
    refine hmem.mono fun v s2 hv => ?_
    cases hM : memberS (s.drop m) with
    | none =>
     rw [hM] at hv
     obtain ⟨q, mm, rfl, rfl, hq⟩ := hv
     have hTn := rest_none hr hff hM
     simp -implicitDefEqProofs -dsimp only [go_sem, p.a4, p.o4, hq, fin4 q hq, encS_len, z4l, p.cut, hTn]
     rw [z4e, fin5 _ _ z4l z4l, encS_take z4 z4l, encS_frz, encS_len]
     exact ⟨Nat.le_refl 4, _, rfl, rfl⟩
    | some x =>
     rw [hM] at hv
     obtain ⟨rfl, rfl, hq⟩ := hv
     have hml := member_le _ _ hM
     rw [List.length_drop] at hml
     have hr2 := rest_step hr hff hM
     rw [List.drop_drop] at hr2
     have hol : (orS acc x.1).length = 4 := orS4 p.al hq
     simp -implicitDefEqProofs -dsimp only [go_sem, p.a9, p.o9, hq, fin4 _ hq, encS_len, encS_take _ p.al, encS_take _ hq, p.al]
     refine (w75 acc x.1 p.al hq lim (d + 1) _ ?_).wh ?_
     ·simp only [go_sem, u_tick, u_mine]; exact p.und
     simp -implicitDefEqProofs -dsimp only [go_sem, p.a9, p.o9, hol, p.al, encS_len, fin5 _ _ p.al hol]
     refine ⟨f, Nat.lt_succ_self f, m + x.2, false, orS acc x.1, ⟨p.a4, p.a7, p.a8, p.a9, rfl, ?_, ?_, ?_, ?_, ?_, ?_, hol⟩, by omega, by omega, by rw [List.length_drop]; omega, ?_⟩
     ·simp only [go_sem, Nat.reduceEqDiff, and_false, false_and, if_false, p.o4]
     ·simp only [go_sem, Nat.reduceEqDiff, and_false, false_and, if_false, if_true]
     ·simp only [go_sem, Nat.reduceEqDiff, and_false, false_and, if_false, if_true]
     ·simp only [go_sem, p.cut]
     ·simp only [go_sem, u_tick, u_mine]; exact p.und
     ·simp only [go_sem]; omega
     ·rw [show m + x.2 - (n + 1) = m - (n + 1) + x.2 by omega]; exact hr2
  ·refine ⟨(n + 1), true, z4, ?_, by omega, Nat.le_refl _, by omega, ?_⟩
   ·refine ⟨rfl, rfl, rfl, rfl, rfl, ?_, ?_, ?_, ?_, ?_, ?_, rfl⟩
    ·simp only [go_sem, Nat.reduceEqDiff, and_false, false_and, if_false, if_true, z4e]
    ·simp only [go_sem, Nat.reduceEqDiff, and_false, false_and, if_false, if_true]
    ·simp only [go_sem, if_true, z4e]
    ·simp only [go_sem, cut_und _ _ hu]
    ·simp only [go_sem, u_tick, u_mine]; exact hun
    ·simp only [go_sem]; first | done | omega
   ·rw [Nat.sub_self]
    unfold Rest
    rw [hT]
    cases T <;> simp
 ·have := pre_le hnt
  simp only [List.length_cons, List.length_nil] at this
  simp only [if_true, hd1]
  generalize hT : (membersS ((s.drop (n + 1)).length + 1) true z4 (s.drop (n + 1 + 1))) = T
  simp -implicitDefEqProofs -dsimp only [go_sem, encR]
  refine loop_h (I := fun f a s' => ∃ (m : Nat) (first : Bool) (acc : List Int), P64 s d (σ.ct d) σ true first m acc a s' ∧ m ≤ s.length ∧ (n + 1 + 1) ≤ m ∧ (s.drop m).length + 1 ≤ f ∧ Rest T (m - (n + 1 + 1)) (membersS f first acc (s.drop m))) ?_ ((s.drop (n + 1)).length + 1) _ _ ?_
  ·rintro f a s' ⟨m, first, acc, p, hm, hm0, hf, hr⟩
   have hct := p.ct
   have hpo := p.oR
   rw [List.length_drop] at hf
   obtain ⟨f, rfl⟩ : ∃ g, f = g + 1 := ⟨f - 1, by omega⟩
   have hx := fun t => w73 s t m hs ⟨d, 32, σ.ct d + 1⟩ lim (d + 1) (Nat.lt_succ_self d) s' p.und p.oR
   have hmem := w74 s m hs hm ⟨d, 32, σ.ct d + 1⟩ lim (d + 1) (Nat.lt_succ_self d) hlim s' p.und p.oR
   cases first
   ·simp -implicitDefEqProofs -dsimp only [go_sem, p.a10, p.a7]
    refine (hx [93]).wh ?_
    cases hend : preS (s.drop m) [93]
    ·have hff : (!false && preS (s.drop m) [93]) = false := by rw [hend]; rfl
     simp -implicitDefEqProofs -dsimp only [go_sem, p.a7]
     rw [WF_h.symm]
     refine hmem.mono fun v s2 hv => ?_
     cases hM : memberS (s.drop m) with
     | none =>
      rw [hM] at hv
      obtain ⟨q, mm, rfl, rfl, hq⟩ := hv
      have hTn := rest_none hr hff hM
      simp -implicitDefEqProofs -dsimp only [go_sem, p.a4, p.o4, hq, fin4 q hq, encS_len, z4l, p.cut, hTn]
      rw [z4e, fin5 _ _ z4l z4l, encS_take z4 z4l, encS_frz, encS_len]
      exact ⟨Nat.le_refl 4, _, rfl, rfl⟩
     | some x =>
      rw [hM] at hv
      obtain ⟨rfl, rfl, hq⟩ := hv
      have hml := member_le _ _ hM
      rw [List.length_drop] at hml
      have hr2 := rest_step hr hff hM
      rw [List.drop_drop] at hr2
      have hol : (orS acc x.1).length = 4 := orS4 p.al hq
      simp -implicitDefEqProofs -dsimp only [go_sem, p.a9, p.o9, hq, fin4 _ hq, encS_len, encS_take _ p.al, encS_take _ hq, p.al]
      refine (w75 acc x.1 p.al hq lim (d + 1) _ ?_).wh ?_
      ·simp only [go_sem, u_tick, u_mine]; exact p.und
      simp -implicitDefEqProofs -dsimp only [go_sem, p.a9, p.o9, hol, p.al, encS_len, fin5 _ _ p.al hol]
      refine ⟨f, Nat.lt_succ_self f, m + x.2, false, orS acc x.1, ⟨p.a4, p.a7, p.a8, p.a9, rfl, ?_, ?_, ?_, ?_, ?_, ?_, hol⟩, by omega, by omega, by rw [List.length_drop]; omega, ?_⟩
      ·simp only [go_sem, Nat.reduceEqDiff, and_false, false_and, if_false, p.o4]
      ·simp only [go_sem, Nat.reduceEqDiff, and_false, false_and, if_false, if_true]
      ·simp only [go_sem, Nat.reduceEqDiff, and_false, false_and, if_false, if_true]
      ·simp only [go_sem, p.cut]
      ·simp only [go_sem, u_tick, u_mine]; exact p.und
      ·simp only [go_sem]; omega
      ·rw [show m + x.2 - (n + 1 + 1) = m - (n + 1 + 1) + x.2 by omega]; exact hr2
    ·have hT2 := rest_end hr hend
     have hpo2 := p.oR
     rw [encR] at hpo2
     have wm := wr64 ((m : Int) + 1) (by omega) (by omega)
     have hnl : (notS acc).length = 4 := by rw [notS_len]; exact p.al
     simp -implicitDefEqProofs -dsimp only [go_sem, p.a8, p.a9, p.o9, p.al, encS_len, encS_take acc p.al]
     refine (w76 acc p.al lim (d + 1) _ p.und).wh ?_
     simp -implicitDefEqProofs -dsimp only [go_sem, p.a9, p.o9, p.al, encS_len, hnl]
     rw [fin5 _ _ p.al hnl]
     rw [D_lx [.tmp 66] (by kernel_rfl) (by kernel_rfl)]; simp -implicitDefEqProofs -dsimp only [go_sem, List.takeWhile_cons, List.dropWhile_cons, isTail, evNews, List.mem_cons, List.not_mem_nil, or_false, false_or, not_false_eq_true, not_true_eq_false, decide_true, Bool.not_true, Bool.not_false, forall_eq, ne_eq, p.a4, p.a7, p.a9, hpo2, p.o4, encS_len, encS_take _ hnl, hnl, wm]
     rw [hT2, fin5 _ _ z4l hnl, encS_take _ hnl, encS_frz, encS_len, hnl]
     refine ⟨by omega, Nat.le_refl 4, Nat.le_refl 4, _, rfl, ?_, p.cut⟩
     rw [Option.map_some, brkV_some]
     simp only
     rw [show ((n + (m - (n + 1 + 1) + 3) : Nat) : Int) = (m : Int) + 1 by omega]
   ·have hff : (!true && preS (s.drop m) [93]) = false := rfl
    simp -implicitDefEqProofs -dsimp only [go_sem, p.a10, p.a7]
    rw [WF_h.symm]
    refine hmem.mono fun v s2 hv => ?_
    cases hM : memberS (s.drop m) with
    | none =>
     rw [hM] at hv
     obtain ⟨q, mm, rfl, rfl, hq⟩ := hv
     have hTn := rest_none hr hff hM
     simp -implicitDefEqProofs -dsimp only [go_sem, p.a4, p.o4, hq, fin4 q hq, encS_len, z4l, p.cut, hTn]
     rw [z4e, fin5 _ _ z4l z4l, encS_take z4 z4l, encS_frz, encS_len]
     exact ⟨Nat.le_refl 4, _, rfl, rfl⟩
    | some x =>
     rw [hM] at hv
     obtain ⟨rfl, rfl, hq⟩ := hv
     have hml := member_le _ _ hM
     rw [List.length_drop] at hml
     have hr2 := rest_step hr hff hM
     rw [List.drop_drop] at hr2
     have hol : (orS acc x.1).length = 4 := orS4 p.al hq
     simp -implicitDefEqProofs -dsimp only [go_sem, p.a9, p.o9, hq, fin4 _ hq, encS_len, encS_take _ p.al, encS_take _ hq, p.al]
     refine (w75 acc x.1 p.al hq lim (d + 1) _ ?_).wh ?_
     ·simp only [go_sem, u_tick, u_mine]; exact p.und
     simp -implicitDefEqProofs -dsimp only [go_sem, p.a9, p.o9, hol, p.al, encS_len, fin5 _ _ p.al hol]
     refine ⟨f, Nat.lt_succ_self f, m + x.2, false, orS acc x.1, ⟨p.a4, p.a7, p.a8, p.a9, rfl, ?_, ?_, ?_, ?_, ?_, ?_, hol⟩, by omega, by omega, by rw [List.length_drop]; omega, ?_⟩
     ·simp only [go_sem, Nat.reduceEqDiff, and_false, false_and, if_false, p.o4]
     ·simp only [go_sem, Nat.reduceEqDiff, and_false, false_and, if_false, if_true]
     ·simp only [go_sem, Nat.reduceEqDiff, and_false, false_and, if_false, if_true]
     ·simp only [go_sem, p.cut]
     ·simp only [go_sem, u_tick, u_mine]; exact p.und
     ·simp only [go_sem]; omega
     ·rw [show m + x.2 - (n + 1 + 1) = m - (n + 1 + 1) + x.2 by omega]; exact hr2
  ·refine ⟨(n + 1 + 1), true, z4, ?_, by omega, Nat.le_refl _, by omega, ?_⟩
   ·refine ⟨rfl, rfl, rfl, rfl, rfl, ?_, ?_, ?_, ?_, ?_, ?_, rfl⟩
    ·simp only [go_sem, Nat.reduceEqDiff, and_false, false_and, if_false, if_true, z4e]
    ·simp only [go_sem, Nat.reduceEqDiff, and_false, false_and, if_false, if_true, Int.natCast_add, Int.natCast_one, w2]; rfl
    ·simp only [go_sem, if_true, z4e]
    ·simp only [go_sem, cut_und _ _ hu]
    ·simp only [go_sem, u_tick, u_mine]; exact hun
    ·simp only [go_sem]; first | done | omega
   ·rw [Nat.sub_self]
    unfold Rest
    rw [hT]
    cases T <;> simp
end Go.Proofs.Tryz.E
