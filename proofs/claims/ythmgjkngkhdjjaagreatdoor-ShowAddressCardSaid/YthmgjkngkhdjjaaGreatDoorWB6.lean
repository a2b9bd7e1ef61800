/- Walks: what the functions compute. Walks: what the functions compute. -/
import Derived.Test.YthmgjkngkhdjjaaGreatDoorWB4
import Derived.Test.YthmgjkngkhdjjaaGreatDoorE21
set_option linter.unusedVariables false
set_option linter.unusedSimpArgs false
/- The program's reader of basic patterns: repeats, groups, atoms. -/
namespace Go.Proofs.Tryz.E
open Go.Mv
set_option maxHeartbeats 4000000
set_option maxRecDepth 20000
theorem w210 (s : List UInt8) (r : Rd) (y : Nd) (hs : s.length ≤ 1000000) (hr : r.at' ≤ s.length) (p : Mv.Loc) (lim d : Nat) (hp : p.d < d) (hlim : lim ≤ p.d) (σ : Sto) (hu : σ.Und d) (ho : σ.ob p = some (encB s r)) :
  Ret lim d 84 [.ptr p 0, .agg (enc y)] σ (.agg (enc (repB s y r).1)) (σ.set p (encB s (repB s y r).2)) := by
 have hun := und_succ hu
 have hne := ne_my hp
 have hmy := my_ne hp
 have hp1 := Nat.lt_succ_of_lt hp
 have ho2 := ho
 have hself := set_same ho
 unfold Ret
 rw [WF_body (C := X) rfl func84 rfl (by kernel_rfl)]; simp only [results84]
 unfold repB
 simp -implicitDefEqProofs -dsimp only [go_sem]
 refine (w216 s r hs hr p lim (d + 1) hp1 _ ?_ ?_).wh ?_
 ·simp only [u_tick, u_mine]; exact hun
 ·simp only [go_sem, hne, if_false]; exact ho
 cases hrep : isRepB s r
 ·rw [if_pos rfl]
  simp -implicitDefEqProofs -dsimp only [go_sem, enc_take, hself, cut_und _ _ hu]
 rw [if_neg (by simp)]
 obtain ⟨b1, b3⟩ := repB_some hrep
 by_cases hk4 : y.kind = 4 ∨ y.kind = 5
 ·rw [if_pos hk4]
  have hkk : (if (y.kind == 4) = true then true else y.kind == 5) = true := by rcases hk4 with h | h <;> simp [h]
  by_cases h4 : y.kind = 4
  ·have h4' : (y.kind == 4) = true := by simpa using h4
   simp -implicitDefEqProofs -dsimp only [go_sem, enc_kind, h4']
   refine (w208 s r p lim (d + 1) hp1 hlim _ ?_ ?_).wh ?_
   ·simp only [u_tick, u_mine]; exact hun
   ·simp only [go_sem, hne, if_false]; exact ho
   simp -implicitDefEqProofs -dsimp only [go_sem, hmy, cut_set _ _ _ _ hp, cut_und _ _ hu]
  ·have h4' : (y.kind == 4) = false := by simpa using h4
   have h5' : (y.kind == 5) = true := by rw [h4'] at hkk; simpa using hkk
   simp -implicitDefEqProofs -dsimp only [go_sem, enc_kind, h4', h5']
   refine (w208 s r p lim (d + 1) hp1 hlim _ ?_ ?_).wh ?_
   ·simp only [u_tick, u_mine]; exact hun
   ·simp only [go_sem, hne, if_false]; exact ho
   simp -implicitDefEqProofs -dsimp only [go_sem, hmy, cut_set _ _ _ _ hp, cut_und _ _ hu]
 rw [if_neg hk4]
 have h4' : (y.kind == 4) = false := by rw [beq_eq_false_iff_ne]; exact fun h => hk4 (.inl h)
 have h5' : (y.kind == 5) = false := by rw [beq_eq_false_iff_ne]; exact fun h => hk4 (.inr h)
 have ho3 := ho
 rw [encB_good s r b1] at ho3
 have last : ∀ (f t : Int) (n : Nat), n ≤ s.length → isRepB s (r.go n) = false → True := fun _ _ _ _ _ => trivial
 simp -implicitDefEqProofs -dsimp only [go_sem, enc_kind, h4', h5']
 refine (w207 s r [92, 123] hs hr p lim (d + 1) hp1 _ ?_ ?_).wh ?_
 ·simp only [u_tick, u_mine]; exact hun
 ·simp only [go_sem, hne, if_false]; exact ho
 rw [hasT_two s r hr]
 unfold timesB
 cases hE : hasE s r 123
 ·have h42 : r.nx s = some 42 := by
   simp only [isRepB, hE, Bool.or_false, beq_iff_eq] at hrep; exact hrep
  rw [if_pos h42]
  simp only
  have x1 := wr64 ((r.at' : Int) + 1) (by omega) (by omega)
  simp -implicitDefEqProofs -dsimp only [go_sem, hne, ho3, x1, hp, hlim]
  have hgo : [MV.str s, .int .i64 ((r.at' : Int) + 1), .int .i64 r.g, .bool false] = encB s (r.go (r.at' + 1)) := by rw [encB_go s r _ b1]; rfl
  rw [hgo]
  refine (w216 s (r.go (r.at' + 1)) hs (by simp only [Rd.go]; omega) p lim (d + 1) hp1 _ ?_ ?_).wh ?_
  ·simp only [u_tick, u_set _ _ _ _ hp1, u_mine]; exact hun
  ·simp only [go_sem, if_true]
  cases hr2 : isRepB s (r.go (r.at' + 1))
  ·simp -implicitDefEqProofs -dsimp only [go_sem, enc, hmy, enc_take, encs, cut_set _ _ _ _ hp, cut_und _ _ hu, Bool.false_eq_true]
  ·simp -implicitDefEqProofs -dsimp only [go_sem]
   refine (w208 s (r.go (r.at' + 1)) p lim (d + 1) hp1 hlim _ ?_ ?_).wh ?_
   ·simp only [u_tick, u_set _ _ _ _ hp1, u_mine]; exact hun
   ·simp only [go_sem, hne, if_true, if_false]
   simp -implicitDefEqProofs -dsimp only [go_sem, hmy, set_set, cut_set _ _ _ _ hp, cut_und _ _ hu]
 ·obtain ⟨c1, c2⟩ := hasE_iff.1 hE
  obtain ⟨c3, c4, c5⟩ := nx_some c1
  have h42 : ¬ r.nx s = some 42 := by rw [c1]; decide
  rw [if_neg h42]
  simp -implicitDefEqProofs -dsimp only [go_sem]
  refine (w211 s r hs hr p lim (d + 1) hp1 _ ?_ ?_).wh ?_
  ·simp only [u_tick, u_mine]; exact hun
  ·simp only [go_sem, hne, if_false]; exact ho
  simp -implicitDefEqProofs -dsimp only [go_sem]
  refine (w217 s r.at' hs c4 c2 lim (d + 1) _ ?_).wh ?_
  ·simp only [u_tick, u_mine]; exact hun
  cases hbr : bracesB s r.at' with
  | none =>
   simp only
   simp -implicitDefEqProofs -dsimp only [go_sem, bdV_none]
   refine (w208 s r p lim (d + 1) hp1 hlim _ ?_ ?_).wh ?_
   ·simp only [u_tick, u_mine]; exact hun
   ·simp only [go_sem, hne, if_false]; exact ho
   simp -implicitDefEqProofs -dsimp only [go_sem, hmy, cut_set _ _ _ _ hp, cut_und _ _ hu]
  | some z =>
   obtain ⟨z1, z2⟩ := braB_go s _ z hbr
   simp only
   have e0 : (((z.2.2 : Int) - (r.at' : Int)) == 0) = false := by rw [beq_eq_false_iff_ne]; omega
   have e1 : (r.at' : Int) + ((z.2.2 : Int) - (r.at' : Int)) = (z.2.2 : Int) := by omega
   have x1 := wr64 ((r.at' : Int) + ((z.2.2 : Int) - (r.at' : Int))) (by omega) (by omega)
   rw [e1] at x1
   simp -implicitDefEqProofs -dsimp only [go_sem, bdV_some, hne, ho3, e0, e1, x1, hp, hlim]
   have hgo : [MV.str s, .int .i64 (z.2.2 : Int), .int .i64 r.g, .bool false] = encB s (r.go z.2.2) := by rw [encB_go s r _ b1]
   rw [hgo]
   refine (w216 s (r.go z.2.2) hs (by simp only [Rd.go]; omega) p lim (d + 1) hp1 _ ?_ ?_).wh ?_
   ·simp only [u_tick, u_set _ _ _ _ hp1, u_mine]; exact hun
   ·simp only [go_sem, if_true]
   cases hr2 : isRepB s (r.go z.2.2)
   ·simp -implicitDefEqProofs -dsimp only [go_sem, enc, hmy, enc_take, encs, cut_set _ _ _ _ hp, cut_und _ _ hu, Bool.false_eq_true]
   ·simp -implicitDefEqProofs -dsimp only [go_sem]
    refine (w208 s (r.go z.2.2) p lim (d + 1) hp1 hlim _ ?_ ?_).wh ?_
    ·simp only [u_tick, u_set _ _ _ _ hp1, u_mine]; exact hun
    ·simp only [go_sem, hne, if_true, if_false]
    simp -implicitDefEqProofs -dsimp only [go_sem, hmy, set_set, cut_set _ _ _ _ hp, cut_und _ _ hu]
def HW (s : List UInt8) (k : Nat) (rec : Rd → Nd × Rd) : Prop := ∀ r : Rd, r.bad = false → r.at' ≤ s.length → r.g ≤ 9 → 10 ≤ k + r.g →
 ∀ (lim d : Nat) (p : Mv.Loc) (σ : Sto), p.d < d → lim ≤ p.d → σ.Und d → σ.ob p = some (encB s r) → Ret lim d 61 [.ptr p 0] σ (.agg (enc (rec r).1)) (σ.set p (encB s (rec r).2))
theorem signB_dot (s : List UInt8) (f : Bool) (n : Nat) : signB s f n 46 = nd 2 [] := by simp [signB]
theorem signB_hat0 (s : List UInt8) (n : Nat) : signB s false n 94 = lit (94 : UInt8).toNat := by simp [signB]
theorem signB_hat1 (s : List UInt8) (n : Nat) : signB s true n 94 = nd 4 [] := by simp [signB]
theorem signB_dol0 (s : List UInt8) (f : Bool) (n : Nat) (h : endsB s n = false) : signB s f n 36 = lit (36 : UInt8).toNat := by simp [signB, h]
theorem signB_dol1 (s : List UInt8) (f : Bool) (n : Nat) (h : endsB s n = true) : signB s f n 36 = nd 5 [] := by simp [signB, h]
theorem signB_lit (s : List UInt8) (f : Bool) (n : Nat) (c : UInt8) (h : ¬ c = 46) (h2 : ¬ c = 94) (h3 : ¬ c = 36) : signB s f n c = lit c.toNat := by simp [signB, h, h2, h3]
theorem w215 (s : List UInt8) (r : Rd) (hs : s.length ≤ 1000000) (hr : r.at' < s.length) (p : Mv.Loc) (lim d : Nat) (hp : p.d < d) (σ : Sto) (hu : σ.Und d) (ho : σ.ob p = some (encB s r)) : Ret lim d 108 [.ptr p 0] σ (.bool (endsB s r.at')) σ := by
 have hun := und_succ hu
 have hl1 : (s.drop r.at').length = s.length - r.at' := List.length_drop ..
 have e1 : (1 : Int) ≤ ((s.drop r.at').length : Int) := by omega
 have hd1 : ((s.drop r.at').take (s.drop r.at').length).drop 1 = s.drop (r.at' + 1) := by rw [List.take_length, List.drop_drop]
 unfold Ret
 rw [WF_body (C := X) rfl func108 rfl (by kernel_rfl)]; simp only [results108]
 simp -implicitDefEqProofs -dsimp only [go_sem]
 refine (w211 s r hs (by omega) p lim (d + 1) (Nat.lt_succ_of_lt hp) _ hun ho).wh ?_
 by_cases h : r.at' + 1 < s.length
 ·have e2 : (s.drop (r.at' + 1) == []) = false := by
   rw [beq_eq_false_iff_ne]; intro q
   have := congrArg List.length q
   rw [List.length_drop] at this
   simp at this; omega
  have g1 : s[r.at' + 1]? = some s[r.at' + 1] := List.getElem?_eq_getElem h
  have e3 : preS (s.drop (r.at' + 1)) [92, 41] = endsB s r.at' := by
   unfold endsB
   rw [List.drop_eq_getElem_cons h, g1]
   by_cases h2 : r.at' + 1 + 1 < s.length
   ·have g2 : s[r.at' + 2]? = some s[r.at' + 1 + 1] := List.getElem?_eq_getElem h2
    rw [List.drop_eq_getElem_cons h2, pre_two, g2]
    rw [Bool.eq_iff_iff]; simp
   ·rw [List.drop_eq_nil_of_le (by omega), pre_two1, List.getElem?_eq_none (show s.length ≤ r.at' + 2 by omega)]
    rw [Bool.eq_iff_iff]; simp
  simp -implicitDefEqProofs -dsimp only [go_sem, bnd, e1, hd1, e2]
  refine (w81 (s.drop (r.at' + 1)) [92, 41] (by rw [List.length_drop]; omega) lim (d + 1) _ hun).wh ?_
  simp -implicitDefEqProofs -dsimp only [go_sem, e3, cut_und _ _ hu]
 ·have e2 : s.drop (r.at' + 1) = [] := List.drop_eq_nil_of_le (by omega)
  have e3 : endsB s r.at' = true := by unfold endsB; rw [List.getElem?_eq_none (by omega)]; rfl
  rw [e2] at hd1
  simp -implicitDefEqProofs -dsimp only [go_sem, bnd, e1, hd1, e3, cut_und _ _ hu, show (([] : List UInt8) == []) = true from rfl]
theorem w214 (s : List UInt8) (r : Rd) (hs : s.length ≤ 100000) (h91 : s[r.at']? = some 91) (hb : r.bad = false) (p : Mv.Loc) (lim d : Nat) (hp : p.d < d) (hlim : lim ≤ p.d) (σ : Sto) (hu : σ.Und d) (ho : σ.ob p = some (encB s r)) :
  Ret lim d 107 [.ptr p 0] σ (match bracketS (s.drop (r.at' + 1)) with | none => .agg (enc z0) | some x => .agg (enc (inN x.1))) (match bracketS (s.drop (r.at' + 1)) with | none => σ.set p (encB s r.fail) | some x => σ.set p (encB s (r.go (r.at' + x.2)))) := by
 have hun := und_succ hu
 have hne := ne_my hp
 have hmy := my_ne hp
 have hp1 := Nat.lt_succ_of_lt hp
 have ho2 := ho
 rw [encB_good s r hb] at ho2
 have hun1 : ∀ (t c : Nat) (cs : List MV), ((σ.set ⟨d, t, c⟩ cs).tick d).Und (d + 1) := fun t c cs => by simp only [u_tick, u_mine]; exact hun
 unfold Ret
 rw [WF_body (C := X) rfl func107 rfl (by kernel_rfl)]; simp only [results107]
 simp -implicitDefEqProofs -dsimp only [go_sem]
 rw [D_lx [] (by kernel_rfl) (by kernel_rfl)]; simp -implicitDefEqProofs -dsimp only [go_sem, List.takeWhile_cons, List.dropWhile_cons, isTail, evNews, List.not_mem_nil, not_false_eq_true, decide_true, decide_false, Bool.not_true, Bool.not_false, false_imp_iff, implies_true, ne_eq, ho2, hne]
 refine (w64 s r.at' (by omega) h91 (d + 1) (d + 1) (Nat.le_refl _) _ (hun1 ..)).wh ?_
 cases hbr : bracketS (s.drop (r.at' + 1)) with
 | none =>
  simp only
  simp -implicitDefEqProofs -dsimp only [go_sem, brkV_none]
  refine ⟨rfl, (w208 s r p lim (d + 1) hp1 hlim _ ?_ ?_).wh ?_⟩
  ·simp only [u_tick, u_mine]; exact hun
  ·simp only [go_sem, hne, if_false]; exact ho
  simp -implicitDefEqProofs -dsimp only [go_sem, hmy, cut_set _ _ _ _ hp, cut_und _ _ hu]
 | some x =>
  simp only
  have hq := (bracket_le _ _ hbr).2.2
  obtain ⟨q0, q1, q2, q3, hqe⟩ := ln4 hq
  rw [hqe] at hq
  simp -implicitDefEqProofs -dsimp only [go_sem, enc, brkV_some, hmy, hne, hqe, encS, ho2, hp, hlim, inN, encs, encB_go s r _ hb, cut_set _ _ _ _ hp, cut_und _ _ hu, List.getD_cons_zero, List.getD_cons_succ]
section
variable {s : List UInt8} {k : Nat} {rec : Rd → Nd × Rd} (H : HB s k rec) (K : HW s k rec)
include H K
theorem w212 (r : Rd) (hs : s.length ≤ 100000) (hr : r.at' + 2 ≤ s.length) (hb : r.bad = false) (h9 : r.g ≤ 9) (hk : 10 ≤ k + 1 + r.g) (p : Mv.Loc) (lim d : Nat) (hp : p.d < d) (hlim : lim ≤ p.d) (σ : Sto) (hu : σ.Und d) (ho : σ.ob p = some (encB s r)) :
  Ret lim d 105 [.ptr p 0] σ (.agg (enc (groupB s rec r).1)) (σ.set p (encB s (groupB s rec r).2)) := by
 have hun := und_succ hu
 have hne := ne_my hp
 have hmy := my_ne hp
 have hp1 := Nat.lt_succ_of_lt hp
 have ho2 := ho
 rw [encB_good s r hb] at ho2
 have x1 := wr64 ((r.at' : Int) + 2) (by omega) (by omega)
 have x2 := wr64 ((r.g : Int) + 1) (by omega) (by omega)
 have hun1 : ∀ (t c : Nat) (cs : List MV), ((σ.set ⟨d, t, c⟩ cs).tick d).Und (d + 1) := fun t c cs => by simp only [u_tick, u_mine]; exact hun
 have hob1 : ∀ (t c : Nat) (cs : List MV), ((σ.set ⟨d, t, c⟩ cs).tick d).ob p = some (encB s r) := fun t c cs => by simp only [go_sem, hne, if_false]; exact ho
 unfold Ret
 rw [WF_body (C := X) rfl func105 rfl (by kernel_rfl)]; simp only [results105]
 unfold groupB
 by_cases hg : r.g = 9
 ·have e1 : ((r.g : Int) == 9) = true := by rw [hg]; rfl
  rw [if_pos hg]
  simp -implicitDefEqProofs -dsimp only [go_sem, ho2, hne, e1]
  refine (w208 s r p lim (d + 1) hp1 hlim _ (hun1 ..) (hob1 ..)).wh ?_
  simp -implicitDefEqProofs -dsimp only [go_sem, hmy, cut_set _ _ _ _ hp, cut_und _ _ hu]
 ·have e1 : ((r.g : Int) == 9) = false := by rw [beq_eq_false_iff_ne]; omega
  rw [if_neg hg]
  have hR : [MV.str s, .int .i64 ((r.at' : Int) + 2), .int .i64 ((r.g : Int) + 1), .bool false] = encB s ⟨r.at' + 2, r.g + 1, r.bad⟩ := by rw [hb]; rfl
  have G := H ⟨r.at' + 2, r.g + 1, r.bad⟩ hb (by simp only; omega) (by simp only; omega) (by simp only; omega)
  have hw := K ⟨r.at' + 2, r.g + 1, r.bad⟩ hb (by simp only; omega) (by simp only; omega) (by simp only; omega)
  generalize rec ⟨r.at' + 2, r.g + 1, r.bad⟩ = x at G hw
  have g2 := G.in'
  have g4 := G.g9
  simp -implicitDefEqProofs -dsimp only [go_sem, ho2, hne, e1, x1, x2, hp, hlim, set_set]
  rw [hR]
  refine (hw lim (d + 1) p _ hp1 hlim ?_ ?_).wh ?_
  ·simp only [u_tick, u_set _ _ _ _ hp1, u_mine]; exact hun
  ·simp only [go_sem, if_true]
  simp -implicitDefEqProofs -dsimp only [go_sem]
  refine (w207 s x.2 [92, 41] (by omega) g2 p lim (d + 1) hp1 _ ?_ ?_).wh ?_
  ·simp only [u_tick, u_set _ _ _ _ hp1, u_mine]; exact hun
  ·simp only [go_sem, hne, if_true, if_false]
  rw [hasT_two s x.2 g2]
  cases h41 : hasE s x.2 41
  ·have h41' : ¬ hasE s x.2 41 = true := by simp [h41]
   rw [if_neg h41']
   simp -implicitDefEqProofs -dsimp only [go_sem]
   refine (w208 s x.2 p lim (d + 1) hp1 hlim _ ?_ ?_).wh ?_
   ·simp only [u_tick, u_set _ _ _ _ hp1, u_mine]; exact hun
   ·simp only [go_sem, hne, if_true, if_false]
   simp -implicitDefEqProofs -dsimp only [go_sem, hmy, cut_set _ _ _ _ hp, cut_und _ _ hu]
  ·rw [if_pos h41]
   obtain ⟨b1, b3⟩ := hasE_lt h41
   have x3 := wr64 ((x.2.at' : Int) + 2) (by omega) (by omega)
   simp -implicitDefEqProofs -dsimp only [go_sem, enc, hmy, hne, encB_good s x.2 b1, x3, hp, hlim, encB_go s x.2 _ b1, cut_set _ _ _ _ hp, cut_und _ _ hu, Int.natCast_add, encs, enc_take]
theorem w209 (r : Rd) (first : Bool) (hs : s.length ≤ 100000) (hr : r.at' < s.length) (hb : r.bad = false) (h9 : r.g ≤ 9) (hk : 10 ≤ k + 1 + r.g) (p : Mv.Loc) (lim d : Nat) (hp : p.d < d) (hlim : lim ≤ p.d) (σ : Sto) (hu : σ.Und d) (ho : σ.ob p = some (encB s r)) :
  Ret lim d 83 [.ptr p 0, .bool first] σ (.agg (enc (atomB s rec first r).1)) (σ.set p (encB s (atomB s rec first r).2)) := by
 have hun := und_succ hu
 have hne := ne_my hp
 have hmy := my_ne hp
 have hp1 := Nat.lt_succ_of_lt hp
 have ho2 := ho
 rw [encB_good s r hb] at ho2
 have x1 := wr64 ((r.at' : Int) + 1) (by omega) (by omega)
 have hun1 : ∀ (t c : Nat) (cs : List MV), ((σ.set ⟨d, t, c⟩ cs).tick d).Und (d + 1) := fun t c cs => by simp only [u_tick, u_mine]; exact hun
 have hob1 : ∀ (t c : Nat) (cs : List MV), ((σ.set ⟨d, t, c⟩ cs).tick d).ob p = some (encB s r) := fun t c cs => by simp only [go_sem, hne, if_false]; exact ho
 have g0 : s[r.at']? = some s[r.at'] := List.getElem?_eq_getElem hr
 unfold Ret
 rw [WF_body (C := X) rfl func83 rfl (by kernel_rfl)]; simp only [results83]
 unfold atomB
 simp -implicitDefEqProofs -dsimp only [go_sem]
 refine (w207 s r [92, 40] (by omega) (by omega) p lim (d + 1) hp1 _ (hun1 ..) (hob1 ..)).wh ?_
 rw [hasT_two s r (by omega), g0]
 simp only
 generalize s[r.at'] = c at g0
 cases h40 : hasE s r 40
 case true =>
  rw [if_pos rfl]
  simp -implicitDefEqProofs -dsimp only [go_sem]
  refine (w212 H K r hs (hasE_lt h40).2 hb h9 hk p lim (d + 1) hp1 hlim _ (hun1 ..) (hob1 ..)).wh ?_
  simp -implicitDefEqProofs -dsimp only [go_sem, hmy, cut_set _ _ _ _ hp, cut_und _ _ hu]
 case false =>
  rw [if_neg Bool.false_ne_true]
  simp -implicitDefEqProofs -dsimp only [go_sem]
  rw [D_dr (by kernel_rfl) rfl]
  simp -implicitDefEqProofs -dsimp only [go_sem, ho2, hne, g0]
  cases h10 : c == 10
  ·have h10' : ¬ c = 10 := by simpa using h10
   rw [if_neg h10']
   cases h92 : c == 92
   ·have h92' : ¬ c = 92 := by simpa using h92
    rw [if_neg h92']
    cases h91 : c == 91
    ·have h91' : ¬ c = 91 := by simpa using h91
     rw [if_neg h91']
     by_cases h46 : c = 46
     ·subst h46
      rw [signB_dot]
      simp -implicitDefEqProofs -dsimp only [go_sem, enc, show ((46 : UInt8) == 46) = true from rfl, hmy, x1, hp, hlim, nd, encs, encB_go s r _ hb, cut_set _ _ _ _ hp, cut_und _ _ hu, Int.natCast_add]
     ·have h46' : (c == 46) = false := by simpa using h46
      by_cases h94 : c = 94
      ·subst h94
       cases first
       ·rw [signB_hat0]
        simp -implicitDefEqProofs -dsimp only [go_sem, enc, h46', show ((94 : UInt8) == 94) = true from rfl, hmy, x1, hp, hlim, lit, encs, encB_go s r _ hb, cut_set _ _ _ _ hp, cut_und _ _ hu, Int.natCast_add]
       ·rw [signB_hat1]
        simp -implicitDefEqProofs -dsimp only [go_sem, enc, h46', show ((94 : UInt8) == 94) = true from rfl, hmy, x1, hp, hlim, nd, encs, encB_go s r _ hb, cut_set _ _ _ _ hp, cut_und _ _ hu, Int.natCast_add]
      ·have h94' : (c == 94) = false := by simpa using h94
       by_cases h36 : c = 36
       ·subst h36
        simp -implicitDefEqProofs -dsimp only [go_sem, h46', h94', show ((36 : UInt8) == 36) = true from rfl]
        refine (w215 s r (by omega) hr p lim (d + 1) hp1 _ ?_ ?_).wh ?_
        ·simp only [u_tick, u_mine]; exact hun
        ·simp only [go_sem, hne, if_false]; exact ho
        cases he : endsB s r.at'
        ·rw [signB_dol0 _ _ _ he]
         simp -implicitDefEqProofs -dsimp only [go_sem, enc, ho2, hne, hmy, x1, hp, hlim, lit, encs, encB_go s r _ hb, cut_set _ _ _ _ hp, cut_und _ _ hu, Int.natCast_add]
        ·rw [signB_dol1 _ _ _ he]
         simp -implicitDefEqProofs -dsimp only [go_sem, enc, ho2, hne, hmy, x1, hp, hlim, nd, encs, encB_go s r _ hb, cut_set _ _ _ _ hp, cut_und _ _ hu, Int.natCast_add]
       ·have h36' : (c == 36) = false := by simpa using h36
        rw [signB_lit _ _ _ _ h46 h94 h36]
        simp -implicitDefEqProofs -dsimp only [go_sem, enc, h46', h94', h36', hmy, x1, hp, hlim, lit, encs, encB_go s r _ hb, cut_set _ _ _ _ hp, cut_und _ _ hu, Int.natCast_add]
    ·have h91' : c = 91 := by simpa using h91
     rw [if_pos h91']
     subst h91'
     simp -implicitDefEqProofs -dsimp only [go_sem]
     refine (w214 s r hs g0 hb p lim (d + 1) hp1 hlim _ ?_ ?_).wh ?_
     ·simp only [u_tick, u_mine]; exact hun
     ·simp only [go_sem, hne, if_false]; exact ho
     cases hbr : bracketS (s.drop (r.at' + 1)) with
     | none => simp -implicitDefEqProofs -dsimp only [go_sem, hmy, cut_set _ _ _ _ hp, cut_und _ _ hu]
     | some x => simp -implicitDefEqProofs -dsimp only [go_sem, hmy, cut_set _ _ _ _ hp, cut_und _ _ hu]
   ·have h92' : c = 92 := by simpa using h92
    rw [if_pos h92']
    simp -implicitDefEqProofs -dsimp only [go_sem]
    refine (w213 s r (by omega) hr hb p lim (d + 1) hp1 hlim _ ?_ ?_).wh ?_
    ·simp only [u_tick, u_mine]; exact hun
    ·simp only [go_sem, hne, if_false]; exact ho
    simp -implicitDefEqProofs -dsimp only [go_sem, hmy, cut_set _ _ _ _ hp, cut_und _ _ hu]
  ·have h10' : c = 10 := by simpa using h10
   rw [if_pos h10']
   simp -implicitDefEqProofs -dsimp only [go_sem]
   refine (w208 s r p lim (d + 1) hp1 hlim _ ?_ ?_).wh ?_
   ·simp only [u_tick, u_mine]; exact hun
   ·simp only [go_sem, hne, if_false]; exact ho
   simp -implicitDefEqProofs -dsimp only [go_sem, hmy, cut_set _ _ _ _ hp, cut_und _ _ hu]
end
end Go.Proofs.Tryz.E
