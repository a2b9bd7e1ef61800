/- Walks: what the functions compute. -/
import Derived.Test.YtadeobleehcaaaaGreatDoorWC2
import Derived.Test.YtadeobleehcaaaaGreatDoorE21
set_option linter.unusedVariables false
set_option linter.unusedSimpArgs false
/- The other reader, of basic patterns: an atom. -/
namespace Go.Proofs.Tryz.E
open Go.Mv
set_option maxHeartbeats 4000000
set_option maxRecDepth 20000
section
variable {C : Cfg} {lim d : Nat} {a : Nat → MV} {σ : Sto} {ops : Array Oper} {l news : List Oper} {dst : Option Tmp} {ty : TypeId} {pos : String} {aft : Array Edge} {j : Nat} {w : Bool} {Q : (Nat → MV) → Sto → Prop}
@[go_sem ↓] theorem wr_minB {xs : Array Operand} {ts : Array TypeId} : WR C lim d ops news (⟨dst, .call ⟨.builtin .min, xs, ts⟩, ty, pos, aft, some (j, w)⟩ :: l) a σ Q ↔ Opt (gdT ops a j w) fun b => Opt (gvO b (mm false (xs.toList.map (valO a)))) fun v => WR C lim d ops news l (putD a dst v) σ Q := WR_gp rfl rfl rfl rfl (fun _ => map_fst _) (fun _ => map_fst _)
end
def HT (s : List UInt8) (k : Nat) (rec : Rd → Nd × Rd) : Prop := ∀ r : Rd, r.bad = false → r.at' ≤ s.length → r.g ≤ 9 → 10 ≤ k + r.g →
 ∀ (lim d : Nat) (p : Mv.Loc) (σ : Sto), p.d < d → lim ≤ p.d → σ.Und d → σ.ob p = some (encT s r) → Ret lim d 66 [.ptr p 0] σ (.agg (enc (rec r).1)) (σ.set p (encT s (rec r).2))
theorem sigB_dot (s : List UInt8) (f : Bool) (n : Nat) : signB s f n 46 = nd 2 [] := by simp [signB]
theorem sigB_hat0 (s : List UInt8) (n : Nat) : signB s false n 94 = lit (94 : UInt8).toNat := by simp [signB]
theorem sigB_hat1 (s : List UInt8) (n : Nat) : signB s true n 94 = nd 4 [] := by simp [signB]
theorem sigB_dol0 (s : List UInt8) (f : Bool) (n : Nat) (h : endsB s n = false) : signB s f n 36 = lit (36 : UInt8).toNat := by simp [signB, h]
theorem sigB_dol1 (s : List UInt8) (f : Bool) (n : Nat) (h : endsB s n = true) : signB s f n 36 = nd 5 [] := by simp [signB, h]
theorem sigB_lit (s : List UInt8) (f : Bool) (n : Nat) (c : UInt8) (h : ¬ c = 46) (h2 : ¬ c = 94) (h3 : ¬ c = 36) : signB s f n c = lit c.toNat := by simp [signB, h, h2, h3]
section
variable {s : List UInt8} {k : Nat} {rec : Rd → Nd × Rd} (H : HB s k rec) (K : HT s k rec)
include H K
theorem v44 (r : Rd) (bg : Bool) (hs : s.length ≤ 100000) (hr : r.at' < s.length) (hb : r.bad = false) (h9 : r.g ≤ 9) (hk : 10 ≤ k + 1 + r.g) (p : Mv.Loc) (lim d : Nat) (hp : p.d < d) (hlim : lim ≤ p.d) (σ : Sto) (hu : σ.Und d) (ho : σ.ob p = some (encT s r)) :
  Ret lim d 108 [.ptr p 0, .bool bg] σ (.agg (enc (atomB s rec bg r).1)) (σ.set p (encT s (atomB s rec bg r).2)) := by
 have hun := und_succ hu
 have hne := ne_my hp
 have hmy := my_ne hp
 have hp1 := Nat.lt_succ_of_lt hp
 have ho2 := ho
 rw [encT_good s r hb] at ho2
 have x1 := wr64 ((r.at' : Int) + 1) (by omega) (by omega)
 have x1' := wr64 ((r.at' : Int) + 2) (by omega) (by omega)
 have x1'' := wr64 ((r.at' : Int) + 3) (by omega) (by omega)
 have x2 := wr64 ((r.g : Int) + 1) (by omega) (by omega)
 have hun1 : ∀ (t c : Nat) (cs : List MV), ((σ.set ⟨d, t, c⟩ cs).tick d).Und (d + 1) := fun t c cs => by simp only [u_tick, u_mine]; exact hun
 have hob1 : ∀ (t c : Nat) (cs : List MV), ((σ.set ⟨d, t, c⟩ cs).tick d).ob p = some (encT s r) := fun t c cs => by simp only [go_sem, hne, if_false]; exact ho
 have g0 : s[r.at']? = some s[r.at'] := List.getElem?_eq_getElem hr
 unfold Ret
 rw [WF_body (C := X) rfl func108 rfl (by kernel_rfl)]; simp only [results108]
 unfold atomB
 simp -implicitDefEqProofs -dsimp only [↓reduceIte, ↓W_seq, go_sem, Nat.reduceEqDiff, Nat.reduceAdd, Nat.reduceLT]
 rw [D_dr (by kernel_rfl) rfl]
 simp -implicitDefEqProofs -dsimp only [↓reduceIte, ↓W_seq, go_sem, evNews, Nat.reduceEqDiff, reduceCtorEq, ho2, hne, g0]
 refine (v57 s r p lim (d + 1) hp1 _ (hun1 ..) (hob1 ..)).wh ?_
 simp -implicitDefEqProofs -dsimp only [↓reduceIte, go_sem, Nat.reduceEqDiff, reduceCtorEq]
 refine (k2 s r 40 (by omega) (by omega) p lim (d + 1) hp1 _ (hun1 ..) (hob1 ..)).wh ?_
 rw [g0]
 simp only
 generalize s[r.at'] = c at g0
 cases h40 : hasE s r 40
 case true =>
  rw [if_pos rfl]
  obtain ⟨-, h40l⟩ := hasE_lt h40
  unfold groupB
  by_cases hg : r.g = 9
  ·have e1 : ((r.g : Int) == 9) = true := by rw [hg]; rfl
   rw [if_pos hg]
   simp -implicitDefEqProofs -dsimp only [↓reduceIte, ↓W_seq, go_sem, reduceCtorEq, ho2, hne, e1]
   refine (v24 s r p lim (d + 1) hp1 hlim _ (hun1 ..) (hob1 ..)).wh ?_
   simp -implicitDefEqProofs -dsimp only [↓reduceIte, go_sem, Nat.reduceEqDiff, Nat.reduceAdd, reduceCtorEq, hmy, cut_set _ _ _ _ hp, cut_und _ _ hu]
  ·have e1 : ((r.g : Int) == 9) = false := by rw [beq_eq_false_iff_ne]; omega
   rw [if_neg hg]
   have hR : [MV.str s, .int .i64 r.at', .bool false, .int .i64 ((r.g : Int) + 1), .bool false] = encT s ⟨r.at', r.g + 1, r.bad⟩ := by rw [hb]; rfl
   have hR2 : [MV.str s, .int .i64 ((r.at' : Int) + 2), .bool false, .int .i64 ((r.g : Int) + 1), .bool false] = encT s ⟨r.at' + 2, r.g + 1, r.bad⟩ := by rw [hb]; rfl
   simp -implicitDefEqProofs -dsimp only [↓reduceIte, ↓W_seq, go_sem, Nat.reduceEqDiff, Nat.reduceAdd, Nat.reduceLeDiff, Nat.reduceLT, reduceCtorEq, ho2, hne, e1, x2, hp, hlim]
   rw [D_dr (by kernel_rfl) rfl]
   simp -implicitDefEqProofs -dsimp only [↓reduceIte, go_sem, reduceCtorEq, hne]
   refine (v57 s ⟨r.at', r.g + 1, r.bad⟩ p (d + 1) (d + 1) hp1 _ ?_ ?_).wh ?_
   ·simp only [u_tick, u_set _ _ _ _ hp1, u_mine]; exact hun
   ·simp only [go_sem, hne, if_true, if_false]; rw [← hR]
   simp -implicitDefEqProofs -dsimp only [↓reduceIte, ↓W_seq, go_sem, evNews, Nat.reduceEqDiff, Nat.reduceAdd, Nat.reduceLeDiff, Int.cast_ofNat_Int, reduceCtorEq, hne, x1', hp, hlim]
   have G := H ⟨r.at' + 2, r.g + 1, r.bad⟩ hb (by simp only; omega) (by simp only; omega) (by simp only; omega)
   have hw := K ⟨r.at' + 2, r.g + 1, r.bad⟩ hb (by simp only; omega) (by simp only; omega) (by simp only; omega)
   generalize rec ⟨r.at' + 2, r.g + 1, r.bad⟩ = x at G hw
   have g2 := G.in'
   have g4 := G.g9
   refine (hw lim (d + 1) p _ hp1 hlim ?_ ?_).wh ?_
   ·simp only [u_tick, u_set _ _ _ _ hp1, u_mine]; exact hun
   ·simp only [go_sem, hne, if_true, if_false]; rw [← hR2]
   cases hxb : x.2.bad
   case true =>
    have hnx2 : ¬ hasE s x.2 41 = true := by rw [hasE_bad hxb]; simp
    rw [if_neg hnx2, fail_bad hxb]
    simp -implicitDefEqProofs -dsimp only [↓reduceIte, ↓W_seq, go_sem, Nat.reduceEqDiff, Nat.reduceAdd, Nat.reduceLT, reduceCtorEq, enc, hmy, hne, encT_eq, hxb, z0, encs, cut_set _ _ _ _ hp, cut_und _ _ hu]
   case false =>
    simp -implicitDefEqProofs -dsimp only [↓reduceIte, ↓W_seq, go_sem, Nat.reduceEqDiff, Nat.reduceAdd, Nat.reduceLT, reduceCtorEq, hne, encT_eq, hxb]
    refine (v42 s x.2 p lim (d + 1) hp1 _ ?_ ?_).wh ?_
    ·simp only [u_tick, u_set _ _ _ _ hp1, u_mine]; exact hun
    ·simp only [go_sem, hne, if_true, if_false]; rw [encT_good s x.2 hxb]
    simp -implicitDefEqProofs -dsimp only [↓reduceIte, go_sem, Nat.reduceEqDiff, reduceCtorEq]
    refine (k2 s x.2 41 (by omega) g2 p lim (d + 1) hp1 _ ?_ ?_).wh ?_
    ·simp only [u_tick, u_set _ _ _ _ hp1, u_mine]; exact hun
    ·simp only [go_sem, hne, if_true, if_false]; rw [encT_good s x.2 hxb]
    cases h41 : hasE s x.2 41
    ·have h41' : ¬ hasE s x.2 41 = true := by simp [h41]
     rw [if_neg h41']
     simp -implicitDefEqProofs -dsimp only [↓reduceIte, ↓W_seq, go_sem, reduceCtorEq]
     refine (v24 s x.2 p lim (d + 1) hp1 hlim _ ?_ ?_).wh ?_
     ·simp only [u_tick, u_set _ _ _ _ hp1, u_mine]; exact hun
     ·simp only [go_sem, hne, if_true, if_false]; rw [encT_good s x.2 hxb]
     simp -implicitDefEqProofs -dsimp only [↓reduceIte, go_sem, Nat.reduceEqDiff, Nat.reduceAdd, reduceCtorEq, hmy, cut_set _ _ _ _ hp, cut_und _ _ hu]
    ·rw [if_pos h41]
     obtain ⟨b1, b3⟩ := hasE_lt h41
     have x3 := wr64 ((x.2.at' : Int) + 2) (by omega) (by omega)
     simp -implicitDefEqProofs -dsimp only [↓reduceIte, ↓W_seq, go_sem, reduceCtorEq]
     rw [D_dr (by kernel_rfl) rfl]
     simp -implicitDefEqProofs -dsimp only [↓reduceIte, go_sem, reduceCtorEq, hne]
     refine (v42 s x.2 p (d + 1) (d + 1) hp1 _ ?_ ?_).wh ?_
     ·simp only [u_tick, u_set _ _ _ _ hp1, u_mine]; exact hun
     ·simp only [go_sem, hne, if_true, if_false]; rw [encT_good s x.2 hxb]
     simp -implicitDefEqProofs -dsimp only [↓reduceIte, ↓W_seq, go_sem, evNews, Nat.reduceEqDiff, Nat.reduceAdd, Nat.reduceMul, Nat.reduceLeDiff, Nat.reduceLT, Int.cast_ofNat_Int, enc, hmy, hne, x3, hp, hlim, encT_go s x.2 _ b1, cut_set _ _ _ _ hp, cut_und _ _ hu, Int.natCast_add, encs, enc_take]
 case false =>
  rw [if_neg Bool.false_ne_true]
  cases h10 : c == 10
  ·have h10' : ¬ c = 10 := by simpa using h10
   rw [if_neg h10']
   cases h92 : c == 92
   ·have h92' : ¬ c = 92 := by simpa using h92
    rw [if_neg h92']
    cases h91 : c == 91
    ·have h91' : ¬ c = 91 := by simpa using h91
     rw [if_neg h91']
     by_cases h46 : c = 46
     ·subst h46
      rw [sigB_dot]
      simp -implicitDefEqProofs -dsimp only [↓reduceIte, ↓W_seq, go_sem, Nat.reduceEqDiff, Nat.reduceAdd, Nat.reduceLeDiff, Int.cast_ofNat_Int, reduceCtorEq, enc, h92, h91, h10, show ((46 : UInt8) == 46) = true from rfl, ho2, hne, hmy, x1, hp, hlim, nd, encs, encT_go s r _ hb, cut_set _ _ _ _ hp, cut_und _ _ hu, Int.natCast_add]
     ·have h46' : (c == 46) = false := by simpa using h46
      by_cases h94 : c = 94
      ·subst h94
       cases bg
       ·rw [sigB_hat0]
        simp -implicitDefEqProofs -dsimp only [↓reduceIte, ↓W_seq, go_sem, Nat.reduceEqDiff, reduceCtorEq, h92, h91, h10, h46', show ((94 : UInt8) == 94) = true from rfl, ho2, hne]
        rw [D_dr (by kernel_rfl) rfl]
        simp -implicitDefEqProofs -dsimp only [↓reduceIte, ↓W_seq, go_sem, evNews, Nat.reduceEqDiff, Nat.reduceAdd, Nat.reduceLeDiff, Int.cast_ofNat_Int, reduceCtorEq, enc, show ((94 : UInt8) == 36) = false from rfl, ho2, hne, hmy, x1, hp, hlim, lit, encs, encT_go s r _ hb, cut_set _ _ _ _ hp, cut_und _ _ hu, Int.natCast_add]
       ·rw [sigB_hat1]
        simp -implicitDefEqProofs -dsimp only [↓reduceIte, ↓W_seq, go_sem, Nat.reduceEqDiff, Nat.reduceAdd, Nat.reduceLeDiff, Int.cast_ofNat_Int, reduceCtorEq, enc, h92, h91, h10, h46', show ((94 : UInt8) == 94) = true from rfl, ho2, hne, hmy, x1, hp, hlim, nd, encs, encT_go s r _ hb, cut_set _ _ _ _ hp, cut_und _ _ hu, Int.natCast_add]
      ·have h94' : (c == 94) = false := by simpa using h94
       by_cases h36 : c = 36
       ·subst h36
        simp -implicitDefEqProofs -dsimp only [↓reduceIte, ↓W_seq, go_sem, Nat.reduceEqDiff, reduceCtorEq, h92, h91, h10, h46', h94']
        rw [D_dr (by kernel_rfl) rfl]
        by_cases hend : r.at' + 1 = s.length
        ·have e1 : ((r.at' : Int) + 1 == (s.length : Int)) = true := by rw [beq_iff_eq]; omega
         have he : endsB s r.at' = true := by unfold endsB; rw [List.getElem?_eq_none (by omega)]; rfl
         rw [sigB_dol1 _ _ _ he]
         simp -implicitDefEqProofs -dsimp only [↓reduceIte, ↓W_seq, go_sem, evNews, Nat.reduceEqDiff, Nat.reduceAdd, Nat.reduceLeDiff, Int.cast_ofNat_Int, reduceCtorEq, enc, show ((36 : UInt8) == 36) = true from rfl, e1, ho2, hne, hmy, x1, hp, hlim, nd, encs, encT_go s r _ hb, cut_set _ _ _ _ hp, cut_und _ _ hu, Int.natCast_add]
        ·have e1 : ((r.at' : Int) + 1 == (s.length : Int)) = false := by rw [beq_eq_false_iff_ne]; omega
         have g1 : s[r.at' + 1]? = some s[r.at' + 1] := List.getElem?_eq_getElem (by omega)
         have m1 : (if (s.length : Int) < (r.at' : Int) + 3 then (s.length : Int) else (r.at' : Int) + 3) = ((min (r.at' + 3) s.length : Nat) : Int) := by split <;> omega
         have e2 : (0 : Int) ≤ ((min (r.at' + 3) s.length : Nat) : Int) ∧ ((min (r.at' + 3) s.length : Nat) : Int) ≤ (s.length : Int) := by omega
         have e3 : (0 : Int) ≤ (r.at' : Int) + 1 ∧ (r.at' : Int) + 1 ≤ ((min (r.at' + 3) s.length : Nat) : Int) := by omega
         have t3 : ((r.at' : Int) + 1).toNat = r.at' + 1 := by omega
         have e4 : ((s.take (min (r.at' + 3) s.length)).drop (r.at' + 1) == [92, 41]) = endsB s r.at' := by
          unfold endsB
          rw [g1]
          by_cases h2 : r.at' + 2 < s.length
          ·have g2 : s[r.at' + 2]? = some s[r.at' + 2] := List.getElem?_eq_getElem h2
           have hm : min (r.at' + 3) s.length = r.at' + 1 + 2 := by omega
           have hc := cut_at s (r.at' + 1) 0 2
           simp only [Nat.add_zero, List.drop_zero] at hc
           rw [hm, hc, List.drop_eq_getElem_cons (by omega), List.drop_eq_getElem_cons (show r.at' + 1 + 1 < s.length by omega), g2]
           simp only [List.take_succ_cons, List.take_zero]
           rw [Bool.eq_iff_iff]; simp
          ·have hm : min (r.at' + 3) s.length = r.at' + 1 + 1 := by omega
           have hc := cut_at s (r.at' + 1) 0 1
           simp only [Nat.add_zero, List.drop_zero] at hc
           rw [hm, hc, List.drop_eq_getElem_cons (by omega), List.getElem?_eq_none (show s.length ≤ r.at' + 2 by omega)]
           simp only [List.take_succ_cons, List.take_zero]
           rw [Bool.eq_iff_iff]; simp
         simp -implicitDefEqProofs -dsimp only [↓reduceIte, ↓W_seq, go_sem, evNews, Nat.reduceEqDiff, Nat.reduceAdd, Nat.reduceLeDiff, reduceCtorEq, show ((36 : UInt8) == 36) = true from rfl, e1, ho2, hne, x1, x1'', mm, mmGo, bnd, e3]
         simp only [m1]
         refine ⟨e2, by omega, ?_⟩
         rw [Int.toNat_natCast, t3, e4]
         cases he : endsB s r.at'
         ·rw [sigB_dol0 _ _ _ he]
          simp -implicitDefEqProofs -dsimp only [↓reduceIte, go_sem, Nat.reduceAdd, Int.cast_ofNat_Int, enc, hmy, hp, hlim, lit, encs, encT_go s r _ hb, cut_set _ _ _ _ hp, cut_und _ _ hu, Int.natCast_add, Bool.false_eq_true]
         ·rw [sigB_dol1 _ _ _ he]
          simp -implicitDefEqProofs -dsimp only [↓reduceIte, go_sem, Nat.reduceAdd, Int.cast_ofNat_Int, enc, hmy, hp, hlim, nd, encs, encT_go s r _ hb, cut_set _ _ _ _ hp, cut_und _ _ hu, Int.natCast_add]
       ·have h36' : (c == 36) = false := by simpa using h36
        rw [sigB_lit _ _ _ _ h46 h94 h36]
        simp -implicitDefEqProofs -dsimp only [↓reduceIte, ↓W_seq, go_sem, Nat.reduceEqDiff, reduceCtorEq, h92, h91, h10, h46', h94']
        rw [D_dr (by kernel_rfl) rfl]
        simp -implicitDefEqProofs -dsimp only [↓reduceIte, ↓W_seq, go_sem, evNews, Nat.reduceEqDiff, Nat.reduceAdd, Nat.reduceLeDiff, Int.cast_ofNat_Int, reduceCtorEq, enc, h36', ho2, hne, hmy, x1, hp, hlim, lit, encs, encT_go s r _ hb, cut_set _ _ _ _ hp, cut_und _ _ hu, Int.natCast_add]
    ·have h91' : c = 91 := by simpa using h91
     rw [if_pos h91']
     subst h91'
     simp -implicitDefEqProofs -dsimp only [↓reduceIte, ↓W_seq, go_sem, Nat.reduceEqDiff, reduceCtorEq, h10, h92, h91]
     rw [D_lx [] (by kernel_rfl) (by kernel_rfl)]; simp -implicitDefEqProofs -dsimp only [↓reduceIte, ↓W_seq, go_sem, evNews, Nat.reduceEqDiff, Nat.reduceAdd, Nat.reduceLeDiff, Nat.reduceLT, reduceCtorEq, List.takeWhile_cons, List.dropWhile_cons, isTail, evNews, List.not_mem_nil, not_false_eq_true, decide_true, decide_false, Bool.not_true, Bool.not_false, false_imp_iff, implies_true, ne_eq, ho2, hne]
     refine (w59 s r.at' (by omega) g0 (d + 1) (d + 1) (Nat.le_refl _) _ (hun1 ..)).wh ?_
     cases hbr : bracketS (s.drop (r.at' + 1)) with
     | none =>
      simp -implicitDefEqProofs -dsimp only [↓reduceIte, go_sem, Nat.reduceEqDiff, Int.reduceBNe, reduceCtorEq, brkV_none]
      refine ⟨rfl, (v24 s r p lim (d + 1) hp1 hlim _ ?_ ?_).wh ?_⟩
      ·simp only [u_tick, u_mine]; exact hun
      ·simp only [go_sem, hne, if_false]; exact ho
      simp -implicitDefEqProofs -dsimp only [↓reduceIte, go_sem, Nat.reduceEqDiff, Nat.reduceAdd, reduceCtorEq, hmy, cut_set _ _ _ _ hp, cut_und _ _ hu]
     | some x =>
      have hq := (bracket_le _ _ hbr).2.2
      obtain ⟨q0, q1, q2, q3, hqe⟩ := ln4 hq
      rw [hqe] at hq
      simp -implicitDefEqProofs -dsimp only [↓reduceIte, go_sem, Nat.reduceEqDiff, Nat.reduceAdd, Nat.reduceLeDiff, Int.reduceBNe, reduceCtorEq, enc, brkV_some, hmy, hne, hqe, encS, ho2, hp, hlim, inN, encs, encT_go s r _ hb, cut_set _ _ _ _ hp, cut_und _ _ hu, List.getD_cons_zero, List.getD_cons_succ]
   ·have h92' : c = 92 := by simpa using h92
    rw [if_pos h92']
    simp -implicitDefEqProofs -dsimp only [↓reduceIte, ↓W_seq, go_sem, Nat.reduceEqDiff, reduceCtorEq, h10, h92]
    refine (v58 s r (by omega) hr hb p lim (d + 1) hp1 hlim _ (hun1 ..) (hob1 ..)).wh ?_
    simp -implicitDefEqProofs -dsimp only [↓reduceIte, go_sem, Nat.reduceEqDiff, Nat.reduceAdd, reduceCtorEq, hmy, cut_set _ _ _ _ hp, cut_und _ _ hu]
  ·have h10' : c = 10 := by simpa using h10
   rw [if_pos h10']
   simp -implicitDefEqProofs -dsimp only [↓reduceIte, ↓W_seq, go_sem, Nat.reduceEqDiff, reduceCtorEq, h10]
   refine (v24 s r p lim (d + 1) hp1 hlim _ (hun1 ..) (hob1 ..)).wh ?_
   simp -implicitDefEqProofs -dsimp only [↓reduceIte, go_sem, Nat.reduceEqDiff, Nat.reduceAdd, reduceCtorEq, hmy, cut_set _ _ _ _ hp, cut_und _ _ hu]
end
end Go.Proofs.Tryz.E
