/- Walks: what the functions compute. Walks: what the functions compute. -/
import Derived.Test.YthmgjkngkhdjjaaGreatDoorWE32
set_option linter.unusedVariables false
set_option linter.unusedSimpArgs false
/- The other reader: what is escaped, what is repeated. -/
namespace Go.Proofs.Tryz.E
open Go.Mv
set_option maxHeartbeats 4000000
set_option maxRecDepth 20000
theorem its_or (c : UInt8) : (([46, 91, 93, 42, 94, 36, 47, 92, 38, 45] : List UInt8).contains c || ([40, 41, 43, 63, 123, 125, 124] : List UInt8).contains c) = itselfS c := by
 have : ∀ n : Fin 256, (([46, 91, 93, 42, 94, 36, 47, 92, 38, 45] : List UInt8).contains (UInt8.ofNat n) || ([40, 41, 43, 63, 123, 125, 124] : List UInt8).contains (UInt8.ofNat n)) = itselfS (UInt8.ofNat n) := by decide
 have h := this ⟨c.toNat, UInt8.toNat_lt c⟩
 simpa using h
theorem encQ_go (s : List UInt8) (r : Rd) (a : Nat) (h : r.bad = false) : encQ s (r.go a) = [.str s, .int .i64 a, .bool true, .int .i64 r.g, .bool false] := by simp only [encQ, Rd.go, h]
theorem encQ_good (s : List UInt8) (r : Rd) (h : r.bad = false) : encQ s r = [.str s, .int .i64 r.at', .bool true, .int .i64 r.g, .bool false] := by simp only [encQ, h]
theorem w58 (s : List UInt8) (r : Rd) (hs : s.length ≤ 1000000) (hr : r.at' < s.length) (hb : r.bad = false) (p : Mv.Loc) (lim d : Nat) (hp : p.d < d) (hlim : lim ≤ p.d) (σ : Sto) (hu : σ.Und d) (ho : σ.ob p = some (encQ s r)) :
  Ret lim d 133 [.ptr p 0] σ (.agg (enc (escS s r).1)) (σ.set p (encQ s (escS s r).2)) := by
 have hun := und_succ hu
 have hne := ne_my hp
 have hmy := my_ne hp
 have hp1 := Nat.lt_succ_of_lt hp
 have ho2 := ho
 rw [encQ_good s r hb] at ho2
 have hun1 : ∀ (t c : Nat) (cs : List MV), ((σ.set ⟨d, t, c⟩ cs).tick d).Und (d + 1) := fun t c cs => by simp only [u_tick, u_mine]; exact hun
 have hob1 : ∀ (t c : Nat) (cs : List MV), ((σ.set ⟨d, t, c⟩ cs).tick d).ob p = some (encQ s r) := fun t c cs => by simp only [go_sem, hne, if_false]; exact ho
 have x0 := wr64 ((s.length : Int) - r.at') (by omega) (by omega)
 have x1 := wr64 ((r.at' : Int) + 1) (by omega) (by omega)
 have x2 := wr64 ((r.at' : Int) + 2) (by omega) (by omega)
 have t1 : ((r.at' : Int) + 1).toNat = r.at' + 1 := by omega
 have p1 : (0 : Int) ≤ (r.at' : Int) + 1 := by omega
 unfold Ret
 rw [WF_body (C := X) rfl func133 rfl (by kernel_rfl)]; simp only [results133]
 unfold escS
 simp -implicitDefEqProofs -dsimp only [go_sem]
 rw [D_dr (by kernel_rfl) rfl]
 by_cases hl : r.at' + 1 < s.length
 ·have e1 : ¬ ((s.length : Int) - r.at' < 2) := by omega
  have g1 : s[r.at' + 1]? = some s[r.at' + 1] := List.getElem?_eq_getElem hl
  rw [g1]
  simp only
  generalize s[r.at' + 1] = c at g1
  simp -implicitDefEqProofs -dsimp only [go_sem, ho2, hne, x0, e1]
  rw [D_dr (by kernel_rfl) rfl]
  by_cases h110 : c = 110
  ·subst h110
   rw [if_pos rfl]
   simp -implicitDefEqProofs -dsimp only [go_sem, enc, ho2, hne, hmy, x1, x2, t1, p1, g1, show ¬ (((110 : UInt8).toNat : Int) ≤ 57) by decide, show (49 : Int) ≤ ((110 : UInt8).toNat : Int) by decide, show ((110 : UInt8) == 110) = true from rfl, hp, hlim, lit, encs, encQ_go s r _ hb, cut_set _ _ _ _ hp, cut_und _ _ hu, Int.natCast_add]
  ·have h110' : (c == 110) = false := by simpa using h110
   rw [if_neg h110]
   by_cases h49 : 49 ≤ c.toNat ∧ c.toNat ≤ 57
   ·have e2 : ((49 : Int) ≤ (c.toNat : Int)) := by omega
    have e3 : ((c.toNat : Int) ≤ 57) := by omega
    have y1 := wru8 ((c.toNat : Int) - 48) (by omega) (by omega)
    have y2 := wr64 ((c.toNat : Int) - 48) (by omega) (by omega)
    rw [if_pos h49]
    simp -implicitDefEqProofs -dsimp only [go_sem, enc, ho2, hne, hmy, x1, x2, t1, p1, g1, e2, e3, y1, y2, hp, hlim, encs, encQ_go s r _ hb, cut_set _ _ _ _ hp, cut_und _ _ hu, Int.natCast_add]
   ·rw [if_neg h49]
    rw [← its_or]
    by_cases e2 : 49 ≤ c.toNat
    ·have e2' : ((49 : Int) ≤ (c.toNat : Int)) := by omega
     have e3 : ¬ ((c.toNat : Int) ≤ 57) := by omega
     simp -implicitDefEqProofs -dsimp only [go_sem, ho2, hne, x1, t1, p1, g1, h110', e2', e3]
     refine (w68 _ c (by simp) lim (d + 1) _ ?_).wh ?_
     ·simp only [go_sem, u_tick, u_mine]; exact hun
     cases hc1 : ([46, 91, 93, 42, 94, 36, 47, 92, 38, 45] : List UInt8).contains c
     ·simp -implicitDefEqProofs -dsimp only [go_sem, ho2, hne]
      refine (w68 _ c (by simp) lim (d + 1) _ ?_).wh ?_
      ·simp only [go_sem, u_tick, u_mine]; exact hun
      cases hc2 : ([40, 41, 43, 63, 123, 125, 124] : List UInt8).contains c
      ·simp -implicitDefEqProofs -dsimp only [go_sem]
       refine (w24 s r p lim (d + 1) hp1 hlim _ ?_ ?_).wh ?_
       ·simp only [go_sem, u_tick, u_mine]; exact hun
       ·simp only [go_sem, hne, if_false]; exact ho
       simp -implicitDefEqProofs -dsimp only [go_sem, hmy, cut_set _ _ _ _ hp, cut_und _ _ hu, Bool.or_self, Bool.false_eq_true]
      ·simp -implicitDefEqProofs -dsimp only [go_sem, enc, ho2, hne, hmy, x2, hp, hlim, lit, encs, encQ_go s r _ hb, cut_set _ _ _ _ hp, cut_und _ _ hu, Int.natCast_add, Bool.false_or]
     ·simp -implicitDefEqProofs -dsimp only [go_sem, enc, ho2, hne, hmy, x2, hp, hlim, lit, encs, encQ_go s r _ hb, cut_set _ _ _ _ hp, cut_und _ _ hu, Int.natCast_add, Bool.true_or]
    ·have e2' : ¬ ((49 : Int) ≤ (c.toNat : Int)) := by omega
     simp -implicitDefEqProofs -dsimp only [go_sem, ho2, hne, x1, t1, p1, g1, h110', e2']
     refine (w68 _ c (by simp) lim (d + 1) _ ?_).wh ?_
     ·simp only [go_sem, u_tick, u_mine]; exact hun
     cases hc1 : ([46, 91, 93, 42, 94, 36, 47, 92, 38, 45] : List UInt8).contains c
     ·simp -implicitDefEqProofs -dsimp only [go_sem, ho2, hne]
      refine (w68 _ c (by simp) lim (d + 1) _ ?_).wh ?_
      ·simp only [go_sem, u_tick, u_mine]; exact hun
      cases hc2 : ([40, 41, 43, 63, 123, 125, 124] : List UInt8).contains c
      ·simp -implicitDefEqProofs -dsimp only [go_sem]
       refine (w24 s r p lim (d + 1) hp1 hlim _ ?_ ?_).wh ?_
       ·simp only [go_sem, u_tick, u_mine]; exact hun
       ·simp only [go_sem, hne, if_false]; exact ho
       simp -implicitDefEqProofs -dsimp only [go_sem, hmy, cut_set _ _ _ _ hp, cut_und _ _ hu, Bool.or_self, Bool.false_eq_true]
      ·simp -implicitDefEqProofs -dsimp only [go_sem, enc, ho2, hne, hmy, x2, hp, hlim, lit, encs, encQ_go s r _ hb, cut_set _ _ _ _ hp, cut_und _ _ hu, Int.natCast_add, Bool.false_or]
     ·simp -implicitDefEqProofs -dsimp only [go_sem, enc, ho2, hne, hmy, x2, hp, hlim, lit, encs, encQ_go s r _ hb, cut_set _ _ _ _ hp, cut_und _ _ hu, Int.natCast_add, Bool.true_or]
 ·have e1 : ((s.length : Int) - r.at' < 2) := by omega
  rw [List.getElem?_eq_none (by omega)]
  simp only
  simp -implicitDefEqProofs -dsimp only [go_sem, ho2, hne, x0, e1]
  refine (w24 s r p lim (d + 1) hp1 hlim _ (hun1 ..) (hob1 ..)).wh ?_
  simp -implicitDefEqProofs -dsimp only [go_sem, hmy, cut_set _ _ _ _ hp, cut_und _ _ hu]
theorem w45 (s : List UInt8) (r : Rd) (y : Nd) (hs : s.length ≤ 1000000) (hr : r.at' ≤ s.length) (p : Mv.Loc) (lim d : Nat) (hp : p.d < d) (hlim : lim ≤ p.d) (σ : Sto) (hu : σ.Und d) (ho : σ.ob p = some (encQ s r)) :
  Ret lim d 116 [.ptr p 0, .agg (enc y)] σ (.agg (enc (repS s y r).1)) (σ.set p (encQ s (repS s y r).2)) := by
 have hun := und_succ hu
 have hne := ne_my hp
 have hmy := my_ne hp
 have hp1 := Nat.lt_succ_of_lt hp
 have ho2 := ho
 rw [encQ_eq] at ho2
 have hself := set_same ho
 unfold Ret
 rw [WF_body (C := X) rfl func116 rfl (by kernel_rfl)]; simp only [results116]
 unfold repS
 cases hb : r.bad
 case true =>
  have hnx : isRep (r.nx s) = false := by rw [nx_bad hb]; rfl
  rw [if_pos hnx]
  rw [hb] at ho2
  simp -implicitDefEqProofs -dsimp only [go_sem, ho2, hne, enc_take, hself, cut_und _ _ hu]
 case false =>
  rw [hb] at ho2
  simp -implicitDefEqProofs -dsimp only [go_sem, ho2, hne]
  refine (w43 s r hs hr p lim (d + 1) hp1 _ ?_ ?_).wh ?_
  ·simp only [u_tick, u_mine]; exact hun
  ·simp only [go_sem, hne, if_false]; exact ho
  cases hrep : isRep (r.nx s)
  ·rw [if_pos rfl]
   simp -implicitDefEqProofs -dsimp only [go_sem, enc_take, hself, cut_und _ _ hu]
  ·rw [if_neg (by simp)]
   obtain ⟨c, hc⟩ : ∃ c, r.nx s = some c := by
    cases h : r.nx s with
    | none => rw [h] at hrep; cases hrep
    | some c => exact ⟨c, rfl⟩
   obtain ⟨b1, b2, b3⟩ := nx_some hc
   by_cases hk4 : y.kind = 4 ∨ y.kind = 5
   ·rw [if_pos hk4]
    have hkk : (if (y.kind == 4) = true then true else y.kind == 5) = true := by rcases hk4 with h | h <;> simp [h]
    by_cases h4 : y.kind = 4
    ·have h4' : (y.kind == 4) = true := by simpa using h4
     simp -implicitDefEqProofs -dsimp only [go_sem, enc_kind, h4']
     refine (w24 s r p lim (d + 1) hp1 hlim _ ?_ ?_).wh ?_
     ·simp only [u_tick, u_mine]; exact hun
     ·simp only [go_sem, hne, if_false]; exact ho
     simp -implicitDefEqProofs -dsimp only [go_sem, hmy, cut_set _ _ _ _ hp, cut_und _ _ hu]
    ·have h4' : (y.kind == 4) = false := by simpa using h4
     have h5' : (y.kind == 5) = true := by rw [h4'] at hkk; simpa using hkk
     simp -implicitDefEqProofs -dsimp only [go_sem, enc_kind, h4', h5']
     refine (w24 s r p lim (d + 1) hp1 hlim _ ?_ ?_).wh ?_
     ·simp only [u_tick, u_mine]; exact hun
     ·simp only [go_sem, hne, if_false]; exact ho
     simp -implicitDefEqProofs -dsimp only [go_sem, hmy, cut_set _ _ _ _ hp, cut_und _ _ hu]
   ·rw [if_neg hk4]
    have h4' : (y.kind == 4) = false := by rw [beq_eq_false_iff_ne]; exact fun h => hk4 (.inl h)
    have h5' : (y.kind == 5) = false := by rw [beq_eq_false_iff_ne]; exact fun h => hk4 (.inr h)
    simp -implicitDefEqProofs -dsimp only [go_sem, enc_kind, h4', h5']
    refine (w60 s r hs b1 hrep p lim (d + 1) hp1 _ ?_ ?_).wh ?_
    ·simp only [u_tick, u_mine]; exact hun
    ·simp only [go_sem, hne, if_false]; exact ho
    cases hbd : boundsS s r.at' with
    | none =>
     simp -implicitDefEqProofs -dsimp only [go_sem, timV_none]
     refine (w24 s r p lim (d + 1) hp1 hlim _ ?_ ?_).wh ?_
     ·simp only [u_tick, u_mine]; exact hun
     ·simp only [go_sem, hne, if_false]; exact ho
     simp -implicitDefEqProofs -dsimp only [go_sem, hmy, cut_set _ _ _ _ hp, cut_und _ _ hu]
    | some x =>
     have hy := bnd_go s _ b3 x hbd
     have hR : [MV.str s, .int .i64 x.2.2, .bool true, .int .i64 r.g, .bool false] = encQ s (r.go x.2.2) := (encQ_go s r _ hb).symm
     simp -implicitDefEqProofs -dsimp only [go_sem, timV_some, ho2, hne, hp, hlim, hR]
     refine (w43 s (r.go x.2.2) hs hy.2 p lim (d + 1) hp1 _ ?_ ?_).wh ?_
     ·simp only [u_tick, u_set _ _ _ _ hp1, u_mine]; exact hun
     ·simp only [go_sem, hne, if_true, if_false]
     cases hr3 : isRep ((r.go x.2.2).nx s)
     ·simp -implicitDefEqProofs -dsimp only [go_sem, enc, hmy, hr3, encs, cut_set _ _ _ _ hp, cut_und _ _ hu, enc_take]
     ·simp -implicitDefEqProofs -dsimp only [go_sem]
      refine (w24 s (r.go x.2.2) p lim (d + 1) hp1 hlim _ ?_ ?_).wh ?_
      ·simp only [u_tick, u_set _ _ _ _ hp1, u_mine]; exact hun
      ·simp only [go_sem, hne, if_true, if_false]
      simp -implicitDefEqProofs -dsimp only [go_sem, hmy, hr3, cut_set _ _ _ _ hp, cut_und _ _ hu]
section
variable {C : Cfg} {lim d : Nat} {a : Nat → MV} {σ : Sto} {ops : Array Oper} {l news : List Oper} {dst : Option Tmp} {ty : TypeId} {pos : String} {aft : Array Edge} {j : Nat} {w : Bool} {Q : (Nat → MV) → Sto → Prop}
@[go_sem ↓] theorem wr_min {xs : Array Operand} {ts : Array TypeId} : WR C lim d ops news (⟨dst, .call ⟨.builtin .min, xs, ts⟩, ty, pos, aft, some (j, w)⟩ :: l) a σ Q ↔ Opt (gdT ops a j w) fun b => Opt (gvO b (mm false (xs.toList.map (valO a)))) fun v => WR C lim d ops news l (putD a dst v) σ Q := WR_gp rfl rfl rfl rfl (fun _ => map_fst _) (fun _ => map_fst _)
end
def HQ (s : List UInt8) (k : Nat) (rec : Rd → Nd × Rd) : Prop := ∀ r : Rd, r.bad = false → r.at' ≤ s.length → r.g ≤ 9 → 10 ≤ k + r.g →
 ∀ (lim d : Nat) (p : Mv.Loc) (σ : Sto), p.d < d → lim ≤ p.d → σ.Und d → σ.ob p = some (encQ s r) → Ret lim d 68 [.ptr p 0] σ (.agg (enc (rec r).1)) (σ.set p (encQ s (rec r).2))
section
variable {s : List UInt8} {k : Nat} {rec : Rd → Nd × Rd} (H : HR s k rec) (K : HQ s k rec)
include H K
theorem w44 (r : Rd) (bg : Bool) (hs : s.length ≤ 100000) (hr : r.at' < s.length) (hb : r.bad = false) (h9 : r.g ≤ 9) (hk : 10 ≤ k + 1 + r.g) (p : Mv.Loc) (lim d : Nat) (hp : p.d < d) (hlim : lim ≤ p.d) (σ : Sto) (hu : σ.Und d) (ho : σ.ob p = some (encQ s r)) :
  Ret lim d 115 [.ptr p 0, .bool bg] σ (.agg (enc (atomS s rec r).1)) (σ.set p (encQ s (atomS s rec r).2)) := by
 have hun := und_succ hu
 have hne := ne_my hp
 have hmy := my_ne hp
 have hp1 := Nat.lt_succ_of_lt hp
 have ho2 := ho
 rw [encQ_good s r hb] at ho2
 have x1 := wr64 ((r.at' : Int) + 1) (by omega) (by omega)
 have x2 := wr64 ((r.g : Int) + 1) (by omega) (by omega)
 have hun1 : ∀ (t c : Nat) (cs : List MV), ((σ.set ⟨d, t, c⟩ cs).tick d).Und (d + 1) := fun t c cs => by simp only [u_tick, u_mine]; exact hun
 have hob1 : ∀ (t c : Nat) (cs : List MV), ((σ.set ⟨d, t, c⟩ cs).tick d).ob p = some (encQ s r) := fun t c cs => by simp only [go_sem, hne, if_false]; exact ho
 have g0 : s[r.at']? = some s[r.at'] := List.getElem?_eq_getElem hr
 have hnx : r.nx s = some s[r.at'] := by simp [Rd.nx, hb]
 unfold Ret
 rw [WF_body (C := X) rfl func115 rfl (by kernel_rfl)]; simp only [results115]
 unfold atomS
 simp -implicitDefEqProofs -dsimp only [go_sem]
 rw [D_dr (by kernel_rfl) rfl]
 simp -implicitDefEqProofs -dsimp only [go_sem, ho2, hne, g0]
 refine (w57 s r p lim (d + 1) hp1 _ (hun1 ..) (hob1 ..)).wh ?_
 simp -implicitDefEqProofs -dsimp only [go_sem]
 refine (h1 s r 40 (by omega) (by omega) p lim (d + 1) hp1 _ (hun1 ..) (hob1 ..)).wh ?_
 rw [hnx, g0]
 simp only
 generalize s[r.at'] = c at g0
 have sm : ∀ b : UInt8, (some c == some b) = (c == b) := fun b => by rw [Bool.eq_iff_iff]; simp
 rw [sm]
 cases h40 : c == 40
 case true =>
  have h40' : c = 40 := by simpa using h40
  rw [if_pos h40']
  unfold groupS
  by_cases hg : r.g = 9
  ·have e1 : ((r.g : Int) == 9) = true := by rw [hg]; rfl
   rw [if_pos hg]
   simp -implicitDefEqProofs -dsimp only [go_sem, ho2, hne, e1]
   refine (w24 s r p lim (d + 1) hp1 hlim _ (hun1 ..) (hob1 ..)).wh ?_
   simp -implicitDefEqProofs -dsimp only [go_sem, hmy, cut_set _ _ _ _ hp, cut_und _ _ hu]
  ·have e1 : ((r.g : Int) == 9) = false := by rw [beq_eq_false_iff_ne]; omega
   rw [if_neg hg]
   have hR : [MV.str s, .int .i64 r.at', .bool true, .int .i64 ((r.g : Int) + 1), .bool false] = encQ s ⟨r.at', r.g + 1, r.bad⟩ := by rw [hb]; rfl
   have hR2 : [MV.str s, .int .i64 ((r.at' : Int) + 1), .bool true, .int .i64 ((r.g : Int) + 1), .bool false] = encQ s ⟨r.at' + 1, r.g + 1, r.bad⟩ := by rw [hb]; rfl
   simp -implicitDefEqProofs -dsimp only [go_sem, ho2, hne, e1, x2, hp, hlim]
   rw [D_dr (by kernel_rfl) rfl]
   simp -implicitDefEqProofs -dsimp only [go_sem, hne]
   refine (w57 s ⟨r.at', r.g + 1, r.bad⟩ p (d + 1) (d + 1) hp1 _ ?_ ?_).wh ?_
   ·simp only [u_tick, u_set _ _ _ _ hp1, u_mine]; exact hun
   ·simp only [go_sem, hne, if_true, if_false]; rw [← hR]
   simp -implicitDefEqProofs -dsimp only [go_sem, hne, x1, hp, hlim]
   have G := (H ⟨r.at' + 1, r.g + 1, r.bad⟩ hb (by simp only; omega) (by simp only; omega) (by simp only; omega)).1
   have hw := K ⟨r.at' + 1, r.g + 1, r.bad⟩ hb (by simp only; omega) (by simp only; omega) (by simp only; omega)
   generalize rec ⟨r.at' + 1, r.g + 1, r.bad⟩ = x at G hw
   have g2 := G.in'
   have g4 := G.g9
   refine (hw lim (d + 1) p _ hp1 hlim ?_ ?_).wh ?_
   ·simp only [u_tick, u_set _ _ _ _ hp1, u_mine]; exact hun
   ·simp only [go_sem, hne, if_true, if_false]; rw [← hR2]
   cases hxb : x.2.bad
   case true =>
    have hnx2 : ¬ x.2.nx s = some 41 := by rw [nx_bad hxb]; simp
    rw [if_neg hnx2, fail_bad hxb]
    simp -implicitDefEqProofs -dsimp only [go_sem, enc, hmy, hne, encQ_eq, hxb, z0, encs, cut_set _ _ _ _ hp, cut_und _ _ hu]
   case false =>
    simp -implicitDefEqProofs -dsimp only [go_sem, hne, encQ_eq, hxb]
    refine (w42 s x.2 p lim (d + 1) hp1 _ ?_ ?_).wh ?_
    ·simp only [u_tick, u_set _ _ _ _ hp1, u_mine]; exact hun
    ·simp only [go_sem, hne, if_true, if_false]; rw [← hxb]; rfl
    simp -implicitDefEqProofs -dsimp only [go_sem]
    refine (h1 s x.2 41 (by omega) g2 p lim (d + 1) hp1 _ ?_ ?_).wh ?_
    ·simp only [u_tick, u_set _ _ _ _ hp1, u_mine]; exact hun
    ·simp only [go_sem, hne, if_true, if_false]; rw [← hxb]; rfl
    cases h41 : x.2.nx s == some 41
    ·have h41' : ¬ x.2.nx s = some 41 := by rw [beq_eq_false_iff_ne] at h41; exact h41
     rw [if_neg h41']
     simp -implicitDefEqProofs -dsimp only [go_sem]
     refine (w24 s x.2 p lim (d + 1) hp1 hlim _ ?_ ?_).wh ?_
     ·simp only [u_tick, u_set _ _ _ _ hp1, u_mine]; exact hun
     ·simp only [go_sem, hne, if_true, if_false]; rw [← hxb]; rfl
     simp -implicitDefEqProofs -dsimp only [go_sem, hmy, cut_set _ _ _ _ hp, cut_und _ _ hu]
    ·have h41' := isS_nx h41
     rw [if_pos h41']
     obtain ⟨b1, b2, b3⟩ := nx_some h41'
     have x3 := wr64 ((x.2.at' : Int) + 1) (by omega) (by omega)
     simp -implicitDefEqProofs -dsimp only [go_sem]
     rw [D_dr (by kernel_rfl) rfl]
     simp -implicitDefEqProofs -dsimp only [go_sem, hne]
     refine (w42 s x.2 p (d + 1) (d + 1) hp1 _ ?_ ?_).wh ?_
     ·simp only [u_tick, u_set _ _ _ _ hp1, u_mine]; exact hun
     ·simp only [go_sem, hne, if_true, if_false]; rw [← hxb]; rfl
     simp -implicitDefEqProofs -dsimp only [go_sem, enc, hmy, hne, x3, hp, hlim, encQ_go s x.2 _ b1, cut_set _ _ _ _ hp, cut_und _ _ hu, Int.natCast_add, encs, enc_take]
 case false =>
  have h40' : ¬ c = 40 := by simpa using h40
  rw [if_neg h40']
  cases h92 : c == 92
  ·have h92' : ¬ c = 92 := by simpa using h92
   rw [if_neg h92']
   cases h91 : c == 91
   ·have h91' : ¬ c = 91 := by simpa using h91
    rw [if_neg h91']
    cases h10 : c == 10
    ·have h10' : ¬ c = 10 := by simpa using h10
     rw [if_neg h10']
     unfold simpleS
     by_cases h46 : c = 46
     ·subst h46
      rw [if_pos rfl]
      simp -implicitDefEqProofs -dsimp only [go_sem, enc, h92, h91, h10, show ((46 : UInt8) == 46) = true from rfl, ho2, hne, hmy, x1, hp, hlim, nd, encs, encQ_go s r _ hb, cut_set _ _ _ _ hp, cut_und _ _ hu, Int.natCast_add]
     ·have h46' : (c == 46) = false := by simpa using h46
      rw [if_neg h46]
      by_cases h94 : c = 94
      ·subst h94
       rw [if_pos rfl]
       simp -implicitDefEqProofs -dsimp only [go_sem, enc, h92, h91, h10, h46', show ((94 : UInt8) == 94) = true from rfl, ho2, hne, hmy, x1, hp, hlim, nd, encs, encQ_go s r _ hb, cut_set _ _ _ _ hp, cut_und _ _ hu, Int.natCast_add]
      ·have h94' : (c == 94) = false := by simpa using h94
       rw [if_neg h94]
       by_cases h36 : c = 36
       ·subst h36
        rw [if_pos rfl]
        simp -implicitDefEqProofs -dsimp only [go_sem, h92, h91, h10, h46', h94']
        rw [D_dr (by kernel_rfl) rfl]
        simp -implicitDefEqProofs -dsimp only [go_sem, enc, show ((36 : UInt8) == 36) = true from rfl, ho2, hne, hmy, x1, hp, hlim, nd, encs, encQ_go s r _ hb, cut_set _ _ _ _ hp, cut_und _ _ hu, Int.natCast_add]
       ·have h36' : (c == 36) = false := by simpa using h36
        rw [if_neg h36]
        simp -implicitDefEqProofs -dsimp only [go_sem, h92, h91, h10, h46', h94']
        rw [D_dr (by kernel_rfl) rfl]
        simp -implicitDefEqProofs -dsimp only [go_sem, enc, h36', ho2, hne, hmy, x1, hp, hlim, lit, encs, encQ_go s r _ hb, cut_set _ _ _ _ hp, cut_und _ _ hu, Int.natCast_add]
    ·have h10' : c = 10 := by simpa using h10
     rw [if_pos h10']
     simp -implicitDefEqProofs -dsimp only [go_sem, h10]
     refine (w24 s r p lim (d + 1) hp1 hlim _ (hun1 ..) (hob1 ..)).wh ?_
     simp -implicitDefEqProofs -dsimp only [go_sem, hmy, cut_set _ _ _ _ hp, cut_und _ _ hu]
   ·have h91' : c = 91 := by simpa using h91
    rw [if_pos h91']
    subst h91'
    simp -implicitDefEqProofs -dsimp only [go_sem, h92, h91, show ((91 : UInt8) == 10) = false from rfl]
    rw [D_lx [] (by kernel_rfl) (by kernel_rfl)]; simp -implicitDefEqProofs -dsimp only [go_sem, List.takeWhile_cons, List.dropWhile_cons, isTail, evNews, List.not_mem_nil, not_false_eq_true, decide_true, decide_false, Bool.not_true, Bool.not_false, false_imp_iff, implies_true, ne_eq, ho2, hne]
    refine (w59 s r.at' (by omega) g0 (d + 1) (d + 1) (Nat.le_refl _) _ (hun1 ..)).wh ?_
    cases hbr : bracketS (s.drop (r.at' + 1)) with
    | none =>
     simp -implicitDefEqProofs -dsimp only [go_sem, brkV_none]
     refine ⟨rfl, (w24 s r p lim (d + 1) hp1 hlim _ ?_ ?_).wh ?_⟩
     ·simp only [u_tick, u_mine]; exact hun
     ·simp only [go_sem, hne, if_false]; exact ho
     simp -implicitDefEqProofs -dsimp only [go_sem, hmy, cut_set _ _ _ _ hp, cut_und _ _ hu]
    | some x =>
     have hq := (bracket_le _ _ hbr).2.2
     obtain ⟨q0, q1, q2, q3, hqe⟩ := ln4 hq
     rw [hqe] at hq
     simp -implicitDefEqProofs -dsimp only [go_sem, enc, brkV_some, hmy, hne, hqe, encS, ho2, hp, hlim, inN, encs, encQ_go s r _ hb, cut_set _ _ _ _ hp, cut_und _ _ hu, List.getD_cons_zero, List.getD_cons_succ]
  ·have h92' : c = 92 := by simpa using h92
   rw [if_pos h92']
   simp -implicitDefEqProofs -dsimp only [go_sem, show ((92 : UInt8) == 10) = false from rfl, h92']
   refine (w58 s r (by omega) hr hb p lim (d + 1) hp1 hlim _ (hun1 ..) (hob1 ..)).wh ?_
   simp -implicitDefEqProofs -dsimp only [go_sem, hmy, cut_set _ _ _ _ hp, cut_und _ _ hu]
end
end Go.Proofs.Tryz.E
