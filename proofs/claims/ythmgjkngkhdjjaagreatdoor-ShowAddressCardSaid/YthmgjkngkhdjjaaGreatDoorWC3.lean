/- Walks: what the functions compute. Walks: what the functions compute. Walks: what the functions compute. -/
import Derived.Test.YthmgjkngkhdjjaaGreatDoorWC0
import Derived.Test.YthmgjkngkhdjjaaGreatDoorE21
set_option linter.unusedVariables false
set_option linter.unusedSimpArgs false
/- The other reader, of basic patterns: how often; what is escaped, what is repeated. -/
namespace Go.Proofs.Tryz.E
open Go.Mv
set_option maxHeartbeats 4000000
set_option maxRecDepth 20000
theorem v60 (s : List UInt8) (r : Rd) (hs : s.length ≤ 1000000) (hrep : isRepB s r = true) (p : Mv.Loc) (lim d : Nat) (hp : p.d < d) (σ : Sto) (hu : σ.Und d) (ho : σ.ob p = some (encT s r)) : Ret lim d 135 [.ptr p 0] σ (timV (timesB s r)) σ := by
 have hun := und_succ hu
 have hp1 := Nat.lt_succ_of_lt hp
 have hnd : ¬ p.d = d := by omega
 obtain ⟨hb, hlt⟩ := repB_some hrep
 have ho2 := ho
 rw [encT_good s r hb] at ho2
 have x1 := wr64 ((r.at' : Int) + 1) (by omega) (by omega)
 have x1' := wr64 ((r.at' : Int) + 2) (by omega) (by omega)
 unfold Ret
 rw [WF_body (C := X) rfl func135 rfl (by kernel_rfl)]; simp only [results135]
 simp -implicitDefEqProofs -dsimp only [go_sem]
 refine (k1 s r 42 hs (by omega) p lim (d + 1) hp1 σ hun ho).wh ?_
 unfold timesB
 cases h42 : r.nx s == some 42
 case true =>
  have h42' : r.nx s = some 42 := by simpa using h42
  rw [if_pos h42']
  simp -implicitDefEqProofs -dsimp only [go_sem]
  rw [D_lx [.tmp 15] (by kernel_rfl) (by kernel_rfl)]; simp -implicitDefEqProofs -dsimp only [go_sem, List.takeWhile_cons, List.dropWhile_cons, isTail, evNews, List.mem_cons, List.not_mem_nil, or_false, not_false_eq_true, Bool.not_true, Bool.not_false, forall_eq, ne_eq, ho2, x1, hnd, true_or]
  simp -implicitDefEqProofs -dsimp only [go_sem, timV_some, cut_und _ _ hu, Int.natCast_add]
 have h42' : ¬ r.nx s = some 42 := by rw [beq_eq_false_iff_ne] at h42; exact h42
 rw [if_neg h42']
 have hE : hasE s r 123 = true := by simpa [isRepB, h42] using hrep
 obtain ⟨-, h2⟩ := hasE_lt hE
 simp -implicitDefEqProofs -dsimp only [go_sem, ho2]
 rw [D_lx [] (by kernel_rfl) (by kernel_rfl)]; simp -implicitDefEqProofs -dsimp only [go_sem, List.takeWhile_cons, List.dropWhile_cons, isTail, evNews, List.not_mem_nil, decide_false, Bool.not_true, Bool.not_false, false_imp_iff, implies_true, ne_eq, ho2]
 refine (v56 s r p (d + 1) (d + 1) hp1 σ hun ho).wh ?_
 simp -implicitDefEqProofs -dsimp only [go_sem, x1']
 refine (w72 s (r.at' + 2) hs (by omega) (d + 1) (d + 1) σ hun).wh ?_
 have hA := digs_len s (r.at' + 2)
 rw [dgV_eq]
 have hBu := brcB_eq s r.at'
 generalize bracesB s r.at' = B at hBu ⊢
 generalize digsAt s (r.at' + 2) = A at hA hBu ⊢
 generalize hP : r.at' + 2 + A.length = P at hBu ⊢
 have hPl : P ≤ s.length := by omega
 by_cases hA0 : A = []
 ·rw [if_pos (.inl hA0)] at hBu
  subst hA0
  simp -implicitDefEqProofs -dsimp only [go_sem, decide_true, hBu, timV_none, cut_und _ _ hu]
 by_cases hbig : 255 < numV A
 ·rw [if_pos (.inr hbig)] at hBu
  simp -implicitDefEqProofs -dsimp only [go_sem, decide_true, hA0, hbig, hBu, timV_none, cut_und _ _ hu]
 rw [if_neg (by simp [hA0, hbig])] at hBu
 have e3 : ¬ ((numV A : Int) < 0) := by omega
 by_cases h44 : s[P]? = some 44
 ·rw [if_pos h44] at hBu
  have hlt2 : P < s.length := by
   rcases Nat.lt_or_ge P s.length with h | h
   ·exact h
   ·rw [List.getElem?_eq_none h] at h44; cases h44
  have e4 : ((P : Int) < (s.length : Int)) := by omega
  have x3 := wr64 ((P : Int) + 1) (by omega) (by omega)
  have e44 : ((44 : UInt8) == 44) = true := rfl
  simp -implicitDefEqProofs -dsimp only [go_sem, decide_true, decide_false, ho2, hA0, hbig, e3, e4, h44, e44, x3]
  refine (w72 s (P + 1) hs (by omega) lim (d + 1) σ hun).wh ?_
  rw [dgV_eq]
  have hC := digs_len s (P + 1)
  generalize digsAt s (P + 1) = C at hC hBu ⊢
  generalize hQ : P + 1 + C.length = Q at hBu ⊢
  have hQl : Q ≤ s.length := by omega
  by_cases hbc : C ≠ [] ∧ (255 < numV C ∨ numV C < numV A)
  ·rw [if_neg (fun h => by rcases h.2 with h | h; exact hbc.1 h; omega)] at hBu
   by_cases hbb : 255 < numV C
   ·simp -implicitDefEqProofs -dsimp only [go_sem, hbc.1, hbb, hBu, timV_none, cut_und _ _ hu]
   ·have f1 : ((numV C : Int) == -2) = false := by rw [beq_eq_false_iff_ne]; omega
    have f2 : (0 : Int) ≤ (numV C : Int) := by omega
    have f3 : (numV C : Int) < (numV A : Int) := by omega
    simp -implicitDefEqProofs -dsimp only [go_sem, hbc.1, hbb, f1, f2, f3, hBu, timV_none, cut_und _ _ hu]
  ·have hk : ∃ k : Int, (if C = [] then (-1 : Int) else if 255 < numV C then -2 else (numV C : Int)) = k ∧ (if C = [] then (-1 : Int) else (numV C : Int)) = k ∧ (k == -2) = false ∧ (if (decide (0 ≤ k)) = true then decide (k < (numV A : Int)) else false) = false := by
    by_cases hC0 : C = []
    ·exact ⟨-1, by rw [if_pos hC0], by rw [if_pos hC0], rfl, rfl⟩
    ·have hbc' : ¬ 255 < numV C ∧ ¬ numV C < numV A := by
      constructor
      ·exact fun h => hbc ⟨hC0, .inl h⟩
      ·exact fun h => hbc ⟨hC0, .inr h⟩
     refine ⟨numV C, by rw [if_neg hC0, if_neg hbc'.1], by rw [if_neg hC0], by rw [beq_eq_false_iff_ne]; omega, ?_⟩
     have : ¬ (numV C : Int) < (numV A : Int) := by omega
     simp [this]
   obtain ⟨k, k1, k2, k3, k4⟩ := hk
   rw [k1]
   rw [k2] at hBu
   have hiff : (closeB s Q = true ∧ (C = [] ∨ numV C ≤ 255 ∧ numV A ≤ numV C)) ↔ closeB s Q = true := by
    refine ⟨fun h => h.1, fun h => ⟨h, ?_⟩⟩
    by_cases hC0 : C = []
    ·exact .inl hC0
    ·right
     by_cases q1 : 255 < numV C
     ·exact absurd ⟨hC0, .inl q1⟩ hbc
     ·by_cases q2 : numV C < numV A
      ·exact absurd ⟨hC0, .inr q2⟩ hbc
      ·omega
   simp only [hiff] at hBu
   clear hiff k1 k2
   by_cases hlt3 : Q + 1 < s.length
   ·have e5 : ¬ ((s.length : Int) - Q < 2) := by omega
    have x4 := wr64 ((s.length : Int) - Q) (by omega) (by omega)
    have x5 := wr64 ((Q : Int) + 2) (by omega) (by omega)
    by_cases k0 : 0 ≤ k
    ·simp only [k0, decide_true, if_true] at k4
     simp -implicitDefEqProofs -dsimp only [go_sem, ho2, k3, k0, k4, e5, x4, x5]
     exact tim_clo2 s Q hlt3 _ k B hBu (cut_und _ _ hu)
    ·simp -implicitDefEqProofs -dsimp only [go_sem, ho2, k3, k0, e5, x4, x5]
     exact tim_clo2 s Q hlt3 _ k B hBu (cut_und _ _ hu)
   ·have e5 : ((s.length : Int) - Q < 2) := by omega
    have x4 := wr64 ((s.length : Int) - Q) (by omega) (by omega)
    rw [close_end hlt3, if_neg (by decide)] at hBu
    by_cases k0 : 0 ≤ k
    ·simp only [k0, decide_true, if_true] at k4
     simp -implicitDefEqProofs -dsimp only [go_sem, ho2, k3, k0, k4, e5, x4, hBu, timV_none, cut_und _ _ hu]
    ·simp -implicitDefEqProofs -dsimp only [go_sem, ho2, k3, k0, e5, x4, hBu, timV_none, cut_und _ _ hu]
 ·rw [if_neg h44] at hBu
  by_cases hlt2 : P + 1 < s.length
  ·have g1 : s[P]? = some s[P] := List.getElem?_eq_getElem (by omega)
   have e4 : ((P : Int) < (s.length : Int)) := by omega
   have e5 : ¬ ((s.length : Int) - P < 2) := by omega
   have x2 := wr64 ((s.length : Int) - P) (by omega) (by omega)
   have x3 := wr64 ((P : Int) + 2) (by omega) (by omega)
   have h44' : (s[P] == 44) = false := by rw [g1] at h44; simpa using h44
   generalize s[P] = b at g1 h44'
   simp -implicitDefEqProofs -dsimp only [go_sem, decide_true, decide_false, Bool.not_false, ho2, hA0, hbig, e3, e4, g1, h44', e5, x2, x3]
   exact tim_clo2 s P hlt2 _ _ B hBu (cut_und _ _ hu)
  ·rw [close_end hlt2, if_neg (by decide)] at hBu
   have e5 : ((s.length : Int) - P < 2) := by omega
   have x2 := wr64 ((s.length : Int) - P) (by omega) (by omega)
   by_cases hlt3 : P < s.length
   ·have g1 : s[P]? = some s[P] := List.getElem?_eq_getElem hlt3
    have e4 : ((P : Int) < (s.length : Int)) := by omega
    have h44' : (s[P] == 44) = false := by rw [g1] at h44; simpa using h44
    generalize s[P] = b at g1 h44'
    simp -implicitDefEqProofs -dsimp only [go_sem, decide_true, decide_false, Bool.not_false, ho2, hA0, hbig, e3, e4, g1, h44', e5, x2, hBu, timV_none, cut_und _ _ hu]
   ·have e4 : ¬ ((P : Int) < (s.length : Int)) := by omega
    simp -implicitDefEqProofs -dsimp only [go_sem, decide_true, decide_false, Bool.not_false, ho2, hA0, hbig, e3, e4, e5, x2, hBu, timV_none, cut_und _ _ hu]
theorem v58 (s : List UInt8) (r : Rd) (hs : s.length ≤ 1000000) (hr : r.at' < s.length) (hb : r.bad = false) (p : Mv.Loc) (lim d : Nat) (hp : p.d < d) (hlim : lim ≤ p.d) (σ : Sto) (hu : σ.Und d) (ho : σ.ob p = some (encT s r)) :
  Ret lim d 133 [.ptr p 0] σ (.agg (enc (escB s r).1)) (σ.set p (encT s (escB s r).2)) := by
 have hun := und_succ hu
 have hne := ne_my hp
 have hmy := my_ne hp
 have hp1 := Nat.lt_succ_of_lt hp
 have ho2 := ho
 rw [encT_good s r hb] at ho2
 have hun1 : ∀ (t c : Nat) (cs : List MV), ((σ.set ⟨d, t, c⟩ cs).tick d).Und (d + 1) := fun t c cs => by simp only [u_tick, u_mine]; exact hun
 have hob1 : ∀ (t c : Nat) (cs : List MV), ((σ.set ⟨d, t, c⟩ cs).tick d).ob p = some (encT s r) := fun t c cs => by simp only [go_sem, hne, if_false]; exact ho
 have x0 := wr64 ((s.length : Int) - r.at') (by omega) (by omega)
 have x1 := wr64 ((r.at' : Int) + 1) (by omega) (by omega)
 have x2 := wr64 ((r.at' : Int) + 2) (by omega) (by omega)
 have t1 : ((r.at' : Int) + 1).toNat = r.at' + 1 := by omega
 have p1 : (0 : Int) ≤ (r.at' : Int) + 1 := by omega
 unfold Ret
 rw [WF_body (C := X) rfl func133 rfl (by kernel_rfl)]; simp only [results133]
 unfold escB
 simp -implicitDefEqProofs -dsimp only [go_sem]
 rw [D_dr (by kernel_rfl) rfl]
 by_cases hl : r.at' + 1 < s.length
 ·have e1 : ¬ ((s.length : Int) - r.at' < 2) := by omega
  have g1 : s[r.at' + 1]? = some s[r.at' + 1] := List.getElem?_eq_getElem hl
  rw [g1]
  simp only
  generalize s[r.at' + 1] = c at g1
  simp -implicitDefEqProofs -dsimp only [go_sem, ho2, hne, x0, e1]
  rw [D_dr (by kernel_rfl) rfl]
  by_cases h49 : 49 ≤ c.toNat ∧ c.toNat ≤ 57
  ·have e2 : ((49 : Int) ≤ (c.toNat : Int)) := by omega
   have e3 : ((c.toNat : Int) ≤ 57) := by omega
   have y1 := wru8 ((c.toNat : Int) - 48) (by omega) (by omega)
   have y2 := wr64 ((c.toNat : Int) - 48) (by omega) (by omega)
   rw [if_pos h49]
   simp -implicitDefEqProofs -dsimp only [go_sem, enc, ho2, hne, hmy, x1, x2, t1, p1, g1, e2, e3, y1, y2, hp, hlim, encs, encT_go s r _ hb, cut_set _ _ _ _ hp, cut_und _ _ hu, Int.natCast_add]
  ·rw [if_neg h49]
   by_cases h110 : c = 110
   ·subst h110
    rw [if_pos rfl]
    simp -implicitDefEqProofs -dsimp only [go_sem, enc, ho2, hne, hmy, x1, x2, t1, p1, g1, show ¬ (((110 : UInt8).toNat : Int) ≤ 57) by decide, show (49 : Int) ≤ ((110 : UInt8).toNat : Int) by decide, show ((110 : UInt8) == 110) = true from rfl, hp, hlim, lit, encs, encT_go s r _ hb, cut_set _ _ _ _ hp, cut_und _ _ hu, Int.natCast_add]
   ·have h110' : (c == 110) = false := by simpa using h110
    rw [if_neg h110]
    unfold itselfB
    by_cases e2 : 49 ≤ c.toNat
    ·have e2' : ((49 : Int) ≤ (c.toNat : Int)) := by omega
     have e3 : ¬ ((c.toNat : Int) ≤ 57) := by omega
     simp -implicitDefEqProofs -dsimp only [go_sem, ho2, hne, x1, t1, p1, g1, h110', e2', e3]
     refine (w68 _ c (by simp) lim (d + 1) _ ?_).wh ?_
     ·simp only [go_sem, u_tick, u_mine]; exact hun
     cases hc1 : ([46, 91, 93, 42, 94, 36, 47, 92, 38, 45] : List UInt8).contains c
     ·simp -implicitDefEqProofs -dsimp only [go_sem, ho2, hne]
      refine (v24 s r p lim (d + 1) hp1 hlim _ ?_ ?_).wh ?_
      ·simp only [go_sem, u_tick, u_mine]; exact hun
      ·simp only [go_sem, hne, if_false]; exact ho
      simp -implicitDefEqProofs -dsimp only [go_sem, hmy, cut_set _ _ _ _ hp, cut_und _ _ hu, Bool.false_eq_true]
     ·simp -implicitDefEqProofs -dsimp only [go_sem, enc, ho2, hne, hmy, x2, hp, hlim, lit, encs, encT_go s r _ hb, cut_set _ _ _ _ hp, cut_und _ _ hu, Int.natCast_add]
    ·have e2' : ¬ ((49 : Int) ≤ (c.toNat : Int)) := by omega
     simp -implicitDefEqProofs -dsimp only [go_sem, ho2, hne, x1, t1, p1, g1, h110', e2']
     refine (w68 _ c (by simp) lim (d + 1) _ ?_).wh ?_
     ·simp only [go_sem, u_tick, u_mine]; exact hun
     cases hc1 : ([46, 91, 93, 42, 94, 36, 47, 92, 38, 45] : List UInt8).contains c
     ·simp -implicitDefEqProofs -dsimp only [go_sem, ho2, hne]
      refine (v24 s r p lim (d + 1) hp1 hlim _ ?_ ?_).wh ?_
      ·simp only [go_sem, u_tick, u_mine]; exact hun
      ·simp only [go_sem, hne, if_false]; exact ho
      simp -implicitDefEqProofs -dsimp only [go_sem, hmy, cut_set _ _ _ _ hp, cut_und _ _ hu, Bool.false_eq_true]
     ·simp -implicitDefEqProofs -dsimp only [go_sem, enc, ho2, hne, hmy, x2, hp, hlim, lit, encs, encT_go s r _ hb, cut_set _ _ _ _ hp, cut_und _ _ hu, Int.natCast_add]
 ·have e1 : ((s.length : Int) - r.at' < 2) := by omega
  rw [List.getElem?_eq_none (by omega)]
  simp only
  simp -implicitDefEqProofs -dsimp only [go_sem, ho2, hne, x0, e1]
  refine (v24 s r p lim (d + 1) hp1 hlim _ (hun1 ..) (hob1 ..)).wh ?_
  simp -implicitDefEqProofs -dsimp only [go_sem, hmy, cut_set _ _ _ _ hp, cut_und _ _ hu]
theorem repT_bad {s : List UInt8} {r : Rd} (h : r.bad = true) : isRepB s r = false := by simp [isRepB, nx_bad h, hasE]
theorem v45 (s : List UInt8) (r : Rd) (y : Nd) (hs : s.length ≤ 1000000) (hr : r.at' ≤ s.length) (p : Mv.Loc) (lim d : Nat) (hp : p.d < d) (hlim : lim ≤ p.d) (σ : Sto) (hu : σ.Und d) (ho : σ.ob p = some (encT s r)) :
  Ret lim d 116 [.ptr p 0, .agg (enc y)] σ (.agg (enc (repB s y r).1)) (σ.set p (encT s (repB s y r).2)) := by
 have hun := und_succ hu
 have hne := ne_my hp
 have hmy := my_ne hp
 have hp1 := Nat.lt_succ_of_lt hp
 have ho2 := ho
 rw [encT_eq] at ho2
 have hself := set_same ho
 unfold Ret
 rw [WF_body (C := X) rfl func116 rfl (by kernel_rfl)]; simp only [results116]
 unfold repB
 cases hb : r.bad
 case true =>
  rw [if_pos (repT_bad hb)]
  rw [hb] at ho2
  simp -implicitDefEqProofs -dsimp only [go_sem, ho2, hne, enc_take, hself, cut_und _ _ hu]
 case false =>
  rw [hb] at ho2
  simp -implicitDefEqProofs -dsimp only [go_sem, ho2, hne]
  refine (v43 s r hs hr p lim (d + 1) hp1 _ ?_ ?_).wh ?_
  ·simp only [u_tick, u_mine]; exact hun
  ·simp only [go_sem, hne, if_false]; exact ho
  cases hrep : isRepB s r
  ·rw [if_pos rfl]
   simp -implicitDefEqProofs -dsimp only [go_sem, enc_take, hself, cut_und _ _ hu]
  ·rw [if_neg (by simp)]
   obtain ⟨b1, b3⟩ := repB_some hrep
   by_cases hk4 : y.kind = 4 ∨ y.kind = 5
   ·rw [if_pos hk4]
    have hkk : (if (y.kind == 4) = true then true else y.kind == 5) = true := by rcases hk4 with h | h <;> simp [h]
    by_cases h4 : y.kind = 4
    ·have h4' : (y.kind == 4) = true := by simpa using h4
     simp -implicitDefEqProofs -dsimp only [go_sem, enc_kind, h4']
     refine (v24 s r p lim (d + 1) hp1 hlim _ ?_ ?_).wh ?_
     ·simp only [u_tick, u_mine]; exact hun
     ·simp only [go_sem, hne, if_false]; exact ho
     simp -implicitDefEqProofs -dsimp only [go_sem, hmy, cut_set _ _ _ _ hp, cut_und _ _ hu]
    ·have h4' : (y.kind == 4) = false := by simpa using h4
     have h5' : (y.kind == 5) = true := by rw [h4'] at hkk; simpa using hkk
     simp -implicitDefEqProofs -dsimp only [go_sem, enc_kind, h4', h5']
     refine (v24 s r p lim (d + 1) hp1 hlim _ ?_ ?_).wh ?_
     ·simp only [u_tick, u_mine]; exact hun
     ·simp only [go_sem, hne, if_false]; exact ho
     simp -implicitDefEqProofs -dsimp only [go_sem, hmy, cut_set _ _ _ _ hp, cut_und _ _ hu]
   ·rw [if_neg hk4]
    have h4' : (y.kind == 4) = false := by rw [beq_eq_false_iff_ne]; exact fun h => hk4 (.inl h)
    have h5' : (y.kind == 5) = false := by rw [beq_eq_false_iff_ne]; exact fun h => hk4 (.inr h)
    simp -implicitDefEqProofs -dsimp only [go_sem, enc_kind, h4', h5']
    refine (v60 s r hs hrep p lim (d + 1) hp1 _ ?_ ?_).wh ?_
    ·simp only [u_tick, u_mine]; exact hun
    ·simp only [go_sem, hne, if_false]; exact ho
    cases hbd : timesB s r with
    | none =>
     simp -implicitDefEqProofs -dsimp only [go_sem, timV_none]
     refine (v24 s r p lim (d + 1) hp1 hlim _ ?_ ?_).wh ?_
     ·simp only [u_tick, u_mine]; exact hun
     ·simp only [go_sem, hne, if_false]; exact ho
     simp -implicitDefEqProofs -dsimp only [go_sem, hmy, cut_set _ _ _ _ hp, cut_und _ _ hu]
    | some x =>
     have hy := timB_go s _ b3 x hbd
     have hR : [MV.str s, .int .i64 x.2.2, .bool false, .int .i64 r.g, .bool false] = encT s (r.go x.2.2) := (encT_go s r _ hb).symm
     simp -implicitDefEqProofs -dsimp only [go_sem, timV_some, ho2, hne, hp, hlim, hR]
     refine (v43 s (r.go x.2.2) hs hy.2 p lim (d + 1) hp1 _ ?_ ?_).wh ?_
     ·simp only [u_tick, u_set _ _ _ _ hp1, u_mine]; exact hun
     ·simp only [go_sem, hne, if_true, if_false]
     cases hr3 : isRepB s (r.go x.2.2)
     ·simp -implicitDefEqProofs -dsimp only [go_sem, enc, hmy, hr3, encs, cut_set _ _ _ _ hp, cut_und _ _ hu, enc_take, Bool.false_eq_true]
     ·simp -implicitDefEqProofs -dsimp only [go_sem]
      refine (v24 s (r.go x.2.2) p lim (d + 1) hp1 hlim _ ?_ ?_).wh ?_
      ·simp only [u_tick, u_set _ _ _ _ hp1, u_mine]; exact hun
      ·simp only [go_sem, hne, if_true, if_false]
      simp -implicitDefEqProofs -dsimp only [go_sem, hmy, hr3, cut_set _ _ _ _ hp, cut_und _ _ hu]
section
variable {C : Cfg} {lim d : Nat} {a : Nat → MV} {σ : Sto} {ops : Array Oper} {l news : List Oper} {dst : Option Tmp} {ty : TypeId} {pos : String} {aft : Array Edge} {j : Nat} {w : Bool} {Q : (Nat → MV) → Sto → Prop}
@[go_sem ↓] theorem wr_minB {xs : Array Operand} {ts : Array TypeId} : WR C lim d ops news (⟨dst, .call ⟨.builtin .min, xs, ts⟩, ty, pos, aft, some (j, w)⟩ :: l) a σ Q ↔ Opt (gdT ops a j w) fun b => Opt (gvO b (mm false (xs.toList.map (valO a)))) fun v => WR C lim d ops news l (putD a dst v) σ Q := WR_gp rfl rfl rfl rfl (fun _ => map_fst _) (fun _ => map_fst _)
end
def HT (s : List UInt8) (k : Nat) (rec : Rd → Nd × Rd) : Prop := ∀ r : Rd, r.bad = false → r.at' ≤ s.length → r.g ≤ 9 → 10 ≤ k + r.g →
 ∀ (lim d : Nat) (p : Mv.Loc) (σ : Sto), p.d < d → lim ≤ p.d → σ.Und d → σ.ob p = some (encT s r) → Ret lim d 68 [.ptr p 0] σ (.agg (enc (rec r).1)) (σ.set p (encT s (rec r).2))
theorem sigB_dot (s : List UInt8) (f : Bool) (n : Nat) : signB s f n 46 = nd 2 [] := by simp [signB]
theorem sigB_hat0 (s : List UInt8) (n : Nat) : signB s false n 94 = lit (94 : UInt8).toNat := by simp [signB]
theorem sigB_hat1 (s : List UInt8) (n : Nat) : signB s true n 94 = nd 4 [] := by simp [signB]
theorem sigB_dol0 (s : List UInt8) (f : Bool) (n : Nat) (h : endsB s n = false) : signB s f n 36 = lit (36 : UInt8).toNat := by simp [signB, h]
theorem sigB_dol1 (s : List UInt8) (f : Bool) (n : Nat) (h : endsB s n = true) : signB s f n 36 = nd 5 [] := by simp [signB, h]
theorem sigB_lit (s : List UInt8) (f : Bool) (n : Nat) (c : UInt8) (h : ¬ c = 46) (h2 : ¬ c = 94) (h3 : ¬ c = 36) : signB s f n c = lit c.toNat := by simp [signB, h, h2, h3]
section
variable {s : List UInt8} {k : Nat} {rec : Rd → Nd × Rd} (H : HB s k rec) (K : HT s k rec)
include H K
theorem v44 (r : Rd) (bg : Bool) (hs : s.length ≤ 100000) (hr : r.at' < s.length) (hb : r.bad = false) (h9 : r.g ≤ 9) (hk : 10 ≤ k + 1 + r.g) (p : Mv.Loc) (lim d : Nat) (hp : p.d < d) (hlim : lim ≤ p.d) (σ : Sto) (hu : σ.Und d) (ho : σ.ob p = some (encT s r)) :
  Ret lim d 115 [.ptr p 0, .bool bg] σ (.agg (enc (atomB s rec bg r).1)) (σ.set p (encT s (atomB s rec bg r).2)) := by
 have hun := und_succ hu
 have hne := ne_my hp
 have hmy := my_ne hp
 have hp1 := Nat.lt_succ_of_lt hp
 have ho2 := ho
 rw [encT_good s r hb] at ho2
 have x1 := wr64 ((r.at' : Int) + 1) (by omega) (by omega)
 have x1' := wr64 ((r.at' : Int) + 2) (by omega) (by omega)
 have x1'' := wr64 ((r.at' : Int) + 3) (by omega) (by omega)
 have x2 := wr64 ((r.g : Int) + 1) (by omega) (by omega)
 have hun1 : ∀ (t c : Nat) (cs : List MV), ((σ.set ⟨d, t, c⟩ cs).tick d).Und (d + 1) := fun t c cs => by simp only [u_tick, u_mine]; exact hun
 have hob1 : ∀ (t c : Nat) (cs : List MV), ((σ.set ⟨d, t, c⟩ cs).tick d).ob p = some (encT s r) := fun t c cs => by simp only [go_sem, hne, if_false]; exact ho
 have g0 : s[r.at']? = some s[r.at'] := List.getElem?_eq_getElem hr
 unfold Ret
 rw [WF_body (C := X) rfl func115 rfl (by kernel_rfl)]; simp only [results115]
 unfold atomB
 simp -implicitDefEqProofs -dsimp only [go_sem]
 rw [D_dr (by kernel_rfl) rfl]
 simp -implicitDefEqProofs -dsimp only [go_sem, ho2, hne, g0]
 refine (v57 s r p lim (d + 1) hp1 _ (hun1 ..) (hob1 ..)).wh ?_
 simp -implicitDefEqProofs -dsimp only [go_sem]
 refine (k2 s r 40 (by omega) (by omega) p lim (d + 1) hp1 _ (hun1 ..) (hob1 ..)).wh ?_
 rw [g0]
 simp only
 generalize s[r.at'] = c at g0
 cases h40 : hasE s r 40
 case true =>
  rw [if_pos rfl]
  obtain ⟨-, h40l⟩ := hasE_lt h40
  unfold groupB
  by_cases hg : r.g = 9
  ·have e1 : ((r.g : Int) == 9) = true := by rw [hg]; rfl
   rw [if_pos hg]
   simp -implicitDefEqProofs -dsimp only [go_sem, ho2, hne, e1]
   refine (v24 s r p lim (d + 1) hp1 hlim _ (hun1 ..) (hob1 ..)).wh ?_
   simp -implicitDefEqProofs -dsimp only [go_sem, hmy, cut_set _ _ _ _ hp, cut_und _ _ hu]
  ·have e1 : ((r.g : Int) == 9) = false := by rw [beq_eq_false_iff_ne]; omega
   rw [if_neg hg]
   have hR : [MV.str s, .int .i64 r.at', .bool false, .int .i64 ((r.g : Int) + 1), .bool false] = encT s ⟨r.at', r.g + 1, r.bad⟩ := by rw [hb]; rfl
   have hR2 : [MV.str s, .int .i64 ((r.at' : Int) + 2), .bool false, .int .i64 ((r.g : Int) + 1), .bool false] = encT s ⟨r.at' + 2, r.g + 1, r.bad⟩ := by rw [hb]; rfl
   simp -implicitDefEqProofs -dsimp only [go_sem, ho2, hne, e1, x2, hp, hlim]
   rw [D_dr (by kernel_rfl) rfl]
   simp -implicitDefEqProofs -dsimp only [go_sem, hne]
   refine (v57 s ⟨r.at', r.g + 1, r.bad⟩ p (d + 1) (d + 1) hp1 _ ?_ ?_).wh ?_
   ·simp only [u_tick, u_set _ _ _ _ hp1, u_mine]; exact hun
   ·simp only [go_sem, hne, if_true, if_false]; rw [← hR]
   simp -implicitDefEqProofs -dsimp only [go_sem, hne, x1', hp, hlim]
   have G := H ⟨r.at' + 2, r.g + 1, r.bad⟩ hb (by simp only; omega) (by simp only; omega) (by simp only; omega)
   have hw := K ⟨r.at' + 2, r.g + 1, r.bad⟩ hb (by simp only; omega) (by simp only; omega) (by simp only; omega)
   generalize rec ⟨r.at' + 2, r.g + 1, r.bad⟩ = x at G hw
   have g2 := G.in'
   have g4 := G.g9
   refine (hw lim (d + 1) p _ hp1 hlim ?_ ?_).wh ?_
   ·simp only [u_tick, u_set _ _ _ _ hp1, u_mine]; exact hun
   ·simp only [go_sem, hne, if_true, if_false]; rw [← hR2]
   cases hxb : x.2.bad
   case true =>
    have hnx2 : ¬ hasE s x.2 41 = true := by rw [hasE_bad hxb]; simp
    rw [if_neg hnx2, fail_bad hxb]
    simp -implicitDefEqProofs -dsimp only [go_sem, enc, hmy, hne, encT_eq, hxb, z0, encs, cut_set _ _ _ _ hp, cut_und _ _ hu]
   case false =>
    simp -implicitDefEqProofs -dsimp only [go_sem, hne, encT_eq, hxb]
    refine (v42 s x.2 p lim (d + 1) hp1 _ ?_ ?_).wh ?_
    ·simp only [u_tick, u_set _ _ _ _ hp1, u_mine]; exact hun
    ·simp only [go_sem, hne, if_true, if_false]; rw [encT_good s x.2 hxb]
    simp -implicitDefEqProofs -dsimp only [go_sem]
    refine (k2 s x.2 41 (by omega) g2 p lim (d + 1) hp1 _ ?_ ?_).wh ?_
    ·simp only [u_tick, u_set _ _ _ _ hp1, u_mine]; exact hun
    ·simp only [go_sem, hne, if_true, if_false]; rw [encT_good s x.2 hxb]
    cases h41 : hasE s x.2 41
    ·have h41' : ¬ hasE s x.2 41 = true := by simp [h41]
     rw [if_neg h41']
     simp -implicitDefEqProofs -dsimp only [go_sem]
     refine (v24 s x.2 p lim (d + 1) hp1 hlim _ ?_ ?_).wh ?_
     ·simp only [u_tick, u_set _ _ _ _ hp1, u_mine]; exact hun
     ·simp only [go_sem, hne, if_true, if_false]; rw [encT_good s x.2 hxb]
     simp -implicitDefEqProofs -dsimp only [go_sem, hmy, cut_set _ _ _ _ hp, cut_und _ _ hu]
    ·rw [if_pos h41]
     obtain ⟨b1, b3⟩ := hasE_lt h41
     have x3 := wr64 ((x.2.at' : Int) + 2) (by omega) (by omega)
     simp -implicitDefEqProofs -dsimp only [go_sem]
     rw [D_dr (by kernel_rfl) rfl]
     simp -implicitDefEqProofs -dsimp only [go_sem, hne]
     refine (v42 s x.2 p (d + 1) (d + 1) hp1 _ ?_ ?_).wh ?_
     ·simp only [u_tick, u_set _ _ _ _ hp1, u_mine]; exact hun
     ·simp only [go_sem, hne, if_true, if_false]; rw [encT_good s x.2 hxb]
     simp -implicitDefEqProofs -dsimp only [go_sem, enc, hmy, hne, x3, hp, hlim, encT_go s x.2 _ b1, cut_set _ _ _ _ hp, cut_und _ _ hu, Int.natCast_add, encs, enc_take]
 case false =>
  rw [if_neg Bool.false_ne_true]
  cases h10 : c == 10
  ·have h10' : ¬ c = 10 := by simpa using h10
   rw [if_neg h10']
   cases h92 : c == 92
   ·have h92' : ¬ c = 92 := by simpa using h92
    rw [if_neg h92']
    cases h91 : c == 91
    ·have h91' : ¬ c = 91 := by simpa using h91
     rw [if_neg h91']
     by_cases h46 : c = 46
     ·subst h46
      rw [sigB_dot]
      simp -implicitDefEqProofs -dsimp only [go_sem, enc, h92, h91, h10, show ((46 : UInt8) == 46) = true from rfl, ho2, hne, hmy, x1, hp, hlim, nd, encs, encT_go s r _ hb, cut_set _ _ _ _ hp, cut_und _ _ hu, Int.natCast_add]
     ·have h46' : (c == 46) = false := by simpa using h46
      by_cases h94 : c = 94
      ·subst h94
       cases bg
       ·rw [sigB_hat0]
        simp -implicitDefEqProofs -dsimp only [go_sem, h92, h91, h10, h46', show ((94 : UInt8) == 94) = true from rfl, ho2, hne]
        rw [D_dr (by kernel_rfl) rfl]
        simp -implicitDefEqProofs -dsimp only [go_sem, enc, show ((94 : UInt8) == 36) = false from rfl, ho2, hne, hmy, x1, hp, hlim, lit, encs, encT_go s r _ hb, cut_set _ _ _ _ hp, cut_und _ _ hu, Int.natCast_add]
       ·rw [sigB_hat1]
        simp -implicitDefEqProofs -dsimp only [go_sem, enc, h92, h91, h10, h46', show ((94 : UInt8) == 94) = true from rfl, ho2, hne, hmy, x1, hp, hlim, nd, encs, encT_go s r _ hb, cut_set _ _ _ _ hp, cut_und _ _ hu, Int.natCast_add]
      ·have h94' : (c == 94) = false := by simpa using h94
       by_cases h36 : c = 36
       ·subst h36
        simp -implicitDefEqProofs -dsimp only [go_sem, h92, h91, h10, h46', h94']
        rw [D_dr (by kernel_rfl) rfl]
        by_cases hend : r.at' + 1 = s.length
        ·have e1 : ((r.at' : Int) + 1 == (s.length : Int)) = true := by rw [beq_iff_eq]; omega
         have he : endsB s r.at' = true := by unfold endsB; rw [List.getElem?_eq_none (by omega)]; rfl
         rw [sigB_dol1 _ _ _ he]
         simp -implicitDefEqProofs -dsimp only [go_sem, enc, show ((36 : UInt8) == 36) = true from rfl, e1, ho2, hne, hmy, x1, hp, hlim, nd, encs, encT_go s r _ hb, cut_set _ _ _ _ hp, cut_und _ _ hu, Int.natCast_add]
        ·have e1 : ((r.at' : Int) + 1 == (s.length : Int)) = false := by rw [beq_eq_false_iff_ne]; omega
         have g1 : s[r.at' + 1]? = some s[r.at' + 1] := List.getElem?_eq_getElem (by omega)
         have m1 : (if (s.length : Int) < (r.at' : Int) + 3 then (s.length : Int) else (r.at' : Int) + 3) = ((min (r.at' + 3) s.length : Nat) : Int) := by split <;> omega
         have e2 : (0 : Int) ≤ ((min (r.at' + 3) s.length : Nat) : Int) ∧ ((min (r.at' + 3) s.length : Nat) : Int) ≤ (s.length : Int) := by omega
         have e3 : (0 : Int) ≤ (r.at' : Int) + 1 ∧ (r.at' : Int) + 1 ≤ ((min (r.at' + 3) s.length : Nat) : Int) := by omega
         have t3 : ((r.at' : Int) + 1).toNat = r.at' + 1 := by omega
         have e4 : ((s.take (min (r.at' + 3) s.length)).drop (r.at' + 1) == [92, 41]) = endsB s r.at' := by
          unfold endsB
          rw [g1]
          by_cases h2 : r.at' + 2 < s.length
          ·have g2 : s[r.at' + 2]? = some s[r.at' + 2] := List.getElem?_eq_getElem h2
           have hm : min (r.at' + 3) s.length = r.at' + 1 + 2 := by omega
           have hc := cut_at s (r.at' + 1) 0 2
           simp only [Nat.add_zero, List.drop_zero] at hc
           rw [hm, hc, List.drop_eq_getElem_cons (by omega), List.drop_eq_getElem_cons (show r.at' + 1 + 1 < s.length by omega), g2]
           simp only [List.take_succ_cons, List.take_zero]
           rw [Bool.eq_iff_iff]; simp
          ·have hm : min (r.at' + 3) s.length = r.at' + 1 + 1 := by omega
           have hc := cut_at s (r.at' + 1) 0 1
           simp only [Nat.add_zero, List.drop_zero] at hc
           rw [hm, hc, List.drop_eq_getElem_cons (by omega), List.getElem?_eq_none (show s.length ≤ r.at' + 2 by omega)]
           simp only [List.take_succ_cons, List.take_zero]
           rw [Bool.eq_iff_iff]; simp
         simp -implicitDefEqProofs -dsimp only [go_sem, show ((36 : UInt8) == 36) = true from rfl, e1, ho2, hne, x1, x1'', mm, mmGo, bnd, e3]
         simp only [m1]
         refine ⟨e2, by omega, ?_⟩
         rw [Int.toNat_natCast, t3, e4]
         cases he : endsB s r.at'
         ·rw [sigB_dol0 _ _ _ he]
          simp -implicitDefEqProofs -dsimp only [go_sem, enc, hmy, hp, hlim, lit, encs, encT_go s r _ hb, cut_set _ _ _ _ hp, cut_und _ _ hu, Int.natCast_add, Bool.false_eq_true]
         ·rw [sigB_dol1 _ _ _ he]
          simp -implicitDefEqProofs -dsimp only [go_sem, enc, hmy, hp, hlim, nd, encs, encT_go s r _ hb, cut_set _ _ _ _ hp, cut_und _ _ hu, Int.natCast_add]
       ·have h36' : (c == 36) = false := by simpa using h36
        rw [sigB_lit _ _ _ _ h46 h94 h36]
        simp -implicitDefEqProofs -dsimp only [go_sem, h92, h91, h10, h46', h94']
        rw [D_dr (by kernel_rfl) rfl]
        simp -implicitDefEqProofs -dsimp only [go_sem, enc, h36', ho2, hne, hmy, x1, hp, hlim, lit, encs, encT_go s r _ hb, cut_set _ _ _ _ hp, cut_und _ _ hu, Int.natCast_add]
    ·have h91' : c = 91 := by simpa using h91
     rw [if_pos h91']
     subst h91'
     simp -implicitDefEqProofs -dsimp only [go_sem, h10, h92, h91]
     rw [D_lx [] (by kernel_rfl) (by kernel_rfl)]; simp -implicitDefEqProofs -dsimp only [go_sem, List.takeWhile_cons, List.dropWhile_cons, isTail, evNews, List.not_mem_nil, not_false_eq_true, decide_true, decide_false, Bool.not_true, Bool.not_false, false_imp_iff, implies_true, ne_eq, ho2, hne]
     refine (w59 s r.at' (by omega) g0 (d + 1) (d + 1) (Nat.le_refl _) _ (hun1 ..)).wh ?_
     cases hbr : bracketS (s.drop (r.at' + 1)) with
     | none =>
      simp -implicitDefEqProofs -dsimp only [go_sem, brkV_none]
      refine ⟨rfl, (v24 s r p lim (d + 1) hp1 hlim _ ?_ ?_).wh ?_⟩
      ·simp only [u_tick, u_mine]; exact hun
      ·simp only [go_sem, hne, if_false]; exact ho
      simp -implicitDefEqProofs -dsimp only [go_sem, hmy, cut_set _ _ _ _ hp, cut_und _ _ hu]
     | some x =>
      have hq := (bracket_le _ _ hbr).2.2
      obtain ⟨q0, q1, q2, q3, hqe⟩ := ln4 hq
      rw [hqe] at hq
      simp -implicitDefEqProofs -dsimp only [go_sem, enc, brkV_some, hmy, hne, hqe, encS, ho2, hp, hlim, inN, encs, encT_go s r _ hb, cut_set _ _ _ _ hp, cut_und _ _ hu, List.getD_cons_zero, List.getD_cons_succ]
   ·have h92' : c = 92 := by simpa using h92
    rw [if_pos h92']
    simp -implicitDefEqProofs -dsimp only [go_sem, h10, h92]
    refine (v58 s r (by omega) hr hb p lim (d + 1) hp1 hlim _ (hun1 ..) (hob1 ..)).wh ?_
    simp -implicitDefEqProofs -dsimp only [go_sem, hmy, cut_set _ _ _ _ hp, cut_und _ _ hu]
  ·have h10' : c = 10 := by simpa using h10
   rw [if_pos h10']
   simp -implicitDefEqProofs -dsimp only [go_sem, h10]
   refine (v24 s r p lim (d + 1) hp1 hlim _ (hun1 ..) (hob1 ..)).wh ?_
   simp -implicitDefEqProofs -dsimp only [go_sem, hmy, cut_set _ _ _ _ hp, cut_und _ _ hu]
end
end Go.Proofs.Tryz.E
