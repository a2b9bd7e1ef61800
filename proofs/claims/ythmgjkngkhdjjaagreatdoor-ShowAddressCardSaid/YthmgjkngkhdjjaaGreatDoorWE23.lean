/- Walks: what the functions compute. Walks: what the functions compute. -/
import Derived.Test.YthmgjkngkhdjjaaGreatDoorE21
import Derived.Test.YthmgjkngkhdjjaaGreatDoorG0
set_option linter.unusedVariables false
set_option linter.unusedSimpArgs false
/- The reader: what stands next, what is wrong. -/
namespace Go.Proofs.Tryz.E
open Go.Mv
set_option maxHeartbeats 4000000
set_option maxRecDepth 20000
def encP (s : List UInt8) (r : Rd) : List MV := [.str s, .int .i64 r.at', .int .i64 r.g, .int .i64 (if r.bad = true then (r.at' : Int) else -1)]
def pkV (o : Option UInt8) : MV := match o with
 | some c => .tup [.int .u8 c.toNat, .bool true]
 | none => .tup [.int .u8 0, .bool false]
theorem pkV_some (c : UInt8) : pkV (some c) = .tup [.int .u8 c.toNat, .bool true] := rfl
theorem pkV_none : pkV none = .tup [.int .u8 0, .bool false] := rfl
theorem w20 (s : List UInt8) (r : Rd) (hs : s.length ≤ 1000000) (p : Mv.Loc) (lim d : Nat) (hp : p.d < d) (σ : Sto) (hu : σ.Und d) (ho : σ.ob p = some (encP s r)) : Ret lim d 63 [.ptr p 0] σ (pkV (r.nx s)) σ := by
 obtain ⟨n, g, bad⟩ := r
 simp only [encP, Rd.nx] at ho ⊢
 unfold Ret
 rw [WF_body (C := X) rfl func63 rfl (by kernel_rfl)]; simp only [results63]
 simp -implicitDefEqProofs -dsimp only [go_sem]
 rw [D_dr (by kernel_rfl) rfl]
 cases bad
 ·simp only [Bool.false_eq_true, if_false] at ho ⊢
  by_cases h : n < s.length
  ·have e1 : ¬ ((s.length : Int) ≤ (n : Int)) := by omega
   have g1 : s[n]? = some s[n] := List.getElem?_eq_getElem h
   have e3 : ¬ ((0 : Int) ≤ -1) := by decide
   simp -implicitDefEqProofs -dsimp only [go_sem, ho, e1, e3]
   rw [D_dr (by kernel_rfl) rfl]
   rw [g1]
   simp -implicitDefEqProofs -dsimp only [go_sem, ho, g1, pkV_some, cut_und _ _ hu]
  ·have e1 : ((s.length : Int) ≤ (n : Int)) := by omega
   have e3 : ¬ ((0 : Int) ≤ -1) := by decide
   rw [List.getElem?_eq_none (by omega)]
   simp -implicitDefEqProofs -dsimp only [go_sem, ho, e1, e3, pkV_none, cut_und _ _ hu]
 ·simp only [if_true] at ho ⊢
  have e1 : ((0 : Int) ≤ (n : Int)) := by omega
  simp -implicitDefEqProofs -dsimp only [go_sem, ho, e1, pkV_none, cut_und _ _ hu]
theorem w31 (s : List UInt8) (r : Rd) (t : List UInt8) (hs : s.length ≤ 1000000) (p : Mv.Loc) (lim d : Nat) (hp : p.d < d) (σ : Sto) (hu : σ.Und d) (ho : σ.ob p = some (encP s r)) : Ret lim d 87 [.ptr p 0, .str t] σ (.bool (isS t (r.nx s))) σ := by
 have hun := und_succ hu
 unfold Ret
 rw [WF_body (C := X) rfl func87 rfl (by kernel_rfl)]; simp only [results87]
 simp -implicitDefEqProofs -dsimp only [go_sem]
 refine (w20 s r hs p lim (d + 1) (Nat.lt_succ_of_lt hp) _ hun ho).wh ?_
 cases r.nx s with
 | none => simp -implicitDefEqProofs -dsimp only [go_sem, pkV_none, isS_none, cut_und _ _ hu]
 | some c =>
  simp -implicitDefEqProofs -dsimp only [go_sem, pkV_some]
  refine (w41 t c lim (d + 1) _ hun).wh ?_
  simp -implicitDefEqProofs -dsimp only [go_sem, isS_some, idxB_in, cut_und _ _ hu]
theorem w21 (s : List UInt8) (r : Rd) (p : Mv.Loc) (lim d : Nat) (hp : p.d < d) (hlim : lim ≤ p.d) (σ : Sto) (hu : σ.Und d) (ho : σ.ob p = some (encP s r)) : Ret lim d 64 [.ptr p 0] σ (.agg (enc z0)) (σ.set p (encP s r.fail)) := by
 have hset := set_same ho
 obtain ⟨n, g, bad⟩ := r
 have hne := ne_my hp
 have hmy := my_ne hp
 simp only [encP, Rd.fail] at ho hset ⊢
 unfold Ret
 rw [WF_body (C := X) rfl func64 rfl (by kernel_rfl)]; simp only [results64]
 cases bad
 ·simp only [Bool.false_eq_true, if_false, if_true] at ho ⊢
  have e3 : ((-1 : Int) < 0) := by decide
  simp -implicitDefEqProofs -dsimp only [go_sem, enc, ho, hne, hmy, e3, hp, hlim, cut_set _ _ _ _ hp, cut_und _ _ hu, z0, encs]
 ·simp only [if_true] at ho hset ⊢
  have e1 : ¬ ((n : Int) < 0) := by omega
  simp -implicitDefEqProofs -dsimp only [go_sem, enc, ho, hne, e1, cut_und _ _ hu, z0, hset, encs]
theorem w65 (c : UInt8) (lim d : Nat) (σ : Sto) (hu : σ.Und d) : Ret lim d 146 [.int .u8 c.toNat] σ (.agg (enc (simpleS c))) σ := by
 unfold Ret
 rw [WF_body (C := X) rfl func146 rfl (by kernel_rfl)]; simp only [results146]
 unfold simpleS
 by_cases h1 : c = 46
 ·subst h1; simp -implicitDefEqProofs -dsimp only [go_sem, enc, show ((46 : UInt8) == 46) = true from rfl, cut_und _ _ hu, nd, encs]
 ·rw [if_neg h1]
  have h1' := beq_eq_false_iff_ne.2 h1
  by_cases h2 : c = 94
  ·subst h2; simp -implicitDefEqProofs -dsimp only [go_sem, enc, show ((94 : UInt8) == 46) = false from rfl, show ((94 : UInt8) == 94) = true from rfl, cut_und _ _ hu, nd, encs]
  ·rw [if_neg h2]
   have h2' := beq_eq_false_iff_ne.2 h2
   by_cases h3 : c = 36
   ·subst h3; simp -implicitDefEqProofs -dsimp only [go_sem, enc, show ((36 : UInt8) == 46) = false from rfl, show ((36 : UInt8) == 94) = false from rfl, show ((36 : UInt8) == 36) = true from rfl, cut_und _ _ hu, nd, encs]
   ·rw [if_neg h3]
    have h3' := beq_eq_false_iff_ne.2 h3
    simp -implicitDefEqProofs -dsimp only [go_sem, enc, h1', h2', h3', cut_und _ _ hu, lit, encs]
theorem w77 (s : List UInt8) (r : Rd) (hs : s.length ≤ 1000000) (hr : r.at' ≤ s.length) (hb : r.bad = false) (p : Mv.Loc) (lim d : Nat) (hp : p.d < d) (hlim : lim ≤ p.d) (σ : Sto) (hu : σ.Und d) (ho : σ.ob p = some (encP s r)) :
  Ret lim d 161 [.ptr p 0] σ (.int .i64 (numG (-1) (digsAt s r.at'))) (σ.set p (encP s (r.go (r.at' + (digsAt s r.at').length)))) := by
 have hun := und_succ hu
 have hne := ne_my hp
 have hmy := my_ne hp
 have hp1 := Nat.lt_succ_of_lt hp
 unfold Ret
 rw [WF_body (C := X) rfl func161 rfl (by kernel_rfl)]; simp only [results161]
 simp -implicitDefEqProofs -dsimp only [go_sem]
 refine loop_h (I := fun f a s' => ∃ (m : Nat) (v : Int), m ≤ s.length ∧ f + m = s.length ∧ a 0 = .ptr p 0 ∧ a 3 = .int .i64 v ∧ -1 ≤ v ∧ v ≤ 256 ∧ s'.ob p = some (encP s (r.go m)) ∧ s'.cut d = σ.set p (encP s (r.go m)) ∧ s'.Und (d + 1) ∧ numG v (digsAt s m) = numG (-1) (digsAt s r.at') ∧ m + (digsAt s m).length = r.at' + (digsAt s r.at').length) ?_ (s.length - r.at') _ _ ?_
 ·rintro f a s' ⟨m, v, hm, hf, a0, a3, v1, v2, hop, hcut, hus, hnum, hlen⟩
  have hx := w31 s (r.go m) [48, 49, 50, 51, 52, 53, 54, 55, 56, 57] hs p lim (d + 1) hp1 s' hus hop
  have hnx : (r.go m).nx s = s[m]? := by simp [Rd.nx, Rd.go, hb]
  rw [hnx] at hx
  rw [digs_at] at hnum hlen
  simp -implicitDefEqProofs -dsimp only [go_sem, a0]
  refine hx.wh ?_
  cases hsm : s[m]? with
  | none =>
   rw [hsm] at hnum hlen
   simp only [numG, List.length_nil, Nat.add_zero] at hnum hlen
   simp -implicitDefEqProofs -dsimp only [go_sem, isS_none, a3, hcut, ← hnum, ← hlen]
  | some b =>
   rw [hsm] at hnum hlen
   simp only at hnum hlen
   cases hd : dig b
   ·rw [hd] at hnum hlen
    simp only [Bool.false_eq_true, if_false, numG, List.length_nil, Nat.add_zero] at hnum hlen
    simp -implicitDefEqProofs -dsimp only [go_sem, isS_some, dig_is, hd, a3, hcut, ← hnum, ← hlen]
   ·rw [hd] at hnum hlen
    simp only [if_true, numG, List.length_cons] at hnum hlen
    have hlt : m < s.length := by
     rcases Nat.lt_or_ge m s.length with h | h
     ·exact h
     ·rw [List.getElem?_eq_none h] at hsm; cases hsm
    have hdig := hd
    simp only [dig, Bool.and_eq_true, decide_eq_true_eq] at hdig
    have hop2 := hop
    simp only [encP, Rd.go, hb, Bool.false_eq_true, if_false] at hop2
    have x1 := wr64 ((m : Int) + 1) (by omega) (by omega)
    have x2 := wru8 ((b.toNat : Int) - 48) (by omega) (by omega)
    have x3 := wr64 ((b.toNat : Int) - 48) (by omega) (by omega)
    have x4 := wr64 (10 * (if 0 > v then 0 else v)) (by split <;> omega) (by split <;> omega)
    have x5 := wr64 (10 * (if 0 > v then 0 else v) + ((b.toNat : Int) - 48)) (by split <;> omega) (by split <;> omega)
    simp -implicitDefEqProofs -dsimp only [go_sem, isS_some, dig_is, hd]
    rw [D_dr (by kernel_rfl) rfl]
    simp -implicitDefEqProofs -dsimp only [go_sem, a0, a3, hop2, hsm, x1, x2, x3, x4, x5, hp, hlim]
    have hgo : [MV.str s, .int .i64 ((m : Int) + 1), .int .i64 r.g, .int .i64 (-1)] = encP s (r.go (m + 1)) := by simp only [encP, Rd.go, hb, Bool.false_eq_true, if_false]; rfl
    rw [hgo]
    refine ⟨f - 1, by omega, m + 1, _, by omega, by omega, rfl, ?_, ?_, rfl, ?_, ?_, hnum, by omega⟩
    ·split <;> split <;> omega
    ·split <;> split <;> omega
    ·rw [cut_set _ _ _ _ hp, hcut, set_set]
    ·rw [u_set _ _ _ _ hp1]; exact hus
 ·have hgo : r.go r.at' = r := by cases r; rfl
  refine ⟨r.at', -1, hr, by omega, rfl, rfl, by omega, by omega, by rw [hgo]; exact ho, by rw [hgo, set_same ho]; exact cut_und _ _ hu, hun, rfl, rfl⟩
def brcV (o : Option (Int × Int × Nat)) : MV := match o with
 | some x => .tup [.int .i64 x.1, .int .i64 x.2.1, .bool true]
 | none => .tup [.int .i64 0, .int .i64 0, .bool false]
def brcR (r : Rd) (o : Option (Int × Int × Nat)) : Rd := match o with
 | some x => r.go x.2.2
 | none => r
theorem brcV_some (x : Int × Int × Nat) : brcV (some x) = .tup [.int .i64 x.1, .int .i64 x.2.1, .bool true] := rfl
theorem brcV_none : brcV none = .tup [.int .i64 0, .int .i64 0, .bool false] := rfl
theorem brcR_some (r : Rd) (x : Int × Int × Nat) : brcR r (some x) = r.go x.2.2 := rfl
theorem brcR_none (r : Rd) : brcR r none = r := rfl
theorem encP_go (s : List UInt8) (r : Rd) (a : Nat) (h : r.bad = false) : encP s (r.go a) = [.str s, .int .i64 a, .int .i64 r.g, .int .i64 (-1)] := by simp only [encP, Rd.go, h, Bool.false_eq_true, if_false]
theorem encP_good (s : List UInt8) (r : Rd) (h : r.bad = false) : encP s r = [.str s, .int .i64 r.at', .int .i64 r.g, .int .i64 (-1)] := by simp only [encP, h, Bool.false_eq_true, if_false]
theorem w66 (s : List UInt8) (r : Rd) (hs : s.length ≤ 1000000) (hr : r.at' < s.length) (hb : r.bad = false) (p : Mv.Loc) (lim d : Nat) (hp : p.d < d) (hlim : lim ≤ p.d) (σ : Sto) (hu : σ.Und d) (ho : σ.ob p = some (encP s r)) :
  Ret lim d 147 [.ptr p 0] σ (brcV (bracesS s r.at')) (σ.set p (encP s (brcR r (bracesS s r.at')))) := by
 have hun := und_succ hu
 have hne := ne_my hp
 have hmy := my_ne hp
 have hp1 := Nat.lt_succ_of_lt hp
 have hus : ∀ R : List MV, (σ.set p R).Und (d + 1) := fun R => by rw [u_set _ _ _ _ hp1]; exact hun
 have hos : ∀ R : List MV, (σ.set p R).ob p = some R := fun R => by simp only [go_sem, if_true]
 have ho2 := ho
 rw [encP_good s r hb] at ho2
 have x1 := wr64 ((r.at' : Int) + 1) (by omega) (by omega)
 have hA := digs_len s (r.at' + 1)
 have hAd := digs_dig s (r.at' + 1)
 have hgo1 : [MV.str s, .int .i64 ((r.at' : Int) + 1), .int .i64 r.g, .int .i64 (-1)] = encP s (r.go (r.at' + 1)) := by rw [encP_go s r _ hb]; rfl
 have hback : [MV.str s, .int .i64 r.at', .int .i64 r.g, .int .i64 (-1)] = encP s r := (encP_good s r hb).symm
 have hBu : bracesS s r.at' = if digsAt s (r.at' + 1) = [] ∨ 255 < numV (digsAt s (r.at' + 1)) then none else
  if s[r.at' + 1 + (digsAt s (r.at' + 1)).length]? = some 44 then
   if s[r.at' + 1 + (digsAt s (r.at' + 1)).length + 1 + (digsAt s (r.at' + 1 + (digsAt s (r.at' + 1)).length + 1)).length]? = some 125 ∧ (digsAt s (r.at' + 1 + (digsAt s (r.at' + 1)).length + 1) = [] ∨ numV (digsAt s (r.at' + 1 + (digsAt s (r.at' + 1)).length + 1)) ≤ 255 ∧ numV (digsAt s (r.at' + 1)) ≤ numV (digsAt s (r.at' + 1 + (digsAt s (r.at' + 1)).length + 1))) then
    some ((numV (digsAt s (r.at' + 1)) : Int), if digsAt s (r.at' + 1 + (digsAt s (r.at' + 1)).length + 1) = [] then (-1 : Int) else (numV (digsAt s (r.at' + 1 + (digsAt s (r.at' + 1)).length + 1)) : Int), r.at' + 1 + (digsAt s (r.at' + 1)).length + 1 + (digsAt s (r.at' + 1 + (digsAt s (r.at' + 1)).length + 1)).length + 1) else none
  else if s[r.at' + 1 + (digsAt s (r.at' + 1)).length]? = some 125 then some ((numV (digsAt s (r.at' + 1)) : Int), (numV (digsAt s (r.at' + 1)) : Int), r.at' + 1 + (digsAt s (r.at' + 1)).length + 1) else none := rfl
 generalize bracesS s r.at' = B at hBu
 unfold Ret
 rw [WF_body (C := X) rfl func147 rfl (by kernel_rfl)]; simp only [results147]
 simp -implicitDefEqProofs -dsimp only [go_sem, ho2, x1, hp, hlim, hgo1]
 refine (w77 s (r.go (r.at' + 1)) hs (by rw [go_at]; omega) hb p lim (d + 1) hp1 hlim _ (hus _) (hos _)).wh ?_
 simp only [go_at, go_go]
 generalize hAA : digsAt s (r.at' + 1) = A at hA hAd hBu
 generalize hP : r.at' + 1 + A.length = P at hBu
 have hPl : P ≤ s.length := by omega
 have hval : A ≠ [] → numG (-1) A = ((min (numV A) 256 : Nat) : Int) := numG_val A hAd
 have x2 := wr64 ((P : Int) + 1) (by omega) (by omega)
 simp -implicitDefEqProofs -dsimp only [go_sem, set_set]
 refine (w31 s (r.go P) [44] hs p lim (d + 1) hp1 _ (hus _) (hos _)).wh ?_
 rw [go_nx s r P hb, isS_one]
 have bad1 : A = [] ∨ 255 < numV A → B = none := fun h => by rw [hBu, if_pos h]
 cases h44 : s[P]? == some 44
 ·have h44' : ¬ s[P]? = some 44 := by rw [beq_eq_false_iff_ne] at h44; exact h44
  rw [if_neg h44'] at hBu
  by_cases hA0 : A = []
  ·have hBn := bad1 (.inl hA0)
   subst hA0
   simp -implicitDefEqProofs -dsimp only [go_sem, numG, encP_go s r P hb, hp, hlim, hback, set_set, cut_set _ _ _ _ hp, cut_und _ _ hu, hBn, brcV_none, brcR_none]
  ·rw [hval hA0]
   by_cases hbig : 255 < numV A
   ·have hBn := bad1 (.inr hbig)
    have e1 : ¬ (((min (numV A) 256 : Nat) : Int) ≤ 255) := by omega
    have e2 : (0 : Int) ≤ ((min (numV A) 256 : Nat) : Int) := by omega
    simp -implicitDefEqProofs -dsimp only [go_sem, e1, e2, encP_go s r P hb, hp, hlim, hback, set_set, cut_set _ _ _ _ hp, cut_und _ _ hu, hBn, brcV_none, brcR_none]
   ·have e0 : ((min (numV A) 256 : Nat) : Int) = (numV A : Int) := by omega
    have e1 : ((numV A : Int) ≤ 255) := by omega
    have e2 : (0 : Int) ≤ (numV A : Int) := by omega
    have e3 : ¬ ((numV A : Int) < 0) := by omega
    rw [if_neg (by simp [hA0, hbig])] at hBu
    rw [e0]
    simp -implicitDefEqProofs -dsimp only [go_sem, e1, e2, e3]
    refine (w31 s (r.go P) [125] hs p lim (d + 1) hp1 _ (hus _) (hos _)).wh ?_
    rw [go_nx s r P hb, isS_one]
    cases h125 : s[P]? == some 125
    ·have hBn : B = none := by
      rw [beq_eq_false_iff_ne] at h125
      rw [hBu, if_neg h125]
     simp -implicitDefEqProofs -dsimp only [go_sem, encP_go s r P hb, hp, hlim, hback, set_set, cut_set _ _ _ _ hp, cut_und _ _ hu, hBn, brcV_none, brcR_none]
    ·rw [if_pos (by simpa using h125)] at hBu
     simp -implicitDefEqProofs -dsimp only [go_sem, encP_go s r P hb, x2, hp, hlim, set_set, cut_set _ _ _ _ hp, cut_und _ _ hu, hBu, brcV_some, brcR_some, encP_go s r (P + 1) hb, Int.natCast_add]
 ·have h44' : s[P]? = some 44 := by simpa using h44
  have hPs : P < s.length := by
   rcases Nat.lt_or_ge P s.length with h | h
   ·exact h
   ·rw [List.getElem?_eq_none h] at h44'; cases h44'
  rw [if_pos h44'] at hBu
  have hgo2 : [MV.str s, .int .i64 ((P : Int) + 1), .int .i64 r.g, .int .i64 (-1)] = encP s (r.go (P + 1)) := by rw [encP_go s r _ hb]; rfl
  simp -implicitDefEqProofs -dsimp only [go_sem, encP_go s r P hb, x2, hp, hlim, set_set, hgo2]
  refine (w77 s (r.go (P + 1)) hs (by rw [go_at]; omega) hb p lim (d + 1) hp1 hlim _ (hus _) (hos _)).wh ?_
  simp only [go_at, go_go]
  have hC := digs_len s (P + 1)
  have hCd := digs_dig s (P + 1)
  generalize hCC : digsAt s (P + 1) = C at hC hCd hBu
  generalize hQ : P + 1 + C.length = Q at hBu
  have hQl : Q ≤ s.length := by omega
  have hvalC : C ≠ [] → numG (-1) C = ((min (numV C) 256 : Nat) : Int) := numG_val C hCd
  have x3 := wr64 ((Q : Int) + 1) (by omega) (by omega)
  by_cases hA0 : A = []
  ·have hBn := bad1 (.inl hA0)
   subst hA0
   simp -implicitDefEqProofs -dsimp only [go_sem, numG, encP_go s r Q hb, hp, hlim, hback, set_set, cut_set _ _ _ _ hp, cut_und _ _ hu, hBn, brcV_none, brcR_none]
  ·rw [hval hA0]
   by_cases hbig : 255 < numV A
   ·have hBn := bad1 (.inr hbig)
    have e1 : ¬ (((min (numV A) 256 : Nat) : Int) ≤ 255) := by omega
    have e2 : (0 : Int) ≤ ((min (numV A) 256 : Nat) : Int) := by omega
    simp -implicitDefEqProofs -dsimp only [go_sem, e1, e2, encP_go s r Q hb, hp, hlim, hback, set_set, cut_set _ _ _ _ hp, cut_und _ _ hu, hBn, brcV_none, brcR_none]
   ·have e0 : ((min (numV A) 256 : Nat) : Int) = (numV A : Int) := by omega
    have e1 : ((numV A : Int) ≤ 255) := by omega
    have e2 : (0 : Int) ≤ (numV A : Int) := by omega
    rw [if_neg (by simp [hA0, hbig])] at hBu
    rw [e0]
    by_cases hC0 : C = []
    ·subst hC0
     simp only [true_or, and_true, if_true] at hBu
     simp -implicitDefEqProofs -dsimp only [go_sem, e1, e2, numG, set_set]
     refine (w31 s (r.go Q) [125] hs p lim (d + 1) hp1 _ (hus _) (hos _)).wh ?_
     rw [go_nx s r Q hb, isS_one]
     cases h125 : s[Q]? == some 125
     ·have hBn : B = none := by
       rw [beq_eq_false_iff_ne] at h125
       rw [hBu, if_neg h125]
      simp -implicitDefEqProofs -dsimp only [go_sem, encP_go s r Q hb, hp, hlim, hback, set_set, cut_set _ _ _ _ hp, cut_und _ _ hu, hBn, brcV_none, brcR_none]
     ·rw [if_pos (by simpa using h125)] at hBu
      simp -implicitDefEqProofs -dsimp only [go_sem, encP_go s r Q hb, x3, hp, hlim, set_set, cut_set _ _ _ _ hp, cut_und _ _ hu, hBu, brcV_some, brcR_some, encP_go s r (Q + 1) hb, Int.natCast_add]
    ·rw [hvalC hC0]
     simp only [hC0, false_or, if_false] at hBu
     by_cases hbg : 255 < numV C
     ·have hBn : B = none := by rw [hBu, if_neg (by omega)]
      have e4 : ¬ (((min (numV C) 256 : Nat) : Int) ≤ 255) := by omega
      simp -implicitDefEqProofs -dsimp only [go_sem, e1, e2, e4, encP_go s r Q hb, hp, hlim, hback, set_set, cut_set _ _ _ _ hp, cut_und _ _ hu, hBn, brcV_none, brcR_none]
     ·have e5 : ((min (numV C) 256 : Nat) : Int) = (numV C : Int) := by omega
      rw [e5]
      have e6 : ((numV C : Int) ≤ 255) := by omega
      have e7 : ¬ ((numV C : Int) < 0) := by omega
      by_cases hle : numV A ≤ numV C
      ·have e8 : ((numV A : Int) ≤ (numV C : Int)) := by omega
       simp -implicitDefEqProofs -dsimp only [go_sem, e1, e2, e6, e7, e8, set_set]
       refine (w31 s (r.go Q) [125] hs p lim (d + 1) hp1 _ (hus _) (hos _)).wh ?_
       rw [go_nx s r Q hb, isS_one]
       cases h125 : s[Q]? == some 125
       ·have hBn : B = none := by
         rw [beq_eq_false_iff_ne] at h125
         rw [hBu, if_neg (fun h => h125 h.1)]
        simp -implicitDefEqProofs -dsimp only [go_sem, encP_go s r Q hb, hp, hlim, hback, set_set, cut_set _ _ _ _ hp, cut_und _ _ hu, hBn, brcV_none, brcR_none]
       ·rw [if_pos ⟨by simpa using h125, by omega, hle⟩] at hBu
        simp -implicitDefEqProofs -dsimp only [go_sem, encP_go s r Q hb, x3, hp, hlim, set_set, cut_set _ _ _ _ hp, cut_und _ _ hu, hBu, brcV_some, brcR_some, encP_go s r (Q + 1) hb, Int.natCast_add]
      ·have hBn : B = none := by rw [hBu, if_neg (fun h => hle h.2.2)]
       have e8 : ¬ ((numV A : Int) ≤ (numV C : Int)) := by omega
       simp -implicitDefEqProofs -dsimp only [go_sem, e1, e2, e6, e7, e8, encP_go s r Q hb, hp, hlim, hback, set_set, cut_set _ _ _ _ hp, cut_und _ _ hu, hBn, brcV_none, brcR_none]
end Go.Proofs.Tryz.E
