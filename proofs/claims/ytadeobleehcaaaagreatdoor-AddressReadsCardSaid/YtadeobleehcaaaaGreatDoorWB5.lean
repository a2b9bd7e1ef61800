/- Walks: what the functions compute. Walks: what the functions compute. -/
import Derived.Test.YtadeobleehcaaaaGreatDoorWB3
import Derived.Test.YtadeobleehcaaaaGreatDoorE21
set_option linter.unusedVariables false
set_option linter.unusedSimpArgs false
/- The program's reader of basic patterns: bounds, escapes, repeats. -/
namespace Go.Proofs.Tryz.E
open Go.Mv
set_option maxHeartbeats 4000000
set_option maxRecDepth 20000
def bdV (n : Nat) (o : Option (Int × Int × Nat)) : MV := match o with
 | some y => .tup [.int .i64 y.1, .int .i64 y.2.1, .int .i64 ((y.2.2 : Int) - n)]
 | none => .tup [.int .i64 0, .int .i64 0, .int .i64 0]
theorem bdV_some (n : Nat) (y : Int × Int × Nat) : bdV n (some y) = .tup [.int .i64 y.1, .int .i64 y.2.1, .int .i64 ((y.2.2 : Int) - n)] := rfl
theorem bdV_none (n : Nat) : bdV n none = .tup [.int .i64 0, .int .i64 0, .int .i64 0] := rfl
theorem pre_close (s : List UInt8) (q : Nat) : preS (s.drop q) [92, 125] = closeB s q := by
 unfold closeB
 by_cases h : q < s.length
 ·rw [List.drop_eq_getElem_cons h, List.getElem?_eq_getElem h]
  by_cases h2 : q + 1 < s.length
  ·rw [List.drop_eq_getElem_cons h2, pre_two, List.getElem?_eq_getElem h2]
   rw [Bool.eq_iff_iff]; simp
  ·rw [List.drop_eq_nil_of_le (by omega), pre_two1, List.getElem?_eq_none (by omega)]
   rw [Bool.eq_iff_iff]; simp
 ·rw [List.drop_eq_nil_of_le (by omega), pre_nil _ (by simp), List.getElem?_eq_none (by omega)]
  simp
theorem pre_comma (s : List UInt8) (q : Nat) : preS (s.drop q) [44] = (s[q]? == some 44) := by
 by_cases h : q < s.length
 ·rw [List.drop_eq_getElem_cons h, pre_one, List.getElem?_eq_getElem h]
  rw [Bool.eq_iff_iff]; simp
 ·rw [List.drop_eq_nil_of_le (by omega), pre_nil _ (by simp), List.getElem?_eq_none (by omega)]
  rfl
theorem nuT_at (s : List UInt8) (n : Nat) : nuT (s.drop n) = if digsAt s n = [] then .tup [.int .i64 (-1), .str (s.drop n)] else .tup [.int .i64 (min (numV (digsAt s n)) 256 : Nat), .str (s.drop (n + (digsAt s n).length))] := by
 unfold nuT digsAt
 rw [trim_drop, List.drop_drop]
theorem w217 (s : List UInt8) (n : Nat) (hs : s.length ≤ 1000000) (h1 : s[n]? = some 92) (h2 : s[n + 1]? = some 123) (lim d : Nat) (σ : Sto) (hu : σ.Und d) :
  Ret lim d 124 [.str (s.drop n), .str [92, 123], .str [92, 125]] σ (bdV n (bracesB s n)) σ := by
 have hun := und_succ hu
 have hn : n + 1 < s.length := (List.getElem?_eq_some_iff.1 h2).1
 have hp : preS (s.drop n) [92, 123] = true := by
  rw [List.drop_eq_getElem_cons (by omega), List.drop_eq_getElem_cons hn, pre_two]
  rw [List.getElem?_eq_getElem (by omega)] at h1
  rw [List.getElem?_eq_getElem hn] at h2
  simp only [Option.some.injEq] at h1 h2
  rw [h1, h2]; rfl
 have hA := digs_len s (n + 2)
 have hd2 : (s.drop n).drop 2 = s.drop (n + 2) := by rw [List.drop_drop]
 have hBu : bracesB s n = if digsAt s (n + 2) = [] ∨ 255 < numV (digsAt s (n + 2)) then none else
  if s[n + 2 + (digsAt s (n + 2)).length]? = some 44 then
   if closeB s (n + 2 + (digsAt s (n + 2)).length + 1 + (digsAt s (n + 2 + (digsAt s (n + 2)).length + 1)).length) = true ∧ (digsAt s (n + 2 + (digsAt s (n + 2)).length + 1) = [] ∨ numV (digsAt s (n + 2 + (digsAt s (n + 2)).length + 1)) ≤ 255 ∧ numV (digsAt s (n + 2)) ≤ numV (digsAt s (n + 2 + (digsAt s (n + 2)).length + 1))) then
    some ((numV (digsAt s (n + 2)) : Int), if digsAt s (n + 2 + (digsAt s (n + 2)).length + 1) = [] then (-1 : Int) else (numV (digsAt s (n + 2 + (digsAt s (n + 2)).length + 1)) : Int), n + 2 + (digsAt s (n + 2)).length + 1 + (digsAt s (n + 2 + (digsAt s (n + 2)).length + 1)).length + 2) else none
  else if closeB s (n + 2 + (digsAt s (n + 2)).length) = true then some ((numV (digsAt s (n + 2)) : Int), (numV (digsAt s (n + 2)) : Int), n + 2 + (digsAt s (n + 2)).length + 2) else none := rfl
 generalize bracesB s n = B at hBu
 have hlen : ∀ q, (s.drop q).length ≤ 1000000 := fun q => by rw [List.length_drop]; omega
 have fin : ∀ q, q + 2 ≤ s.length → n ≤ q → IntKind.i64.wrap (((s.drop n).length : Int) - ((s.drop (q + 2)).length : Int)) = ((q + 2 : Nat) : Int) - n := fun q h h' => by
  rw [List.length_drop, List.length_drop, wr64 _ (by omega) (by omega)]; omega
 unfold Ret
 rw [WF_body (C := X) rfl func124 rfl (by kernel_rfl)]; simp only [results124]
 simp -implicitDefEqProofs -dsimp only [↓reduceIte, ↓W_seq, go_sem, Nat.reduceEqDiff, reduceCtorEq]
 refine (w219 (s.drop n) [92, 123] (hlen n) (by simp) lim (d + 1) _ hun).wh ?_
 rw [if_pos hp]
 simp -implicitDefEqProofs -dsimp only [↓reduceIte, go_sem, Nat.reduceAdd, hd2]
 refine (w218 (s.drop (n + 2)) (hlen _) lim (d + 1) _ hun).wh ?_
 rw [nuT_at]
 generalize hAA : digsAt s (n + 2) = A at hA hBu
 generalize hP : n + 2 + A.length = P at hBu
 have hPl : P ≤ s.length := by omega
 by_cases hA0 : A = []
 ·rw [if_pos (.inl hA0)] at hBu
  rw [if_pos hA0, hBu]
  simp -implicitDefEqProofs -dsimp only [↓reduceIte, ↓W_seq, go_sem, Nat.reduceEqDiff, Nat.reduceAdd, Int.reduceLT, Int.reduceNeg, bdV_none, cut_und _ _ hu]
 rw [if_neg hA0]
 by_cases hbig : 255 < numV A
 ·rw [if_pos (.inr hbig)] at hBu
  have e1 : ¬ (((min (numV A) 256 : Nat) : Int) < 0) := by omega
  have e2 : (255 : Int) < ((min (numV A) 256 : Nat) : Int) := by omega
  rw [hBu]
  simp -implicitDefEqProofs -dsimp only [↓reduceIte, ↓W_seq, go_sem, Nat.reduceEqDiff, Nat.reduceAdd, e1, e2, bdV_none, cut_und _ _ hu]
 rw [if_neg (by simp [hA0, hbig])] at hBu
 have e0 : ((min (numV A) 256 : Nat) : Int) = (numV A : Int) := by omega
 have e1 : ¬ ((numV A : Int) < 0) := by omega
 have e2 : ¬ ((255 : Int) < (numV A : Int)) := by omega
 rw [e0]
 simp -implicitDefEqProofs -dsimp only [↓reduceIte, ↓W_seq, go_sem, Nat.reduceEqDiff, Nat.reduceAdd, e1, e2]
 refine (w220 (s.drop P) [44] (hlen _) (by simp) lim (d + 1) _ hun).wh ?_
 unfold cpT
 rw [pre_comma]
 by_cases h44 : s[P]? = some 44
 ·have h44' : (s[P]? == some 44) = true := by rw [h44]; rfl
  rw [if_pos h44] at hBu
  rw [if_pos h44']
  have hd1 : (s.drop P).drop 1 = s.drop (P + 1) := by rw [List.drop_drop]
  have hPl1 : P < s.length := (List.getElem?_eq_some_iff.1 h44).1
  simp -implicitDefEqProofs -dsimp only [↓reduceIte, ↓W_seq, go_sem, Nat.reduceEqDiff, Nat.reduceAdd, hd1]
  refine (w218 (s.drop (P + 1)) (hlen _) lim (d + 1) _ hun).wh ?_
  rw [nuT_at]
  have hY := digs_len s (P + 1)
  generalize hYY : digsAt s (P + 1) = Y at hY hBu
  generalize hQ : P + 1 + Y.length = Q at hBu
  by_cases hY0 : Y = []
  ·have hQ' : Q = P + 1 := by rw [← hQ, hY0]; rfl
   rw [if_pos hY0]
   have e3 : ¬ ((255 : Int) < -1) := by decide
   have e4 : ¬ ((0 : Int) ≤ -1) := by decide
   simp -implicitDefEqProofs -dsimp only [↓reduceIte, ↓W_seq, go_sem, Nat.reduceEqDiff, Nat.reduceAdd, Int.reduceNeg, e3, e4]
   refine (w220 (s.drop (P + 1)) [92, 125] (hlen _) (by simp) lim (d + 1) _ hun).wh ?_
   unfold cpT
   rw [pre_close, ← hQ']
   cases hcl : closeB s Q
   ·rw [if_neg (by simp [hcl])] at hBu
    rw [hBu]
    simp -implicitDefEqProofs -dsimp only [↓reduceIte, ↓W_seq, go_sem, Nat.reduceEqDiff, Nat.reduceAdd, Int.reduceNeg, bdV_none, cut_und _ _ hu, Bool.false_eq_true]
   ·have hcq := closeB_lt hcl
    have hd3 : (s.drop Q).drop 2 = s.drop (Q + 2) := by rw [List.drop_drop]
    rw [if_pos ⟨hcl, .inl hY0⟩, if_pos hY0] at hBu
    rw [hBu]
    simp -implicitDefEqProofs -dsimp only [↓reduceIte, ↓W_seq, go_sem, Nat.reduceEqDiff, Nat.reduceAdd, Int.reduceNeg, reduceCtorEq, hd3, fin Q hcq (by omega), bdV_some, cut_und _ _ hu]
  ·rw [if_neg hY0]
   by_cases hyb : 255 < numV Y
   ·have e3 : (255 : Int) < ((min (numV Y) 256 : Nat) : Int) := by omega
    rw [if_neg (by simp [hY0]; omega)] at hBu
    rw [hBu]
    simp -implicitDefEqProofs -dsimp only [↓reduceIte, ↓W_seq, go_sem, Nat.reduceEqDiff, Nat.reduceAdd, e3, bdV_none, cut_und _ _ hu]
   ·have e0' : ((min (numV Y) 256 : Nat) : Int) = (numV Y : Int) := by omega
    have e3 : ¬ ((255 : Int) < (numV Y : Int)) := by omega
    have e4 : (0 : Int) ≤ (numV Y : Int) := by omega
    rw [e0']
    by_cases hlt : numV Y < numV A
    ·have e5 : (numV Y : Int) < (numV A : Int) := by omega
     rw [if_neg (by simp [hY0]; omega)] at hBu
     rw [hBu]
     simp -implicitDefEqProofs -dsimp only [↓reduceIte, ↓W_seq, go_sem, Nat.reduceEqDiff, Nat.reduceAdd, e3, e4, e5, bdV_none, cut_und _ _ hu]
    ·have e5 : ¬ (numV Y : Int) < (numV A : Int) := by omega
     simp -implicitDefEqProofs -dsimp only [↓reduceIte, ↓W_seq, go_sem, Nat.reduceEqDiff, Nat.reduceAdd, e3, e4, e5]
     refine (w220 (s.drop Q) [92, 125] (hlen _) (by simp) lim (d + 1) _ hun).wh ?_
     unfold cpT
     rw [pre_close]
     cases hcl : closeB s Q
     ·rw [if_neg (by simp [hcl])] at hBu
      rw [hBu]
      simp -implicitDefEqProofs -dsimp only [↓reduceIte, ↓W_seq, go_sem, Nat.reduceEqDiff, Nat.reduceAdd, bdV_none, cut_und _ _ hu, Bool.false_eq_true]
     ·have hcq := closeB_lt hcl
      have hd3 : (s.drop Q).drop 2 = s.drop (Q + 2) := by rw [List.drop_drop]
      rw [if_pos ⟨hcl, .inr ⟨by omega, by omega⟩⟩, if_neg hY0] at hBu
      rw [hBu]
      simp -implicitDefEqProofs -dsimp only [↓reduceIte, ↓W_seq, go_sem, Nat.reduceEqDiff, Nat.reduceAdd, reduceCtorEq, hd3, fin Q hcq (by omega), bdV_some, cut_und _ _ hu]
 ·have h44' : (s[P]? == some 44) = false := by rw [beq_eq_false_iff_ne]; exact h44
  rw [if_neg h44] at hBu
  rw [if_neg (by rw [h44']; simp)]
  simp -implicitDefEqProofs -dsimp only [↓reduceIte, ↓W_seq, go_sem, Nat.reduceEqDiff, Nat.reduceAdd]
  refine (w220 (s.drop P) [92, 125] (hlen _) (by simp) lim (d + 1) _ hun).wh ?_
  unfold cpT
  rw [pre_close]
  cases hcl : closeB s P
  ·rw [if_neg (by simp [hcl])] at hBu
   rw [hBu]
   simp -implicitDefEqProofs -dsimp only [↓reduceIte, ↓W_seq, go_sem, Nat.reduceEqDiff, Nat.reduceAdd, bdV_none, cut_und _ _ hu, Bool.false_eq_true]
  ·have hcq := closeB_lt hcl
   have hd3 : (s.drop P).drop 2 = s.drop (P + 2) := by rw [List.drop_drop]
   rw [if_pos hcl] at hBu
   rw [hBu]
   simp -implicitDefEqProofs -dsimp only [↓reduceIte, ↓W_seq, go_sem, Nat.reduceEqDiff, Nat.reduceAdd, reduceCtorEq, hd3, fin P hcq (by omega), bdV_some, cut_und _ _ hu]
theorem w213 (s : List UInt8) (r : Rd) (hs : s.length ≤ 1000000) (hr : r.at' < s.length) (hb : r.bad = false) (p : Mv.Loc) (lim d : Nat) (hp : p.d < d) (hlim : lim ≤ p.d) (σ : Sto) (hu : σ.Und d) (ho : σ.ob p = some (encB s r)) :
  Ret lim d 120 [.ptr p 0] σ (.agg (enc (escB s r).1)) (σ.set p (encB s (escB s r).2)) := by
 have hun := und_succ hu
 have hne := ne_my hp
 have hmy := my_ne hp
 have hp1 := Nat.lt_succ_of_lt hp
 have ho2 := ho
 rw [encB_good s r hb] at ho2
 have hun1 : ∀ (t c : Nat) (cs : List MV), ((σ.set ⟨d, t, c⟩ cs).tick d).Und (d + 1) := fun t c cs => by simp only [u_tick, u_mine]; exact hun
 have hob1 : ∀ (t c : Nat) (cs : List MV), ((σ.set ⟨d, t, c⟩ cs).tick d).ob p = some (encB s r) := fun t c cs => by simp only [go_sem, hne, if_false]; exact ho
 have x2 := wr64 ((r.at' : Int) + 2) (by omega) (by omega)
 have hl1 : (s.drop r.at').length = s.length - r.at' := List.length_drop ..
 unfold Ret
 rw [WF_body (C := X) rfl func120 rfl (by kernel_rfl)]; simp only [results120]
 unfold escB
 simp -implicitDefEqProofs -dsimp only [↓reduceIte, ↓W_seq, go_sem, Nat.reduceEqDiff, Nat.reduceAdd, Nat.reduceLT, reduceCtorEq]
 refine (w211 s r hs (by omega) p lim (d + 1) hp1 _ (hun1 ..) (hob1 ..)).wh ?_
 by_cases hl : r.at' + 1 < s.length
 ·have e1 : ¬ (((s.drop r.at').length : Int) < 2) := by omega
  have g1 : s[r.at' + 1]? = some s[r.at' + 1] := List.getElem?_eq_getElem hl
  have g2 : (s.drop r.at')[1]? = some s[r.at' + 1] := by rw [List.getElem?_drop]; exact g1
  rw [g1]
  simp only
  generalize s[r.at' + 1] = c at g1 g2
  simp -implicitDefEqProofs -dsimp only [↓reduceIte, ↓W_seq, go_sem, reduceCtorEq, e1]
  refine (w211 s r hs (by omega) p lim (d + 1) hp1 _ (hun1 ..) (hob1 ..)).wh ?_
  by_cases h49 : 49 ≤ c.toNat ∧ c.toNat ≤ 57
  ·have e2 : ((49 : Int) ≤ (c.toNat : Int)) := by omega
   have e3 : ((c.toNat : Int) ≤ 57) := by omega
   have y1 := wru8 ((c.toNat : Int) - 48) (by omega) (by omega)
   have y2 := wr64 ((c.toNat : Int) - 48) (by omega) (by omega)
   rw [if_pos h49]
   simp -implicitDefEqProofs -dsimp only [↓reduceIte, ↓W_seq, go_sem, Nat.reduceEqDiff, Nat.reduceAdd, Nat.reduceLeDiff, Nat.reduceLT, Int.cast_ofNat_Int, Int.reduceToNat, Int.reduceLE, reduceCtorEq, enc, ho2, hne, hmy, x2, g2, e2, e3, y1, y2, hp, hlim, encs, encB_go s r _ hb, cut_set _ _ _ _ hp, cut_und _ _ hu, Int.natCast_add]
  ·rw [if_neg h49]
   by_cases h110 : c = 110
   ·subst h110
    rw [if_pos rfl]
    simp -implicitDefEqProofs -dsimp only [↓reduceIte, ↓W_seq, go_sem, Nat.reduceEqDiff, Nat.reduceAdd, Nat.reduceLeDiff, Nat.reduceLT, Int.cast_ofNat_Int, Int.reduceToNat, Int.reduceLE, reduceCtorEq, enc, ho2, hne, hmy, x2, g2, show ¬ (((110 : UInt8).toNat : Int) ≤ 57) by decide, show (49 : Int) ≤ ((110 : UInt8).toNat : Int) by decide, show ((110 : UInt8) == 110) = true from rfl, hp, hlim, lit, encs, encB_go s r _ hb, cut_set _ _ _ _ hp, cut_und _ _ hu, Int.natCast_add]
   ·have h110' : (c == 110) = false := by simpa using h110
    rw [if_neg h110]
    have eor : (if (49 : Int) ≤ (c.toNat : Int) then decide ((c.toNat : Int) ≤ 57) else false) = false := by
     split
     ·simp; omega
     ·rfl
    unfold itselfB
    by_cases e2 : 49 ≤ c.toNat
    ·have e2' : ((49 : Int) ≤ (c.toNat : Int)) := by omega
     have e3 : ¬ ((c.toNat : Int) ≤ 57) := by omega
     simp -implicitDefEqProofs -dsimp only [↓reduceIte, ↓W_seq, go_sem, Nat.reduceEqDiff, Nat.reduceAdd, Nat.reduceLeDiff, Nat.reduceLT, Int.reduceToNat, Int.reduceLE, g2, h110', e2', e3]
     refine (w41 _ c lim (d + 1) _ ?_).wh ?_
     ·simp only [go_sem, u_tick, u_mine]; exact hun
     rw [← idxB_in]
     by_cases hc : 0 ≤ idxB [46, 91, 93, 42, 94, 36, 47, 92, 38, 45] c.toNat
     ·have hc' : ¬ idxB [46, 91, 93, 42, 94, 36, 47, 92, 38, 45] c.toNat < 0 := by omega
      simp -implicitDefEqProofs -dsimp only [↓reduceIte, ↓W_seq, go_sem, Nat.reduceEqDiff, Nat.reduceAdd, Nat.reduceLeDiff, Int.cast_ofNat_Int, reduceCtorEq, enc, ho2, hne, hmy, x2, hc, hc', hp, hlim, lit, encs, encB_go s r _ hb, cut_set _ _ _ _ hp, cut_und _ _ hu, Int.natCast_add]
     ·have hc' : idxB [46, 91, 93, 42, 94, 36, 47, 92, 38, 45] c.toNat < 0 := by omega
      simp -implicitDefEqProofs -dsimp only [↓reduceIte, ↓W_seq, go_sem, reduceCtorEq, hc']
      refine (w208 s r p lim (d + 1) hp1 hlim _ ?_ ?_).wh ?_
      ·simp only [go_sem, u_tick, u_mine]; exact hun
      ·simp only [go_sem, hne, if_false]; exact ho
      simp -implicitDefEqProofs -dsimp only [↓reduceIte, go_sem, Nat.reduceEqDiff, Nat.reduceAdd, hmy, cut_set _ _ _ _ hp, cut_und _ _ hu, Bool.false_eq_true, hc]
    ·have e2' : ¬ ((49 : Int) ≤ (c.toNat : Int)) := by omega
     simp -implicitDefEqProofs -dsimp only [↓reduceIte, ↓W_seq, go_sem, Nat.reduceEqDiff, Nat.reduceAdd, Nat.reduceLeDiff, Nat.reduceLT, Int.reduceToNat, Int.reduceLE, g2, h110', e2']
     refine (w41 _ c lim (d + 1) _ ?_).wh ?_
     ·simp only [go_sem, u_tick, u_mine]; exact hun
     rw [← idxB_in]
     by_cases hc : 0 ≤ idxB [46, 91, 93, 42, 94, 36, 47, 92, 38, 45] c.toNat
     ·have hc' : ¬ idxB [46, 91, 93, 42, 94, 36, 47, 92, 38, 45] c.toNat < 0 := by omega
      simp -implicitDefEqProofs -dsimp only [↓reduceIte, ↓W_seq, go_sem, Nat.reduceEqDiff, Nat.reduceAdd, Nat.reduceLeDiff, Int.cast_ofNat_Int, reduceCtorEq, enc, ho2, hne, hmy, x2, hc, hc', hp, hlim, lit, encs, encB_go s r _ hb, cut_set _ _ _ _ hp, cut_und _ _ hu, Int.natCast_add]
     ·have hc' : idxB [46, 91, 93, 42, 94, 36, 47, 92, 38, 45] c.toNat < 0 := by omega
      simp -implicitDefEqProofs -dsimp only [↓reduceIte, ↓W_seq, go_sem, reduceCtorEq, hc']
      refine (w208 s r p lim (d + 1) hp1 hlim _ ?_ ?_).wh ?_
      ·simp only [go_sem, u_tick, u_mine]; exact hun
      ·simp only [go_sem, hne, if_false]; exact ho
      simp -implicitDefEqProofs -dsimp only [↓reduceIte, go_sem, Nat.reduceEqDiff, Nat.reduceAdd, hmy, cut_set _ _ _ _ hp, cut_und _ _ hu, Bool.false_eq_true, hc]
 ·have e1 : ((s.drop r.at').length : Int) < 2 := by omega
  rw [List.getElem?_eq_none (by omega)]
  simp only
  simp -implicitDefEqProofs -dsimp only [↓reduceIte, ↓W_seq, go_sem, reduceCtorEq, e1]
  refine (w208 s r p lim (d + 1) hp1 hlim _ (hun1 ..) (hob1 ..)).wh ?_
  simp -implicitDefEqProofs -dsimp only [↓reduceIte, go_sem, Nat.reduceEqDiff, Nat.reduceAdd, hmy, cut_set _ _ _ _ hp, cut_und _ _ hu]
theorem w210 (s : List UInt8) (r : Rd) (y : Nd) (hs : s.length ≤ 1000000) (hr : r.at' ≤ s.length) (p : Mv.Loc) (lim d : Nat) (hp : p.d < d) (hlim : lim ≤ p.d) (σ : Sto) (hu : σ.Und d) (ho : σ.ob p = some (encB s r)) :
  Ret lim d 98 [.ptr p 0, .agg (enc y)] σ (.agg (enc (repB s y r).1)) (σ.set p (encB s (repB s y r).2)) := by
 have hun := und_succ hu
 have hne := ne_my hp
 have hmy := my_ne hp
 have hp1 := Nat.lt_succ_of_lt hp
 have ho2 := ho
 have hself := set_same ho
 unfold Ret
 rw [WF_body (C := X) rfl func98 rfl (by kernel_rfl)]; simp only [results98]
 unfold repB
 simp -implicitDefEqProofs -dsimp only [↓reduceIte, ↓W_seq, go_sem, Nat.reduceEqDiff, Nat.reduceAdd, Nat.reduceLT, reduceCtorEq]
 refine (w216 s r hs hr p lim (d + 1) hp1 _ ?_ ?_).wh ?_
 ·simp only [u_tick, u_mine]; exact hun
 ·simp only [go_sem, hne, if_false]; exact ho
 cases hrep : isRepB s r
 ·rw [if_pos rfl]
  simp -implicitDefEqProofs -dsimp only [↓reduceIte, ↓W_seq, go_sem, Nat.reduceEqDiff, Nat.reduceAdd, enc_take, hself, cut_und _ _ hu]
 rw [if_neg (by simp)]
 obtain ⟨b1, b3⟩ := repB_some hrep
 by_cases hk4 : y.kind = 4 ∨ y.kind = 5
 ·rw [if_pos hk4]
  have hkk : (if (y.kind == 4) = true then true else y.kind == 5) = true := by rcases hk4 with h | h <;> simp [h]
  by_cases h4 : y.kind = 4
  ·have h4' : (y.kind == 4) = true := by simpa using h4
   simp -implicitDefEqProofs -dsimp only [↓reduceIte, ↓W_seq, go_sem, Nat.reduceEqDiff, reduceCtorEq, enc_kind, h4']
   refine (w208 s r p lim (d + 1) hp1 hlim _ ?_ ?_).wh ?_
   ·simp only [u_tick, u_mine]; exact hun
   ·simp only [go_sem, hne, if_false]; exact ho
   simp -implicitDefEqProofs -dsimp only [↓reduceIte, go_sem, Nat.reduceEqDiff, Nat.reduceAdd, hmy, cut_set _ _ _ _ hp, cut_und _ _ hu]
  ·have h4' : (y.kind == 4) = false := by simpa using h4
   have h5' : (y.kind == 5) = true := by rw [h4'] at hkk; simpa using hkk
   simp -implicitDefEqProofs -dsimp only [↓reduceIte, ↓W_seq, go_sem, Nat.reduceEqDiff, reduceCtorEq, enc_kind, h4', h5']
   refine (w208 s r p lim (d + 1) hp1 hlim _ ?_ ?_).wh ?_
   ·simp only [u_tick, u_mine]; exact hun
   ·simp only [go_sem, hne, if_false]; exact ho
   simp -implicitDefEqProofs -dsimp only [↓reduceIte, go_sem, Nat.reduceEqDiff, Nat.reduceAdd, hmy, cut_set _ _ _ _ hp, cut_und _ _ hu]
 rw [if_neg hk4]
 have h4' : (y.kind == 4) = false := by rw [beq_eq_false_iff_ne]; exact fun h => hk4 (.inl h)
 have h5' : (y.kind == 5) = false := by rw [beq_eq_false_iff_ne]; exact fun h => hk4 (.inr h)
 have ho3 := ho
 rw [encB_good s r b1] at ho3
 have last : ∀ (f t : Int) (n : Nat), n ≤ s.length → isRepB s (r.go n) = false → True := fun _ _ _ _ _ => trivial
 simp -implicitDefEqProofs -dsimp only [↓reduceIte, ↓W_seq, go_sem, Nat.reduceEqDiff, Int.reduceNeg, reduceCtorEq, enc_kind, h4', h5']
 refine (w207 s r [92, 123] hs hr p lim (d + 1) hp1 _ ?_ ?_).wh ?_
 ·simp only [u_tick, u_mine]; exact hun
 ·simp only [go_sem, hne, if_false]; exact ho
 rw [hasT_two s r hr]
 unfold timesB
 cases hE : hasE s r 123
 ·have h42 : r.nx s = some 42 := by
   simp only [isRepB, hE, Bool.or_false, beq_iff_eq] at hrep; exact hrep
  rw [if_pos h42]
  simp only
  have x1 := wr64 ((r.at' : Int) + 1) (by omega) (by omega)
  simp -implicitDefEqProofs -dsimp only [↓reduceIte, ↓W_seq, go_sem, Nat.reduceEqDiff, Nat.reduceAdd, Nat.reduceLeDiff, Int.reduceNeg, reduceCtorEq, hne, ho3, x1, hp, hlim]
  have hgo : [MV.str s, .int .i64 ((r.at' : Int) + 1), .int .i64 r.g, .bool false] = encB s (r.go (r.at' + 1)) := by rw [encB_go s r _ b1]; rfl
  rw [hgo]
  refine (w216 s (r.go (r.at' + 1)) hs (by simp only [Rd.go]; omega) p lim (d + 1) hp1 _ ?_ ?_).wh ?_
  ·simp only [u_tick, u_set _ _ _ _ hp1, u_mine]; exact hun
  ·simp only [go_sem, if_true]
  cases hr2 : isRepB s (r.go (r.at' + 1))
  ·simp -implicitDefEqProofs -dsimp only [↓reduceIte, ↓W_seq, go_sem, Nat.reduceEqDiff, Nat.reduceAdd, Nat.reduceMul, Nat.reduceLeDiff, Nat.reduceLT, Int.reduceNeg, enc, hmy, enc_take, encs, cut_set _ _ _ _ hp, cut_und _ _ hu, Bool.false_eq_true]
  ·simp -implicitDefEqProofs -dsimp only [↓reduceIte, ↓W_seq, go_sem, Int.reduceNeg, reduceCtorEq]
   refine (w208 s (r.go (r.at' + 1)) p lim (d + 1) hp1 hlim _ ?_ ?_).wh ?_
   ·simp only [u_tick, u_set _ _ _ _ hp1, u_mine]; exact hun
   ·simp only [go_sem, hne, if_true, if_false]
   simp -implicitDefEqProofs -dsimp only [↓reduceIte, go_sem, Nat.reduceEqDiff, Nat.reduceAdd, Int.reduceNeg, hmy, set_set, cut_set _ _ _ _ hp, cut_und _ _ hu]
 ·obtain ⟨c1, c2⟩ := hasE_iff.1 hE
  obtain ⟨c3, c4, c5⟩ := nx_some c1
  have h42 : ¬ r.nx s = some 42 := by rw [c1]; decide
  rw [if_neg h42]
  simp -implicitDefEqProofs -dsimp only [↓reduceIte, go_sem, Int.reduceNeg, reduceCtorEq]
  refine (w211 s r hs hr p lim (d + 1) hp1 _ ?_ ?_).wh ?_
  ·simp only [u_tick, u_mine]; exact hun
  ·simp only [go_sem, hne, if_false]; exact ho
  simp -implicitDefEqProofs -dsimp only [↓reduceIte, go_sem, Int.reduceNeg]
  refine (w217 s r.at' hs c4 c2 lim (d + 1) _ ?_).wh ?_
  ·simp only [u_tick, u_mine]; exact hun
  cases hbr : bracesB s r.at' with
  | none =>
   simp only
   simp -implicitDefEqProofs -dsimp only [↓reduceIte, ↓W_seq, go_sem, Nat.reduceEqDiff, Int.reduceNeg, reduceCtorEq, bdV_none]
   refine (w208 s r p lim (d + 1) hp1 hlim _ ?_ ?_).wh ?_
   ·simp only [u_tick, u_mine]; exact hun
   ·simp only [go_sem, hne, if_false]; exact ho
   simp -implicitDefEqProofs -dsimp only [↓reduceIte, go_sem, Nat.reduceEqDiff, Nat.reduceAdd, Int.reduceNeg, hmy, cut_set _ _ _ _ hp, cut_und _ _ hu]
  | some z =>
   obtain ⟨z1, z2⟩ := braB_go s _ z hbr
   simp only
   have e0 : (((z.2.2 : Int) - (r.at' : Int)) == 0) = false := by rw [beq_eq_false_iff_ne]; omega
   have e1 : (r.at' : Int) + ((z.2.2 : Int) - (r.at' : Int)) = (z.2.2 : Int) := by omega
   have x1 := wr64 ((r.at' : Int) + ((z.2.2 : Int) - (r.at' : Int))) (by omega) (by omega)
   rw [e1] at x1
   simp -implicitDefEqProofs -dsimp only [↓reduceIte, ↓W_seq, go_sem, Nat.reduceEqDiff, Nat.reduceAdd, Nat.reduceLeDiff, Int.reduceNeg, reduceCtorEq, bdV_some, hne, ho3, e0, e1, x1, hp, hlim]
   have hgo : [MV.str s, .int .i64 (z.2.2 : Int), .int .i64 r.g, .bool false] = encB s (r.go z.2.2) := by rw [encB_go s r _ b1]
   rw [hgo]
   refine (w216 s (r.go z.2.2) hs (by simp only [Rd.go]; omega) p lim (d + 1) hp1 _ ?_ ?_).wh ?_
   ·simp only [u_tick, u_set _ _ _ _ hp1, u_mine]; exact hun
   ·simp only [go_sem, if_true]
   cases hr2 : isRepB s (r.go z.2.2)
   ·simp -implicitDefEqProofs -dsimp only [↓reduceIte, ↓W_seq, go_sem, Nat.reduceEqDiff, Nat.reduceAdd, Nat.reduceMul, Nat.reduceLeDiff, Nat.reduceLT, Int.reduceNeg, enc, hmy, enc_take, encs, cut_set _ _ _ _ hp, cut_und _ _ hu, Bool.false_eq_true]
   ·simp -implicitDefEqProofs -dsimp only [↓reduceIte, ↓W_seq, go_sem, Int.reduceNeg, reduceCtorEq]
    refine (w208 s (r.go z.2.2) p lim (d + 1) hp1 hlim _ ?_ ?_).wh ?_
    ·simp only [u_tick, u_set _ _ _ _ hp1, u_mine]; exact hun
    ·simp only [go_sem, hne, if_true, if_false]
    simp -implicitDefEqProofs -dsimp only [↓reduceIte, go_sem, Nat.reduceEqDiff, Nat.reduceAdd, Int.reduceNeg, hmy, set_set, cut_set _ _ _ _ hp, cut_und _ _ hu]
end Go.Proofs.Tryz.E
