/- Walks: what the functions compute. Walks: what the functions compute. -/
import Derived.Test.YtadeobleehcaaaaGreatDoorWB1
set_option linter.unusedVariables false
set_option linter.unusedSimpArgs false
/- The program's reader of basic patterns: what stands next, what is wrong. -/
namespace Go.Proofs.Tryz.E
open Go.Mv
set_option maxHeartbeats 4000000
set_option maxRecDepth 20000
def encB (s : List UInt8) (r : Rd) : List MV := [.str s, .int .i64 r.at', .int .i64 r.g, .bool r.bad]
theorem encB_go (s : List UInt8) (r : Rd) (a : Nat) (h : r.bad = false) : encB s (r.go a) = [.str s, .int .i64 a, .int .i64 r.g, .bool false] := by simp only [encB, Rd.go, h]
theorem encB_good (s : List UInt8) (r : Rd) (h : r.bad = false) : encB s r = [.str s, .int .i64 r.at', .int .i64 r.g, .bool false] := by simp only [encB, h]
def hasT (s : List UInt8) (r : Rd) (t : List UInt8) : Bool := !r.bad && preS (s.drop r.at') t
theorem hasT_one (s : List UInt8) (r : Rd) (hr : r.at' ≤ s.length) (b : UInt8) : hasT s r [b] = (r.nx s == some b) := has_one s r hr b
theorem hasT_two (s : List UInt8) (r : Rd) (hr : r.at' ≤ s.length) (c : UInt8) : hasT s r [92, c] = hasE s r c := by
 unfold hasT hasE Rd.nx
 cases r.bad
 ·simp only [Bool.not_false, Bool.true_and, Bool.false_eq_true, if_false]
  by_cases h : r.at' < s.length
  ·rw [List.drop_eq_getElem_cons h, List.getElem?_eq_getElem h]
   by_cases h2 : r.at' + 1 < s.length
   ·rw [List.drop_eq_getElem_cons h2, pre_two, List.getElem?_eq_getElem h2]
    rw [Bool.eq_iff_iff]; simp
   ·rw [List.drop_eq_nil_of_le (by omega), pre_two1, List.getElem?_eq_none (by omega)]
    rw [Bool.eq_iff_iff]; simp
  ·rw [List.drop_eq_nil_of_le (by omega), pre_nil _ (by simp), List.getElem?_eq_none (by omega)]
   simp
 ·simp
theorem drop_str (s : List UInt8) (n : Nat) : (s.take s.length).drop n = s.drop n := by rw [List.take_length]
theorem w211 (s : List UInt8) (r : Rd) (hs : s.length ≤ 1000000) (hr : r.at' ≤ s.length) (p : Mv.Loc) (lim d : Nat) (hp : p.d < d) (σ : Sto) (hu : σ.Und d) (ho : σ.ob p = some (encB s r)) : Ret lim d 118 [.ptr p 0] σ (.str (s.drop r.at')) σ := by
 rw [encB] at ho
 have e1 : (0 : Int) ≤ (r.at' : Int) ∧ (r.at' : Int) ≤ (s.length : Int) := by omega
 unfold Ret
 rw [WF_body (C := X) rfl func118 rfl (by kernel_rfl)]; simp only [results118]
 simp -implicitDefEqProofs -dsimp only [↓W_seq, go_sem]
 rw [D_dr (by kernel_rfl) rfl]
 simp -implicitDefEqProofs -dsimp only [↓reduceIte, go_sem, evNews, Nat.reduceEqDiff, reduceCtorEq, ho, bnd, e1, drop_str, cut_und _ _ hu]
theorem w207 (s : List UInt8) (r : Rd) (t : List UInt8) (hs : s.length ≤ 1000000) (hr : r.at' ≤ s.length) (p : Mv.Loc) (lim d : Nat) (hp : p.d < d) (σ : Sto) (hu : σ.Und d) (ho : σ.ob p = some (encB s r)) : Ret lim d 95 [.ptr p 0, .str t] σ (.bool (hasT s r t)) σ := by
 have hun := und_succ hu
 have ho2 := ho
 rw [encB] at ho2
 unfold Ret hasT
 rw [WF_body (C := X) rfl func95 rfl (by kernel_rfl)]; simp only [results95]
 cases hb : r.bad
 ·rw [hb] at ho2
  simp -implicitDefEqProofs -dsimp only [↓reduceIte, ↓W_seq, go_sem, Nat.reduceEqDiff, reduceCtorEq, ho2]
  refine (w211 s r hs hr p lim (d + 1) (Nat.lt_succ_of_lt hp) _ hun ho).wh ?_
  simp -implicitDefEqProofs -dsimp only [↓reduceIte, go_sem, Nat.reduceEqDiff]
  refine (w81 (s.drop r.at') t (by rw [List.length_drop]; omega) lim (d + 1) _ hun).wh ?_
  simp -implicitDefEqProofs -dsimp only [↓reduceIte, go_sem, Nat.reduceEqDiff, cut_und _ _ hu, Bool.not_false]
 ·rw [hb] at ho2
  simp -implicitDefEqProofs -dsimp only [↓reduceIte, ↓W_seq, go_sem, Nat.reduceEqDiff, reduceCtorEq, ho2, cut_und _ _ hu, Bool.not_true, Bool.false_and]
theorem w208 (s : List UInt8) (r : Rd) (p : Mv.Loc) (lim d : Nat) (hp : p.d < d) (hlim : lim ≤ p.d) (σ : Sto) (hu : σ.Und d) (ho : σ.ob p = some (encB s r)) : Ret lim d 96 [.ptr p 0] σ (.agg (enc z0)) (σ.set p (encB s r.fail)) := by
 have hne := ne_my hp
 have hmy := my_ne hp
 rw [encB] at ho
 simp only [encB, Rd.fail]
 unfold Ret
 rw [WF_body (C := X) rfl func96 rfl (by kernel_rfl)]; simp only [results96]
 simp -implicitDefEqProofs -dsimp only [↓reduceIte, ↓W_seq, go_sem, Nat.reduceEqDiff, Nat.reduceAdd, Nat.reduceLT, reduceCtorEq, enc, ho, hne, hmy, hp, hlim, cut_set _ _ _ _ hp, cut_und _ _ hu, z0, encs]
theorem w216 (s : List UInt8) (r : Rd) (hs : s.length ≤ 1000000) (hr : r.at' ≤ s.length) (p : Mv.Loc) (lim d : Nat) (hp : p.d < d) (σ : Sto) (hu : σ.Und d) (ho : σ.ob p = some (encB s r)) : Ret lim d 123 [.ptr p 0] σ (.bool (isRepB s r)) σ := by
 have hun := und_succ hu
 unfold Ret isRepB
 rw [WF_body (C := X) rfl func123 rfl (by kernel_rfl)]; simp only [results123]
 simp -implicitDefEqProofs -dsimp only [↓reduceIte, ↓W_seq, go_sem, reduceCtorEq]
 refine (w207 s r [42] hs hr p lim (d + 1) (Nat.lt_succ_of_lt hp) _ hun ho).wh ?_
 rw [hasT_one s r hr]
 cases h : (r.nx s == some 42)
 ·simp -implicitDefEqProofs -dsimp only [↓reduceIte, go_sem, Nat.reduceEqDiff, reduceCtorEq]
  refine (w207 s r [92, 123] hs hr p lim (d + 1) (Nat.lt_succ_of_lt hp) _ hun ho).wh ?_
  rw [hasT_two s r hr]
  simp -implicitDefEqProofs -dsimp only [↓reduceIte, go_sem, Nat.reduceEqDiff, Bool.false_or, cut_und _ _ hu]
 ·simp -implicitDefEqProofs -dsimp only [↓reduceIte, go_sem, Nat.reduceEqDiff, reduceCtorEq, Bool.true_or, cut_und _ _ hu]
theorem w206 (s : List UInt8) (r : Rd) (hs : s.length ≤ 1000000) (hr : r.at' ≤ s.length) (p : Mv.Loc) (lim d : Nat) (hp : p.d < d) (σ : Sto) (hu : σ.Und d) (ho : σ.ob p = some (encB s r)) : Ret lim d 94 [.ptr p 0] σ (.bool (overB s r)) σ := by
 have hun := und_succ hu
 have ho2 := ho
 rw [encB] at ho2
 unfold Ret
 rw [WF_body (C := X) rfl func94 rfl (by kernel_rfl)]; simp only [results94]
 simp -implicitDefEqProofs -dsimp only [↓W_seq, go_sem]
 rw [D_dr (by kernel_rfl) rfl]
 cases hb : r.bad
 ·rw [hb] at ho2
  by_cases h : r.at' = s.length
  ·have e1 : ((r.at' : Int) == (s.length : Int)) = true := by rw [beq_iff_eq]; omega
   have e2 : overB s r = true := by simp [overB, Rd.nx, hb, h]
   simp -implicitDefEqProofs -dsimp only [↓reduceIte, go_sem, evNews, Nat.reduceEqDiff, reduceCtorEq, ho2, e1, e2, cut_und _ _ hu]
  ·have e1 : ((r.at' : Int) == (s.length : Int)) = false := by rw [beq_eq_false_iff_ne]; omega
   have e2 : overB s r = hasE s r 41 := by
    have : s[r.at']? = some s[r.at'] := List.getElem?_eq_getElem (by omega)
    simp [overB, Rd.nx, hb, this]
   simp -implicitDefEqProofs -dsimp only [↓reduceIte, go_sem, Nat.reduceEqDiff, reduceCtorEq, ho2, e1]
   refine (w207 s r [92, 41] hs hr p (d + 1) (d + 1) (Nat.lt_succ_of_lt hp) _ hun ho).wh ?_
   rw [hasT_two s r hr]
   simp -implicitDefEqProofs -dsimp only [↓reduceIte, go_sem, evNews, Nat.reduceEqDiff, e2, cut_und _ _ hu]
 ·rw [hb] at ho2
  have e2 : overB s r = true := by simp [overB, Rd.nx, hb]
  simp -implicitDefEqProofs -dsimp only [↓reduceIte, go_sem, evNews, Nat.reduceEqDiff, reduceCtorEq, ho2, e2, cut_und _ _ hu]
theorem trim_len (t : List UInt8) : (t.takeWhile dig).length + (t.dropWhile dig).length = t.length := by
 have := congrArg List.length (List.takeWhile_append_dropWhile (p := dig) (l := t))
 rw [List.length_append] at this
 exact this
theorem trim_take (t : List UInt8) : t.take (t.length - (t.dropWhile dig).length) = t.takeWhile dig := by
 have h := trim_len t
 have h2 := List.takeWhile_append_dropWhile (p := dig) (l := t)
 have h3 : t.length - (t.dropWhile dig).length = (t.takeWhile dig).length := by omega
 rw [h3]
 conv => lhs; rw [← h2]
 rw [h2]
 conv => lhs; arg 2; rw [← h2]
 exact List.take_left
theorem trim_drop (t : List UInt8) : t.dropWhile dig = t.drop (t.takeWhile dig).length := by
 have h2 := List.takeWhile_append_dropWhile (p := dig) (l := t)
 conv => rhs; arg 2; rw [← h2]
 exact List.drop_left.symm
theorem wh221 (t : List UInt8) (lim d : Nat) (σ : Sto) {Q : MV → Sto → Prop} (hq : Q (.str (t.dropWhile dig)) σ) : WFh X lim d 33 [.str t, .str [48, 49, 50, 51, 52, 53, 54, 55, 56, 57]] σ (TagF Q) := by
 rw [← WF_h, WF_prim (p := trimP) rfl]
 have : (fun b => ([48, 49, 50, 51, 52, 53, 54, 55, 56, 57] : List UInt8).contains b) = dig := funext dig_is
 refine ⟨(.str (t.dropWhile dig), σ), ?_, hq⟩
 simp only [trimP, if_true, true_or, this]
def nuT (t : List UInt8) : MV := if t.takeWhile dig = [] then .tup [.int .i64 (-1), .str t] else .tup [.int .i64 (min (numV (t.takeWhile dig)) 256 : Nat), .str (t.dropWhile dig)]
theorem w218 (t : List UInt8) (ht : t.length ≤ 1000000) (lim d : Nat) (σ : Sto) (hu : σ.Und d) : Ret lim d 135 [.str t] σ (nuT t) σ := by
 have hun := und_succ hu
 have hl := trim_len t
 have hA : ∀ b ∈ t.takeWhile dig, dig b = true := fun b hb => by
  have := digs_dig t 0 b (by simpa [digsAt] using hb)
  exact this
 unfold Ret nuT
 rw [WF_body (C := X) rfl func135 rfl (by kernel_rfl)]; simp only [results135]
 simp -implicitDefEqProofs -dsimp only [↓reduceIte, ↓W_seq, go_sem, reduceCtorEq]
 refine wh221 t lim (d + 1) _ ?_
 have e1 : (0 : Int) ≤ (t.length : Int) - ((t.dropWhile dig).length : Int) ∧ (t.length : Int) - ((t.dropWhile dig).length : Int) ≤ (t.length : Int) := by omega
 have x1 := wr64 ((t.length : Int) - ((t.dropWhile dig).length : Int)) (by omega) (by omega)
 have t1 : ((t.length : Int) - ((t.dropWhile dig).length : Int)).toNat = t.length - (t.dropWhile dig).length := by omega
 have tk := trim_take t
 by_cases h0 : t.takeWhile dig = []
 ·have e2 : (t.takeWhile dig == []) = true := by rw [h0]; rfl
  rw [if_pos h0]
  simp -implicitDefEqProofs -dsimp only [↓reduceIte, ↓W_seq, go_sem, Nat.reduceEqDiff, Int.reduceNeg, reduceCtorEq, bnd, e1, x1, t1, tk, e2, cut_und _ _ hu]
 ·have e2 : (t.takeWhile dig == []) = false := by rw [beq_eq_false_iff_ne]; exact h0
  rw [if_neg h0]
  simp -implicitDefEqProofs -dsimp only [↓reduceIte, ↓W_seq, go_sem, Nat.reduceEqDiff, reduceCtorEq, bnd, e1, x1, t1, tk, e2]
  generalize hAA : t.takeWhile dig = A at hA hl
  generalize t.dropWhile dig = R at hl
  refine loop_h (I := fun k a s' => ∃ (i : Nat), i + k = A.length ∧ a 6 = .int .i64 (min (numV (A.take i)) 256 : Nat) ∧ a 22 = .int .i64 i ∧ a 21 = .int .i64 A.length ∧ a 5 = .str A ∧ a 4 = .str R ∧ s'.cut d = σ) ?_ A.length _ _ ?_
  ·rintro k a s' ⟨i, hk, a6, a22, a21, a5, a4, hcut⟩
   by_cases hi : i < A.length
   ·have f1 : (i : Int) < (A.length : Int) := by omega
    have g1 : A[i]? = some A[i] := List.getElem?_eq_getElem hi
    have hd := hA _ (List.getElem_mem hi)
    simp only [dig, Bool.and_eq_true, decide_eq_true_eq] at hd
    have hnv : numV (A.take (i + 1)) = 10 * numV (A.take i) + (A[i].toNat - 48) := by
     rw [List.take_succ_eq_append_getElem hi, numV, List.foldl_append]; rfl
    generalize A[i] = b at g1 hd hnv
    generalize numV (A.take i) = v at a6 hnv
    have x2 := wr64 (10 * ((min v 256 : Nat) : Int)) (by omega) (by omega)
    have x3 := wru8 ((b.toNat : Int) - 48) (by omega) (by omega)
    have x4 := wr64 ((b.toNat : Int) - 48) (by omega) (by omega)
    have x5 := wr64 (10 * ((min v 256 : Nat) : Int) + ((b.toNat : Int) - 48)) (by omega) (by omega)
    have x6 := wr64 ((i : Int) + 1) (by omega) (by omega)
    simp -implicitDefEqProofs -dsimp only [↓reduceIte, ↓W_seq, go_sem, Nat.reduceEqDiff, f1, a6, a22, a21, a5, a4, g1, x2, x3, x4, x5, x6]
    refine ⟨k - 1, by omega, i + 1, by omega, ?_, rfl, hcut⟩
    rw [hnv]
    congr 1
    split <;> omega
   ·have f1 : ¬ (i : Int) < (A.length : Int) := by omega
    have hi' : i = A.length := by omega
    subst hi'
    rw [List.take_length] at a6
    simp -implicitDefEqProofs -dsimp only [↓reduceIte, ↓W_seq, go_sem, Nat.reduceEqDiff, f1, a6, a22, a21, a4, hcut]
  ·refine ⟨0, by omega, rfl, rfl, rfl, rfl, rfl, ?_⟩
   simp -implicitDefEqProofs -dsimp only [go_sem, cut_und _ _ hu]
theorem w222 (s p : List UInt8) (hs : s.length ≤ 1000000) (hp : p.length ≤ 1000) (lim d : Nat) (σ : Sto) (hu : σ.Und d) : Ret lim d 151 [.str s, .str p] σ (.str (if preS s p = true then s.drop p.length else s)) σ := by
 have hun := und_succ hu
 unfold Ret
 rw [WF_body (C := X) rfl func151 rfl (by kernel_rfl)]; simp only [results151]
 simp -implicitDefEqProofs -dsimp only [↓reduceIte, ↓W_seq, go_sem, Nat.reduceEqDiff, reduceCtorEq]
 refine (w86 s p hs lim (d + 1) _ hun).wh ?_
 cases h : preS s p
 ·simp -implicitDefEqProofs -dsimp only [↓reduceIte, ↓W_seq, go_sem, reduceCtorEq, cut_und _ _ hu, Bool.false_eq_true]
 ·have e1 : (0 : Int) ≤ (p.length : Int) ∧ (p.length : Int) ≤ (s.length : Int) := by have := pre_le h; omega
  simp -implicitDefEqProofs -dsimp only [↓reduceIte, ↓W_seq, go_sem, Nat.reduceEqDiff, reduceCtorEq, bnd, e1, drop_str, cut_und _ _ hu]
theorem w219 (s p : List UInt8) (hs : s.length ≤ 1000000) (hp : p.length ≤ 1000) (lim d : Nat) (σ : Sto) (hu : σ.Und d) : Ret lim d 136 [.str s, .str p] σ (.str (if preS s p = true then s.drop p.length else s)) σ := by
 unfold Ret
 rw [WF_body (C := X) rfl func136 rfl (by kernel_rfl)]; simp only [results136]
 simp -implicitDefEqProofs -dsimp only [↓reduceIte, ↓W_seq, go_sem, Nat.reduceEqDiff, reduceCtorEq]
 refine (w222 s p hs hp lim (d + 1) _ (und_succ hu)).wh ?_
 simp -implicitDefEqProofs -dsimp only [↓reduceIte, go_sem, cut_und _ _ hu]
def cpT (s p : List UInt8) : MV := if preS s p = true then .tup [.str (s.drop p.length), .bool true] else .tup [.str s, .bool false]
theorem w223 (s p : List UInt8) (hs : s.length ≤ 1000000) (hp : p.length ≤ 1000) (lim d : Nat) (σ : Sto) (hu : σ.Und d) : Ret lim d 152 [.str s, .str p] σ (cpT s p) σ := by
 have hun := und_succ hu
 unfold Ret cpT
 rw [WF_body (C := X) rfl func152 rfl (by kernel_rfl)]; simp only [results152]
 simp -implicitDefEqProofs -dsimp only [↓reduceIte, ↓W_seq, go_sem, Nat.reduceEqDiff, reduceCtorEq]
 refine (w86 s p hs lim (d + 1) _ hun).wh ?_
 cases h : preS s p
 ·simp -implicitDefEqProofs -dsimp only [↓reduceIte, ↓W_seq, go_sem, Nat.reduceEqDiff, reduceCtorEq, cut_und _ _ hu, Bool.false_eq_true]
 ·have e1 : (0 : Int) ≤ (p.length : Int) ∧ (p.length : Int) ≤ (s.length : Int) := by have := pre_le h; omega
  simp -implicitDefEqProofs -dsimp only [↓reduceIte, ↓W_seq, go_sem, Nat.reduceEqDiff, reduceCtorEq, bnd, e1, drop_str, cut_und _ _ hu]
theorem w220 (s p : List UInt8) (hs : s.length ≤ 1000000) (hp : p.length ≤ 1000) (lim d : Nat) (σ : Sto) (hu : σ.Und d) : Ret lim d 137 [.str s, .str p] σ (cpT s p) σ := by
 unfold Ret
 rw [WF_body (C := X) rfl func137 rfl (by kernel_rfl)]; simp only [results137]
 simp -implicitDefEqProofs -dsimp only [↓reduceIte, ↓W_seq, go_sem, Nat.reduceEqDiff, reduceCtorEq]
 refine (w223 s p hs hp lim (d + 1) _ (und_succ hu)).wh ?_
 unfold cpT
 cases h : preS s p
 ·simp -implicitDefEqProofs -dsimp only [↓reduceIte, go_sem, Nat.reduceEqDiff, cut_und _ _ hu, Bool.false_eq_true]
 ·simp -implicitDefEqProofs -dsimp only [↓reduceIte, go_sem, Nat.reduceEqDiff, cut_und _ _ hu]
end Go.Proofs.Tryz.E
