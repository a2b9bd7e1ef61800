/- Walks: what the functions compute. Walks: what the functions compute. Walks: what the functions compute. -/
import Derived.Test.YthmgjkngkhdjjaaGreatDoorWB1
set_option linter.unusedVariables false
set_option linter.unusedSimpArgs false
/- The program's reader of basic patterns: what stands next, what is wrong. -/
namespace Go.Proofs.Tryz.E
open Go.Mv
set_option maxHeartbeats 4000000
set_option maxRecDepth 20000
def encB (s : List UInt8) (r : Rd) : List MV := [.str s, .int .i64 r.at', .int .i64 r.g, .bool r.bad]
theorem encB_go (s : List UInt8) (r : Rd) (a : Nat) (h : r.bad = false) : encB s (r.go a) = [.str s, .int .i64 a, .int .i64 r.g, .bool false] := by simp only [encB, Rd.go, h]
theorem encB_good (s : List UInt8) (r : Rd) (h : r.bad = false) : encB s r = [.str s, .int .i64 r.at', .int .i64 r.g, .bool false] := by simp only [encB, h]
def hasT (s : List UInt8) (r : Rd) (t : List UInt8) : Bool := !r.bad && preS (s.drop r.at') t
theorem hasT_one (s : List UInt8) (r : Rd) (hr : r.at' ≤ s.length) (b : UInt8) : hasT s r [b] = (r.nx s == some b) := has_one s r hr b
theorem hasT_two (s : List UInt8) (r : Rd) (hr : r.at' ≤ s.length) (c : UInt8) : hasT s r [92, c] = hasE s r c := by
 unfold hasT hasE Rd.nx
 cases r.bad
 ·simp only [Bool.not_false, Bool.true_and, Bool.false_eq_true, if_false]
  by_cases h : r.at' < s.length
  ·rw [List.drop_eq_getElem_cons h, List.getElem?_eq_getElem h]
   by_cases h2 : r.at' + 1 < s.length
   ·rw [List.drop_eq_getElem_cons h2, pre_two, List.getElem?_eq_getElem h2]
    rw [Bool.eq_iff_iff]; simp
   ·rw [List.drop_eq_nil_of_le (by omega), pre_two1, List.getElem?_eq_none (by omega)]
    rw [Bool.eq_iff_iff]; simp
  ·rw [List.drop_eq_nil_of_le (by omega), pre_nil _ (by simp), List.getElem?_eq_none (by omega)]
   simp
 ·simp
theorem drop_str (s : List UInt8) (n : Nat) : (s.take s.length).drop n = s.drop n := by rw [List.take_length]
theorem w211 (s : List UInt8) (r : Rd) (hs : s.length ≤ 1000000) (hr : r.at' ≤ s.length) (p : Mv.Loc) (lim d : Nat) (hp : p.d < d) (σ : Sto) (hu : σ.Und d) (ho : σ.ob p = some (encB s r)) : Ret lim d 104 [.ptr p 0] σ (.str (s.drop r.at')) σ := by
 rw [encB] at ho
 have e1 : (0 : Int) ≤ (r.at' : Int) ∧ (r.at' : Int) ≤ (s.length : Int) := by omega
 unfold Ret
 rw [WF_body (C := X) rfl func104 rfl (by kernel_rfl)]; simp only [results104]
 simp -implicitDefEqProofs -dsimp only [go_sem]
 rw [D_dr (by kernel_rfl) rfl]
 simp -implicitDefEqProofs -dsimp only [go_sem, ho, bnd, e1, drop_str, cut_und _ _ hu]
theorem w207 (s : List UInt8) (r : Rd) (t : List UInt8) (hs : s.length ≤ 1000000) (hr : r.at' ≤ s.length) (p : Mv.Loc) (lim d : Nat) (hp : p.d < d) (σ : Sto) (hu : σ.Und d) (ho : σ.ob p = some (encB s r)) : Ret lim d 81 [.ptr p 0, .str t] σ (.bool (hasT s r t)) σ := by
 have hun := und_succ hu
 have ho2 := ho
 rw [encB] at ho2
 unfold Ret hasT
 rw [WF_body (C := X) rfl func81 rfl (by kernel_rfl)]; simp only [results81]
 cases hb : r.bad
 ·rw [hb] at ho2
  simp -implicitDefEqProofs -dsimp only [go_sem, ho2]
  refine (w211 s r hs hr p lim (d + 1) (Nat.lt_succ_of_lt hp) _ hun ho).wh ?_
  simp -implicitDefEqProofs -dsimp only [go_sem]
  refine (w81 (s.drop r.at') t (by rw [List.length_drop]; omega) lim (d + 1) _ hun).wh ?_
  simp -implicitDefEqProofs -dsimp only [go_sem, cut_und _ _ hu, Bool.not_false]
 ·rw [hb] at ho2
  simp -implicitDefEqProofs -dsimp only [go_sem, ho2, cut_und _ _ hu, Bool.not_true, Bool.false_and]
theorem w208 (s : List UInt8) (r : Rd) (p : Mv.Loc) (lim d : Nat) (hp : p.d < d) (hlim : lim ≤ p.d) (σ : Sto) (hu : σ.Und d) (ho : σ.ob p = some (encB s r)) : Ret lim d 82 [.ptr p 0] σ (.agg (enc z0)) (σ.set p (encB s r.fail)) := by
 have hne := ne_my hp
 have hmy := my_ne hp
 rw [encB] at ho
 simp only [encB, Rd.fail]
 unfold Ret
 rw [WF_body (C := X) rfl func82 rfl (by kernel_rfl)]; simp only [results82]
 simp -implicitDefEqProofs -dsimp only [go_sem, enc, ho, hne, hmy, hp, hlim, cut_set _ _ _ _ hp, cut_und _ _ hu, z0, encs]
theorem w216 (s : List UInt8) (r : Rd) (hs : s.length ≤ 1000000) (hr : r.at' ≤ s.length) (p : Mv.Loc) (lim d : Nat) (hp : p.d < d) (σ : Sto) (hu : σ.Und d) (ho : σ.ob p = some (encB s r)) : Ret lim d 109 [.ptr p 0] σ (.bool (isRepB s r)) σ := by
 have hun := und_succ hu
 unfold Ret isRepB
 rw [WF_body (C := X) rfl func109 rfl (by kernel_rfl)]; simp only [results109]
 simp -implicitDefEqProofs -dsimp only [go_sem]
 refine (w207 s r [42] hs hr p lim (d + 1) (Nat.lt_succ_of_lt hp) _ hun ho).wh ?_
 rw [hasT_one s r hr]
 cases h : (r.nx s == some 42)
 ·simp -implicitDefEqProofs -dsimp only [go_sem]
  refine (w207 s r [92, 123] hs hr p lim (d + 1) (Nat.lt_succ_of_lt hp) _ hun ho).wh ?_
  rw [hasT_two s r hr]
  simp -implicitDefEqProofs -dsimp only [go_sem, Bool.false_or, cut_und _ _ hu]
 ·simp -implicitDefEqProofs -dsimp only [go_sem, Bool.true_or, cut_und _ _ hu]
theorem w206 (s : List UInt8) (r : Rd) (hs : s.length ≤ 1000000) (hr : r.at' ≤ s.length) (p : Mv.Loc) (lim d : Nat) (hp : p.d < d) (σ : Sto) (hu : σ.Und d) (ho : σ.ob p = some (encB s r)) : Ret lim d 80 [.ptr p 0] σ (.bool (overB s r)) σ := by
 have hun := und_succ hu
 have ho2 := ho
 rw [encB] at ho2
 unfold Ret
 rw [WF_body (C := X) rfl func80 rfl (by kernel_rfl)]; simp only [results80]
 simp -implicitDefEqProofs -dsimp only [go_sem]
 rw [D_dr (by kernel_rfl) rfl]
 cases hb : r.bad
 ·rw [hb] at ho2
  by_cases h : r.at' = s.length
  ·have e1 : ((r.at' : Int) == (s.length : Int)) = true := by rw [beq_iff_eq]; omega
   have e2 : overB s r = true := by simp [overB, Rd.nx, hb, h]
   simp -implicitDefEqProofs -dsimp only [go_sem, ho2, e1, e2, cut_und _ _ hu]
  ·have e1 : ((r.at' : Int) == (s.length : Int)) = false := by rw [beq_eq_false_iff_ne]; omega
   have e2 : overB s r = hasE s r 41 := by
    have : s[r.at']? = some s[r.at'] := List.getElem?_eq_getElem (by omega)
    simp [overB, Rd.nx, hb, this]
   simp -implicitDefEqProofs -dsimp only [go_sem, ho2, e1]
   refine (w207 s r [92, 41] hs hr p (d + 1) (d + 1) (Nat.lt_succ_of_lt hp) _ hun ho).wh ?_
   rw [hasT_two s r hr]
   simp -implicitDefEqProofs -dsimp only [go_sem, e2, cut_und _ _ hu]
 ·rw [hb] at ho2
  have e2 : overB s r = true := by simp [overB, Rd.nx, hb]
  simp -implicitDefEqProofs -dsimp only [go_sem, ho2, e2, cut_und _ _ hu]
theorem trim_len (t : List UInt8) : (t.takeWhile dig).length + (t.dropWhile dig).length = t.length := by
 have := congrArg List.length (List.takeWhile_append_dropWhile (p := dig) (l := t))
 rw [List.length_append] at this
 exact this
theorem trim_take (t : List UInt8) : t.take (t.length - (t.dropWhile dig).length) = t.takeWhile dig := by
 have h := trim_len t
 have h2 := List.takeWhile_append_dropWhile (p := dig) (l := t)
 have h3 : t.length - (t.dropWhile dig).length = (t.takeWhile dig).length := by omega
 rw [h3]
 conv => lhs; rw [← h2]
 rw [h2]
 conv => lhs; arg 2; rw [← h2]
 exact List.take_left
theorem trim_drop (t : List UInt8) : t.dropWhile dig = t.drop (t.takeWhile dig).length := by
 have h2 := List.takeWhile_append_dropWhile (p := dig) (l := t)
 conv => rhs; arg 2; rw [← h2]
 exact List.drop_left.symm
theorem wh221 (t : List UInt8) (lim d : Nat) (σ : Sto) {Q : MV → Sto → Prop} (hq : Q (.str (t.dropWhile dig)) σ) : WFh X lim d 140 [.str t, .str [48, 49, 50, 51, 52, 53, 54, 55, 56, 57]] σ (TagF Q) := by
 rw [← WF_h, WF_prim (p := trimP) rfl]
 have : (fun b => ([48, 49, 50, 51, 52, 53, 54, 55, 56, 57] : List UInt8).contains b) = dig := funext dig_is
 refine ⟨(.str (t.dropWhile dig), σ), ?_, hq⟩
 simp only [trimP, if_true, this]
def nuT (t : List UInt8) : MV := if t.takeWhile dig = [] then .tup [.int .i64 (-1), .str t] else .tup [.int .i64 (min (numV (t.takeWhile dig)) 256 : Nat), .str (t.dropWhile dig)]
theorem w218 (t : List UInt8) (ht : t.length ≤ 1000000) (lim d : Nat) (σ : Sto) (hu : σ.Und d) : Ret lim d 125 [.str t] σ (nuT t) σ := by
 have hun := und_succ hu
 have hl := trim_len t
 have hA : ∀ b ∈ t.takeWhile dig, dig b = true := fun b hb => by
  have := digs_dig t 0 b (by simpa [digsAt] using hb)
  exact this
 unfold Ret nuT
 rw [WF_body (C := X) rfl func125 rfl (by kernel_rfl)]; simp only [results125]
 simp -implicitDefEqProofs -dsimp only [go_sem]
 refine wh221 t lim (d + 1) _ ?_
 have e1 : (0 : Int) ≤ (t.length : Int) - ((t.dropWhile dig).length : Int) ∧ (t.length : Int) - ((t.dropWhile dig).length : Int) ≤ (t.length : Int) := by omega
 have x1 := wr64 ((t.length : Int) - ((t.dropWhile dig).length : Int)) (by omega) (by omega)
 have t1 : ((t.length : Int) - ((t.dropWhile dig).length : Int)).toNat = t.length - (t.dropWhile dig).length := by omega
 have tk := trim_take t
 by_cases h0 : t.takeWhile dig = []
 ·have e2 : (t.takeWhile dig == []) = true := by rw [h0]; rfl
  rw [if_pos h0]
  simp -implicitDefEqProofs -dsimp only [go_sem, bnd, e1, x1, t1, tk, e2, cut_und _ _ hu]
 ·have e2 : (t.takeWhile dig == []) = false := by rw [beq_eq_false_iff_ne]; exact h0
  rw [if_neg h0]
  simp -implicitDefEqProofs -dsimp only [go_sem, bnd, e1, x1, t1, tk, e2]
  generalize hAA : t.takeWhile dig = A at hA hl
  generalize t.dropWhile dig = R at hl
  refine loop_h (I := fun k a s' => ∃ (i : Nat), i + k = A.length ∧ a 6 = .int .i64 (min (numV (A.take i)) 256 : Nat) ∧ a 22 = .int .i64 i ∧ a 21 = .int .i64 A.length ∧ a 5 = .str A ∧ a 4 = .str R ∧ s'.cut d = σ) ?_ A.length _ _ ?_
  ·rintro k a s' ⟨i, hk, a6, a22, a21, a5, a4, hcut⟩
   by_cases hi : i < A.length
   ·have f1 : (i : Int) < (A.length : Int) := by omega
    have g1 : A[i]? = some A[i] := List.getElem?_eq_getElem hi
    have hd := hA _ (List.getElem_mem hi)
    simp only [dig, Bool.and_eq_true, decide_eq_true_eq] at hd
    have hnv : numV (A.take (i + 1)) = 10 * numV (A.take i) + (A[i].toNat - 48) := by
     rw [List.take_succ_eq_append_getElem hi, numV, List.foldl_append]; rfl
    generalize A[i] = b at g1 hd hnv
    generalize numV (A.take i) = v at a6 hnv
    have x2 := wr64 (10 * ((min v 256 : Nat) : Int)) (by omega) (by omega)
    have x3 := wru8 ((b.toNat : Int) - 48) (by omega) (by omega)
    have x4 := wr64 ((b.toNat : Int) - 48) (by omega) (by omega)
    have x5 := wr64 (10 * ((min v 256 : Nat) : Int) + ((b.toNat : Int) - 48)) (by omega) (by omega)
    have x6 := wr64 ((i : Int) + 1) (by omega) (by omega)
    simp -implicitDefEqProofs -dsimp only [go_sem, f1, a6, a22, a21, a5, a4, g1, x2, x3, x4, x5, x6]
    refine ⟨k - 1, by omega, i + 1, by omega, ?_, rfl, hcut⟩
    rw [hnv]
    congr 1
    split <;> omega
   ·have f1 : ¬ (i : Int) < (A.length : Int) := by omega
    have hi' : i = A.length := by omega
    subst hi'
    rw [List.take_length] at a6
    simp -implicitDefEqProofs -dsimp only [go_sem, f1, a6, a22, a21, a4, hcut]
  ·refine ⟨0, by omega, rfl, rfl, rfl, rfl, rfl, ?_⟩
   simp -implicitDefEqProofs -dsimp only [go_sem, cut_und _ _ hu]
theorem w222 (s p : List UInt8) (hs : s.length ≤ 1000000) (hp : p.length ≤ 1000) (lim d : Nat) (σ : Sto) (hu : σ.Und d) : Ret lim d 141 [.str s, .str p] σ (.str (if preS s p = true then s.drop p.length else s)) σ := by
 have hun := und_succ hu
 unfold Ret
 rw [WF_body (C := X) rfl func141 rfl (by kernel_rfl)]; simp only [results141]
 simp -implicitDefEqProofs -dsimp only [go_sem]
 refine (w86 s p hs lim (d + 1) _ hun).wh ?_
 cases h : preS s p
 ·simp -implicitDefEqProofs -dsimp only [go_sem, cut_und _ _ hu, Bool.false_eq_true]
 ·have e1 : (0 : Int) ≤ (p.length : Int) ∧ (p.length : Int) ≤ (s.length : Int) := by have := pre_le h; omega
  simp -implicitDefEqProofs -dsimp only [go_sem, bnd, e1, drop_str, cut_und _ _ hu]
theorem w219 (s p : List UInt8) (hs : s.length ≤ 1000000) (hp : p.length ≤ 1000) (lim d : Nat) (σ : Sto) (hu : σ.Und d) : Ret lim d 126 [.str s, .str p] σ (.str (if preS s p = true then s.drop p.length else s)) σ := by
 unfold Ret
 rw [WF_body (C := X) rfl func126 rfl (by kernel_rfl)]; simp only [results126]
 simp -implicitDefEqProofs -dsimp only [go_sem]
 refine (w222 s p hs hp lim (d + 1) _ (und_succ hu)).wh ?_
 simp -implicitDefEqProofs -dsimp only [go_sem, cut_und _ _ hu]
def cpT (s p : List UInt8) : MV := if preS s p = true then .tup [.str (s.drop p.length), .bool true] else .tup [.str s, .bool false]
theorem w223 (s p : List UInt8) (hs : s.length ≤ 1000000) (hp : p.length ≤ 1000) (lim d : Nat) (σ : Sto) (hu : σ.Und d) : Ret lim d 142 [.str s, .str p] σ (cpT s p) σ := by
 have hun := und_succ hu
 unfold Ret cpT
 rw [WF_body (C := X) rfl func142 rfl (by kernel_rfl)]; simp only [results142]
 simp -implicitDefEqProofs -dsimp only [go_sem]
 refine (w86 s p hs lim (d + 1) _ hun).wh ?_
 cases h : preS s p
 ·simp -implicitDefEqProofs -dsimp only [go_sem, cut_und _ _ hu, Bool.false_eq_true]
 ·have e1 : (0 : Int) ≤ (p.length : Int) ∧ (p.length : Int) ≤ (s.length : Int) := by have := pre_le h; omega
  simp -implicitDefEqProofs -dsimp only [go_sem, bnd, e1, drop_str, cut_und _ _ hu]
theorem w220 (s p : List UInt8) (hs : s.length ≤ 1000000) (hp : p.length ≤ 1000) (lim d : Nat) (σ : Sto) (hu : σ.Und d) : Ret lim d 127 [.str s, .str p] σ (cpT s p) σ := by
 unfold Ret
 rw [WF_body (C := X) rfl func127 rfl (by kernel_rfl)]; simp only [results127]
 simp -implicitDefEqProofs -dsimp only [go_sem]
 refine (w223 s p hs hp lim (d + 1) _ (und_succ hu)).wh ?_
 unfold cpT
 cases h : preS s p
 ·simp -implicitDefEqProofs -dsimp only [go_sem, cut_und _ _ hu, Bool.false_eq_true]
 ·simp -implicitDefEqProofs -dsimp only [go_sem, cut_und _ _ hu]
def bdV (n : Nat) (o : Option (Int × Int × Nat)) : MV := match o with
 | some y => .tup [.int .i64 y.1, .int .i64 y.2.1, .int .i64 ((y.2.2 : Int) - n)]
 | none => .tup [.int .i64 0, .int .i64 0, .int .i64 0]
theorem bdV_some (n : Nat) (y : Int × Int × Nat) : bdV n (some y) = .tup [.int .i64 y.1, .int .i64 y.2.1, .int .i64 ((y.2.2 : Int) - n)] := rfl
theorem bdV_none (n : Nat) : bdV n none = .tup [.int .i64 0, .int .i64 0, .int .i64 0] := rfl
theorem pre_close (s : List UInt8) (q : Nat) : preS (s.drop q) [92, 125] = closeB s q := by
 unfold closeB
 by_cases h : q < s.length
 ·rw [List.drop_eq_getElem_cons h, List.getElem?_eq_getElem h]
  by_cases h2 : q + 1 < s.length
  ·rw [List.drop_eq_getElem_cons h2, pre_two, List.getElem?_eq_getElem h2]
   rw [Bool.eq_iff_iff]; simp
  ·rw [List.drop_eq_nil_of_le (by omega), pre_two1, List.getElem?_eq_none (by omega)]
   rw [Bool.eq_iff_iff]; simp
 ·rw [List.drop_eq_nil_of_le (by omega), pre_nil _ (by simp), List.getElem?_eq_none (by omega)]
  simp
theorem pre_comma (s : List UInt8) (q : Nat) : preS (s.drop q) [44] = (s[q]? == some 44) := by
 by_cases h : q < s.length
 ·rw [List.drop_eq_getElem_cons h, pre_one, List.getElem?_eq_getElem h]
  rw [Bool.eq_iff_iff]; simp
 ·rw [List.drop_eq_nil_of_le (by omega), pre_nil _ (by simp), List.getElem?_eq_none (by omega)]
  rfl
theorem nuT_at (s : List UInt8) (n : Nat) : nuT (s.drop n) = if digsAt s n = [] then .tup [.int .i64 (-1), .str (s.drop n)] else .tup [.int .i64 (min (numV (digsAt s n)) 256 : Nat), .str (s.drop (n + (digsAt s n).length))] := by
 unfold nuT digsAt
 rw [trim_drop, List.drop_drop]
theorem w217 (s : List UInt8) (n : Nat) (hs : s.length ≤ 1000000) (h1 : s[n]? = some 92) (h2 : s[n + 1]? = some 123) (lim d : Nat) (σ : Sto) (hu : σ.Und d) :
  Ret lim d 110 [.str (s.drop n), .str [92, 123], .str [92, 125]] σ (bdV n (bracesB s n)) σ := by
 have hun := und_succ hu
 have hn : n + 1 < s.length := (List.getElem?_eq_some_iff.1 h2).1
 have hp : preS (s.drop n) [92, 123] = true := by
  rw [List.drop_eq_getElem_cons (by omega), List.drop_eq_getElem_cons hn, pre_two]
  rw [List.getElem?_eq_getElem (by omega)] at h1
  rw [List.getElem?_eq_getElem hn] at h2
  simp only [Option.some.injEq] at h1 h2
  rw [h1, h2]; rfl
 have hA := digs_len s (n + 2)
 have hd2 : (s.drop n).drop 2 = s.drop (n + 2) := by rw [List.drop_drop]
 have hBu : bracesB s n = if digsAt s (n + 2) = [] ∨ 255 < numV (digsAt s (n + 2)) then none else
  if s[n + 2 + (digsAt s (n + 2)).length]? = some 44 then
   if closeB s (n + 2 + (digsAt s (n + 2)).length + 1 + (digsAt s (n + 2 + (digsAt s (n + 2)).length + 1)).length) = true ∧ (digsAt s (n + 2 + (digsAt s (n + 2)).length + 1) = [] ∨ numV (digsAt s (n + 2 + (digsAt s (n + 2)).length + 1)) ≤ 255 ∧ numV (digsAt s (n + 2)) ≤ numV (digsAt s (n + 2 + (digsAt s (n + 2)).length + 1))) then
    some ((numV (digsAt s (n + 2)) : Int), if digsAt s (n + 2 + (digsAt s (n + 2)).length + 1) = [] then (-1 : Int) else (numV (digsAt s (n + 2 + (digsAt s (n + 2)).length + 1)) : Int), n + 2 + (digsAt s (n + 2)).length + 1 + (digsAt s (n + 2 + (digsAt s (n + 2)).length + 1)).length + 2) else none
  else if closeB s (n + 2 + (digsAt s (n + 2)).length) = true then some ((numV (digsAt s (n + 2)) : Int), (numV (digsAt s (n + 2)) : Int), n + 2 + (digsAt s (n + 2)).length + 2) else none := rfl
 generalize bracesB s n = B at hBu
 have hlen : ∀ q, (s.drop q).length ≤ 1000000 := fun q => by rw [List.length_drop]; omega
 have fin : ∀ q, q + 2 ≤ s.length → n ≤ q → IntKind.i64.wrap (((s.drop n).length : Int) - ((s.drop (q + 2)).length : Int)) = ((q + 2 : Nat) : Int) - n := fun q h h' => by
  rw [List.length_drop, List.length_drop, wr64 _ (by omega) (by omega)]; omega
 unfold Ret
 rw [WF_body (C := X) rfl func110 rfl (by kernel_rfl)]; simp only [results110]
 simp -implicitDefEqProofs -dsimp only [go_sem]
 refine (w219 (s.drop n) [92, 123] (hlen n) (by simp) lim (d + 1) _ hun).wh ?_
 rw [if_pos hp]
 simp -implicitDefEqProofs -dsimp only [go_sem, hd2]
 refine (w218 (s.drop (n + 2)) (hlen _) lim (d + 1) _ hun).wh ?_
 rw [nuT_at]
 generalize hAA : digsAt s (n + 2) = A at hA hBu
 generalize hP : n + 2 + A.length = P at hBu
 have hPl : P ≤ s.length := by omega
 by_cases hA0 : A = []
 ·rw [if_pos (.inl hA0)] at hBu
  rw [if_pos hA0, hBu]
  simp -implicitDefEqProofs -dsimp only [go_sem, bdV_none, cut_und _ _ hu]
 rw [if_neg hA0]
 by_cases hbig : 255 < numV A
 ·rw [if_pos (.inr hbig)] at hBu
  have e1 : ¬ (((min (numV A) 256 : Nat) : Int) < 0) := by omega
  have e2 : (255 : Int) < ((min (numV A) 256 : Nat) : Int) := by omega
  rw [hBu]
  simp -implicitDefEqProofs -dsimp only [go_sem, e1, e2, bdV_none, cut_und _ _ hu]
 rw [if_neg (by simp [hA0, hbig])] at hBu
 have e0 : ((min (numV A) 256 : Nat) : Int) = (numV A : Int) := by omega
 have e1 : ¬ ((numV A : Int) < 0) := by omega
 have e2 : ¬ ((255 : Int) < (numV A : Int)) := by omega
 rw [e0]
 simp -implicitDefEqProofs -dsimp only [go_sem, e1, e2]
 refine (w220 (s.drop P) [44] (hlen _) (by simp) lim (d + 1) _ hun).wh ?_
 unfold cpT
 rw [pre_comma]
 by_cases h44 : s[P]? = some 44
 ·have h44' : (s[P]? == some 44) = true := by rw [h44]; rfl
  rw [if_pos h44] at hBu
  rw [if_pos h44']
  have hd1 : (s.drop P).drop 1 = s.drop (P + 1) := by rw [List.drop_drop]
  have hPl1 : P < s.length := (List.getElem?_eq_some_iff.1 h44).1
  simp -implicitDefEqProofs -dsimp only [go_sem, hd1]
  refine (w218 (s.drop (P + 1)) (hlen _) lim (d + 1) _ hun).wh ?_
  rw [nuT_at]
  have hY := digs_len s (P + 1)
  generalize hYY : digsAt s (P + 1) = Y at hY hBu
  generalize hQ : P + 1 + Y.length = Q at hBu
  by_cases hY0 : Y = []
  ·have hQ' : Q = P + 1 := by rw [← hQ, hY0]; rfl
   rw [if_pos hY0]
   have e3 : ¬ ((255 : Int) < -1) := by decide
   have e4 : ¬ ((0 : Int) ≤ -1) := by decide
   simp -implicitDefEqProofs -dsimp only [go_sem, e3, e4]
   refine (w220 (s.drop (P + 1)) [92, 125] (hlen _) (by simp) lim (d + 1) _ hun).wh ?_
   unfold cpT
   rw [pre_close, ← hQ']
   cases hcl : closeB s Q
   ·rw [if_neg (by simp [hcl])] at hBu
    rw [hBu]
    simp -implicitDefEqProofs -dsimp only [go_sem, bdV_none, cut_und _ _ hu, Bool.false_eq_true]
   ·have hcq := closeB_lt hcl
    have hd3 : (s.drop Q).drop 2 = s.drop (Q + 2) := by rw [List.drop_drop]
    rw [if_pos ⟨hcl, .inl hY0⟩, if_pos hY0] at hBu
    rw [hBu]
    simp -implicitDefEqProofs -dsimp only [go_sem, hd3, fin Q hcq (by omega), bdV_some, cut_und _ _ hu]
  ·rw [if_neg hY0]
   by_cases hyb : 255 < numV Y
   ·have e3 : (255 : Int) < ((min (numV Y) 256 : Nat) : Int) := by omega
    rw [if_neg (by simp [hY0]; omega)] at hBu
    rw [hBu]
    simp -implicitDefEqProofs -dsimp only [go_sem, e3, bdV_none, cut_und _ _ hu]
   ·have e0' : ((min (numV Y) 256 : Nat) : Int) = (numV Y : Int) := by omega
    have e3 : ¬ ((255 : Int) < (numV Y : Int)) := by omega
    have e4 : (0 : Int) ≤ (numV Y : Int) := by omega
    rw [e0']
    by_cases hlt : numV Y < numV A
    ·have e5 : (numV Y : Int) < (numV A : Int) := by omega
     rw [if_neg (by simp [hY0]; omega)] at hBu
     rw [hBu]
     simp -implicitDefEqProofs -dsimp only [go_sem, e3, e4, e5, bdV_none, cut_und _ _ hu]
    ·have e5 : ¬ (numV Y : Int) < (numV A : Int) := by omega
     simp -implicitDefEqProofs -dsimp only [go_sem, e3, e4, e5]
     refine (w220 (s.drop Q) [92, 125] (hlen _) (by simp) lim (d + 1) _ hun).wh ?_
     unfold cpT
     rw [pre_close]
     cases hcl : closeB s Q
     ·rw [if_neg (by simp [hcl])] at hBu
      rw [hBu]
      simp -implicitDefEqProofs -dsimp only [go_sem, bdV_none, cut_und _ _ hu, Bool.false_eq_true]
     ·have hcq := closeB_lt hcl
      have hd3 : (s.drop Q).drop 2 = s.drop (Q + 2) := by rw [List.drop_drop]
      rw [if_pos ⟨hcl, .inr ⟨by omega, by omega⟩⟩, if_neg hY0] at hBu
      rw [hBu]
      simp -implicitDefEqProofs -dsimp only [go_sem, hd3, fin Q hcq (by omega), bdV_some, cut_und _ _ hu]
 ·have h44' : (s[P]? == some 44) = false := by rw [beq_eq_false_iff_ne]; exact h44
  rw [if_neg h44] at hBu
  rw [if_neg (by rw [h44']; simp)]
  simp -implicitDefEqProofs -dsimp only [go_sem]
  refine (w220 (s.drop P) [92, 125] (hlen _) (by simp) lim (d + 1) _ hun).wh ?_
  unfold cpT
  rw [pre_close]
  cases hcl : closeB s P
  ·rw [if_neg (by simp [hcl])] at hBu
   rw [hBu]
   simp -implicitDefEqProofs -dsimp only [go_sem, bdV_none, cut_und _ _ hu, Bool.false_eq_true]
  ·have hcq := closeB_lt hcl
   have hd3 : (s.drop P).drop 2 = s.drop (P + 2) := by rw [List.drop_drop]
   rw [if_pos hcl] at hBu
   rw [hBu]
   simp -implicitDefEqProofs -dsimp only [go_sem, hd3, fin P hcq (by omega), bdV_some, cut_und _ _ hu]
theorem w213 (s : List UInt8) (r : Rd) (hs : s.length ≤ 1000000) (hr : r.at' < s.length) (hb : r.bad = false) (p : Mv.Loc) (lim d : Nat) (hp : p.d < d) (hlim : lim ≤ p.d) (σ : Sto) (hu : σ.Und d) (ho : σ.ob p = some (encB s r)) :
  Ret lim d 106 [.ptr p 0] σ (.agg (enc (escB s r).1)) (σ.set p (encB s (escB s r).2)) := by
 have hun := und_succ hu
 have hne := ne_my hp
 have hmy := my_ne hp
 have hp1 := Nat.lt_succ_of_lt hp
 have ho2 := ho
 rw [encB_good s r hb] at ho2
 have hun1 : ∀ (t c : Nat) (cs : List MV), ((σ.set ⟨d, t, c⟩ cs).tick d).Und (d + 1) := fun t c cs => by simp only [u_tick, u_mine]; exact hun
 have hob1 : ∀ (t c : Nat) (cs : List MV), ((σ.set ⟨d, t, c⟩ cs).tick d).ob p = some (encB s r) := fun t c cs => by simp only [go_sem, hne, if_false]; exact ho
 have x2 := wr64 ((r.at' : Int) + 2) (by omega) (by omega)
 have hl1 : (s.drop r.at').length = s.length - r.at' := List.length_drop ..
 unfold Ret
 rw [WF_body (C := X) rfl func106 rfl (by kernel_rfl)]; simp only [results106]
 unfold escB
 simp -implicitDefEqProofs -dsimp only [go_sem]
 refine (w211 s r hs (by omega) p lim (d + 1) hp1 _ (hun1 ..) (hob1 ..)).wh ?_
 by_cases hl : r.at' + 1 < s.length
 ·have e1 : ¬ (((s.drop r.at').length : Int) < 2) := by omega
  have g1 : s[r.at' + 1]? = some s[r.at' + 1] := List.getElem?_eq_getElem hl
  have g2 : (s.drop r.at')[1]? = some s[r.at' + 1] := by rw [List.getElem?_drop]; exact g1
  rw [g1]
  simp only
  generalize s[r.at' + 1] = c at g1 g2
  simp -implicitDefEqProofs -dsimp only [go_sem, e1]
  refine (w211 s r hs (by omega) p lim (d + 1) hp1 _ (hun1 ..) (hob1 ..)).wh ?_
  by_cases h49 : 49 ≤ c.toNat ∧ c.toNat ≤ 57
  ·have e2 : ((49 : Int) ≤ (c.toNat : Int)) := by omega
   have e3 : ((c.toNat : Int) ≤ 57) := by omega
   have y1 := wru8 ((c.toNat : Int) - 48) (by omega) (by omega)
   have y2 := wr64 ((c.toNat : Int) - 48) (by omega) (by omega)
   rw [if_pos h49]
   simp -implicitDefEqProofs -dsimp only [go_sem, enc, ho2, hne, hmy, x2, g2, e2, e3, y1, y2, hp, hlim, encs, encB_go s r _ hb, cut_set _ _ _ _ hp, cut_und _ _ hu, Int.natCast_add]
  ·rw [if_neg h49]
   by_cases h110 : c = 110
   ·subst h110
    rw [if_pos rfl]
    simp -implicitDefEqProofs -dsimp only [go_sem, enc, ho2, hne, hmy, x2, g2, show ¬ (((110 : UInt8).toNat : Int) ≤ 57) by decide, show (49 : Int) ≤ ((110 : UInt8).toNat : Int) by decide, show ((110 : UInt8) == 110) = true from rfl, hp, hlim, lit, encs, encB_go s r _ hb, cut_set _ _ _ _ hp, cut_und _ _ hu, Int.natCast_add]
   ·have h110' : (c == 110) = false := by simpa using h110
    rw [if_neg h110]
    have eor : (if (49 : Int) ≤ (c.toNat : Int) then decide ((c.toNat : Int) ≤ 57) else false) = false := by
     split
     ·simp; omega
     ·rfl
    unfold itselfB
    by_cases e2 : 49 ≤ c.toNat
    ·have e2' : ((49 : Int) ≤ (c.toNat : Int)) := by omega
     have e3 : ¬ ((c.toNat : Int) ≤ 57) := by omega
     simp -implicitDefEqProofs -dsimp only [go_sem, g2, h110', e2', e3]
     refine (w41 _ c lim (d + 1) _ ?_).wh ?_
     ·simp only [go_sem, u_tick, u_mine]; exact hun
     rw [← idxB_in]
     by_cases hc : 0 ≤ idxB [46, 91, 93, 42, 94, 36, 47, 92, 38, 45] c.toNat
     ·have hc' : ¬ idxB [46, 91, 93, 42, 94, 36, 47, 92, 38, 45] c.toNat < 0 := by omega
      simp -implicitDefEqProofs -dsimp only [go_sem, enc, ho2, hne, hmy, x2, hc, hc', hp, hlim, lit, encs, encB_go s r _ hb, cut_set _ _ _ _ hp, cut_und _ _ hu, Int.natCast_add]
     ·have hc' : idxB [46, 91, 93, 42, 94, 36, 47, 92, 38, 45] c.toNat < 0 := by omega
      simp -implicitDefEqProofs -dsimp only [go_sem, hc']
      refine (w208 s r p lim (d + 1) hp1 hlim _ ?_ ?_).wh ?_
      ·simp only [go_sem, u_tick, u_mine]; exact hun
      ·simp only [go_sem, hne, if_false]; exact ho
      simp -implicitDefEqProofs -dsimp only [go_sem, hmy, cut_set _ _ _ _ hp, cut_und _ _ hu, Bool.false_eq_true, hc]
    ·have e2' : ¬ ((49 : Int) ≤ (c.toNat : Int)) := by omega
     simp -implicitDefEqProofs -dsimp only [go_sem, g2, h110', e2']
     refine (w41 _ c lim (d + 1) _ ?_).wh ?_
     ·simp only [go_sem, u_tick, u_mine]; exact hun
     rw [← idxB_in]
     by_cases hc : 0 ≤ idxB [46, 91, 93, 42, 94, 36, 47, 92, 38, 45] c.toNat
     ·have hc' : ¬ idxB [46, 91, 93, 42, 94, 36, 47, 92, 38, 45] c.toNat < 0 := by omega
      simp -implicitDefEqProofs -dsimp only [go_sem, enc, ho2, hne, hmy, x2, hc, hc', hp, hlim, lit, encs, encB_go s r _ hb, cut_set _ _ _ _ hp, cut_und _ _ hu, Int.natCast_add]
     ·have hc' : idxB [46, 91, 93, 42, 94, 36, 47, 92, 38, 45] c.toNat < 0 := by omega
      simp -implicitDefEqProofs -dsimp only [go_sem, hc']
      refine (w208 s r p lim (d + 1) hp1 hlim _ ?_ ?_).wh ?_
      ·simp only [go_sem, u_tick, u_mine]; exact hun
      ·simp only [go_sem, hne, if_false]; exact ho
      simp -implicitDefEqProofs -dsimp only [go_sem, hmy, cut_set _ _ _ _ hp, cut_und _ _ hu, Bool.false_eq_true, hc]
 ·have e1 : ((s.drop r.at').length : Int) < 2 := by omega
  rw [List.getElem?_eq_none (by omega)]
  simp only
  simp -implicitDefEqProofs -dsimp only [go_sem, e1]
  refine (w208 s r p lim (d + 1) hp1 hlim _ (hun1 ..) (hob1 ..)).wh ?_
  simp -implicitDefEqProofs -dsimp only [go_sem, hmy, cut_set _ _ _ _ hp, cut_und _ _ hu]
end Go.Proofs.Tryz.E
