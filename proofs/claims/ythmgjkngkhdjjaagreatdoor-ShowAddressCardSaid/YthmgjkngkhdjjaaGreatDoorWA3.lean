/- Walks: what the functions compute. Walks: what the functions compute. Walks: what the functions compute. Walks: what the functions compute. Walks: what the functions compute. -/
import Derived.Test.YthmgjkngkhdjjaaGreatDoorWE9
import Derived.Test.YthmgjkngkhdjjaaGreatDoorWE14
set_option linter.unusedVariables false
set_option linter.unusedSimpArgs false
/- Numbers in decimal, and blanks: plain words. -/
namespace Go.Proofs.Tryz.E
open Go.Mv
set_option maxHeartbeats 4000000
set_option maxRecDepth 20000
def decS (n : Nat) : List UInt8 := if n < 10 then [UInt8.ofNat (48 + n)] else decS (n / 10) ++ [UInt8.ofNat (48 + n % 10)]
termination_by n
decreasing_by omega
theorem dec_lt {n : Nat} (h : n < 10) : decS n = [UInt8.ofNat (48 + n)] := by rw [decS, if_pos h]
theorem dec_ge {n : Nat} (h : ¬ n < 10) : decS n = decS (n / 10) ++ [UInt8.ofNat (48 + n % 10)] := by rw [decS, if_neg h]
theorem digit_nat {m : Nat} (h : m < 10) : (UInt8.ofNat (48 + m)).toNat = 48 + m := by
 rw [UInt8.toNat_ofNat']
 exact Nat.mod_eq_of_lt (by omega)
theorem dec_val (n : Nat) : numV (decS n) = n := by
 induction n using Nat.strongRecOn with
 | _ n ih =>
  by_cases h : n < 10
  ·rw [dec_lt h]
   simp only [numV, List.foldl_cons, List.foldl_nil, digit_nat h]
   omega
  ·have := ih (n / 10) (by omega)
   rw [dec_ge h]
   unfold numV at this ⊢
   rw [List.foldl_append, this]
   simp only [List.foldl_cons, List.foldl_nil, digit_nat (Nat.mod_lt n (by omega : 10 > 0))]
   omega
theorem dec_dig (n : Nat) : ∀ b ∈ decS n, 48 ≤ b.toNat ∧ b.toNat ≤ 57 := by
 induction n using Nat.strongRecOn with
 | _ n ih =>
  by_cases h : n < 10
  ·rw [dec_lt h]
   intro b hb
   simp only [List.mem_cons, List.not_mem_nil, or_false] at hb
   subst hb
   rw [digit_nat h]; omega
  ·rw [dec_ge h]
   intro b hb
   rcases List.mem_append.1 hb with hb | hb
   ·exact ih (n / 10) (by omega) b hb
   ·simp only [List.mem_cons, List.not_mem_nil, or_false] at hb
    subst hb
    rw [digit_nat (Nat.mod_lt n (by omega : 10 > 0))]
    have := Nat.mod_lt n (by omega : 10 > 0)
    omega
theorem dec_ne (n : Nat) : decS n ≠ [] := by
 by_cases h : n < 10
 ·rw [dec_lt h]; simp
 ·rw [dec_ge h]; simp
theorem dec_len10 (n k : Nat) (h : n < 10 ^ (k + 1)) : (decS n).length ≤ k + 1 := by
 induction k generalizing n with
 | zero => rw [dec_lt (by simpa using h)]; simp
 | succ k ih =>
  by_cases h1 : n < 10
  ·rw [dec_lt h1]; simp
  ·have := ih (n / 10) (by rw [Nat.pow_succ] at h; omega)
   rw [dec_ge h1, List.length_append]
   simp only [List.length_cons, List.length_nil]
   omega
theorem numV_step {l : List UInt8} {i : Nat} (h : i < l.length) : numV (l.take (i + 1)) = 10 * numV (l.take i) + (l[i].toNat - 48) := by
 unfold numV
 rw [List.take_succ_eq_append_getElem h, List.foldl_append]
 rfl
def blankB (b : UInt8) : Bool := b == 32 || b == 9
def digB (b : UInt8) : Bool := [48, 49, 50, 51, 52, 53, 54, 55, 56, 57].contains b
theorem digB_eq (b : UInt8) (h : 48 ≤ b.toNat ∧ b.toNat ≤ 57) : digB b = true := by
 have e : b = UInt8.ofNat b.toNat := by simp
 obtain ⟨m, hm⟩ : ∃ m, b.toNat = 48 + m := ⟨b.toNat - 48, by omega⟩
 rw [e, hm]
 have : m < 10 := by omega
 rcases (by omega : m = 0 ∨ m = 1 ∨ m = 2 ∨ m = 3 ∨ m = 4 ∨ m = 5 ∨ m = 6 ∨ m = 7 ∨ m = 8 ∨ m = 9) with rfl | rfl | rfl | rfl | rfl | rfl | rfl | rfl | rfl | rfl <;> decide
theorem dw_app {p : UInt8 → Bool} {l t : List UInt8} (h : ∀ b ∈ l, p b = true) (ht : ∀ c, t[0]? = some c → p c = false) : (l ++ t).dropWhile p = t := by
 induction l with
 | nil =>
  cases t with
  | nil => rfl
  | cons c t => rw [List.nil_append, List.dropWhile_cons, if_neg (by rw [ht c rfl]; decide)]
 | cons b l ih =>
  rw [List.cons_append, List.dropWhile_cons, if_pos (h b (List.mem_cons_self ..))]
  exact ih fun c hc => h c (List.mem_cons_of_mem _ hc)
def encL (s : List UInt8) (n : Nat) : List MV := [.str s, .int .i64 n]
def pkL (s : List UInt8) (n : Nat) : UInt8 := s[n]?.getD 0
section
variable (s : List UInt8) (hs : s.length ≤ 1000000)
include hs
end
def blL (s : List UInt8) (n : Nat) : Nat := (s.drop n).length - ((s.drop n).dropWhile fun b => [32, 9].contains b).length
def dgL (s : List UInt8) (n : Nat) : Nat := (s.drop n).length - ((s.drop n).dropWhile digB).length
theorem dw_le {p : UInt8 → Bool} (l : List UInt8) : (l.dropWhile p).length ≤ l.length := (List.dropWhile_sublist p).length_le
section
variable (s : List UInt8) (hs : s.length ≤ 1000000)
include hs
end
@[go_sem] theorem bin_66e' (xs ys : List MV) : binO X.P X.eqT .eql 104 (.agg xs) (.agg ys) = (eqC ([.i .i64, .i .u8] ++ u4 ++ [.i .i64, .i .i64, .i .i64]) xs ys).map fun r => .bool r := rfl
mutual
def sameB : Nd → Nd → Bool
 | .mk k c s0 s1 s2 s3 n mn mx l, .mk k' c' t0 t1 t2 t3 n' mn' mx' l' => (k == k' && (c == c' && (s0 == t0 && (s1 == t1 && (s2 == t2 && (s3 == t3 && (n == n' && (mn == mn' && mx == mx')))))))) && samesB l l'
def samesB : List Nd → List Nd → Bool
 | [], [] => true
 | x :: l, y :: l' => sameB x y && samesB l l'
 | [], _ :: _ => false
 | _ :: _, [] => false
end
theorem sames_len : ∀ {l l' : List Nd}, samesB l l' = true → l.length = l'.length
 | [], [], _ => rfl
 | x :: l, y :: l', h => by
  simp only [samesB, Bool.and_eq_true] at h
  simp [sames_len h.2]
 | [], _ :: _, h => by simp [samesB] at h
 | _ :: _, [], h => by simp [samesB] at h
theorem sames_ne {l l' : List Nd} (h : l.length ≠ l'.length) : samesB l l' = false := by
 rw [← Bool.not_eq_true]; exact fun q => h (sames_len q)
theorem sames_at {l l' : List Nd} {i : Nat} (h : i < l.length) (h' : i < l'.length) : samesB (l.drop i) (l'.drop i) = (sameB l[i] l'[i] && samesB (l.drop (i + 1)) (l'.drop (i + 1))) := by
 rw [List.drop_eq_getElem_cons h, List.drop_eq_getElem_cons h', samesB]
theorem bne_ne {x y : Int} (h : x ≠ y) : (x != y) = true := by rw [bne_iff_ne]; exact h
theorem beq_ne {x y : Int} (h : x ≠ y) : (x == y) = false := by rw [beq_eq_false_iff_ne]; exact h
theorem w10g : ∀ (x : Nd), sz x ≤ 1000000 → ∀ (y : Nd) (lim d : Nat) (σ : Sto), lim ≤ d → σ.Und d → Ret lim d 17 [.agg (enc x), .agg (enc y)] σ (.bool (sameB x y)) σ := by
 refine Nd.ind fun kd c s0 s1 s2 s3 n mn mx l ih hsz y lim d σ hlim hu => ?_
 obtain ⟨kd', c', t0, t1, t2, t3, n', mn', mx', l'⟩ := y
 have hl := len_le l
 simp only [sz] at hsz
 have hun := und_succ hu
 unfold Ret
 simp only [sameB]
 rw [WF_body (C := X) rfl func17 rfl (by kernel_rfl)]; simp only [results17]
 by_cases h1 : kd = kd'
 case neg => simp -implicitDefEqProofs -dsimp only [go_sem, enc, bne_ne h1, beq_ne h1, cut_und _ _ hu, Bool.false_and]
 subst h1
 by_cases h2 : c = c'
 case neg => simp -implicitDefEqProofs -dsimp only [go_sem, enc, bne_self_i, beq_self_eq_true, bne_ne h2, beq_ne h2, cut_und _ _ hu, Bool.false_and, Bool.true_and]
 subst h2
 by_cases h3 : s0 = t0
 case neg => simp -implicitDefEqProofs -dsimp only [go_sem, enc, bne_self_i, beq_self_eq_true, beq_ne h3, cut_und _ _ hu, Bool.false_and, Bool.true_and, Bool.not_false]
 subst h3
 by_cases h4 : s1 = t1
 case neg => simp -implicitDefEqProofs -dsimp only [go_sem, enc, bne_self_i, beq_self_eq_true, beq_ne h4, cut_und _ _ hu, Bool.false_and, Bool.true_and, Bool.not_false]
 subst h4
 by_cases h5 : s2 = t2
 case neg => simp -implicitDefEqProofs -dsimp only [go_sem, enc, bne_self_i, beq_self_eq_true, beq_ne h5, cut_und _ _ hu, Bool.false_and, Bool.true_and, Bool.not_false]
 subst h5
 by_cases h6 : s3 = t3
 case neg => simp -implicitDefEqProofs -dsimp only [go_sem, enc, bne_self_i, beq_self_eq_true, beq_ne h6, cut_und _ _ hu, Bool.false_and, Bool.true_and, Bool.not_false]
 subst h6
 by_cases h7 : n = n'
 case neg => simp -implicitDefEqProofs -dsimp only [go_sem, enc, bne_self_i, beq_self_eq_true, bne_ne h7, beq_ne h7, cut_und _ _ hu, Bool.false_and, Bool.true_and, Bool.not_true]
 subst h7
 by_cases h8 : mn = mn'
 case neg => simp -implicitDefEqProofs -dsimp only [go_sem, enc, bne_self_i, beq_self_eq_true, bne_ne h8, beq_ne h8, cut_und _ _ hu, Bool.false_and, Bool.true_and, Bool.not_true]
 subst h8
 by_cases h9 : mx = mx'
 case neg => simp -implicitDefEqProofs -dsimp only [go_sem, enc, bne_self_i, beq_self_eq_true, bne_ne h9, beq_ne h9, cut_und _ _ hu, Bool.false_and, Bool.true_and, Bool.not_true]
 subst h9
 by_cases h0 : l.length = l'.length
 case neg =>
  have q : ((l.length : Int) != (l'.length : Int)) = true := bne_ne (by omega)
  simp -implicitDefEqProofs -dsimp only [go_sem, enc, bne_self_i, beq_self_eq_true, q, sames_ne h0, encs_len, cut_und _ _ hu, Bool.and_false, Bool.true_and, Bool.not_true]
 have q : ((l.length : Int) != (l'.length : Int)) = false := by rw [h0]; exact bne_self_i _
 simp -implicitDefEqProofs -dsimp only [go_sem, enc, bne_self_i, beq_self_eq_true, q, encs_len, Bool.true_and, Bool.not_true]
 refine loop_h (I := fun k a s => ∃ (i : Nat), i + k = l.length ∧ a 58 = .int .i64 i ∧ a 57 = .int .i64 l.length ∧ a 2 = .ptr ⟨d, 2, σ.ct d⟩ 0 ∧ a 3 = .ptr ⟨d, 3, σ.ct d + 1⟩ 0 ∧ s.ob ⟨d, 2, σ.ct d⟩ = some (enc (.mk kd c s0 s1 s2 s3 n mn mx l)) ∧ s.ob ⟨d, 3, σ.ct d + 1⟩ = some (enc (.mk kd c s0 s1 s2 s3 n mn mx l')) ∧ samesB (l.drop i) (l'.drop i) = samesB l l' ∧ s.cut d = σ ∧ s.Und (d + 1)) ?_ l.length _ _ ?_
 ·rintro k a s ⟨i, hk, h1, h2, h3, h4, o3, o4, hq, hs, hs2⟩
  by_cases hi : i < l.length
  ·have e1 : ((i : Int) < (l.length : Int)) := by omega
   have e2 : l[i]? = some l[i] := List.getElem?_eq_getElem hi
   have hi' : i < l'.length := by omega
   have e3 : l'[i]? = some l'[i] := List.getElem?_eq_getElem hi'
   have hm := List.getElem_mem hi
   have hy := sz_le l _ hm
   rw [sames_at hi hi'] at hq
   simp -implicitDefEqProofs -dsimp only [go_sem, e1, h1, h2]
   rw [D_dr (by kernel_rfl) rfl]
   simp -implicitDefEqProofs -dsimp only [go_sem, enc, e2, e3, h3, h4, o3, o4, encs_at]
   refine (ih l[i] hm (by omega) l'[i] (d + 1) (d + 1) _ (Nat.le_refl _) hs2).wh ?_
   cases hb : sameB l[i] l'[i]
   ·rw [hb, Bool.false_and] at hq
    simp -implicitDefEqProofs -dsimp only [go_sem, enc, ← hq, hs, Bool.not_false]
   ·rw [hb, Bool.true_and] at hq
    simp -implicitDefEqProofs -dsimp only [go_sem, enc, h1, h2, h3, h4, o3, o4, Bool.not_true, Bool.false_eq_true]
    exact ⟨k - 1, by omega, i + 1, by omega, by rw [wr64 _ (by omega) (by omega)]; rfl, hq, hs, hs2⟩
  ·have e1 : ¬ ((i : Int) < (l.length : Int)) := by omega
   rw [List.drop_eq_nil_of_le (by omega), List.drop_eq_nil_of_le (by omega), samesB] at hq
   simp -implicitDefEqProofs -dsimp only [go_sem, e1, h1, h2, hs, ← hq]
 ·refine ⟨0, Nat.zero_add _, ?_⟩
  simp -implicitDefEqProofs -dsimp only [go_sem, enc, cut_und _ _ hu, u_tick, u_mine, hun, List.drop_zero]
theorem w28g (l l' : List Nd) (hl : l.length ≤ 1000000) (lim d : Nat) (σ : Sto) (hlim : lim ≤ d) (hu : σ.Und d) (ih : ∀ y ∈ l, ∀ (z : Nd) (lim d : Nat) (σ : Sto), lim ≤ d → σ.Und d → Ret lim d 37 [.agg (enc y), .agg (enc z)] σ (.bool (sameB y z)) σ) : Ret lim d 55 [.sl .no (encs l), .sl .no (encs l'), .fn 37] σ (.bool (samesB l l')) σ := by
 have hun := und_succ hu
 unfold Ret
 rw [WF_body (C := X) rfl func55 rfl (by kernel_rfl)]; simp only [results55]
 by_cases h0 : l.length = l'.length
 case neg =>
  have q : ((l.length : Int) != (l'.length : Int)) = true := bne_ne (by omega)
  simp -implicitDefEqProofs -dsimp only [go_sem, q, sames_ne h0, encs_len, cut_und _ _ hu]
 have q : ((l.length : Int) != (l'.length : Int)) = false := by rw [h0]; exact bne_self_i _
 simp -implicitDefEqProofs -dsimp only [go_sem, encs_len, q]
 refine loop_h (I := fun k a s => ∃ (i : Nat), i + k = l.length ∧ a 17 = .int .i64 i ∧ a 16 = .int .i64 l.length ∧ a 15 = .sl .no (encs l) ∧ a 1 = .sl .no (encs l') ∧ a 2 = .fn 37 ∧ samesB (l.drop i) (l'.drop i) = samesB l l' ∧ s.cut d = σ ∧ s.Und (d + 1)) ?_ l.length _ _ ?_
 ·rintro k a s ⟨i, hk, h17, h16, h15, h1, h2, hq, hs, hs2⟩
  by_cases hi : i < l.length
  ·have e1 : ((i : Int) < (l.length : Int)) := by omega
   have e2 : l[i]? = some l[i] := List.getElem?_eq_getElem hi
   have hi' : i < l'.length := by omega
   have e4 : l'[i]? = some l'[i] := List.getElem?_eq_getElem hi'
   have hm := List.getElem_mem hi
   have e3 := wr64 ((i : Int) + 1) (by omega) (by omega)
   rw [sames_at hi hi'] at hq
   simp -implicitDefEqProofs -dsimp only [go_sem, e1, e2, e4, h17, h16, h15, h1, h2, encs_at]
   refine (ih l[i] hm l'[i] lim (d + 1) _ (by omega) (und_new (und_new hs2 _ _ _) _ _ _)).wh ?_
   cases hb : sameB l[i] l'[i]
   ·rw [hb, Bool.false_and] at hq
    simp -implicitDefEqProofs -dsimp only [go_sem, e3, Bool.not_false, ← hq, hs]
    exact ⟨_, rfl, Cnd_t.2 trivial⟩
   ·rw [hb, Bool.true_and] at hq
    simp -implicitDefEqProofs -dsimp only [go_sem, e3, Bool.not_true]
    exact ⟨_, rfl, Cnd_f.2 ⟨k - 1, by omega, i + 1, by omega, by simp, hq, hs, by simp only [u_tick, u_mine]; exact hs2⟩⟩
  ·have e1 : ¬ ((i : Int) < (l.length : Int)) := by omega
   rw [List.drop_eq_nil_of_le (by omega), List.drop_eq_nil_of_le (by omega), samesB] at hq
   simp -implicitDefEqProofs -dsimp only [go_sem, e1, h17, h16, hs, ← hq]
 ·refine ⟨0, Nat.zero_add _, ?_⟩
  simp -implicitDefEqProofs -dsimp only [go_sem, cut_und _ _ hu, hun, List.drop_zero]
theorem w16g : ∀ (x : Nd), sz x ≤ 1000000 → ∀ (y : Nd) (lim d : Nat) (σ : Sto), lim ≤ d → σ.Und d → Ret lim d 37 [.agg (enc x), .agg (enc y)] σ (.bool (sameB x y)) σ := by
 refine Nd.ind fun kd c s0 s1 s2 s3 n mn mx l ih hsz y lim d σ hlim hu => ?_
 obtain ⟨kd', c', t0, t1, t2, t3, n', mn', mx', l'⟩ := y
 have hl := len_le l
 simp only [sz] at hsz
 have hun := und_succ hu
 unfold Ret
 simp only [sameB]
 rw [WF_body (C := X) rfl func37 rfl (by kernel_rfl)]; simp only [results37]
 simp -implicitDefEqProofs -dsimp only [go_sem, enc]
 rw [D_dr (by kernel_rfl) rfl]
 simp -implicitDefEqProofs -dsimp only [go_sem]
 refine (w27 kd c s0 s1 s2 s3 n mn mx l (d + 1) (d + 1) _ (by simp only [u_tick, u_mine]; exact hun)).wh ?_
 simp -implicitDefEqProofs -dsimp only [go_sem]
 refine (w27 kd' c' t0 t1 t2 t3 n' mn' mx' l' (d + 1) (d + 1) _ (by simp only [u_tick, u_mine]; exact hun)).wh ?_
 generalize hH : (kd == kd' && (c == c' && (s0 == t0 && (s1 == t1 && (s2 == t2 && (s3 == t3 && (n == n' && (mn == mn' && mx == mx')))))))) = hb
 cases hb
 ·simp -implicitDefEqProofs -dsimp only [go_sem, hH, cut_und _ _ hu, Bool.false_and]
 ·simp -implicitDefEqProofs -dsimp only [go_sem, hH]
  refine (w28g l l' (by omega) (d + 1) (d + 1) _ (Nat.le_refl _) (by simp only [u_tick, u_mine]; exact hun) (fun y hy => ih y hy (by have := sz_le l y hy; omega))).wh ?_
  simp -implicitDefEqProofs -dsimp only [go_sem, cut_und _ _ hu]
mutual
def bndT : Nd → Int → Int → Int
 | .mk _ _ _ _ _ _ _ _ _ l, deep, left => if deep = 0 then 0 else let r := bnds l deep (left - 1); if r ≤ 0 then 0 else r
def bnds : List Nd → Int → Int → Int
 | [], _, left => left
 | x :: l, deep, left => if left ≤ 0 then 0 else bnds l deep (bndT x (deep - 1) left)
end
theorem bnds_at {l : List Nd} {i : Nat} (h : i < l.length) (deep left : Int) : bnds (l.drop i) deep left = if left ≤ 0 then 0 else bnds (l.drop (i + 1)) deep (bndT l[i] (deep - 1) left) := by rw [List.drop_eq_getElem_cons h, bnds]
theorem bnds_le0 (deep left : Int) (h : left ≤ 0) : ∀ l, bnds l deep left ≤ 0
 | [] => by simpa [bnds] using h
 | x :: l => by simp [bnds, h]
mutual
theorem bnd_sz : ∀ (x : Nd) (deep left : Int), 0 < bndT x deep left → (sz x : Int) + bndT x deep left ≤ left
 | .mk _ _ _ _ _ _ _ _ _ l, deep, left, h => by
  simp only [bndT] at h ⊢
  by_cases h0 : deep = 0
  ·rw [if_pos h0] at h; exact absurd h (Int.lt_irrefl 0)
  rw [if_neg h0] at h ⊢
  by_cases h1 : bnds l deep (left - 1) ≤ 0
  ·simp only [if_pos h1] at h; exact absurd h (Int.lt_irrefl 0)
  simp only [if_neg h1] at h ⊢
  have := bnds_sz l deep (left - 1) h
  simp only [sz]
  omega
theorem bnds_sz : ∀ (l : List Nd) (deep left : Int), 0 < bnds l deep left → (szs l : Int) + bnds l deep left ≤ left
 | [], _, left, h => by simp [bnds, szs]
 | x :: l, deep, left, h => by
  simp only [bnds] at h ⊢
  by_cases h0 : left ≤ 0
  ·rw [if_pos h0] at h; exact absurd h (Int.lt_irrefl 0)
  rw [if_neg h0] at h ⊢
  have h1 := bnds_sz l deep _ h
  have h2 : 0 < bndT x (deep - 1) left := by
   rcases Int.lt_or_le 0 (bndT x (deep - 1) left) with q | q
   ·exact q
   ·have := bnds_le0 deep _ q l; omega
  have h3 := bnd_sz x (deep - 1) left h2
  simp only [szs]
  omega
end
theorem bnd_rng (x : Nd) (deep left : Int) : 0 ≤ bndT x deep left ∧ bndT x deep left ≤ (if 0 ≤ left then left else 0) := by
 have h0 : 0 ≤ bndT x deep left := by
  cases x
  simp only [bndT]
  split
  ·exact Int.le_refl _
  ·split <;> omega
 refine ⟨h0, ?_⟩
 rcases Int.lt_or_le 0 (bndT x deep left) with q | q
 ·have := bnd_sz x deep left q
  split <;> omega
 ·split <;> omega
theorem w416 : ∀ (x : Nd) (deep left : Int), 0 ≤ deep → deep ≤ 40 → 0 ≤ left → left ≤ 400 → ∀ (lim d : Nat) (σ : Sto), lim ≤ d → σ.Und d → Ret lim d 24 [.agg (enc x), .int .i64 deep, .int .i64 left] σ (.int .i64 (bndT x deep left)) σ := by
 refine Nd.ind fun kd c s0 s1 s2 s3 n mn mx l ih deep left hd hd2 hl hl2 lim d σ hlim hu => ?_
 have hun := und_succ hu
 have y1 := wr64 (left - 1) (by omega) (by omega)
 unfold Ret
 simp only [bndT]
 rw [WF_body (C := X) rfl func24 rfl (by kernel_rfl)]; simp only [results24]
 by_cases h0 : deep = 0
 ·subst h0
  simp -implicitDefEqProofs -dsimp only [go_sem, enc, y1, beq_self_eq_true, cut_und _ _ hu]
 have y2 := wr64 (deep - 1) (by omega) (by omega)
 simp -implicitDefEqProofs -dsimp only [go_sem, enc, y1, beq_ne h0, encs_len, Bool.false_eq_true]
 refine loop_h (I := fun k a s => ∃ (i : Nat) (m : Int), i + k = l.length ∧ a 15 = .int .i64 i ∧ a 14 = .int .i64 l.length ∧ a 1 = .int .i64 deep ∧ a 2 = .int .i64 m ∧ a 3 = .ptr ⟨d, 3, σ.ct d⟩ 0 ∧ s.ob ⟨d, 3, σ.ct d⟩ = some (enc (.mk kd c s0 s1 s2 s3 n mn mx l)) ∧ -1 ≤ m ∧ m + i ≤ 400 ∧ bnds (l.drop i) deep m = bnds l deep (left - 1) ∧ s.cut d = σ ∧ s.Und (d + 1)) ?_ l.length _ _ ?_
 ·rintro k a s ⟨i, m, hk, h15, h14, h1, h2, h3, o3, hm1, hm2, hq, hs, hs2⟩
  by_cases hi : i < l.length
  ·have e1 : ((i : Int) < (l.length : Int)) := by omega
   have e2 : l[i]? = some l[i] := List.getElem?_eq_getElem hi
   have hm := List.getElem_mem hi
   rw [bnds_at hi] at hq
   by_cases hm0 : m ≤ 0
   ·rw [if_pos hm0] at hq
    simp -implicitDefEqProofs -dsimp only [go_sem, e1, h15, h14, h2, hm0, ← hq, hs]
   ·rw [if_neg hm0] at hq
    simp -implicitDefEqProofs -dsimp only [go_sem, enc, e1, e2, h15, h14, h1, h2, h3, o3, hm0, y2, encs_at]
    refine (ih l[i] hm (deep - 1) m (by omega) (by omega) (by omega) (by omega) lim (d + 1) _ (by omega) hs2).wh ?_
    have hr := bnd_rng l[i] (deep - 1) m
    rw [if_pos (by omega)] at hr
    simp -implicitDefEqProofs -dsimp only [go_sem, enc, h15, h14, h1, h3]
    have hi4 : bndT l[i] (deep - 1) m + ((i : Int) + 1) ≤ 400 := by
     rcases Int.lt_or_le 0 (bndT l[i] (deep - 1) m) with q | q
     ·have := bnd_sz l[i] (deep - 1) m q
      have := sz_pos l[i]
      omega
     ·omega
    exact ⟨k - 1, by omega, i + 1, _, by omega, by rw [wr64 _ (by omega) (by omega)]; rfl, rfl, by rw [o3, enc], by omega, by omega, hq, hs, hs2⟩
  ·have e1 : ¬ ((i : Int) < (l.length : Int)) := by omega
   rw [List.drop_eq_nil_of_le (by omega), bnds] at hq
   simp -implicitDefEqProofs -dsimp only [go_sem, e1, h15, h14, h2, hs, ← hq]
   refine congrArg _ ?_
   rw [if_neg h0]
   split <;> split <;> omega
 ·refine ⟨0, left - 1, Nat.zero_add _, ?_⟩
  simp -implicitDefEqProofs -dsimp only [go_sem, enc, cut_und _ _ hu, u_tick, u_mine, hun, List.drop_zero]
  omega
theorem w410 (x : Nd) (lim d : Nat) (σ : Sto) (hlim : lim ≤ d) (hu : σ.Und d) : Ret lim d 12 [.agg (enc x)] σ (.bool (decide (0 < bndT x 40 400))) σ := by
 have hun := und_succ hu
 unfold Ret
 obtain ⟨kd, c, s0, s1, s2, s3, n, mn, mx, l⟩ := x
 rw [WF_body (C := X) rfl func12 rfl (by kernel_rfl)]; simp only [results12]
 simp -implicitDefEqProofs -dsimp only [go_sem, enc]
 refine (w416 (.mk kd c s0 s1 s2 s3 n mn mx l) 40 400 (by omega) (by omega) (by omega) (by omega) lim (d + 1) _ (by omega) (by simp only [u_tick, u_mine]; exact hun)).wh ?_
 simp -implicitDefEqProofs -dsimp only [go_sem, enc, cut_und _ _ hu]
theorem w417 : ∀ (x : Nd), sz x ≤ 1000000 → ∀ (lim d : Nat) (σ : Sto), lim ≤ d → σ.Und d → Ret lim d 16 [.agg (enc x)] σ (.agg (enc x)) σ := by
 refine Nd.ind fun kd c s0 s1 s2 s3 n mn mx l ih hsz lim d σ hlim hu => ?_
 have hl := len_le l
 simp only [sz] at hsz
 have hun := und_succ hu
 unfold Ret
 rw [WF_body (C := X) rfl func16 rfl (by kernel_rfl)]; simp only [results16]
 simp -implicitDefEqProofs -dsimp only [go_sem, enc, encs_len]
 refine loop_h (I := fun k a s => ∃ (i : Nat) (L : MV) (acc : List Nd), i + k = l.length ∧ a 21 = .int .i64 i ∧ a 20 = .int .i64 l.length ∧ a 1 = .ptr ⟨d, 1, σ.ct d⟩ 0 ∧ a 2 = .ptr ⟨d, 2, σ.ct d + 1⟩ 0 ∧ a 3 = .ptr ⟨d, 3, σ.ct d + 1 + 1⟩ 0 ∧ s.ob ⟨d, 1, σ.ct d⟩ = some (enc (.mk kd c s0 s1 s2 s3 n mn mx l)) ∧
  (∃ z, s.ob ⟨d, 2, σ.ct d + 1⟩ = some z ∧ z.length = 10) ∧ s.ob ⟨d, 3, σ.ct d + 1 + 1⟩ = some [.int .i64 kd, .int .u8 c, .int .u64 s0, .int .u64 s1, .int .u64 s2, .int .u64 s3, .int .i64 n, .int .i64 mn, .int .i64 mx, L] ∧ Own s d L acc ∧ acc ++ l.drop i = l ∧ s.cut d = σ ∧ s.Und (d + 1)) ?_ l.length _ _ ?_
 ·rintro k a s ⟨i, L, acc, hk, h21, h20, h1, h2, h3, o1, ⟨z, o2, oz⟩, o3, hO, hc, hs, hs2⟩
  have hal : acc.length = i := by
   have := congrArg List.length hc
   simp at this; omega
  by_cases hi : i < l.length
  ·have e1 : ((i : Int) < (l.length : Int)) := by omega
   have e2 : l[i]? = some l[i] := List.getElem?_eq_getElem hi
   have hm := List.getElem_mem hi
   have hy := sz_le l _ hm
   simp -implicitDefEqProofs -dsimp only [go_sem, e1, h21, h20]
   rw [D_dr (by kernel_rfl) rfl]
   simp -implicitDefEqProofs -dsimp only [go_sem, enc, e2, h1, h3, o1, o3, encs_at]
   refine (ih l[i] hm (by omega) (d + 1) (d + 1) _ (Nat.le_refl _) hs2).wh ?_
   obtain ⟨v', s', q1, q2, q3, q4, q5⟩ := app_own (P := X.P) (t := 38) (ys := [l[i]]) (tk := .no) slc_38 hO (by simp; omega) hlim hs2
   simp only [encs] at q1
   simp -implicitDefEqProofs -dsimp only [go_sem, enc, h21, h20, h1, h2, h3, o1, o2, o3, q1, own_cells q2, q5]
   refine ⟨k - 1, by omega, i + 1, v', acc ++ [l[i]], by omega, by rw [wr64 _ (by omega) (by omega)]; rfl, ⟨z, rfl, oz⟩, rfl, own_set q2 _ _, ?_, by rw [q3]; exact hs, by rw [u_mine]; exact q4⟩
   rw [List.append_assoc, List.singleton_append, ← List.drop_eq_getElem_cons hi, hc]
  ·have e1 : ¬ ((i : Int) < (l.length : Int)) := by omega
   rw [List.drop_eq_nil_of_le (by omega), List.append_nil] at hc
   subst hc
   simp -implicitDefEqProofs -dsimp only [go_sem, enc, e1, h21, h20, h2, h3, o3, o2, oz]
   rw [putC_whole _ _ (by simp [oz])]
   simp -implicitDefEqProofs -dsimp only [go_sem, own_frz hO, hs]
 ·refine ⟨0, .sl .nil [], [], Nat.zero_add _, ?_⟩
  simp -implicitDefEqProofs -dsimp only [go_sem, enc, cut_und _ _ hu, u_tick, u_mine, hun]
  exact ⟨⟨_, rfl, rfl⟩, .inl ⟨rfl, rfl⟩⟩
end Go.Proofs.Tryz.E
