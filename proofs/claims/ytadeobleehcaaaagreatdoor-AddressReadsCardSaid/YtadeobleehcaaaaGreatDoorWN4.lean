/- Walks: what the functions compute. Walks: what the functions compute. -/
import Derived.Test.YtadeobleehcaaaaGreatDoorWL2
import Derived.Test.YtadeobleehcaaaaGreatDoorWQ0
set_option linter.unusedVariables false
set_option linter.unusedSimpArgs false
/- The lexer: brackets, escapes. -/
namespace Go.Proofs.Tryz.E
open Go.Mv
set_option maxHeartbeats 4000000
set_option maxRecDepth 20000
@[go_sem] theorem cvt_byN (tk : Tok) (n : Int) : cvtO X.P 119 9 (.sl tk [[.int .u8 n]]) = some (.str [UInt8.ofNat n.toNat]) := by
 have h1 : X.P.underlying 119 = some (.slice 5) := by kernel_rfl
 have h2 : X.P.underlying 9 = some .string := by kernel_rfl
 have h3 : X.P.underlying 5 = some (.int .u8) := by kernel_rfl
 simp only [cvtO, h1, h2, h3, bytesOf, Option.map_some]
@[go_sem] theorem cvt_byN2 (tk : Tok) (m n : Int) : cvtO X.P 119 9 (.sl tk [[.int .u8 m], [.int .u8 n]]) = some (.str [UInt8.ofNat m.toNat, UInt8.ofNat n.toNat]) := by
 have h1 : X.P.underlying 119 = some (.slice 5) := by kernel_rfl
 have h2 : X.P.underlying 9 = some .string := by kernel_rfl
 have h3 : X.P.underlying 5 = some (.int .u8) := by kernel_rfl
 simp only [cvtO, h1, h2, h3, bytesOf, Option.map_some]
theorem byte_eq (x c : UInt8) : ((x.toNat : Int) == (c.toNat : Int)) = (x == c) := by
 rw [Bool.eq_iff_iff, beq_iff_eq, beq_iff_eq]
 exact ⟨fun h => UInt8.toNat_inj.1 (by omega), fun h => by rw [h]⟩
theorem byte_lit (x : UInt8) (n : Nat) (hn : n < 256) : ((x.toNat : Int) == (n : Int)) = (x == UInt8.ofNat n) := by
 rw [← byte_eq]
 congr 1
 simp
 omega
theorem ofN (x : UInt8) : UInt8.ofNat ((x.toNat : Int)).toNat = x := by simp
theorem w605 (x c : UInt8) (lim d : Nat) (σ : Sto) (hu : σ.Und d) : Ret lim d 74 [.int .u8 x.toNat, .int .u8 c.toNat, .bool true] σ (.str (escT c x)) σ := by
 have hun := und_succ hu
 have e0 := byte_eq x c
 have e1 := byte_lit c 110 (by decide)
 simp only [Int.cast_ofNat_Int] at e1
 unfold Ret escT
 rw [WF_body (C := X) rfl func74 rfl (by kernel_rfl)]; simp only [results74]
 cases h0 : x == c
 ·rw [h0] at e0
  have g : x ≠ c := by simpa using h0
  simp -implicitDefEqProofs -dsimp only [↓reduceIte, ↓W_seq, go_sem, Nat.reduceEqDiff, Nat.reduceAdd, Nat.reduceMul, Nat.reduceLeDiff, Int.reduceToNat, reduceCtorEq, e0, cut_und _ _ hu, g, Int.toNat_natCast, UInt8.ofNat_toNat, false_and]
  try rfl
 ·rw [h0] at e0
  have g : x = c := by simpa using h0
  cases h1 : c == (110 : UInt8)
  ·rw [show UInt8.ofNat 110 = (110 : UInt8) from rfl, h1] at e1
   have g1 : c ≠ 110 := by simpa using h1
   simp -implicitDefEqProofs -dsimp only [↓reduceIte, ↓W_seq, go_sem, Nat.reduceEqDiff, Nat.reduceMul, Nat.reduceLeDiff, reduceCtorEq, e1, cut_und _ _ hu, g, Int.toNat_natCast, UInt8.ofNat_toNat]
   rw [if_pos g1]
  ·rw [show UInt8.ofNat 110 = (110 : UInt8) from rfl, h1] at e1
   have g1 : c = 110 := by simpa using h1
   simp -implicitDefEqProofs -dsimp only [↓reduceIte, ↓W_seq, go_sem, Nat.reduceEqDiff, Nat.reduceAdd, Nat.reduceMul, Nat.reduceLeDiff, Int.reduceToNat, reduceCtorEq, cut_und _ _ hu, g, g1, Int.toNat_natCast, UInt8.ofNat_toNat]
   try rfl
theorem w609 (s t : List UInt8) (hs : s.length ≤ 1000000) (lim d : Nat) (σ : Sto) (hu : σ.Und d) : Ret lim d 116 [.str s, .str t] σ (.int .i64 (idxS s t)) σ := by
 unfold Ret
 rw [WF_body (C := X) rfl func116 rfl (by kernel_rfl)]; simp only [results116]
 simp -implicitDefEqProofs -dsimp only [↓reduceIte, ↓W_seq, go_sem, Nat.reduceEqDiff, reduceCtorEq]
 refine wh91 s t lim (d + 1) _ hs ?_
 simp -implicitDefEqProofs -dsimp only [↓reduceIte, go_sem, cut_und _ _ hu]
theorem idx_lf : ∀ t : List UInt8, idxS t [10] = if (lin t).length < t.length then ((lin t).length : Int) else -1
 | [] => by simp [idxS, lin]
 | b :: t => by
  have ih := idx_lf t
  have hl := lin_len t
  rw [idxS, lin]
  by_cases h : b = 10
  ·subst h
   rw [if_pos (by simp), if_pos rfl]
   simp
  ·rw [if_neg (by simp [eq_comm, h]), if_neg h, ih]
   simp only [List.length_cons]
   by_cases h2 : (lin t).length < t.length
   ·rw [if_pos h2, if_neg (by omega), if_pos (by omega)]; omega
   ·rw [if_neg h2, if_pos (by omega), if_neg (by omega)]
theorem cut_lf (t : List UInt8) : ∃ a b, cutV t [10] = .tup [.str (lin t), .str a, .bool b] := by
 unfold cutV
 rw [idx_lf]
 have hp := lin_pre t
 have hl := lin_len t
 by_cases h : (lin t).length < t.length
 ·rw [if_pos h, if_neg (by omega)]
  exact ⟨_, _, by rw [Int.toNat_natCast, ← hp]⟩
 ·rw [if_neg h, if_pos (by omega)]
  refine ⟨[], false, ?_⟩
  have : lin t = t := by rw [hp, List.take_of_length_le (by omega)]
  rw [this]
theorem lin_self : ∀ l : List UInt8, (10 : UInt8) ∉ l → lin l = l
 | [], _ => rfl
 | b :: r, h => by
  simp only [List.mem_cons, not_or] at h
  rw [lin, if_neg (fun e => h.1 e.symm), lin_self r h.2]
def closV (l : List UInt8) : Int := match clo (l.tail.headD 0) (l.drop 2) with
 | none => -1
 | some j => (j : Int) + 4
theorem w606 (l : List UInt8) (hs : l.length ≤ 1000000) (h2 : 2 ≤ l.length) (h10 : (10 : UInt8) ∉ l) (lim d : Nat) (σ : Sto) (hu : σ.Und d) : Ret lim d 92 [.str l] σ (.int .i64 (closV l)) σ := by
 have hun := und_succ hu
 obtain ⟨x, g, r, rfl⟩ : ∃ x g r, l = x :: g :: r := by
  match l, h2 with
  | x :: g :: r, _ => exact ⟨x, g, r, rfl⟩
 have hr : (10 : UInt8) ∉ r := fun h => h10 (by simp [h])
 obtain ⟨a, b, hc⟩ := cut_lf r
 rw [lin_self r hr] at hc
 have hrl : r.length ≤ 1000000 := by simp at hs; omega
 have e1 : (0 : Int) ≤ 2 ∧ (2 : Int) ≤ ((x :: g :: r).length : Int) := by simp; omega
 have e2 : (2 : Int) ≤ ((x :: g :: r).length : Int) := by simp; omega
 have hd2 : ((x :: g :: r).take (x :: g :: r).length).drop 2 = r := by rw [List.take_length]; rfl
 have hi := idx_clo g r
 unfold Ret closV
 simp only [List.tail_cons, List.headD_cons, List.drop_succ_cons, List.drop_zero]
 rw [WF_body (C := X) rfl func92 rfl (by kernel_rfl)]; simp only [results92]
 simp -implicitDefEqProofs -dsimp only [↓reduceIte, ↓W_seq, go_sem, Int.reduceToNat, reduceCtorEq, e1, List.take_length]
 refine ⟨by omega, (w87 r [10] hrl lim (d + 1) _ hun).wh ?_⟩
 rw [hc]
 have e3 : (1 : Int) ≤ ((x :: g :: r).length : Int) := by simp; omega
 have e4 : (1 : Int) ≤ 2 := by decide
 simp -implicitDefEqProofs -dsimp only [↓reduceIte, ↓W_seq, go_sem, Nat.reduceEqDiff, Nat.reduceLeDiff, Int.cast_ofNat_Int, Int.reduceToNat, Int.reduceLE, reduceCtorEq, List.take_succ_cons, List.drop_succ_cons, List.drop_zero, List.take_zero, List.length_cons, List.length_nil]
 refine ⟨by omega, (w609 r [g, 93] hrl lim (d + 1) _ hun).wh ?_⟩
 rw [hi]
 unfold cloI
 cases hcl : clo g r with
 | none => simp -implicitDefEqProofs -dsimp only [↓reduceIte, ↓W_seq, go_sem, Int.reduceLT, Int.reduceNeg, cut_und _ _ hu]
 | some j =>
  have hj := clo_le g r j hcl
  have e5 : ¬ ((j : Int) < 0) := by omega
  have x1 := wr64 ((j : Int) + 4) (by omega) (by omega)
  simp -implicitDefEqProofs -dsimp only [↓reduceIte, ↓W_seq, go_sem, Nat.reduceEqDiff, e5, x1, cut_und _ _ hu]
theorem dg_all : ∀ (t : List UInt8) (i : Nat), i < t.length - (t.dropWhile digB).length → ∃ c, t[i]? = some c ∧ digB c = true
 | [], i, h => by simp at h
 | b :: t, i, h => by
  have hle := dw_le (p := digB) t
  rw [List.dropWhile_cons] at h
  cases hb : digB b
  ·rw [hb] at h; simp at h
  ·rw [hb] at h
   simp only [if_true, List.length_cons] at h
   cases i with
   | zero => exact ⟨b, rfl, hb⟩
   | succ i =>
    obtain ⟨c, h1, h2⟩ := dg_all t i (by omega)
    exact ⟨c, by simpa using h1, h2⟩
theorem dg_end : ∀ (t : List UInt8) (c : UInt8), t[t.length - (t.dropWhile digB).length]? = some c → digB c = false
 | [], c, h => by simp at h
 | b :: t, c, h => by
  have hle := dw_le (p := digB) t
  rw [List.dropWhile_cons] at h
  cases hb : digB b
  ·rw [hb] at h; simp at h; rw [← h]; exact hb
  ·rw [hb] at h
   simp only [if_true, List.length_cons] at h
   rw [show t.length + 1 - (t.dropWhile digB).length = (t.length - (t.dropWhile digB).length) + 1 by omega, List.getElem?_cons_succ] at h
   exact dg_end t c h
theorem dgL_le (s : List UInt8) (n : Nat) : dgL s n ≤ (s.drop n).length := by unfold dgL; omega
theorem dgL_at (s : List UInt8) (n i : Nat) (h : i < dgL s n) : ∃ c, (s.drop n)[i]? = some c ∧ 48 ≤ c.toNat ∧ c.toNat ≤ 57 := by
 obtain ⟨c, h1, h2⟩ := dg_all (s.drop n) i h
 have h3 : dig c = true := (dig_is c).symm.trans h2
 simp only [dig, Bool.and_eq_true, decide_eq_true_eq] at h3
 exact ⟨c, h1, h3.1, h3.2⟩
def numW (s : List UInt8) (n : Nat) : Nat := numV ((s.drop n).take (dgL s n))
def numT (s : List UInt8) (n : Nat) : MV := if dgL s n = 0 ∨ 1000000000 < numW s n then .tup [.int .i64 0, .bool false] else .tup [.int .i64 (numW s n), .bool true]
def numP (s : List UInt8) (n : Nat) : Nat := if dgL s n = 0 ∨ 1000000000 < numW s n then n else n + dgL s n
section
variable (s : List UInt8) (hs : s.length ≤ 1000000)
include hs
theorem w313g (n : Nat) (hn : n ≤ s.length) (p : Mv.Loc) (lim d : Nat) (hp : p.d < d) (hlim : lim ≤ p.d) (σ : Sto) (hu : σ.Und d) (ho : σ.ob p = some (encL s n)) :
  Ret lim d 27 [.ptr p 0] σ (numT s n) (σ.set p (encL s (numP s n))) := by
 have hun := und_succ hu
 have h1 := dw_le (p := digB) (s.drop n)
 have hk : n + dgL s n ≤ s.length := by unfold dgL; rw [List.length_drop] at h1 ⊢; omega
 have hkl : dgL s n ≤ (s.drop n).length := dgL_le s n
 have hd := dgL_at s n
 have hsame : σ.set p (encL s n) = σ := by
  refine Sto.ext' (fun l => ?_) (fun _ _ => rfl) fun _ => rfl
  simp only [Sto.set]
  split
  ·rename_i e; subst e; exact ho.symm
  ·rfl
 unfold Ret numT numP
 rw [WF_body (C := X) rfl func27 rfl (by kernel_rfl)]; simp only [results27]
 simp -implicitDefEqProofs -dsimp only [↓reduceIte, ↓W_seq, go_sem, reduceCtorEq]
 refine (w316 s n hn p lim (d + 1) (Nat.lt_succ_of_lt hp) _ hun ho).wh ?_
 simp -implicitDefEqProofs -dsimp only [↓reduceIte, ↓W_seq, go_sem, Nat.reduceEqDiff]
 refine wh221a (s.drop n) lim (d + 1) σ ?_
 have x1 := wr64 (dgL s n : Int) (by omega) (by omega)
 have x2 : (((s.drop n).length : Int) - ((((s.drop n).dropWhile digB).length : Nat) : Int)) = (dgL s n : Int) := by unfold dgL; omega
 simp -implicitDefEqProofs -dsimp only [↓reduceIte, ↓W_seq, go_sem, Nat.reduceEqDiff, x1, x2]
 refine loop_h (I := fun k a s' => ∃ (i : Nat), i + k = dgL s n ∧ a 17 = .int .i64 i ∧ a 16 = .int .i64 (dgL s n) ∧ a 5 = .int .i64 (dgL s n) ∧ a 4 = .str (s.drop n) ∧ a 6 = .int .i64 (numV ((s.drop n).take i)) ∧ numV ((s.drop n).take i) ≤ 1000000000 ∧ a 0 = .ptr p 0 ∧ s' = σ) ?_ (dgL s n) _ _ ?_
 ·rintro k a s' ⟨i, hik, h17, h16, h5, h4, h6, hle, h0, rfl⟩
  by_cases hi : i < dgL s n
  ·have e1 : ((i : Int) < (dgL s n : Int)) := by omega
   obtain ⟨c, hc, c1, c2⟩ := hd i hi
   have hil : i < (s.drop n).length := by omega
   have hc' : (s.drop n)[i] = c := by rw [List.getElem?_eq_getElem hil] at hc; exact Option.some.inj hc
   have hst := numV_step hil
   rw [hc'] at hst
   have hle2 := numV_take ((s.drop n).take (dgL s n)) (i + 1)
   rw [List.take_take, Nat.min_eq_left (by omega)] at hle2
   have y1 := wr64 (10 * (numV ((s.drop n).take i) : Int)) (by omega) (by omega)
   have y2 : IntKind.u8.wrap ((c.toNat : Int) - 48) = (c.toNat : Int) - 48 := by
    have : IntKind.u8.wrap ((c.toNat : Int) - 48) = ((c.toNat : Int) - 48) % 256 := by simp [IntKind.wrap, IntKind.bits, IntKind.signed]
    rw [this]; omega
   have y3 := wr64 ((c.toNat : Int) - 48) (by omega) (by omega)
   have y4 : 10 * (numV ((s.drop n).take i) : Int) + ((c.toNat : Int) - 48) = (numV ((s.drop n).take (i + 1)) : Int) := by omega
   have y5 := wr64 (numV ((s.drop n).take (i + 1)) : Int) (by omega) (by omega)
   have y7 := wr64 ((i : Int) + 1) (by omega) (by omega)
   by_cases hb : 1000000000 < numV ((s.drop n).take (i + 1))
   ·have y6 : (1000000000 : Int) < (numV ((s.drop n).take (i + 1)) : Int) := by omega
    have hW : dgL s n = 0 ∨ 1000000000 < numW s n := .inr (by unfold numW; omega)
    simp -implicitDefEqProofs -dsimp only [↓reduceIte, ↓W_seq, go_sem, Nat.reduceEqDiff, e1, hc, h17, h16, h4, h6, y1, y2, y3, y4, y5, y6, hW, hsame, cut_und _ _ hu]
   ·have y6 : ¬ (1000000000 : Int) < (numV ((s.drop n).take (i + 1)) : Int) := by omega
    simp -implicitDefEqProofs -dsimp only [↓reduceIte, ↓W_seq, go_sem, Nat.reduceEqDiff, reduceCtorEq, e1, hc, h17, h16, h5, h4, h6, h0, y1, y2, y3, y4, y5, y6, y7]
    exact ⟨k - 1, by omega, i + 1, by omega, by simp, rfl, by omega⟩
  ·have e1 : ¬ ((i : Int) < (dgL s n : Int)) := by omega
   have ei : i = dgL s n := by omega
   subst ei
   simp -implicitDefEqProofs -dsimp only [↓reduceIte, ↓W_seq, go_sem, Nat.reduceEqDiff, reduceCtorEq, e1, h17, h16, h5, h0]
   refine (w315 s hs n (dgL s n) hk p lim (d + 1) (Nat.lt_succ_of_lt hp) hlim _ hun ho).wh ?_
   have hW2 : ¬ 1000000000 < numW s n := by unfold numW; omega
   by_cases hz : dgL s n = 0
   ·have hW : dgL s n = 0 ∨ 1000000000 < numW s n := .inl hz
    have hv : numV ((s.drop n).take 0) = 0 := rfl
    simp -implicitDefEqProofs -dsimp only [↓reduceIte, ↓W_seq, go_sem, Nat.reduceEqDiff, Int.cast_ofNat_Int, h5, h6, hz, true_or, cut_set _ _ _ _ hp, cut_und _ _ hu, Nat.add_zero]
    rfl
   ·have hW : ¬ (dgL s n = 0 ∨ 1000000000 < numW s n) := by rintro (q | q) <;> omega
    have e2 : (0 : Int) < (dgL s n : Int) := by omega
    simp -implicitDefEqProofs -dsimp only [↓reduceIte, ↓W_seq, go_sem, Nat.reduceEqDiff, h5, h6, e2, cut_set _ _ _ _ hp, cut_und _ _ hu]
    rw [if_neg hW, if_neg hW]
    exact ⟨rfl, rfl⟩
 ·refine ⟨0, Nat.zero_add _, ?_⟩
  simp -implicitDefEqProofs -dsimp only [↓reduceIte, go_sem, Nat.reduceEqDiff, Int.cast_ofNat_Int, reduceCtorEq, List.take_zero]
  exact ⟨rfl, by decide⟩
end
/-! ### The reference's -/
theorem w618 (s : List UInt8) (n : Nat) (p : Mv.Loc) (lim d : Nat) (hp : p.d < d) (σ : Sto) (hu : σ.Und d) (ho : σ.ob p = some (encL s n)) : Ret lim d 36 [.ptr p 0] σ (.bool (decide (s.length ≤ n))) σ := by
 rw [encL] at ho
 have e1 : decide ((s.length : Int) ≤ (n : Int)) = decide (s.length ≤ n) := by simp
 unfold Ret
 rw [WF_body (C := X) rfl func36 rfl (by kernel_rfl)]; simp only [results36]
 simp -implicitDefEqProofs -dsimp only [↓W_seq, go_sem]
 rw [D_dr (by kernel_rfl) rfl]
 simp -implicitDefEqProofs -dsimp only [↓reduceIte, go_sem, evNews, Nat.reduceEqDiff, reduceCtorEq, ho, e1, cut_und _ _ hu]
theorem w613 (s : List UInt8) (n : Nat) (p : Mv.Loc) (lim d : Nat) (hp : p.d < d) (σ : Sto) (hu : σ.Und d) (ho : σ.ob p = some (encL s n)) : Ret lim d 20 [.ptr p 0] σ (.int .u8 (pkL s n).toNat) σ := by
 have hun := und_succ hu
 have ho2 := ho
 rw [encL] at ho2
 unfold Ret
 rw [WF_body (C := X) rfl func20 rfl (by kernel_rfl)]; simp only [results20]
 simp -implicitDefEqProofs -dsimp only [↓reduceIte, ↓W_seq, go_sem, reduceCtorEq]
 refine (w618 s n p lim (d + 1) (Nat.lt_succ_of_lt hp) _ hun ho).wh ?_
 by_cases h : n < s.length
 ·have e1 : decide (s.length ≤ n) = false := decide_eq_false (by omega)
  have e2 : s[n]? = some s[n] := List.getElem?_eq_getElem h
  have e3 : pkL s n = s[n] := by simp [pkL, e2]
  simp -implicitDefEqProofs -dsimp only [↓reduceIte, ↓W_seq, go_sem, e1]
  rw [D_dr (by kernel_rfl) rfl]
  simp -implicitDefEqProofs -dsimp only [↓reduceIte, go_sem, evNews, Nat.reduceEqDiff, reduceCtorEq, ho2, e2, e3, cut_und _ _ hu]
 ·have e1 : decide (s.length ≤ n) = true := decide_eq_true (by omega)
  have e3 : pkL s n = 0 := by simp [pkL, List.getElem?_eq_none (by omega : s.length ≤ n)]
  simp -implicitDefEqProofs -dsimp only [↓reduceIte, ↓W_seq, go_sem, Int.cast_ofNat_Int, e1, e3, cut_und _ _ hu, UInt8.toNat_zero]
theorem w616 (c : UInt8) (lim d : Nat) (σ : Sto) (hu : σ.Und d) : Ret lim d 34 [.int .u8 c.toNat] σ (.bool (dig c)) σ := by
 unfold Ret dig
 rw [WF_body (C := X) rfl func34 rfl (by kernel_rfl)]; simp only [results34]
 by_cases h1 : 48 ≤ c.toNat
 ·have e1 : ((48 : Int) ≤ (c.toNat : Int)) := by omega
  by_cases h2 : c.toNat ≤ 57
  ·have e2 : ((c.toNat : Int) ≤ 57) := by omega
   simp -implicitDefEqProofs -dsimp only [↓reduceIte, ↓W_seq, go_sem, Nat.reduceEqDiff, reduceCtorEq, e1, e2, h1, h2, cut_und _ _ hu]
   try rfl
  ·have e2 : ¬ ((c.toNat : Int) ≤ 57) := by omega
   simp -implicitDefEqProofs -dsimp only [↓reduceIte, ↓W_seq, go_sem, Nat.reduceEqDiff, reduceCtorEq, e1, e2, h1, h2, cut_und _ _ hu]
   try rfl
 ·have e1 : ¬ ((48 : Int) ≤ (c.toNat : Int)) := by omega
  simp -implicitDefEqProofs -dsimp only [↓reduceIte, ↓W_seq, go_sem, Nat.reduceEqDiff, reduceCtorEq, e1, h1, cut_und _ _ hu]
  try rfl
section
variable (s : List UInt8) (hs : s.length ≤ 1000000)
include hs
theorem w614 (n : Nat) (hn : n < s.length) (p : Mv.Loc) (lim d : Nat) (hp : p.d < d) (hlim : lim ≤ p.d) (σ : Sto) (hu : σ.Und d) (ho : σ.ob p = some (encL s n)) : Ret lim d 21 [.ptr p 0] σ (.int .u8 (pkL s n).toNat) (σ.set p (encL s (n + 1))) := by
 have hun := und_succ hu
 have hne := ne_my hp
 have hmy := my_ne hp
 have ho2 := ho
 rw [encL] at ho2
 have e1 : decide (s.length ≤ n) = false := decide_eq_false (by omega)
 have x1 := wr64 ((n + 1 : Nat) : Int) (by omega) (by omega)
 have x2 : ((n : Int) + 1) = ((n + 1 : Nat) : Int) := by omega
 unfold Ret
 rw [WF_body (C := X) rfl func21 rfl (by kernel_rfl)]; simp only [results21]
 simp -implicitDefEqProofs -dsimp only [↓reduceIte, ↓W_seq, go_sem, reduceCtorEq]
 refine (w613 s n p lim (d + 1) (Nat.lt_succ_of_lt hp) _ hun ho).wh ?_
 simp -implicitDefEqProofs -dsimp only [↓reduceIte, ↓W_seq, go_sem, reduceCtorEq]
 refine (w618 s n p lim (d + 1) (Nat.lt_succ_of_lt hp) _ hun ho).wh ?_
 simp -implicitDefEqProofs -dsimp only [↓reduceIte, ↓W_seq, go_sem, Nat.reduceEqDiff, Nat.reduceAdd, reduceCtorEq, e1, Bool.not_false, ho2, x1, hp, hlim, cut_set _ _ _ _ hp, cut_und _ _ hu, encL, x2]
end
end Go.Proofs.Tryz.E
