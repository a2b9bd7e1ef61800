/- Walks: what the functions compute. Walks: what the functions compute. Walks: what the functions compute. -/
import Derived.Test.YtadeobleehcaaaaGreatDoorE7
import Derived.Test.YtadeobleehcaaaaGreatDoorWE6
set_option linter.unusedVariables false
set_option linter.unusedSimpArgs false
/- Whether a node is formed: its parts. -/
namespace Go.Proofs.Tryz.E
open Go.Mv
set_option maxHeartbeats 4000000
set_option maxRecDepth 20000
theorem w50 (kd c s0 s1 s2 s3 n mn mx : Int) (l : List Nd) (lim d : Nat) (σ : Sto) (hu : σ.Und d) : Ret lim d 87 [.agg (enc (.mk kd c s0 s1 s2 s3 n mn mx l))] σ (.bool (boundsB mn mx)) σ := by
 unfold Ret
 rw [WF_body (C := X) rfl func87 rfl (by kernel_rfl)]; simp only [results87]
 simp -implicitDefEqProofs -dsimp only [↓reduceIte, ↓W_seq, go_sem, Nat.reduceEqDiff, Nat.reduceLT, Int.reduceNeg, enc]
 unfold boundsB
 cases decide (0 ≤ mn) <;> cases decide (mn ≤ 255) <;> cases (mx == -1) <;> cases decide (mn ≤ mx) <;> cases decide (mx ≤ 255) <;> simp only [go_sem, cut_und _ _ hu, Bool.or_false, Bool.or_true, Bool.and_false, Bool.false_and]
theorem w61 (a b c k : Int) (lim d : Nat) (σ : Sto) (hu : σ.Und d) (tk : Tok) : Ret lim d 112 [.sl tk [[.int .i64 a], [.int .i64 b], [.int .i64 c]], .int .i64 k] σ (.int .i64 (if (k == a) = true then 0 else if (k == b) = true then 1 else if (k == c) = true then 2 else -1)) σ := by
 have x1 := wr64 1 (by decide) (by decide)
 have x2 := wr64 2 (by decide) (by decide)
 have x3 := wr64 3 (by decide) (by decide)
 unfold Ret
 rw [WF_body (C := X) rfl func112 rfl (by kernel_rfl)]; simp only [results112]
 simp -implicitDefEqProofs -dsimp only [↓reduceIte, ↓W_seq, go_sem, Nat.reduceAdd, Int.cast_ofNat_Int, reduceCtorEq]
 rw [WL_h]
 simp -implicitDefEqProofs -dsimp only [↓reduceIte, ↓W_seq, go_sem, Nat.reduceEqDiff, Int.reduceToNat, Int.reduceLT, Int.reduceAdd, Int.reduceNeg, reduceCtorEq, x1, cut_und _ _ hu]
 cases (k == a)
 ·simp -implicitDefEqProofs -dsimp only [↓reduceIte, go_sem]
  rw [WL_h]
  simp -implicitDefEqProofs -dsimp only [↓reduceIte, ↓W_seq, go_sem, Nat.reduceEqDiff, Int.reduceToNat, Int.reduceLT, Int.reduceLE, Int.reduceAdd, Int.reduceNeg, reduceCtorEq, x2]
  cases (k == b)
  ·simp -implicitDefEqProofs -dsimp only [↓reduceIte, go_sem]
   rw [WL_h]
   simp -implicitDefEqProofs -dsimp only [↓reduceIte, ↓W_seq, go_sem, Nat.reduceEqDiff, Int.reduceToNat, Int.reduceLT, Int.reduceLE, Int.reduceAdd, Int.reduceNeg, reduceCtorEq, x3]
   cases (k == c)
   ·simp -implicitDefEqProofs -dsimp only [↓reduceIte, go_sem]
    rw [WL_h]
    simp -implicitDefEqProofs -dsimp only [↓reduceIte, ↓W_seq, go_sem, Nat.reduceEqDiff, Int.reduceNeg, cut_und _ _ hu]
   ·simp -implicitDefEqProofs -dsimp only [↓reduceIte, go_sem, cut_und _ _ hu]
  ·simp -implicitDefEqProofs -dsimp only [↓reduceIte, go_sem, cut_und _ _ hu]
 ·simp -implicitDefEqProofs -dsimp only [↓reduceIte, go_sem]
theorem w51 (a b c k : Int) (lim d : Nat) (σ : Sto) (hu : σ.Und d) (tk : Tok) : Ret lim d 88 [.sl tk [[.int .i64 a], [.int .i64 b], [.int .i64 c]], .int .i64 k] σ (.bool (k == a || k == b || k == c)) σ := by
 unfold Ret
 rw [WF_body (C := X) rfl func88 rfl (by kernel_rfl)]; simp only [results88]
 simp -implicitDefEqProofs -dsimp only [↓reduceIte, ↓W_seq, go_sem, Nat.reduceEqDiff, reduceCtorEq]
 refine (w61 a b c k lim (d + 1) σ (und_succ hu) _).wh ?_
 simp -implicitDefEqProofs -dsimp only [↓reduceIte, go_sem, Int.reduceNeg, cut_und _ _ hu]
 cases (k == a) <;> cases (k == b) <;> cases (k == c) <;> rfl
def needH : Nd → List MV
 | .mk kd c s0 s1 s2 s3 n mn mx l => [.int .i64 kd, .int .u8 (if kd = 1 then c else 0), .int .u64 (if kd = 3 then s0 else 0), .int .u64 (if kd = 3 then s1 else 0), .int .u64 (if kd = 3 then s2 else 0), .int .u64 (if kd = 3 then s3 else 0),
  .int .i64 (if kd = 6 ∨ kd = 7 then n else 0), .int .i64 (if kd = 10 then mn else 0), .int .i64 (if kd = 10 then mx else 0)]
def needK (kd : Int) : Int := if kd = 6 ∨ kd = 10 then 1 else if kd = 8 ∨ kd = 9 then -1 else 0
theorem w49 (kd c s0 s1 s2 s3 n mn mx : Int) (l : List Nd) (lim d : Nat) (σ : Sto) (hu : σ.Und d) : Ret lim d 86 [.agg (enc (.mk kd c s0 s1 s2 s3 n mn mx l))] σ (.tup [.agg (needH (.mk kd c s0 s1 s2 s3 n mn mx l)), .int .i64 (needK kd)]) σ := by
 unfold Ret
 rw [WF_body (C := X) rfl func86 rfl (by kernel_rfl)]; simp only [results86]
 by_cases h1 : kd = 1
 ·subst h1; simp -implicitDefEqProofs -dsimp only [↓reduceIte, ↓W_seq, go_sem, Nat.reduceEqDiff, Nat.reduceAdd, Nat.reduceLeDiff, Nat.reduceLT, Int.reduceEq, enc, cut_und _ _ hu, needH, needK, or_self]
 by_cases h3 : kd = 3
 ·subst h3; simp -implicitDefEqProofs -dsimp only [↓reduceIte, ↓W_seq, go_sem, Nat.reduceEqDiff, Nat.reduceAdd, Nat.reduceLeDiff, Nat.reduceLT, Int.reduceEq, enc, cut_und _ _ hu, needH, needK, or_self]
 by_cases h6 : kd = 6
 ·subst h6; simp -implicitDefEqProofs -dsimp only [↓reduceIte, ↓W_seq, go_sem, Nat.reduceEqDiff, Nat.reduceAdd, Nat.reduceLeDiff, Nat.reduceLT, Int.reduceEq, enc, cut_und _ _ hu, needH, needK, or_false]
 by_cases h7 : kd = 7
 ·subst h7; simp -implicitDefEqProofs -dsimp only [↓reduceIte, ↓W_seq, go_sem, Nat.reduceEqDiff, Nat.reduceAdd, Nat.reduceLeDiff, Nat.reduceLT, Int.reduceEq, enc, cut_und _ _ hu, needH, needK, or_self, or_true]
 by_cases h8 : kd = 8
 ·subst h8; simp -implicitDefEqProofs -dsimp only [↓reduceIte, ↓W_seq, go_sem, Nat.reduceEqDiff, Nat.reduceAdd, Nat.reduceLeDiff, Nat.reduceLT, Int.reduceNeg, Int.reduceEq, enc, cut_und _ _ hu, needH, needK, or_false, or_self]
 by_cases h9 : kd = 9
 ·subst h9; simp -implicitDefEqProofs -dsimp only [↓reduceIte, ↓W_seq, go_sem, Nat.reduceEqDiff, Nat.reduceAdd, Nat.reduceLeDiff, Nat.reduceLT, Int.reduceNeg, Int.reduceEq, enc, cut_und _ _ hu, needH, needK, or_self, or_true]
 by_cases h10 : kd = 10
 ·subst h10; simp -implicitDefEqProofs -dsimp only [↓reduceIte, ↓W_seq, go_sem, Nat.reduceEqDiff, Nat.reduceAdd, Nat.reduceLeDiff, Nat.reduceLT, enc]
  rw [D_lx [.tmp 39] (by kernel_rfl) (by kernel_rfl)]; simp -implicitDefEqProofs -dsimp only [↓reduceIte, ↓W_seq, go_sem, evNews, Nat.reduceEqDiff, Nat.reduceAdd, Nat.reduceLeDiff, List.takeWhile_cons, List.dropWhile_cons, isTail, evNews, List.mem_cons, List.not_mem_nil, or_false, false_or, not_false_eq_true, not_true_eq_false, decide_true, Bool.not_true, Bool.not_false, forall_eq, ne_eq, ct_lt3, cut_und _ _ hu]
  simp only [needH, needK, Int.reduceEq, or_self, or_true, if_true, if_false]
 simp -implicitDefEqProofs -dsimp only [↓reduceIte, ↓W_seq, go_sem, Nat.reduceEqDiff, Nat.reduceAdd, Nat.reduceLeDiff, Nat.reduceLT, enc, cut_und _ _ hu, needH, needK, or_self, h1, h3, h6, h7, h8, h9, h10, (beq_eq_false_iff_ne.2 h1 : (kd == 1) = false), (beq_eq_false_iff_ne.2 h3 : (kd == 3) = false), (beq_eq_false_iff_ne.2 h6 : (kd == 6) = false), (beq_eq_false_iff_ne.2 h7 : (kd == 7) = false), (beq_eq_false_iff_ne.2 h8 : (kd == 8) = false), (beq_eq_false_iff_ne.2 h9 : (kd == 9) = false), (beq_eq_false_iff_ne.2 h10 : (kd == 10) = false)]
@[go_sem] theorem bin_66n (xs ys : List MV) : binO X.P X.eqT .neq 102 (.agg xs) (.agg ys) = (eqC ([.i .i64, .i .u8] ++ u4 ++ [.i .i64, .i .i64, .i .i64]) xs ys).map fun r => .bool !r := rfl
theorem w27 (kd c s0 s1 s2 s3 n mn mx : Int) (l : List Nd) (lim d : Nat) (σ : Sto) (hu : σ.Und d) : Ret lim d 54 [.agg (enc (.mk kd c s0 s1 s2 s3 n mn mx l))] σ (.agg [.int .i64 kd, .int .u8 c, .int .u64 s0, .int .u64 s1, .int .u64 s2, .int .u64 s3, .int .i64 n, .int .i64 mn, .int .i64 mx]) σ := by
 unfold Ret
 rw [WF_body (C := X) rfl func54 rfl (by kernel_rfl)]; simp only [results54]
 simp -implicitDefEqProofs -dsimp only [↓reduceIte, ↓W_seq, go_sem, Nat.reduceEqDiff, Nat.reduceAdd, Nat.reduceLeDiff, Nat.reduceLT, enc, cut_und _ _ hu]
def encC (g : Int) (e : List Bool) : List MV := .int .i64 g :: e.map MV.bool
theorem ne_my {p : Mv.Loc} {d : Nat} (h : p.d < d) (t c : Nat) : (p = ⟨d, t, c⟩) = False := by
 simp only [eq_iff_iff, iff_false]; rintro rfl; exact Nat.lt_irrefl _ h
theorem my_ne {p : Mv.Loc} {d : Nat} (h : p.d < d) (t c : Nat) : ((⟨d, t, c⟩ : Mv.Loc) = p) = False := by
 simp only [eq_iff_iff, iff_false]; rintro rfl; exact Nat.lt_irrefl _ h
theorem u_tick (σ : Sto) (d : Nat) : (σ.tick d).Und (d + 1) ↔ σ.Und (d + 1) :=
 ⟨fun h => ⟨h.ob, h.ow, fun d' hl => by have := h.ct d' hl; simp only [Sto.tick, upd] at this; rwa [if_neg (by omega)] at this⟩, fun h => und_tick h (Nat.lt_succ_self d)⟩
theorem u_set (σ : Sto) (d : Nat) (l : Mv.Loc) (cs : List MV) (hl : l.d < d) : (σ.set l cs).Und d ↔ σ.Und d :=
 ⟨fun h => ⟨fun l' hl' => by have := h.ob l' hl'; simp only [Sto.set] at this; rwa [if_neg (by rintro rfl; omega)] at this, h.ow, h.ct⟩, fun h => und_set h hl cs⟩
theorem u_mine (σ : Sto) (d t c : Nat) (cs : List MV) : (σ.set ⟨d, t, c⟩ cs).Und (d + 1) ↔ σ.Und (d + 1) := u_set σ _ _ cs (Nat.lt_succ_self d)
theorem u_own (σ : Sto) (d c : Nat) (x : Option (Nat × Nat)) : (σ.own d c x).Und (d + 1) ↔ σ.Und (d + 1) :=
 ⟨fun h => ⟨h.ob, fun d' c' hl => by have := h.ow d' c' hl; simp only [Sto.own] at this; rwa [if_neg (by omega)] at this, h.ct⟩, fun h => und_own h (Nat.lt_succ_self d) _ _⟩
theorem arrA (g : Int) (e : List Bool) (i : Nat) (h : i < e.length) : (encC g e)[i + 1]? = some (.bool (e.getD i false)) := by
 simp [encC, h]
theorem drop_strL (s : List UInt8) (n : Nat) : (s.take s.length).drop n = s.drop n := by rw [List.take_length]
def encL (s : List UInt8) (n : Nat) : List MV := [.str s, .int .i64 n]
theorem und_lx : X.P.underlying 23 = some (.pointer 59) := by kernel_rfl
@[go_sem] theorem ptr_eq (l : Mv.Loc) (o : Nat) : binO X.P X.eqT .eql 23 (.ptr l o) .nilp = some (.bool false) := by simp [binO, Mv.ptrEq, und_lx]
@[go_sem] theorem ptr_ne (l : Mv.Loc) (o : Nat) : binO X.P X.eqT .neq 23 (.ptr l o) .nilp = some (.bool true) := by simp [binO, Mv.ptrEq, und_lx]
theorem w316 (s : List UInt8) (n : Nat) (hn : n ≤ s.length) (p : Mv.Loc) (lim d : Nat) (hp : p.d < d) (σ : Sto) (hu : σ.Und d) (ho : σ.ob p = some (encL s n)) : Ret lim d 32 [.ptr p 0] σ (.str (s.drop n)) σ := by
 have hun := und_succ hu
 rw [encL] at ho
 have e1 : (0 : Int) ≤ (n : Int) ∧ (n : Int) ≤ (s.length : Int) := by omega
 unfold Ret
 rw [WF_body (C := X) rfl func32 rfl (by kernel_rfl)]; simp only [results32]
 simp -implicitDefEqProofs -dsimp only [↓reduceIte, ↓W_seq, go_sem, reduceCtorEq]
 rw [D_dr (by kernel_rfl) rfl]
 simp -implicitDefEqProofs -dsimp only [↓reduceIte, go_sem, evNews, Nat.reduceEqDiff, reduceCtorEq, ho, bnd, e1, drop_strL, cut_und _ _ hu]
theorem w314 (s : List UInt8) (n : Nat) (hn : n ≤ s.length) (p : Mv.Loc) (lim d : Nat) (hp : p.d < d) (σ : Sto) (hu : σ.Und d) (ho : σ.ob p = some (encL s n)) : Ret lim d 30 [.ptr p 0] σ (.bool (s.drop n == [])) σ := by
 have hun := und_succ hu
 unfold Ret
 rw [WF_body (C := X) rfl func30 rfl (by kernel_rfl)]; simp only [results30]
 simp -implicitDefEqProofs -dsimp only [↓reduceIte, ↓W_seq, go_sem, reduceCtorEq]
 refine (w316 s n hn p lim (d + 1) (Nat.lt_succ_of_lt hp) _ hun ho).wh ?_
 simp -implicitDefEqProofs -dsimp only [↓reduceIte, go_sem, cut_und _ _ hu]
def pkL (s : List UInt8) (n : Nat) : UInt8 := s[n]?.getD 0
theorem w309 (s : List UInt8) (n : Nat) (hn : n ≤ s.length) (p : Mv.Loc) (lim d : Nat) (hp : p.d < d) (σ : Sto) (hu : σ.Und d) (ho : σ.ob p = some (encL s n)) : Ret lim d 15 [.ptr p 0] σ (.int .u8 (pkL s n).toNat) σ := by
 have hun := und_succ hu
 have ho2 := ho
 rw [encL] at ho2
 unfold Ret
 rw [WF_body (C := X) rfl func15 rfl (by kernel_rfl)]; simp only [results15]
 simp -implicitDefEqProofs -dsimp only [↓reduceIte, ↓W_seq, go_sem, reduceCtorEq]
 refine (w314 s n hn p lim (d + 1) (Nat.lt_succ_of_lt hp) _ hun ho).wh ?_
 by_cases h : n < s.length
 ·have e1 : (s.drop n == []) = false := by rw [beq_eq_false_iff_ne]; intro q; have := List.drop_eq_nil_iff.1 q; omega
  have e2 : s[n]? = some s[n] := List.getElem?_eq_getElem h
  have e3 : pkL s n = s[n] := by simp [pkL, e2]
  simp -implicitDefEqProofs -dsimp only [↓reduceIte, ↓W_seq, go_sem, e1]
  rw [D_dr (by kernel_rfl) rfl]
  simp -implicitDefEqProofs -dsimp only [↓reduceIte, go_sem, evNews, Nat.reduceEqDiff, reduceCtorEq, ho2, e2, e3, cut_und _ _ hu]
 ·have e1 : (s.drop n == []) = true := by rw [beq_iff_eq]; exact List.drop_eq_nil_of_le (by omega)
  have e3 : pkL s n = 0 := by simp [pkL, List.getElem?_eq_none (by omega : s.length ≤ n)]
  simp -implicitDefEqProofs -dsimp only [↓reduceIte, ↓W_seq, go_sem, Int.cast_ofNat_Int, e1, e3, cut_und _ _ hu, UInt8.toNat_zero]
section
variable (s : List UInt8) (hs : s.length ≤ 1000000)
include hs
theorem w315 (n k : Nat) (hn : n + k ≤ s.length) (p : Mv.Loc) (lim d : Nat) (hp : p.d < d) (hlim : lim ≤ p.d) (σ : Sto) (hu : σ.Und d) (ho : σ.ob p = some (encL s n)) : Ret lim d 31 [.ptr p 0, .int .i64 k] σ (.tup []) (σ.set p (encL s (n + k))) := by
 have hun := und_succ hu
 have hne := ne_my hp
 have hmy := my_ne hp
 rw [encL] at ho
 have x1 := wr64 ((n + k : Nat) : Int) (by omega) (by omega)
 have x2 : ((n : Int) + (k : Int)) = ((n + k : Nat) : Int) := by omega
 unfold Ret
 rw [WF_body (C := X) rfl func31 rfl (by kernel_rfl)]; simp only [results31]
 simp -implicitDefEqProofs -dsimp only [↓reduceIte, ↓W_seq, go_sem, Nat.reduceEqDiff, Nat.reduceAdd, reduceCtorEq, ho, x1, hp, hlim, cut_set _ _ _ _ hp, cut_und _ _ hu, encL, x2]
theorem w312 (n : Nat) (hn : n < s.length) (p : Mv.Loc) (lim d : Nat) (hp : p.d < d) (hlim : lim ≤ p.d) (σ : Sto) (hu : σ.Und d) (ho : σ.ob p = some (encL s n)) : Ret lim d 18 [.ptr p 0] σ (.int .u8 (pkL s n).toNat) (σ.set p (encL s (n + 1))) := by
 have hun := und_succ hu
 have hne := ne_my hp
 have hmy := my_ne hp
 have ho2 := ho
 rw [encL] at ho2
 have e1 : (s.drop n == []) = false := by rw [beq_eq_false_iff_ne]; intro q; have := List.drop_eq_nil_iff.1 q; omega
 have x1 := wr64 ((n + 1 : Nat) : Int) (by omega) (by omega)
 have x2 : ((n : Int) + 1) = ((n + 1 : Nat) : Int) := by omega
 unfold Ret
 rw [WF_body (C := X) rfl func18 rfl (by kernel_rfl)]; simp only [results18]
 simp -implicitDefEqProofs -dsimp only [↓reduceIte, ↓W_seq, go_sem, reduceCtorEq]
 refine (w309 s n (by omega) p lim (d + 1) (Nat.lt_succ_of_lt hp) _ hun ho).wh ?_
 simp -implicitDefEqProofs -dsimp only [↓reduceIte, ↓W_seq, go_sem, reduceCtorEq]
 refine (w314 s n (by omega) p lim (d + 1) (Nat.lt_succ_of_lt hp) _ hun ho).wh ?_
 simp -implicitDefEqProofs -dsimp only [↓reduceIte, ↓W_seq, go_sem, Nat.reduceEqDiff, Nat.reduceAdd, reduceCtorEq, e1, Bool.not_false, ho2, x1, hp, hlim, cut_set _ _ _ _ hp, cut_und _ _ hu, encL, x2]
end
theorem wh221a (t : List UInt8) (lim d : Nat) (σ : Sto) {Q : MV → Sto → Prop} (hq : Q (.str (t.dropWhile digB)) σ) : WFh X lim d 33 [.str t, .str [48, 49, 50, 51, 52, 53, 54, 55, 56, 57]] σ (TagF Q) := by
 rw [← WF_h, WF_prim (p := trimP) rfl]
 exact ⟨(.str (t.dropWhile digB), σ), rfl, hq⟩
theorem wh221b (t : List UInt8) (lim d : Nat) (σ : Sto) {Q : MV → Sto → Prop} (hq : Q (.str (t.dropWhile fun b => [32, 9].contains b)) σ) : WFh X lim d 33 [.str t, .str [32, 9]] σ (TagF Q) := by
 rw [← WF_h, WF_prim (p := trimP) rfl]
 exact ⟨(.str (t.dropWhile fun b => [32, 9].contains b), σ), rfl, hq⟩
def blL (s : List UInt8) (n : Nat) : Nat := (s.drop n).length - ((s.drop n).dropWhile fun b => [32, 9].contains b).length
def dgL (s : List UInt8) (n : Nat) : Nat := (s.drop n).length - ((s.drop n).dropWhile digB).length
theorem dw_le {p : UInt8 → Bool} (l : List UInt8) : (l.dropWhile p).length ≤ l.length := (List.dropWhile_sublist p).length_le
section
variable (s : List UInt8) (hs : s.length ≤ 1000000)
include hs
theorem w311 (n : Nat) (hn : n ≤ s.length) (p : Mv.Loc) (lim d : Nat) (hp : p.d < d) (hlim : lim ≤ p.d) (σ : Sto) (hu : σ.Und d) (ho : σ.ob p = some (encL s n)) : Ret lim d 17 [.ptr p 0] σ (.tup []) (σ.set p (encL s (n + blL s n))) := by
 have hun := und_succ hu
 have h1 := dw_le (p := fun b => [32, 9].contains b) (s.drop n)
 have hk : n + blL s n ≤ s.length := by unfold blL; rw [List.length_drop] at h1 ⊢; omega
 unfold Ret
 rw [WF_body (C := X) rfl func17 rfl (by kernel_rfl)]; simp only [results17]
 simp -implicitDefEqProofs -dsimp only [↓reduceIte, go_sem, reduceCtorEq]
 refine (w316 s n hn p lim (d + 1) (Nat.lt_succ_of_lt hp) _ hun ho).wh ?_
 simp -implicitDefEqProofs -dsimp only [↓reduceIte, go_sem, reduceCtorEq]
 refine (w316 s n hn p lim (d + 1) (Nat.lt_succ_of_lt hp) _ hun ho).wh ?_
 simp -implicitDefEqProofs -dsimp only [↓reduceIte, go_sem]
 refine wh221b (s.drop n) lim (d + 1) σ ?_
 have x1 := wr64 (blL s n : Int) (by omega) (by omega)
 have x2 : (((s.drop n).length : Int) - ((((s.drop n).dropWhile fun b => [32, 9].contains b).length : Nat) : Int)) = (blL s n : Int) := by unfold blL; omega
 simp -implicitDefEqProofs -dsimp only [↓reduceIte, go_sem, Nat.reduceEqDiff, x1, x2]
 refine (w315 s hs n (blL s n) hk p lim (d + 1) (Nat.lt_succ_of_lt hp) hlim _ hun ho).wh ?_
 simp -implicitDefEqProofs -dsimp only [go_sem, cut_set _ _ _ _ hp, cut_und _ _ hu]
theorem w313 (n : Nat) (hn : n ≤ s.length) (hv : numV ((s.drop n).take (dgL s n)) ≤ 1000000000) (hd : ∀ i, i < dgL s n → ∃ c, (s.drop n)[i]? = some c ∧ 48 ≤ c.toNat ∧ c.toNat ≤ 57) (p : Mv.Loc) (lim d : Nat) (hp : p.d < d) (hlim : lim ≤ p.d) (σ : Sto) (hu : σ.Und d) (ho : σ.ob p = some (encL s n)) :
  Ret lim d 27 [.ptr p 0] σ (.tup [.int .i64 (numV ((s.drop n).take (dgL s n))), .bool (decide (0 < dgL s n))]) (σ.set p (encL s (n + dgL s n))) := by
 have hun := und_succ hu
 have h1 := dw_le (p := digB) (s.drop n)
 have hk : n + dgL s n ≤ s.length := by unfold dgL; rw [List.length_drop] at h1 ⊢; omega
 have hkl : dgL s n ≤ (s.drop n).length := by unfold dgL; omega
 unfold Ret
 rw [WF_body (C := X) rfl func27 rfl (by kernel_rfl)]; simp only [results27]
 simp -implicitDefEqProofs -dsimp only [↓reduceIte, ↓W_seq, go_sem, reduceCtorEq]
 refine (w316 s n hn p lim (d + 1) (Nat.lt_succ_of_lt hp) _ hun ho).wh ?_
 simp -implicitDefEqProofs -dsimp only [↓reduceIte, ↓W_seq, go_sem, Nat.reduceEqDiff]
 refine wh221a (s.drop n) lim (d + 1) σ ?_
 have x1 := wr64 (dgL s n : Int) (by omega) (by omega)
 have x2 : (((s.drop n).length : Int) - ((((s.drop n).dropWhile digB).length : Nat) : Int)) = (dgL s n : Int) := by unfold dgL; omega
 simp -implicitDefEqProofs -dsimp only [↓reduceIte, ↓W_seq, go_sem, Nat.reduceEqDiff, x1, x2]
 refine loop_h (I := fun k a s' => ∃ (i : Nat), i + k = dgL s n ∧ a 17 = .int .i64 i ∧ a 16 = .int .i64 (dgL s n) ∧ a 5 = .int .i64 (dgL s n) ∧ a 4 = .str (s.drop n) ∧ a 6 = .int .i64 (numV ((s.drop n).take i)) ∧ a 0 = .ptr p 0 ∧ s' = σ) ?_ (dgL s n) _ _ ?_
 ·rintro k a s' ⟨i, hik, h17, h16, h5, h4, h6, h0, rfl⟩
  have hle := numV_take ((s.drop n).take (dgL s n)) i
  rw [List.take_take, Nat.min_eq_left (by omega)] at hle
  by_cases hi : i < dgL s n
  ·have e1 : ((i : Int) < (dgL s n : Int)) := by omega
   obtain ⟨c, hc, c1, c2⟩ := hd i hi
   have hil : i < (s.drop n).length := by omega
   have hc' : (s.drop n)[i] = c := by rw [List.getElem?_eq_getElem hil] at hc; exact Option.some.inj hc
   have hst := numV_step hil
   rw [hc'] at hst
   have hle2 := numV_take ((s.drop n).take (dgL s n)) (i + 1)
   rw [List.take_take, Nat.min_eq_left (by omega)] at hle2
   have y1 := wr64 (10 * (numV ((s.drop n).take i) : Int)) (by omega) (by omega)
   have y2 : IntKind.u8.wrap ((c.toNat : Int) - 48) = (c.toNat : Int) - 48 := by
    have : IntKind.u8.wrap ((c.toNat : Int) - 48) = ((c.toNat : Int) - 48) % 256 := by simp [IntKind.wrap, IntKind.bits, IntKind.signed]
    rw [this]; omega
   have y3 := wr64 ((c.toNat : Int) - 48) (by omega) (by omega)
   have y4 : 10 * (numV ((s.drop n).take i) : Int) + ((c.toNat : Int) - 48) = (numV ((s.drop n).take (i + 1)) : Int) := by omega
   have y5 := wr64 (numV ((s.drop n).take (i + 1)) : Int) (by omega) (by omega)
   have y6 : ¬ (1000000000 : Int) < (numV ((s.drop n).take (i + 1)) : Int) := by omega
   have y7 := wr64 ((i : Int) + 1) (by omega) (by omega)
   simp -implicitDefEqProofs -dsimp only [↓reduceIte, ↓W_seq, go_sem, Nat.reduceEqDiff, reduceCtorEq, e1, hc, h17, h16, h5, h4, h6, h0, y1, y2, y3, y4, y5, y6, y7]
   exact ⟨k - 1, by omega, i + 1, by omega, by simp, rfl⟩
  ·have e1 : ¬ ((i : Int) < (dgL s n : Int)) := by omega
   have ei : i = dgL s n := by omega
   subst ei
   simp -implicitDefEqProofs -dsimp only [↓reduceIte, ↓W_seq, go_sem, Nat.reduceEqDiff, reduceCtorEq, e1, h17, h16, h5, h0]
   refine (w315 s hs n (dgL s n) hk p lim (d + 1) (Nat.lt_succ_of_lt hp) hlim _ hun ho).wh ?_
   have e2 : decide ((0 : Int) < (dgL s n : Int)) = decide (0 < dgL s n) := by simp
   simp -implicitDefEqProofs -dsimp only [↓reduceIte, ↓W_seq, go_sem, Nat.reduceEqDiff, h5, h6, e2, cut_set _ _ _ _ hp, cut_und _ _ hu]
 ·refine ⟨0, Nat.zero_add _, ?_⟩
  simp -implicitDefEqProofs -dsimp only [↓reduceIte, go_sem, Nat.reduceEqDiff, Int.cast_ofNat_Int, reduceCtorEq, List.take_zero]
  rfl
end
end Go.Proofs.Tryz.E
