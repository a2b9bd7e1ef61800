/- Walks: what the functions compute. Walks: what the functions compute. Walks: what the functions compute. Walks: what the functions compute. Walks: what the functions compute. -/
import Derived.Test.YthmgjkngkhdjjaaGreatDoorWE28
set_option linter.unusedVariables false
set_option linter.unusedSimpArgs false
/- Any text is read, or refused: the program. -/
namespace Go.Proofs.Tryz.E
open Go.Mv
set_option maxHeartbeats 4000000
set_option maxRecDepth 20000
def parseS (s : List UInt8) : Nd × Int × Int :=
 let x := parS s 10 ⟨0, 0, false⟩
 if (x.2.bad || (x.2.nx s).isSome) = true then (z0, x.2.at', 10) else if formedB x.1 = true then (x.1, 0, 0) else (z0, s.length, 10)
theorem parse_eq (s : List UInt8) : parseS s = if ((parS s 10 ⟨0, 0, false⟩).2.bad || ((parS s 10 ⟨0, 0, false⟩).2.nx s).isSome) = true then (z0, ((parS s 10 ⟨0, 0, false⟩).2.at' : Int), 10) else if formedB (parS s 10 ⟨0, 0, false⟩).1 = true then ((parS s 10 ⟨0, 0, false⟩).1, 0, 0) else (z0, (s.length : Int), 10) := rfl
def parseV (s : List UInt8) : MV := .tup [.agg (enc (parseS s).1), .int .i64 (parseS s).2.1, .int .i64 (parseS s).2.2]
theorem w8 (s : List UInt8) (hs : s.length ≤ 100000) (lim d : Nat) (hlim : lim ≤ d) (σ : Sto) (hu : σ.Und d) : Ret lim d 43 [.str s] σ (parseV s) σ := by
 have hun := und_succ hu
 obtain ⟨G, hw⟩ := hr_par s hs 10 ⟨0, 0, false⟩ rfl (by simp) (by simp) (by simp)
 unfold Ret parseV
 rw [parse_eq]
 rw [WF_body (C := X) rfl func43 rfl (by kernel_rfl)]; simp only [results43]
 simp -implicitDefEqProofs -dsimp only [go_sem]
 rw [show [MV.str s, MV.int .i64 0, MV.int .i64 0, MV.int .i64 (-1)] = encP s ⟨0, 0, false⟩ from rfl]
 refine (hw lim (d + 1) ⟨d, 11, σ.ct d + 1⟩ _ (Nat.lt_succ_self d) hlim ?_ ?_).wh ?_
 ·simp only [u_tick, u_mine]; exact hun
 ·simp only [go_sem, if_true]
 generalize parS s 10 ⟨0, 0, false⟩ = x at G
 obtain ⟨y, r⟩ := x
 have g2 := G.in'
 have hsz : sz y ≤ 1000000 := by
  cases hbb : r.bad with
  | false => have := (G.good hbb).2; simp only at this g2; omega
  | true => have := G.bad' hbb; simp only at this g2; omega
 simp only at g2 ⊢
 simp -implicitDefEqProofs -dsimp only [go_sem]
 refine (w20 s r (by omega) ⟨d, 11, σ.ct d + 1⟩ lim (d + 1) (Nat.lt_succ_self d) _ ?_ ?_).wh ?_
 ·simp only [u_tick, u_mine]; exact hun
 ·simp only [go_sem, Nat.reduceEqDiff, and_false, false_and, if_false, if_true]
 cases hnx : r.nx s with
 | none =>
  cases hbb : r.bad
  ·have hgood := encP_good s r hbb
   have e1 : ¬ ((0 : Int) ≤ -1) := by decide
   simp -implicitDefEqProofs -dsimp only [go_sem, pkV_none, hgood, e1]
   refine (w12 y hsz lim (d + 1) _ (by omega) ?_).wh ?_
   ·simp only [u_tick, u_mine]; exact hun
   cases formedB y
   ·simp -implicitDefEqProofs -dsimp only [go_sem, enc, z0, encs, cut_und _ _ hu, Option.isSome_none]
   ·simp -implicitDefEqProofs -dsimp only [go_sem, cut_und _ _ hu, Option.isSome_none]
  ·have hbd : encP s r = [.str s, .int .i64 r.at', .int .i64 r.g, .int .i64 r.at'] := by simp only [encP, hbb, if_true]
   have e1 : ((0 : Int) ≤ (r.at' : Int)) := by omega
   simp -implicitDefEqProofs -dsimp only [go_sem, pkV_none, hbd, e1]
   rw [D_lx [.tmp 31] (by kernel_rfl) (by kernel_rfl)]; simp -implicitDefEqProofs -dsimp only [go_sem, List.takeWhile_cons, List.dropWhile_cons, isTail, evNews, List.mem_cons, List.not_mem_nil, or_false, false_or, not_false_eq_true, not_true_eq_false, decide_true, Bool.not_true, Bool.not_false, forall_eq, ne_eq, ct_lt2]
   exact ⟨rfl, cut_und _ _ hu⟩
 | some c =>
  obtain ⟨b1, b2, b3⟩ := nx_some hnx
  have hbd : encP s r.fail = [.str s, .int .i64 r.at', .int .i64 r.g, .int .i64 r.at'] := by simp only [encP, Rd.fail, if_true]
  have e1 : ((0 : Int) ≤ (r.at' : Int)) := by omega
  simp -implicitDefEqProofs -dsimp only [go_sem, pkV_some]
  refine (w21 s r ⟨d, 11, σ.ct d + 1⟩ lim (d + 1) (Nat.lt_succ_self d) hlim _ ?_ ?_).wh ?_
  ·simp only [u_tick, u_mine]; exact hun
  ·simp only [go_sem, Nat.reduceEqDiff, and_false, false_and, if_false, if_true]
  simp -implicitDefEqProofs -dsimp only [go_sem, hbd, e1]
  rw [D_lx [.tmp 31] (by kernel_rfl) (by kernel_rfl)]; simp -implicitDefEqProofs -dsimp only [go_sem, List.takeWhile_cons, List.dropWhile_cons, isTail, evNews, List.mem_cons, List.not_mem_nil, or_false, false_or, not_false_eq_true, not_true_eq_false, decide_true, Bool.not_true, Bool.not_false, forall_eq, ne_eq, ct_lt2, Option.isSome_some, b1]
  exact ⟨rfl, cut_und _ _ hu⟩
theorem parse_sz (s : List UInt8) (hs : s.length ≤ 100000) : sz (parseS s).1 ≤ 1000000 := by
 obtain ⟨G, -⟩ := hr_par s hs 10 ⟨0, 0, false⟩ rfl (by simp) (by simp) (by simp)
 rw [parse_eq]
 generalize parS s 10 ⟨0, 0, false⟩ = x at G
 have g2 := G.in'
 have hsz : sz x.1 ≤ 1000000 := by
  cases hbb : x.2.bad with
  | false => have := (G.good hbb).2; simp only at this g2; omega
  | true => have := G.bad' hbb; simp only at this g2; omega
 split
 ·simp [sz_z0]
 ·split
  ·exact hsz
  ·simp [sz_z0]
@[go_sem] theorem cvt_by (tk : Tok) (n : Int) : cvtO X.P 86 9 (.sl tk [[.int .u8 n]]) = some (.str [UInt8.ofNat n.toNat]) := by
 have h1 : X.P.underlying 86 = some (.slice 5) := by kernel_rfl
 have h2 : X.P.underlying 9 = some .string := by kernel_rfl
 have h3 : X.P.underlying 5 = some (.int .u8) := by kernel_rfl
 simp only [cvtO, h1, h2, h3, bytesOf, Option.map_some]
def encQ (s : List UInt8) (r : Rd) : List MV := [.str s, .int .i64 r.at', .bool true, .int .i64 r.g, .bool r.bad]
theorem w33 (s : List UInt8) (r : Rd) (t : List UInt8) (hs : s.length ≤ 1000000) (ht : t.length ≤ 1000) (hr : r.at' ≤ s.length) (p : Mv.Loc) (lim d : Nat) (hp : p.d < d) (σ : Sto) (hu : σ.Und d) (ho : σ.ob p = some (encQ s r)) : Ret lim d 93 [.ptr p 0, .str t] σ (.bool (!r.bad && preS (s.drop r.at') t)) σ := by
 obtain ⟨n, g, bad⟩ := r
 simp only [encQ] at ho hr ⊢
 have x1 := wr64 ((s.length : Int) - n) (by omega) (by omega)
 have x2 := wr64 ((n : Int) + t.length) (by omega) (by omega)
 have hc := cut_at s n 0 t.length
 simp only [Nat.add_zero, List.drop_zero] at hc
 have t1 : ((n : Int) + t.length).toNat = n + t.length := by omega
 have p1 : (0 : Int) ≤ (n : Int) + t.length := by omega
 have p2 : (n : Int) ≤ ((n + t.length : Nat) : Int) := by omega
 unfold Ret
 rw [WF_body (C := X) rfl func93 rfl (by kernel_rfl)]; simp only [results93]
 simp -implicitDefEqProofs -dsimp only [go_sem]
 rw [D_dr (by kernel_rfl) rfl]
 cases bad
 ·by_cases hl : t.length ≤ s.length - n
  ·have e1 : ((t.length : Int) ≤ (s.length : Int) - n) := by omega
   have e2 : (n : Int) + t.length ≤ (s.length : Int) := by omega
   simp -implicitDefEqProofs -dsimp only [go_sem, ho, x1, x2, e1, e2, t1, p1, p2, hc, cut_und _ _ hu]
   rfl
  ·have e1 : ¬ ((t.length : Int) ≤ (s.length : Int) - n) := by omega
   have e2 : preS (s.drop n) t = false := by
    cases h : preS (s.drop n) t with
    | false => rfl
    | true => have := pre_le h; rw [List.length_drop] at this; omega
   simp -implicitDefEqProofs -dsimp only [go_sem, ho, x1, e1, e2, cut_und _ _ hu]
 ·simp -implicitDefEqProofs -dsimp only [go_sem, ho, cut_und _ _ hu]
theorem w23 (s : List UInt8) (r : Rd) (p : Mv.Loc) (lim d : Nat) (hp : p.d < d) (σ : Sto) (hu : σ.Und d) (ho : σ.ob p = some (encQ s r)) : Ret lim d 69 [.ptr p 0] σ (.bool (decide ((s.length : Int) ≤ (r.at' : Int)))) σ := by
 rw [encQ] at ho
 unfold Ret
 rw [WF_body (C := X) rfl func69 rfl (by kernel_rfl)]; simp only [results69]
 simp -implicitDefEqProofs -dsimp only [go_sem]
 rw [D_dr (by kernel_rfl) rfl]
 simp -implicitDefEqProofs -dsimp only [go_sem, ho, cut_und _ _ hu]
theorem w24 (s : List UInt8) (r : Rd) (p : Mv.Loc) (lim d : Nat) (hp : p.d < d) (hlim : lim ≤ p.d) (σ : Sto) (hu : σ.Und d) (ho : σ.ob p = some (encQ s r)) : Ret lim d 70 [.ptr p 0] σ (.agg (enc z0)) (σ.set p (encQ s r.fail)) := by
 have hne := ne_my hp
 have hmy := my_ne hp
 rw [encQ] at ho
 simp only [encQ, Rd.fail]
 unfold Ret
 rw [WF_body (C := X) rfl func70 rfl (by kernel_rfl)]; simp only [results70]
 simp -implicitDefEqProofs -dsimp only [go_sem, enc, ho, hne, hmy, hp, hlim, cut_set _ _ _ _ hp, cut_und _ _ hu, z0, encs]
theorem w42 (s : List UInt8) (r : Rd) (p : Mv.Loc) (lim d : Nat) (hp : p.d < d) (σ : Sto) (hu : σ.Und d) (ho : σ.ob p = some (encQ s r)) : Ret lim d 113 [.ptr p 0] σ (.str [41]) σ := by
 rw [encQ] at ho
 unfold Ret
 rw [WF_body (C := X) rfl func113 rfl (by kernel_rfl)]; simp only [results113]
 simp -implicitDefEqProofs -dsimp only [go_sem, ho, cut_und _ _ hu]
theorem w56 (s : List UInt8) (r : Rd) (p : Mv.Loc) (lim d : Nat) (hp : p.d < d) (σ : Sto) (hu : σ.Und d) (ho : σ.ob p = some (encQ s r)) : Ret lim d 131 [.ptr p 0] σ (.str [123]) σ := by
 rw [encQ] at ho
 unfold Ret
 rw [WF_body (C := X) rfl func131 rfl (by kernel_rfl)]; simp only [results131]
 simp -implicitDefEqProofs -dsimp only [go_sem, ho, cut_und _ _ hu]
theorem w57 (s : List UInt8) (r : Rd) (p : Mv.Loc) (lim d : Nat) (hp : p.d < d) (σ : Sto) (hu : σ.Und d) (ho : σ.ob p = some (encQ s r)) : Ret lim d 132 [.ptr p 0] σ (.str [40]) σ := by
 rw [encQ] at ho
 unfold Ret
 rw [WF_body (C := X) rfl func132 rfl (by kernel_rfl)]; simp only [results132]
 simp -implicitDefEqProofs -dsimp only [go_sem, ho, cut_und _ _ hu]
theorem h1 (s : List UInt8) (r : Rd) (b : UInt8) (hs : s.length ≤ 1000000) (hr : r.at' ≤ s.length) (p : Mv.Loc) (lim d : Nat) (hp : p.d < d) (σ : Sto) (hu : σ.Und d) (ho : σ.ob p = some (encQ s r)) : Ret lim d 93 [.ptr p 0, .str [b]] σ (.bool (r.nx s == some b)) σ := by
 rw [← has_one s r hr b]
 exact w33 s r [b] hs (by simp) hr p lim d hp σ hu ho
theorem w43 (s : List UInt8) (r : Rd) (hs : s.length ≤ 1000000) (hr : r.at' ≤ s.length) (p : Mv.Loc) (lim d : Nat) (hp : p.d < d) (σ : Sto) (hu : σ.Und d) (ho : σ.ob p = some (encQ s r)) : Ret lim d 114 [.ptr p 0] σ (.bool (isRep (r.nx s))) σ := by
 have hun := und_succ hu
 have hp1 := Nat.lt_succ_of_lt hp
 have hh := fun (b : UInt8) => h1 s r b hs hr p lim (d + 1) hp1 σ hun ho
 have ho2 := ho
 rw [encQ] at ho2
 unfold Ret
 rw [WF_body (C := X) rfl func114 rfl (by kernel_rfl)]; simp only [results114]
 simp -implicitDefEqProofs -dsimp only [go_sem]
 refine (hh 42).wh ?_
 unfold isRep
 cases h42 : r.nx s == some 42
 ·simp -implicitDefEqProofs -dsimp only [go_sem]
  refine (w56 s r p lim (d + 1) hp1 σ hun ho).wh ?_
  simp -implicitDefEqProofs -dsimp only [go_sem]
  refine (hh 123).wh ?_
  cases h123 : r.nx s == some 123
  ·simp -implicitDefEqProofs -dsimp only [go_sem, ho2]
   refine (hh 43).wh ?_
   cases h43 : r.nx s == some 43
   ·simp -implicitDefEqProofs -dsimp only [go_sem]
    refine (hh 63).wh ?_
    cases h63 : r.nx s == some 63
    ·simp -implicitDefEqProofs -dsimp only [go_sem, cut_und _ _ hu]
    ·simp -implicitDefEqProofs -dsimp only [go_sem, cut_und _ _ hu]
   ·simp -implicitDefEqProofs -dsimp only [go_sem, cut_und _ _ hu]
  ·simp -implicitDefEqProofs -dsimp only [go_sem, cut_und _ _ hu]
 ·simp -implicitDefEqProofs -dsimp only [go_sem, cut_und _ _ hu]end Go.Proofs.Tryz.E
set_option linter.unusedVariables false
set_option linter.unusedSimpArgs false
/- The other reader: numbers, a repeat's bounds. -/
namespace Go.Proofs.Tryz.E
open Go.Mv
set_option maxHeartbeats 4000000
set_option maxRecDepth 20000
theorem encQ_eq (s : List UInt8) (r : Rd) : encQ s r = [.str s, .int .i64 r.at', .bool true, .int .i64 r.g, .bool r.bad] := rfl
theorem brc_eq (s : List UInt8) (n : Nat) : bracesS s n = if digsAt s (n + 1) = [] ∨ 255 < numV (digsAt s (n + 1)) then none else
  if s[n + 1 + (digsAt s (n + 1)).length]? = some 44 then
   if s[n + 1 + (digsAt s (n + 1)).length + 1 + (digsAt s (n + 1 + (digsAt s (n + 1)).length + 1)).length]? = some 125 ∧ (digsAt s (n + 1 + (digsAt s (n + 1)).length + 1) = [] ∨ numV (digsAt s (n + 1 + (digsAt s (n + 1)).length + 1)) ≤ 255 ∧ numV (digsAt s (n + 1)) ≤ numV (digsAt s (n + 1 + (digsAt s (n + 1)).length + 1))) then
    some ((numV (digsAt s (n + 1)) : Int), if digsAt s (n + 1 + (digsAt s (n + 1)).length + 1) = [] then (-1 : Int) else (numV (digsAt s (n + 1 + (digsAt s (n + 1)).length + 1)) : Int), n + 1 + (digsAt s (n + 1)).length + 1 + (digsAt s (n + 1 + (digsAt s (n + 1)).length + 1)).length + 1) else none
  else if s[n + 1 + (digsAt s (n + 1)).length]? = some 125 then some ((numV (digsAt s (n + 1)) : Int), (numV (digsAt s (n + 1)) : Int), n + 1 + (digsAt s (n + 1)).length + 1) else none := rfl
theorem tim_clo (s : List UInt8) (Q : Nat) (hQ : Q < s.length) (m k : Int) (B : Option (Int × Int × Nat)) (hB : B = if s[Q]? = some 125 then some (m, k, Q + 1) else none) {σ σ' : Sto} (hσ : σ' = σ) :
  (0 ≤ (Q : Int) + 1 ∧ (Q : Int) + 1 ≤ (s.length : Int)) ∧ (Q : Int) ≤ (((Q : Int) + 1).toNat : Int) ∧
   if (!List.drop Q (List.take ((Q : Int) + 1).toNat s) == [125]) = true then
    MV.tup [MV.int IntKind.i64 0, MV.int IntKind.i64 0, MV.int IntKind.i64 0, MV.bool false] = timV B ∧ σ' = σ
   else
    MV.tup [MV.int IntKind.i64 m, MV.int IntKind.i64 k, MV.int IntKind.i64 ((Q : Int) + 1), MV.bool true] = timV B ∧ σ' = σ := by
 have t1 : ((Q : Int) + 1).toNat = Q + 1 := by omega
 have hc := cut_at s Q 0 1
 simp only [Nat.add_zero, List.drop_zero] at hc
 refine ⟨⟨by omega, by omega⟩, by omega, ?_⟩
 rw [t1, hc, one_at]
 cases h : s[Q]? == some 125
 ·rw [if_neg (by simpa using h)] at hB
  exact ⟨by rw [hB]; rfl, hσ⟩
 ·rw [if_pos (by simpa using h)] at hB
  exact ⟨by rw [hB]; rfl, hσ⟩
theorem w60 (s : List UInt8) (r : Rd) (hs : s.length ≤ 1000000) (hb : r.bad = false) (hrep : isRep (r.nx s) = true) (p : Mv.Loc) (lim d : Nat) (hp : p.d < d) (σ : Sto) (hu : σ.Und d) (ho : σ.ob p = some (encQ s r)) : Ret lim d 135 [.ptr p 0] σ (timV (boundsS s r.at')) σ := by
 have hun := und_succ hu
 have hp1 := Nat.lt_succ_of_lt hp
 have hnd : ¬ p.d = d := by omega
 obtain ⟨c, hc⟩ : ∃ c, r.nx s = some c := by
  cases h : r.nx s with
  | none => rw [h] at hrep; cases hrep
  | some c => exact ⟨c, rfl⟩
 obtain ⟨-, g0, hlt⟩ := nx_some hc
 have hh := fun (b : UInt8) => h1 s r b hs (by omega) p lim (d + 1) hp1 σ hun ho
 rw [hc] at hh hrep
 have ho2 := ho
 rw [encQ_eq] at ho2
 have x1 := wr64 ((r.at' : Int) + 1) (by omega) (by omega)
 unfold Ret
 rw [WF_body (C := X) rfl func135 rfl (by kernel_rfl)]; simp only [results135]
 simp -implicitDefEqProofs -dsimp only [go_sem]
 refine (hh 42).wh ?_
 unfold boundsS
 rw [g0]
 by_cases h42 : c = 42
 ·subst h42
  rw [if_neg (by decide), if_neg (by decide), if_neg (by decide)]
  simp -implicitDefEqProofs -dsimp only [go_sem, beq_self_eq_true]
  rw [D_lx [.tmp 15] (by kernel_rfl) (by kernel_rfl)]; simp -implicitDefEqProofs -dsimp only [go_sem, List.takeWhile_cons, List.dropWhile_cons, isTail, evNews, List.mem_cons, List.not_mem_nil, or_false, not_false_eq_true, Bool.not_true, Bool.not_false, forall_eq, ne_eq, ho2, x1, hnd, true_or]
  simp -implicitDefEqProofs -dsimp only [go_sem, timV_some, cut_und _ _ hu, Int.natCast_add]
 have e42 : (some c == some (42 : UInt8)) = false := by simpa using h42
 rw [e42]
 simp -implicitDefEqProofs -dsimp only [go_sem, ho2]
 refine (hh 43).wh ?_
 by_cases h43 : c = 43
 ·subst h43
  rw [if_neg (by decide), if_pos (by decide)]
  simp -implicitDefEqProofs -dsimp only [go_sem, beq_self_eq_true]
  rw [D_lx [.tmp 29] (by kernel_rfl) (by kernel_rfl)]; simp -implicitDefEqProofs -dsimp only [go_sem, List.takeWhile_cons, List.dropWhile_cons, isTail, evNews, List.mem_cons, List.not_mem_nil, or_false, not_false_eq_true, Bool.not_true, Bool.not_false, forall_eq, ne_eq, ho2, x1, hnd, true_or]
  simp -implicitDefEqProofs -dsimp only [go_sem, timV_some, cut_und _ _ hu, Int.natCast_add]
 have e43 : (some c == some (43 : UInt8)) = false := by simpa using h43
 rw [e43]
 simp -implicitDefEqProofs -dsimp only [go_sem, ho2]
 refine (hh 63).wh ?_
 by_cases h63 : c = 63
 ·subst h63
  rw [if_neg (by decide), if_neg (by decide), if_pos (by decide)]
  simp -implicitDefEqProofs -dsimp only [go_sem, beq_self_eq_true]
  rw [D_lx [.tmp 43] (by kernel_rfl) (by kernel_rfl)]; simp -implicitDefEqProofs -dsimp only [go_sem, List.takeWhile_cons, List.dropWhile_cons, isTail, evNews, List.mem_cons, List.not_mem_nil, or_false, not_false_eq_true, Bool.not_true, Bool.not_false, forall_eq, ne_eq, ho2, x1, hnd, true_or]
  simp -implicitDefEqProofs -dsimp only [go_sem, timV_some, cut_und _ _ hu, Int.natCast_add]
 have e63 : (some c == some (63 : UInt8)) = false := by simpa using h63
 rw [e63]
 have h123 : c = 123 := by
  simp only [isRep, e42, e43, e63, Bool.false_or, beq_iff_eq, Option.some.injEq] at hrep
  exact hrep
 subst h123
 rw [if_pos rfl]
 simp -implicitDefEqProofs -dsimp only [go_sem]
 rw [D_lx [] (by kernel_rfl) (by kernel_rfl)]; simp -implicitDefEqProofs -dsimp only [go_sem, List.takeWhile_cons, List.dropWhile_cons, isTail, evNews, List.not_mem_nil, decide_false, Bool.not_true, Bool.not_false, false_imp_iff, implies_true, ne_eq, ho2]
 refine (w56 s r p (d + 1) (d + 1) hp1 σ hun ho).wh ?_
 simp -implicitDefEqProofs -dsimp only [go_sem, x1]
 refine (w72 s (r.at' + 1) hs (by omega) (d + 1) (d + 1) σ hun).wh ?_
 have hA := digs_len s (r.at' + 1)
 rw [dgV_eq]
 have hBu := brc_eq s r.at'
 generalize bracesS s r.at' = B at hBu ⊢
 generalize digsAt s (r.at' + 1) = A at hA hBu ⊢
 generalize hP : r.at' + 1 + A.length = P at hBu ⊢
 have hPl : P ≤ s.length := by omega
 by_cases hA0 : A = []
 ·rw [if_pos (.inl hA0)] at hBu
  subst hA0
  simp -implicitDefEqProofs -dsimp only [go_sem, decide_true, hBu, timV_none, cut_und _ _ hu]
 by_cases hbig : 255 < numV A
 ·rw [if_pos (.inr hbig)] at hBu
  simp -implicitDefEqProofs -dsimp only [go_sem, decide_true, hA0, hbig, hBu, timV_none, cut_und _ _ hu]
 rw [if_neg (by simp [hA0, hbig])] at hBu
 have e3 : ¬ ((numV A : Int) < 0) := by omega
 by_cases h44 : s[P]? = some 44
 ·rw [if_pos h44] at hBu
  have hlt2 : P < s.length := by
   rcases Nat.lt_or_ge P s.length with h | h
   ·exact h
   ·rw [List.getElem?_eq_none h] at h44; cases h44
  have e4 : ((P : Int) < (s.length : Int)) := by omega
  have x3 := wr64 ((P : Int) + 1) (by omega) (by omega)
  have e44 : ((44 : UInt8) == 44) = true := rfl
  simp -implicitDefEqProofs -dsimp only [go_sem, decide_true, decide_false, ho2, hA0, hbig, e3, e4, h44, e44, x3]
  refine (w72 s (P + 1) hs (by omega) lim (d + 1) σ hun).wh ?_
  rw [dgV_eq]
  have hC := digs_len s (P + 1)
  generalize digsAt s (P + 1) = C at hC hBu ⊢
  generalize hQ : P + 1 + C.length = Q at hBu ⊢
  have hQl : Q ≤ s.length := by omega
  by_cases hbc : C ≠ [] ∧ (255 < numV C ∨ numV C < numV A)
  ·rw [if_neg (fun h => by rcases h.2 with h | h; exact hbc.1 h; omega)] at hBu
   by_cases hbb : 255 < numV C
   ·simp -implicitDefEqProofs -dsimp only [go_sem, hbc.1, hbb, hBu, timV_none, cut_und _ _ hu]
   ·have f1 : ((numV C : Int) == -2) = false := by rw [beq_eq_false_iff_ne]; omega
    have f2 : (0 : Int) ≤ (numV C : Int) := by omega
    have f3 : (numV C : Int) < (numV A : Int) := by omega
    simp -implicitDefEqProofs -dsimp only [go_sem, hbc.1, hbb, f1, f2, f3, hBu, timV_none, cut_und _ _ hu]
  ·have hk : ∃ k : Int, (if C = [] then (-1 : Int) else if 255 < numV C then -2 else (numV C : Int)) = k ∧ (if C = [] then (-1 : Int) else (numV C : Int)) = k ∧ (k == -2) = false ∧ (if (decide (0 ≤ k)) = true then decide (k < (numV A : Int)) else false) = false := by
    by_cases hC0 : C = []
    ·exact ⟨-1, by rw [if_pos hC0], by rw [if_pos hC0], rfl, rfl⟩
    ·have hbc' : ¬ 255 < numV C ∧ ¬ numV C < numV A := by
      constructor
      ·exact fun h => hbc ⟨hC0, .inl h⟩
      ·exact fun h => hbc ⟨hC0, .inr h⟩
     refine ⟨numV C, by rw [if_neg hC0, if_neg hbc'.1], by rw [if_neg hC0], by rw [beq_eq_false_iff_ne]; omega, ?_⟩
     have : ¬ (numV C : Int) < (numV A : Int) := by omega
     simp [this]
   obtain ⟨k, k1, k2, k3, k4⟩ := hk
   rw [k1]
   rw [k2] at hBu
   have hiff : (s[Q]? = some 125 ∧ (C = [] ∨ numV C ≤ 255 ∧ numV A ≤ numV C)) ↔ s[Q]? = some 125 := by
    refine ⟨fun h => h.1, fun h => ⟨h, ?_⟩⟩
    by_cases hC0 : C = []
    ·exact .inl hC0
    ·right
     by_cases q1 : 255 < numV C
     ·exact absurd ⟨hC0, .inl q1⟩ hbc
     ·by_cases q2 : numV C < numV A
      ·exact absurd ⟨hC0, .inr q2⟩ hbc
      ·omega
   simp only [hiff] at hBu
   clear hiff k1 k2
   by_cases hlt3 : Q < s.length
   ·have e5 : ¬ ((s.length : Int) - Q < 1) := by omega
    have x4 := wr64 ((s.length : Int) - Q) (by omega) (by omega)
    have x5 := wr64 ((Q : Int) + 1) (by omega) (by omega)
    by_cases k0 : 0 ≤ k
    ·simp only [k0, decide_true, if_true] at k4
     simp -implicitDefEqProofs -dsimp only [go_sem, ho2, k3, k0, k4, e5, x4, x5]
     exact tim_clo s Q hlt3 _ k B hBu (cut_und _ _ hu)
    ·simp -implicitDefEqProofs -dsimp only [go_sem, ho2, k3, k0, e5, x4, x5]
     exact tim_clo s Q hlt3 _ k B hBu (cut_und _ _ hu)
   ·have e5 : ((s.length : Int) - Q < 1) := by omega
    have x4 := wr64 ((s.length : Int) - Q) (by omega) (by omega)
    rw [List.getElem?_eq_none (by omega), if_neg (by decide)] at hBu
    by_cases k0 : 0 ≤ k
    ·simp only [k0, decide_true, if_true] at k4
     simp -implicitDefEqProofs -dsimp only [go_sem, ho2, k3, k0, k4, e5, x4, hBu, timV_none, cut_und _ _ hu]
    ·simp -implicitDefEqProofs -dsimp only [go_sem, ho2, k3, k0, e5, x4, hBu, timV_none, cut_und _ _ hu]
 ·rw [if_neg h44] at hBu
  by_cases hlt2 : P < s.length
  ·have g1 : s[P]? = some s[P] := List.getElem?_eq_getElem hlt2
   have e4 : ((P : Int) < (s.length : Int)) := by omega
   have e5 : ¬ ((s.length : Int) - P < 1) := by omega
   have x2 := wr64 ((s.length : Int) - P) (by omega) (by omega)
   have x3 := wr64 ((P : Int) + 1) (by omega) (by omega)
   have h44' : (s[P] == 44) = false := by rw [g1] at h44; simpa using h44
   generalize s[P] = b at g1 h44'
   simp -implicitDefEqProofs -dsimp only [go_sem, decide_true, decide_false, Bool.not_true, ho2, hA0, hbig, e3, e4, g1, h44', e5, x2, x3]
   exact tim_clo s P hlt2 _ _ B hBu (cut_und _ _ hu)
  ·rw [List.getElem?_eq_none (by omega), if_neg (by decide)] at hBu
   have e4 : ¬ ((P : Int) < (s.length : Int)) := by omega
   have e5 : ((s.length : Int) - P < 1) := by omega
   have x2 := wr64 ((s.length : Int) - P) (by omega) (by omega)
   simp -implicitDefEqProofs -dsimp only [go_sem, decide_true, decide_false, Bool.not_true, ho2, hA0, hbig, e3, e4, e5, x2, hBu, timV_none, cut_und _ _ hu]
end Go.Proofs.Tryz.E
