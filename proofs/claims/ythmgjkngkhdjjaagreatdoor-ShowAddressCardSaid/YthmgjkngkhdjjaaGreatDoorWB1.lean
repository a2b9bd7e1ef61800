/- Walks: what the functions compute. Walks: what the functions compute. Walks: what the functions compute. -/
import Derived.Test.YthmgjkngkhdjjaaGreatDoorE35
import Derived.Test.YthmgjkngkhdjjaaGreatDoorWE9
import Derived.Test.YthmgjkngkhdjjaaGreatDoorG0
set_option linter.unusedVariables false
set_option linter.unusedSimpArgs false
/- The other reader: all of a pattern; any text is read, or refused. -/
namespace Go.Proofs.Tryz.E
open Go.Mv
set_option maxHeartbeats 4000000
set_option maxRecDepth 20000
section
variable {s : List UInt8} {k : Nat} {rec : Rd → Nd × Rd} (H : HR s k rec) (K : HQ s k rec)
include H K
theorem w22 (r : Rd) (hs : s.length ≤ 100000) (hr : r.at' ≤ s.length) (hb : r.bad = false) (h9 : r.g ≤ 9) (hk : 10 ≤ k + 1 + r.g) (p : Mv.Loc) (lim d : Nat) (hp : p.d < d) (hlim : lim ≤ p.d) (σ : Sto) (hu : σ.Und d) (ho : σ.ob p = some (encQ s r)) :
  Ret lim d 68 [.ptr p 0] σ (.agg (enc (wholeS s rec r).1)) (σ.set p (encQ s (wholeS s rec r).2)) := by
 have hun := und_succ hu
 have hne := ne_my hp
 have hmy := my_ne hp
 have hp1 := Nat.lt_succ_of_lt hp
 have hlim2 : lim ≤ d := by omega
 have hun1 : ∀ (t c : Nat) (cs : List MV), ((σ.set ⟨d, t, c⟩ cs).tick d).Und (d + 1) := fun t c cs => by simp only [u_tick, u_mine]; exact hun
 have hob1 : ∀ (t c : Nat) (cs : List MV), ((σ.set ⟨d, t, c⟩ cs).tick d).ob p = some (encQ s r) := fun t c cs => by simp only [go_sem, hne, if_false]; exact ho
 have hwi := wi_0 H hr hb h9 hk
 unfold Ret
 rw [WF_body (C := X) rfl func68 rfl (by kernel_rfl)]; simp only [results68]
 unfold wholeS
 simp -implicitDefEqProofs -dsimp only [go_sem]
 refine (w32 H K r hs hr hb h9 hk p lim (d + 1) hp1 hlim _ (hun1 ..) (hob1 ..)).wh ?_
 generalize branchS s rec (s.length + 1) [] r = x at hwi
 simp only
 simp -implicitDefEqProofs -dsimp only [go_sem]
 refine loop_h (I := fun n a s' => ∃ (l : List Nd) (r2 : Rd), WI s r n l r2 ∧ moreS s rec n l r2 = moreS s rec (s.length + 1) [x.1] x.2 ∧ a 0 = .ptr p 0 ∧ a 2 = .ptr ⟨d, 2, σ.ct d⟩ 0 ∧ Own s' d (a 3) l ∧ s'.ob p = some (encQ s r2) ∧ (∃ z, s'.ob ⟨d, 2, σ.ct d⟩ = some z ∧ z.length = 10) ∧ s'.cut d = σ.set p (encQ s r2) ∧ s'.Und (d + 1)) ?_ (s.length + 1) _ _ ?_
 ·rintro n a s' ⟨l, r2, b, hT, a0, a2, hO, hop, ⟨z, hz, hzl⟩, hcut, hus⟩
  obtain ⟨n, rfl⟩ : ∃ m, n = m + 1 := ⟨n - 1, by have := b.n1; omega⟩
  have b3 := b.in'
  rw [moreS] at hT
  have hput : ∀ x, putC z (enc x) 0 = enc x := fun x => putC_whole _ _ (by rw [hzl, enc_len])
  have hsl : szs l ≤ 1000000 := by
   cases hbb : r2.bad with
   | false => have := (b.good hbb).2; omega
   | true => have := (b.bad' hbb); omega
  have hop3 := hop
  rw [encQ_eq] at hop3
  simp -implicitDefEqProofs -dsimp only [go_sem, a0, hop3]
  refine (h1 s r2 124 (by omega) b3 p lim (d + 1) hp1 s' hus hop).wh ?_
  cases h124 : r2.nx s == some 124
  ·have h124' : ¬ r2.nx s = some 124 := by rw [beq_eq_false_iff_ne] at h124; exact h124
   rw [if_neg h124'] at hT
   rw [← hT]
   simp -implicitDefEqProofs -dsimp only [go_sem, own_arg hO]
   refine (w34 l hsl lim (d + 1) _ (by omega) hus).wh ?_
   simp -implicitDefEqProofs -dsimp only [go_sem, a2, hz, hzl, hput, hcut]
  ·have h124' := isS_nx h124
   rw [if_pos h124'] at hT
   obtain ⟨b1, b4, bi⟩ := wi_step H hk b h124'
   have x1 := wr64 ((r2.at' : Int) + 1) (by omega) (by omega)
   have hgo1 : [MV.str s, .int .i64 ((r2.at' : Int) + 1), .bool true, .int .i64 r2.g, .bool false] = encQ s (r2.go (r2.at' + 1)) := by rw [encQ_go s r2 _ b1]; rfl
   have hop2 := hop
   rw [encQ_good s r2 b1] at hop2
   simp -implicitDefEqProofs -dsimp only [go_sem, a0, hop2, x1, hp, hlim, hgo1]
   refine (w32 H K (r2.go (r2.at' + 1)) hs (by simp only [Rd.go]; omega) b1 b.g9 (by have := b.gm; simp only [Rd.go]; omega) p lim (d + 1) hp1 hlim _ (by rw [u_set _ _ _ _ hp1]; exact hus) (by simp only [go_sem, if_true])).wh ?_
   generalize branchS s rec (s.length + 1) [] (r2.go (r2.at' + 1)) = y at bi hT
   have hxz : szs (l ++ [y.1]) ≤ 1000000 := by
    have h1 := bi.in'
    cases hbb : y.2.bad with
    | false => have := (bi.good hbb).2; omega
    | true => have := (bi.bad' hbb); omega
   have hxl := len_le (l ++ [y.1])
   obtain ⟨v', s2, q1, q2, q3, q4, q5⟩ := app_own (P := X.P) (t := 25) (ys := [y.1]) (tk := .own d (s'.ct d)) slc_25 (own_tok (own_set hO p (encQ s y.2)) (some (1, 10))) (by simp at hxl ⊢; omega) hlim2 (und_tok (by rw [u_set _ _ _ _ hp1]; exact hus) _ _)
   simp only [encs, ct_set] at q1
   simp -implicitDefEqProofs -dsimp only [go_sem, q1, a0]
   refine ⟨n, Nat.lt_succ_self n, l ++ [y.1], y.2, bi, hT, a2, q2, ?_, ⟨z, ?_, hzl⟩, ?_, q4⟩
   ·rw [q5]; simp only [go_sem, if_true]
   ·rw [q5]; simp only [go_sem, hmy, if_false, hz]
   ·rw [q3]; simp only [go_sem, cut_set _ _ _ _ hp, hcut]
 ·refine ⟨[x.1], x.2, hwi, rfl, rfl, rfl, .inr ⟨σ.ct d + 1, rfl, ?_, ?_⟩, ?_, ⟨_, by simp only [go_sem, hmy, if_false, if_true]; rfl, rfl⟩, ?_, ?_⟩
  ·simp only [go_sem, if_true, and_self]; first | done | rfl
  ·simp only [go_sem]; first | done | omega
  ·simp only [go_sem, hne, if_false, if_true]
  ·simp only [go_sem, cut_set _ _ _ _ hp, cut_und _ _ hu]
  ·simp only [u_tick, u_own, u_set _ _ _ _ hp1, u_mine]; exact hun
theorem hq_step (hs : s.length ≤ 100000) : HQ s (k + 1) (wholeS s rec) := fun r hb hr h9 hk lim d p σ hp hlim hu ho => w22 H K r hs hr hb h9 (by omega) p lim d hp hlim σ hu ho
end
theorem hq_par (s : List UInt8) (hs : s.length ≤ 100000) : ∀ k, HQ s k (parS s k)
 | 0 => fun r hb hr h9 hk => by omega
 | k + 1 => hq_step (hr_par s hs k) (hq_par s hs k) hs
theorem w9 (s : List UInt8) (hs : s.length ≤ 100000) (lim d : Nat) (hlim : lim ≤ d) (σ : Sto) (hu : σ.Und d) : Ret lim d 50 [.str s, .bool true] σ (parseV s) σ := by
 have hun := und_succ hu
 obtain ⟨G, -⟩ := hr_par s hs 10 ⟨0, 0, false⟩ rfl (by simp) (by simp) (by simp)
 have hw := hq_par s hs 10 ⟨0, 0, false⟩ rfl (by simp) (by simp) (by simp)
 unfold Ret parseV
 rw [parse_eq]
 rw [WF_body (C := X) rfl func50 rfl (by kernel_rfl)]; simp only [results50]
 simp -implicitDefEqProofs -dsimp only [go_sem]
 rw [show [MV.str s, MV.int .i64 0, MV.bool true, MV.int .i64 0, MV.bool false] = encQ s ⟨0, 0, false⟩ from rfl]
 refine (hw lim (d + 1) ⟨d, 12, σ.ct d + 1⟩ _ (Nat.lt_succ_self d) hlim ?_ ?_).wh ?_
 ·simp only [u_tick, u_mine]; exact hun
 ·simp only [go_sem, if_true]
 generalize parS s 10 ⟨0, 0, false⟩ = x at G
 obtain ⟨y, r⟩ := x
 have g2 := G.in'
 have hsz : sz y ≤ 1000000 := by
  cases hbb : r.bad with
  | false => have := (G.good hbb).2; simp only at this g2; omega
  | true => have := G.bad' hbb; simp only at this g2; omega
 simp only at g2 ⊢
 cases hbb : r.bad
 case true =>
  have hbd : encQ s r = [.str s, .int .i64 r.at', .bool true, .int .i64 r.g, .bool true] := by rw [encQ_eq, hbb]
  simp -implicitDefEqProofs -dsimp only [go_sem, hbd]
  rw [D_lx [.tmp 34] (by kernel_rfl) (by kernel_rfl)]; simp -implicitDefEqProofs -dsimp only [go_sem, List.takeWhile_cons, List.dropWhile_cons, isTail, evNews, List.mem_cons, List.not_mem_nil, or_false, false_or, not_false_eq_true, not_true_eq_false, decide_true, Bool.not_true, Bool.not_false, forall_eq, ne_eq, ct_lt2]
  exact ⟨rfl, cut_und _ _ hu⟩
 case false =>
  have hgood := encQ_good s r hbb
  simp -implicitDefEqProofs -dsimp only [go_sem, hgood]
  refine (w23 s r ⟨d, 12, σ.ct d + 1⟩ lim (d + 1) (Nat.lt_succ_self d) _ ?_ ?_).wh ?_
  ·simp only [u_tick, u_mine]; exact hun
  ·simp only [go_sem, Nat.reduceEqDiff, and_false, false_and, if_false, if_true]; rw [hgood]
  by_cases hend : r.at' < s.length
  ·have e1 : ¬ ((s.length : Int) ≤ (r.at' : Int)) := by omega
   have hnx : (r.nx s).isSome = true := by simp [Rd.nx, hbb, hend]
   have hbd : encQ s r.fail = [.str s, .int .i64 r.at', .bool true, .int .i64 r.g, .bool true] := rfl
   simp -implicitDefEqProofs -dsimp only [go_sem, e1]
   refine (w24 s r ⟨d, 12, σ.ct d + 1⟩ lim (d + 1) (Nat.lt_succ_self d) hlim _ ?_ ?_).wh ?_
   ·simp only [u_tick, u_mine]; exact hun
   ·simp only [go_sem, Nat.reduceEqDiff, and_false, false_and, if_false, if_true]; rw [hgood]
   simp -implicitDefEqProofs -dsimp only [go_sem, hbd]
   rw [D_lx [.tmp 34] (by kernel_rfl) (by kernel_rfl)]; simp -implicitDefEqProofs -dsimp only [go_sem, List.takeWhile_cons, List.dropWhile_cons, isTail, evNews, List.mem_cons, List.not_mem_nil, or_false, false_or, not_false_eq_true, not_true_eq_false, decide_true, Bool.not_true, Bool.not_false, forall_eq, ne_eq, ct_lt2, hnx]
   exact ⟨rfl, cut_und _ _ hu⟩
  ·have e1 : ((s.length : Int) ≤ (r.at' : Int)) := by omega
   have hnx : (r.nx s).isSome = false := by
    have : r.nx s = none := by simp [Rd.nx, hbb]; omega
    rw [this]; rfl
   simp -implicitDefEqProofs -dsimp only [go_sem, e1]
   refine (w25 y hsz lim (d + 1) _ (by omega) ?_).wh ?_
   ·simp only [u_tick, u_mine]; exact hun
   cases formedB y
   ·simp -implicitDefEqProofs -dsimp only [go_sem, enc, z0, encs, cut_und _ _ hu, hnx]
   ·simp -implicitDefEqProofs -dsimp only [go_sem, cut_und _ _ hu, hnx]
section
variable (s : List UInt8)
def hasE (r : Rd) (c : UInt8) : Bool := r.nx s == some 92 && s[r.at' + 1]? == some c
def overB (r : Rd) : Bool := r.nx s == none || hasE s r 41
def isRepB (r : Rd) : Bool := r.nx s == some 42 || hasE s r 123
def closeB (q : Nat) : Bool := s[q]? == some 92 && s[q + 1]? == some 125
def bracesB (at' : Nat) : Option (Int × Int × Nat) :=
 let x := digsAt s (at' + 2)
 let p := at' + 2 + x.length
 if x = [] ∨ 255 < numV x then none else
 if s[p]? = some 44 then
  let y := digsAt s (p + 1)
  let q := p + 1 + y.length
  if closeB s q = true ∧ (y = [] ∨ numV y ≤ 255 ∧ numV x ≤ numV y) then some (numV x, if y = [] then -1 else numV y, q + 2) else none
 else if closeB s p = true then some (numV x, numV x, p + 2) else none
def timesB (r : Rd) : Option (Int × Int × Nat) := if r.nx s = some 42 then some (0, -1, r.at' + 1) else bracesB s r.at'
def repB (n : Nd) (r : Rd) : Nd × Rd :=
 if isRepB s r = false then (n, r) else
 if n.kind = 4 ∨ n.kind = 5 then (z0, r.fail) else
 match timesB s r with
 | none => (z0, r.fail)
 | some x => if isRepB s (r.go x.2.2) = true then (z0, (r.go x.2.2).fail) else (.mk 10 0 0 0 0 0 0 x.1 x.2.1 [n], r.go x.2.2)
def itselfB (b : UInt8) : Bool := [46, 91, 93, 42, 94, 36, 47, 92, 38, 45].contains b
def escB (r : Rd) : Nd × Rd :=
 match s[r.at' + 1]? with
 | none => (z0, r.fail)
 | some c =>
  if 49 ≤ c.toNat ∧ c.toNat ≤ 57 then (.mk 7 0 0 0 0 0 (c.toNat - 48) 0 0 [], r.go (r.at' + 2)) else
  if c = 110 then (lit 10, r.go (r.at' + 2)) else
  if itselfB c = true then (lit c.toNat, r.go (r.at' + 2)) else (z0, r.fail)
def endsB (at' : Nat) : Bool := s[at' + 1]? == none || (s[at' + 1]? == some 92 && s[at' + 2]? == some 41)
variable (rec : Rd → Nd × Rd)
def groupB (r : Rd) : Nd × Rd :=
 if r.g = 9 then (z0, r.fail) else
 let x := rec ⟨r.at' + 2, r.g + 1, r.bad⟩
 if hasE s x.2 41 = true then (.mk 6 0 0 0 0 0 (r.g + 1 : Nat) 0 0 [x.1], x.2.go (x.2.at' + 2)) else (z0, x.2.fail)
def signB (first : Bool) (at' : Nat) (c : UInt8) : Nd :=
 if c = 46 then nd 2 [] else if c = 94 ∧ first = true then nd 4 [] else if c = 36 ∧ endsB s at' = true then nd 5 [] else lit c.toNat
def atomB (first : Bool) (r : Rd) : Nd × Rd :=
 match s[r.at']? with
 | none => (z0, r.fail)
 | some c =>
  if hasE s r 40 = true then groupB s rec r else
  if c = 10 then (z0, r.fail) else
  if c = 92 then escB s r else
  if c = 91 then
   match bracketS (s.drop (r.at' + 1)) with
   | none => (z0, r.fail)
   | some x => (inN x.1, r.go (r.at' + x.2))
  else (signB s first r.at' c, r.go (r.at' + 1))
def pieceB (first : Bool) (r : Rd) : Nd × Rd :=
 let x := atomB s rec first r
 if x.1.kind = 4 ∧ x.2.nx s = some 42 then x else repB s x.1 x.2
def seqB (e : Nd) : Nat → Bool → List Nd → Rd → Nd × Rd
 | 0, _, _, r => (z0, r)
 | n + 1, first, l, r =>
  if overB s r = true then (joinN l, r) else
  if first = true ∧ hasE s r 123 = true then (e, r.fail) else
  let x := pieceB s rec first r
  seqB e n false (l ++ [x.1]) x.2
end
def parB (s : List UInt8) (e : Nd) : Nat → Rd → Nd × Rd
 | 0, r => (z0, r.fail)
 | n + 1, r => seqB s (parB s e n) e (s.length + 1) true [] r
theorem hasE_iff {s : List UInt8} {r : Rd} {c : UInt8} : hasE s r c = true ↔ r.nx s = some 92 ∧ s[r.at' + 1]? = some c := by
 simp [hasE]
theorem hasE_lt {s : List UInt8} {r : Rd} {c : UInt8} (h : hasE s r c = true) : r.bad = false ∧ r.at' + 2 ≤ s.length := by
 obtain ⟨h1, h2⟩ := hasE_iff.1 h
 obtain ⟨b1, b2, b3⟩ := nx_some h1
 have := (List.getElem?_eq_some_iff.1 h2).1
 exact ⟨b1, by omega⟩
theorem hasE_bad {s : List UInt8} {r : Rd} {c : UInt8} (h : r.bad = true) : hasE s r c = false := by simp [hasE, Rd.nx, h]
structure Gs (s : List UInt8) (r : Rd) (x : Nd × Rd) : Prop where
 le : r.at' ≤ x.2.at'
 in' : x.2.at' ≤ s.length
 gm : r.g ≤ x.2.g
 g9 : x.2.g ≤ 9
 sz' : sz x.1 ≤ 8 * (x.2.at' - r.at') + 3
def HB (s : List UInt8) (k : Nat) (rec : Rd → Nd × Rd) : Prop := ∀ r : Rd, r.bad = false → r.at' ≤ s.length → r.g ≤ 9 → 10 ≤ k + r.g → Gs s r (rec r)
theorem gd_groupB {s : List UInt8} {k : Nat} {rec : Rd → Nd × Rd} (H : HB s k rec) {r : Rd} (hr : r.at' + 2 ≤ s.length) (hb : r.bad = false) (h9 : r.g ≤ 9) (hk : 10 ≤ k + 1 + r.g) : Gd s 2 1 r (groupB s rec r) := by
 unfold groupB
 by_cases hg : r.g = 9
 ·rw [if_pos hg]; exact gd_fail (by omega) h9
 ·rw [if_neg hg]
  have G := H ⟨r.at' + 2, r.g + 1, r.bad⟩ hb (by simp only; omega) (by simp only; omega) (by simp only; omega)
  generalize rec ⟨r.at' + 2, r.g + 1, r.bad⟩ = x at G
  have g1 := G.le
  have g2 := G.in'
  have g3 := G.gm
  have g4 := G.g9
  have g5 := G.sz'
  simp only at g1 g3 g5 ⊢
  split
  ·rename_i hh
   obtain ⟨b1, b3⟩ := hasE_lt hh
   exact ⟨by simp only [Rd.go]; omega, by simp only [Rd.go]; omega, by simp only [Rd.go]; omega, g4, fun _ => ⟨by simp only [Rd.go]; omega, by simp only [Rd.go, sz_one]; omega⟩, fun q => by simp only [Rd.go] at q; rw [b1] at q; cases q⟩
  ·exact ⟨by simp only [Rd.fail]; omega, g2, by simp only [Rd.fail]; omega, g4, fun q => by simp [Rd.fail] at q, fun _ => by simp only [sz_z0]; omega⟩
theorem gd_escB {s : List UInt8} {r : Rd} (hr : r.at' < s.length) (hb : r.bad = false) (h9 : r.g ≤ 9) : Gd s 2 1 r (escB s r) := by
 unfold escB
 by_cases hl : r.at' + 1 < s.length
 ·rw [List.getElem?_eq_getElem hl]
  simp only
  have go : ∀ x : Nd, sz x = 1 → Gd s 2 1 r (x, r.go (r.at' + 2)) := fun x hx => ⟨by simp only [Rd.go]; omega, by simp only [Rd.go]; omega, Nat.le_refl _, h9, fun _ => ⟨by simp only [Rd.go]; omega, by simp only [Rd.go, hx]; omega⟩, fun q => by simp only [Rd.go] at q; rw [hb] at q; cases q⟩
  split
  ·exact go _ rfl
  ·split
   ·exact go _ rfl
   ·split
    ·exact go _ rfl
    ·exact gd_fail (by omega) h9
 ·rw [List.getElem?_eq_none (by omega)]
  exact gd_fail (by omega) h9
theorem gd_atomB {s : List UInt8} {k : Nat} {rec : Rd → Nd × Rd} (H : HB s k rec) {first : Bool} {r : Rd} (hr : r.at' < s.length) (hb : r.bad = false) (h9 : r.g ≤ 9) (hk : 10 ≤ k + 1 + r.g) : Gd s 2 1 r (atomB s rec first r) := by
 unfold atomB
 rw [List.getElem?_eq_getElem hr]
 simp only
 have go : ∀ (x : Nd) (n : Nat), sz x = 1 → r.at' < n → n ≤ s.length → Gd s 2 1 r (x, r.go n) := fun x n hx h1 h2 => ⟨by simp only [Rd.go]; omega, by simp only [Rd.go]; omega, Nat.le_refl _, h9, fun _ => ⟨by simp only [Rd.go]; omega, by simp only [Rd.go, hx]; omega⟩, fun q => by simp only [Rd.go] at q; rw [hb] at q; cases q⟩
 split
 ·rename_i hh; exact gd_groupB H (hasE_lt hh).2 hb h9 hk
 ·split
  ·exact gd_fail (by omega) h9
  ·split
   ·exact gd_escB hr hb h9
   ·split
    ·cases hbr : bracketS (s.drop (r.at' + 1)) with
     | none => exact gd_fail (by omega) h9
     | some x =>
      have := bracket_le _ _ hbr
      rw [List.length_drop] at this
      exact go _ _ rfl (by omega) (by omega)
    ·refine go _ _ ?_ (by omega) (by omega)
     unfold signB
     split
     ·rfl
     ·split
      ·rfl
      ·split <;> rfl
theorem closeB_lt {s : List UInt8} {q : Nat} (h : closeB s q = true) : q + 2 ≤ s.length := by
 simp only [closeB, Bool.and_eq_true, beq_iff_eq] at h
 have := (List.getElem?_eq_some_iff.1 h.2).1
 omega
theorem braB_go (s : List UInt8) (n : Nat) (y : Int × Int × Nat) (h : bracesB s n = some y) : n < y.2.2 ∧ y.2.2 ≤ s.length := by
 unfold bracesB at h
 simp only at h
 split at h
 ·cases h
 ·split at h
  ·split at h
   ·rename_i hc
    cases h
    have := closeB_lt hc.1
    exact ⟨by simp only; omega, by simp only; omega⟩
   ·cases h
  ·split at h
   ·rename_i hc
    cases h
    have := closeB_lt hc
    exact ⟨by simp only; omega, by simp only; omega⟩
   ·cases h
theorem timB_go (s : List UInt8) (r : Rd) (h : r.at' < s.length) (y : Int × Int × Nat) (hy : timesB s r = some y) : r.at' < y.2.2 ∧ y.2.2 ≤ s.length := by
 unfold timesB at hy
 split at hy
 ·cases hy; exact ⟨by simp only; omega, by simp only; omega⟩
 ·exact braB_go s _ y hy
theorem repB_some {s : List UInt8} {r : Rd} (h : isRepB s r = true) : r.bad = false ∧ r.at' < s.length := by
 simp only [isRepB, Bool.or_eq_true, beq_iff_eq] at h
 rcases h with h | h
 ·exact ⟨(nx_some h).1, (nx_some h).2.2⟩
 ·have := hasE_lt h; exact ⟨this.1, by omega⟩
theorem gd_repB {s : List UInt8} {r : Rd} {x : Nd × Rd} (G : Gd s 2 1 r x) : Gd s 2 1 r (repB s x.1 x.2) := by
 have g1 := G.le
 have g2 := G.in'
 have g3 := G.gm
 have g4 := G.g9
 have bad1 : ∀ n, r.at' ≤ n → n ≤ s.length → Gd s 2 1 r (z0, (x.2.go n).fail) := fun n h1 h2 => ⟨by simp only [Rd.fail, Rd.go]; omega, by simp only [Rd.fail, Rd.go]; omega, by simp only [Rd.fail, Rd.go]; omega, g4, fun q => by simp [Rd.fail] at q, fun _ => by simp only [sz_z0]; omega⟩
 have bad2 : Gd s 2 1 r (z0, x.2.fail) := by
  have := bad1 x.2.at' g1 g2
  exact this
 unfold repB
 split
 ·exact G
 ·rename_i hrep
  obtain ⟨b1, b3⟩ := repB_some (s := s) (r := x.2) (by simpa using hrep)
  obtain ⟨g5, g6⟩ := G.good b1
  split
  ·exact bad2
  ·cases hbd : timesB s x.2 with
   | none => exact bad2
   | some y =>
    have hy := timB_go s _ b3 y hbd
    simp only
    split
    ·exact bad1 _ (by omega) hy.2
    ·exact ⟨by simp only [Rd.go]; omega, by simp only [Rd.go]; omega, by simp only [Rd.go]; omega, g4, fun _ => ⟨by simp only [Rd.go]; omega, by simp only [Rd.go, sz_one]; omega⟩, fun q => by simp only [Rd.go] at q; rw [b1] at q; cases q⟩
theorem gd_pieceB {s : List UInt8} {k : Nat} {rec : Rd → Nd × Rd} (H : HB s k rec) {first : Bool} {r : Rd} (hr : r.at' < s.length) (hb : r.bad = false) (h9 : r.g ≤ 9) (hk : 10 ≤ k + 1 + r.g) : Gd s 2 1 r (pieceB s rec first r) := by
 have G := gd_atomB H (first := first) hr hb h9 hk
 unfold pieceB
 simp only
 split
 ·exact G
 ·exact gd_repB G
structure BJ (s : List UInt8) (r : Rd) (n : Nat) (first : Bool) (l : List Nd) (r2 : Rd) : Prop where
 n1 : 1 ≤ n
 le : r.at' ≤ r2.at'
 in' : r2.at' ≤ s.length
 gm : r.g ≤ r2.g
 g9 : r2.g ≤ 9
 fst : first = true → l = []
 good : r2.bad = false → s.length - r2.at' < n ∧ szs l + 2 * l.length ≤ 8 * (r2.at' - r.at')
 bad' : r2.bad = true → szs l ≤ 8 * (r2.at' - r.at') + 1
theorem bj_step {s : List UInt8} {k : Nat} {rec : Rd → Nd × Rd} (H : HB s k rec) {r r2 : Rd} {n : Nat} {first : Bool} {l : List Nd} (hk : 10 ≤ k + 1 + r.g) (b : BJ s r (n + 1) first l r2) (hs : overB s r2 = false) :
  r2.bad = false ∧ r2.at' < s.length ∧ Gd s 2 1 r2 (pieceB s rec first r2) ∧ BJ s r n false (l ++ [(pieceB s rec first r2).1]) (pieceB s rec first r2).2 := by
 obtain ⟨c, hc⟩ : ∃ c, r2.nx s = some c := by
  cases h : r2.nx s with
  | none => simp [overB, h] at hs
  | some c => exact ⟨c, rfl⟩
 obtain ⟨b1, b2, b3⟩ := nx_some hc
 have G := gd_pieceB H (first := first) b3 b1 b.g9 (by have := b.gm; omega)
 refine ⟨b1, b3, G, ?_⟩
 generalize pieceB s rec first r2 = x at G
 have g1 := G.le
 have g2 := G.in'
 have g3 := G.gm
 have g4 := G.g9
 have b4 := b.le
 have b5 := b.gm
 obtain ⟨b6, b7⟩ := b.good b1
 refine ⟨by omega, by omega, g2, by omega, g4, fun q => (nomatch q), fun q => ?_, fun q => ?_⟩
 ·obtain ⟨g5, g6⟩ := G.good q
  rw [szs_snoc, List.length_append]
  simp only [List.length_cons, List.length_nil]
  omega
 ·have := G.bad' q
  rw [szs_snoc]
  omega
theorem gs_seq {s : List UInt8} {k : Nat} {rec : Rd → Nd × Rd} (H : HB s k rec) {e : Nd} (he : sz e ≤ 1) {r : Rd} (hk : 10 ≤ k + 1 + r.g) : ∀ (n : Nat) (first : Bool) (l : List Nd) (r2 : Rd), BJ s r n first l r2 → Gs s r (seqB s rec e n first l r2)
 | 0, _, l, r2, b => by have := b.n1; omega
 | n + 1, first, l, r2, b => by
  have b4 := b.le
  have b3 := b.in'
  have b5 := b.gm
  have b9 := b.g9
  rw [seqB]
  split
  ·have hj := sz_join l
   refine ⟨b4, b3, b5, b9, ?_⟩
   simp only
   cases hb : r2.bad with
   | false => obtain ⟨g5, g6⟩ := b.good hb; omega
   | true => have := b.bad' hb; omega
  ·rename_i hst
   split
   ·exact ⟨b4, b3, b5, b9, by simp only; omega⟩
   ·have := bj_step H hk b (by simpa using hst)
    exact gs_seq H he hk n false _ _ this.2.2.2
theorem bj_0 (s : List UInt8) (r : Rd) (hb : r.bad = false) (hr : r.at' ≤ s.length) (h9 : r.g ≤ 9) : BJ s r (s.length + 1) true [] r :=
 ⟨by omega, Nat.le_refl _, hr, Nat.le_refl _, h9, fun _ => rfl, fun _ => ⟨by omega, by simp [szs]⟩, fun q => by rw [hb] at q; cases q⟩
theorem hb_par (s : List UInt8) {e : Nd} (he : sz e ≤ 1) : ∀ k, HB s k (parB s e k)
 | 0 => fun r hb hr h9 hk => by omega
 | k + 1 => fun r hb hr h9 hk => gs_seq (hb_par s he k) he (by omega) _ _ _ _ (bj_0 s r hb hr h9)
theorem par_e (s : List UInt8) (e e' : Nd) : ∀ k r, (parB s e k r).2 = (parB s e' k r).2 ∧ ((parB s e k r).2.bad = false → (parB s e k r).1 = (parB s e' k r).1)
 | 0, r => ⟨rfl, fun _ => rfl⟩
 | k + 1, r => by
  have ih := par_e s e e' k
  have hrec : ∀ r, groupB s (parB s e k) r = groupB s (parB s e' k) r := fun r => by
   unfold groupB
   obtain ⟨i1, i2⟩ := ih ⟨r.at' + 2, r.g + 1, r.bad⟩
   simp only [← i1]
   split
   ·rfl
   ·split
    ·rename_i hh
     rw [i2 (hasE_lt hh).1]
    ·rfl
  have hp : ∀ f r, pieceB s (parB s e k) f r = pieceB s (parB s e' k) f r := fun f r => by
   have ha : atomB s (parB s e k) f r = atomB s (parB s e' k) f r := by unfold atomB; rw [hrec]
   unfold pieceB; rw [ha]
  have hs : ∀ n f l r, (seqB s (parB s e k) e n f l r).2 = (seqB s (parB s e' k) e' n f l r).2 ∧ ((seqB s (parB s e k) e n f l r).2.bad = false → (seqB s (parB s e k) e n f l r).1 = (seqB s (parB s e' k) e' n f l r).1) := fun n => by
   induction n with
   | zero => exact fun _ _ _ => ⟨rfl, fun _ => rfl⟩
   | succ n ihn =>
    intro f l r
    rw [seqB, seqB]
    split
    ·exact ⟨rfl, fun _ => rfl⟩
    ·split
     ·exact ⟨rfl, fun q => by simp [Rd.fail] at q⟩
     ·simp only [hp]
      exact ihn ..
  exact hs ..
def parseB (e : Nd) (s : List UInt8) : Nd × Int × Int :=
 let x := parB s e 10 ⟨0, 0, false⟩
 if (x.2.bad || decide (x.2.at' < s.length)) = true then (z0, x.2.at', 10) else if formedB x.1 = true then (x.1, 0, 0) else (z0, s.length, 10)
theorem parseB_eq (e : Nd) (s : List UInt8) : parseB e s = if ((parB s e 10 ⟨0, 0, false⟩).2.bad || decide ((parB s e 10 ⟨0, 0, false⟩).2.at' < s.length)) = true then (z0, ((parB s e 10 ⟨0, 0, false⟩).2.at' : Int), 10) else if formedB (parB s e 10 ⟨0, 0, false⟩).1 = true then ((parB s e 10 ⟨0, 0, false⟩).1, 0, 0) else (z0, (s.length : Int), 10) := rfl
theorem parseB_e (e e' : Nd) (s : List UInt8) : parseB e s = parseB e' s := by
 obtain ⟨h1, h2⟩ := par_e s e e' 10 ⟨0, 0, false⟩
 rw [parseB_eq, parseB_eq, ← h1]
 cases hb : (parB s e 10 ⟨0, 0, false⟩).2.bad
 ·rw [h2 hb]
 ·simp
def parseBV (x : Nd × Int × Int) : MV := .tup [.agg (enc x.1), .int .i64 x.2.1, .int .i64 x.2.2]
end Go.Proofs.Tryz.E
