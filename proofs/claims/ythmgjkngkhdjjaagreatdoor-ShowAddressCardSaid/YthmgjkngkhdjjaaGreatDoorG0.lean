/- Walks: what the functions compute. -/
import Derived.Test.YthmgjkngkhdjjaaGreatDoorWE18
import Derived.Test.YthmgjkngkhdjjaaGreatDoorWE9
set_option linter.unusedVariables false
set_option linter.unusedSimpArgs false
/- Readers of patterns: words for both kinds. -/
namespace Go.Proofs.Tryz.E
open Go.Mv
set_option maxHeartbeats 4000000
set_option maxRecDepth 20000
def isS (t : List UInt8) (o : Option UInt8) : Bool := match o with
 | some c => t.contains c
 | none => false
theorem isS_some (t : List UInt8) (c : UInt8) : isS t (some c) = t.contains c := rfl
theorem isS_none (t : List UInt8) : isS t none = false := rfl
def numG (n : Int) : List UInt8 → Int
 | [] => n
 | b :: l => numG (if 256 < 10 * (if 0 > n then 0 else n) + ((b.toNat : Int) - 48) then 256 else 10 * (if 0 > n then 0 else n) + ((b.toNat : Int) - 48)) l
theorem dig_is (b : UInt8) : ([48, 49, 50, 51, 52, 53, 54, 55, 56, 57] : List UInt8).contains b = dig b := by
 have : ∀ n : Fin 256, ([48, 49, 50, 51, 52, 53, 54, 55, 56, 57] : List UInt8).contains (UInt8.ofNat n) = dig (UInt8.ofNat n) := by decide
 have h := this ⟨b.toNat, UInt8.toNat_lt b⟩
 simpa using h
theorem wru8 (x : Int) (h : 0 ≤ x) (h2 : x < 256) : IntKind.u8.wrap x = x := by
 have : IntKind.u8.wrap x = x % 256 := by
  simp only [IntKind.wrap, IntKind.bits, IntKind.signed]
  simp
 rw [this]
 omega
theorem digs_at (s : List UInt8) (n : Nat) : digsAt s n = match s[n]? with
  | some b => if dig b = true then b :: digsAt s (n + 1) else []
  | none => [] := by
 unfold digsAt
 by_cases h : n < s.length
 ·rw [List.getElem?_eq_getElem h, List.drop_eq_getElem_cons h, List.takeWhile_cons]
 ·rw [List.getElem?_eq_none (by omega), List.drop_eq_nil_of_le (by omega)]
  rfl
theorem digs_dig (s : List UInt8) (n : Nat) : ∀ b ∈ digsAt s n, dig b = true := fun b hb => by
 unfold digsAt at hb
 have : ∀ (l : List UInt8), b ∈ l.takeWhile dig → dig b = true := fun l => by
  induction l with
  | nil => intro h; cases h
  | cons x l ih =>
   intro h
   rw [List.takeWhile_cons] at h
   split at h
   ·rename_i hx
    rcases List.mem_cons.1 h with rfl | h
    ·exact hx
    ·exact ih h
   ·cases h
 exact this _ hb
theorem digs_len (s : List UInt8) (n : Nat) : (digsAt s n).length ≤ s.length - n := by
 have : ∀ (l : List UInt8), (l.takeWhile dig).length ≤ l.length := fun l => by
  induction l with
  | nil => simp
  | cons x l ih => rw [List.takeWhile_cons]; split <;> simp <;> omega
 have h := this (s.drop n)
 rw [List.length_drop] at h
 exact h
theorem numG_min : ∀ (l : List UInt8) (v : Nat), (∀ b ∈ l, dig b = true) → numG ((min v 256 : Nat) : Int) l = ((min (l.foldl (fun n b => 10 * n + (b.toNat - 48)) v) 256 : Nat) : Int)
 | [], v, _ => rfl
 | b :: l, v, h => by
  have hb := h b (List.mem_cons_self ..)
  simp only [dig, Bool.and_eq_true, decide_eq_true_eq] at hb
  rw [numG, List.foldl_cons, ← numG_min l _ fun x hx => h x (List.mem_cons_of_mem _ hx)]
  congr 1
  have h0 : ¬ (0 > ((min v 256 : Nat) : Int)) := by omega
  simp only [h0, if_false]
  split <;> omega
theorem numG_val (l : List UInt8) (hl : ∀ b ∈ l, dig b = true) (hne : l ≠ []) : numG (-1) l = ((min (numV l) 256 : Nat) : Int) := by
 match l, hne with
 | b :: l, _ =>
  have := numG_min (b :: l) 0 hl
  rw [numV, ← this]
  rfl
theorem go_go (r : Rd) (a b : Nat) : (r.go a).go b = r.go b := rfl
theorem go_at (r : Rd) (a : Nat) : (r.go a).at' = a := rfl
theorem go_nx (s : List UInt8) (r : Rd) (a : Nat) (h : r.bad = false) : (r.go a).nx s = s[a]? := by simp [Rd.nx, Rd.go, h]
theorem sz_z0 : sz z0 = 1 := rfl
theorem sz_one (k c s0 s1 s2 s3 n mn mx : Int) (x : Nd) : sz (.mk k c s0 s1 s2 s3 n mn mx [x]) = 1 + sz x := by simp [sz, szs]
structure Gd (s : List UInt8) (a b : Nat) (r : Rd) (x : Nd × Rd) : Prop where
 le : r.at' ≤ x.2.at'
 in' : x.2.at' ≤ s.length
 gm : r.g ≤ x.2.g
 g9 : x.2.g ≤ 9
 good : x.2.bad = false → r.at' < x.2.at' ∧ sz x.1 + a ≤ 8 * (x.2.at' - r.at')
 bad' : x.2.bad = true → sz x.1 ≤ 8 * (x.2.at' - r.at') + b
theorem nx_some {s : List UInt8} {r : Rd} {c : UInt8} (h : r.nx s = some c) : r.bad = false ∧ s[r.at']? = some c ∧ r.at' < s.length := by
 unfold Rd.nx at h
 split at h
 ·cases h
 ·rename_i hb
  refine ⟨by simpa using hb, h, ?_⟩
  rcases Nat.lt_or_ge r.at' s.length with h2 | h2
  ·exact h2
  ·rw [List.getElem?_eq_none h2] at h; cases h
theorem gd_fail {s : List UInt8} {b : Nat} {r : Rd} (h : r.at' ≤ s.length) (h9 : r.g ≤ 9) : Gd s 2 (b + 1) r (z0, r.fail) :=
 ⟨Nat.le_refl _, h, Nat.le_refl _, h9, fun q => by simp [Rd.fail] at q, fun _ => by simp only [sz_z0]; omega⟩
theorem members_le : ∀ (f : Nat) (first : Bool) (acc : List Int) (t : List UInt8) (x : List Int × Nat), acc.length = 4 → membersS f first acc t = some x → x.2 + 1 ≤ t.length ∧ x.1.length = 4
 | 0, _, _, _, _, _, h => by cases h
 | f + 1, first, acc, t, x, ha, h => by
  rw [membersS] at h
  split at h
  ·rename_i hc
   cases h
   simp only [Bool.and_eq_true] at hc
   have := pre_le hc.2
   simp at this
   exact ⟨by simp only; omega, ha⟩
  ·obtain ⟨y, hy, h⟩ := Option.bind_eq_some_iff.1 h
   obtain ⟨z, hz, e⟩ := Option.map_eq_some_iff.1 h
   have h1 := member_le _ _ hy
   have h2 := members_le f _ _ _ z (orS4 ha h1.2.2) hz
   rw [List.length_drop] at h2
   cases e
   exact ⟨by simp only; omega, h2.2⟩
theorem bracket_le (t : List UInt8) (x : List Int × Nat) (h : bracketS t = some x) : 2 ≤ x.2 ∧ x.2 ≤ t.length + 1 ∧ x.1.length = 4 := by
 unfold bracketS at h
 split at h
 ·rename_i hc
  obtain ⟨y, hy, e⟩ := Option.map_eq_some_iff.1 h
  have h1 := members_le _ _ _ _ y rfl hy
  rw [List.length_drop] at h1
  cases e
  exact ⟨by simp only; omega, by simp only; omega, by rw [notS_len]; exact h1.2⟩
 ·obtain ⟨y, hy, e⟩ := Option.map_eq_some_iff.1 h
  have h1 := members_le _ _ _ _ y rfl hy
  cases e
  exact ⟨by simp only; omega, by simp only; omega, h1.2⟩
theorem szj (f : List Nd) : sz (joinF f) ≤ 1 + szs f := by
 unfold joinF
 split
 ·simp [szs]
 ·simp [nd, sz]
theorem sze (f : List Nd) : sz (eitherF f) ≤ 1 + szs f := by
 unfold eitherF
 split
 ·simp [nd, sz, szs]
 ·simp [szs]
 ·simp [nd, sz]
theorem sz_join (l : List Nd) : sz (joinN l) ≤ 1 + szs l := by
 have h1 := szj (flatL 8 l)
 have h2 := flatL_sz 8 l
 unfold joinN; omega
theorem sz_either (l : List Nd) : sz (eitherN l) ≤ 1 + szs l := by
 have h1 := sze (flatL 9 l)
 have h2 := flatL_sz 9 l
 unfold eitherN; omega
theorem szs_snoc (l : List Nd) (x : Nd) : szs (l ++ [x]) = szs l + sz x := by rw [szs_app]; simp [szs]
theorem own_arg {s : Sto} {d : Nat} {v : MV} {acc : List Nd} (h : Own s d v acc) : v.arg = .sl .no (encs acc) := by
 rcases h with ⟨rfl, rfl⟩ | ⟨c, rfl, _, _⟩ <;> rfl
theorem own_len {s : Sto} {d : Nat} {v : MV} {acc : List Nd} (h : Own s d v acc) : lenT (.slice 40) v = some (.int .i64 acc.length) := by
 rcases h with ⟨rfl, rfl⟩ | ⟨c, rfl, _, _⟩
 ·rfl
 ·simp only [lenT, encs_len]
theorem nx_bad {s : List UInt8} {r : Rd} (h : r.bad = true) : r.nx s = none := by simp [Rd.nx, h]
theorem idxB_in : ∀ (t : List UInt8) (c : UInt8), decide (0 ≤ idxB t c.toNat) = t.contains c
 | [], c => rfl
 | b :: t, c => by
  have ih := idxB_in t c
  rw [List.contains_cons, ← ih]
  by_cases h : (b.toNat : Int) = (c.toNat : Int)
  ·have hcb : c = b := UInt8.toNat_inj.1 (by omega)
   subst hcb
   have hv : idxB (c :: t) c.toNat = 0 := by simp [idxB]
   simp [hv]
  ·have hne : (c == b) = false := by rw [beq_eq_false_iff_ne]; rintro rfl; exact h rfl
   by_cases h2 : idxB t c.toNat < 0
   ·have hv : idxB (b :: t) c.toNat = -1 := by simp [idxB, h, h2]
    have h3 : ¬ (0 ≤ idxB t c.toNat) := by omega
    simp [hv, hne, h3]
   ·have hv : idxB (b :: t) c.toNat = idxB t c.toNat + 1 := by simp [idxB, h, h2]
    have h3 : (0 ≤ idxB t c.toNat) := by omega
    have h4 : (0 ≤ idxB t c.toNat + 1) := by omega
    simp [hv, hne, h3, h4]
theorem wh67 (t : List UInt8) (c : UInt8) (lim d : Nat) (σ : Sto) {Q : MV → Sto → Prop} (hq : Q (.int .i64 (idxB t c.toNat)) σ) : WFh X lim d 136 [.str t, .int .u8 c.toNat] σ (TagF Q) := by
 rw [← WF_h, WF_prim (p := idxByteP) rfl]
 have := c.toNat_lt
 exact ⟨(.int .i64 (idxB t c.toNat), σ), by simp only [idxByteP]; rw [if_pos (by omega)], hq⟩
theorem w55 (t : List UInt8) (c : UInt8) (lim d : Nat) (σ : Sto) (hu : σ.Und d) : Ret lim d 120 [.str t, .int .u8 c.toNat] σ (.int .i64 (idxB t c.toNat)) σ := by
 unfold Ret
 rw [WF_body (C := X) rfl func120 rfl (by kernel_rfl)]; simp only [results120]
 simp -implicitDefEqProofs -dsimp only [go_sem]
 refine wh67 t c lim (d + 1) _ ?_
 simp -implicitDefEqProofs -dsimp only [go_sem, cut_und _ _ hu]
theorem w41 (t : List UInt8) (c : UInt8) (lim d : Nat) (σ : Sto) (hu : σ.Und d) : Ret lim d 100 [.str t, .int .u8 c.toNat] σ (.int .i64 (idxB t c.toNat)) σ := by
 unfold Ret
 rw [WF_body (C := X) rfl func100 rfl (by kernel_rfl)]; simp only [results100]
 simp -implicitDefEqProofs -dsimp only [go_sem]
 refine (w55 t c lim (d + 1) _ (und_succ hu)).wh ?_
 simp -implicitDefEqProofs -dsimp only [go_sem, cut_und _ _ hu]
theorem has_one (s : List UInt8) (r : Rd) (hr : r.at' ≤ s.length) (b : UInt8) : (!r.bad && preS (s.drop r.at') [b]) = (r.nx s == some b) := by
 unfold Rd.nx
 cases r.bad
 ·simp only [Bool.not_false, Bool.true_and, Bool.false_eq_true, if_false]
  by_cases h : r.at' < s.length
  ·rw [List.drop_eq_getElem_cons h, pre_one, List.getElem?_eq_getElem h]
   rw [Bool.eq_iff_iff]; simp
  ·rw [List.drop_eq_nil_of_le (by omega), pre_nil _ (by simp), List.getElem?_eq_none (by omega)]
   rfl
 ·simp
theorem isS_one (b : UInt8) (o : Option UInt8) : isS [b] o = (o == some b) := by
 cases o with
 | none => rfl
 | some c =>
  simp only [isS, List.contains_cons, List.contains_nil, Bool.or_false]
  rw [Bool.eq_iff_iff]; simp
theorem isS_nx {s : List UInt8} {r : Rd} {b : UInt8} (h : (r.nx s == some b) = true) : r.nx s = some b := by simpa using h
theorem w68 (t : List UInt8) (c : UInt8) (ht : t.length ≤ 1000) (lim d : Nat) (σ : Sto) (hu : σ.Und d) : Ret lim d 148 [.str t, .int .u8 c.toNat] σ (.bool (t.contains c)) σ := by
 have hun := und_succ hu
 unfold Ret
 rw [WF_body (C := X) rfl func148 rfl (by kernel_rfl)]; simp only [results148]
 simp -implicitDefEqProofs -dsimp only [go_sem]
 refine loop_h (I := fun f a s' => ∃ i : Nat, f + i = t.length ∧ a 0 = .str t ∧ a 1 = .int .u8 c.toNat ∧ a 7 = .int .i64 t.length ∧ a 8 = .int .i64 i ∧ s'.cut d = σ ∧ (t.drop i).contains c = t.contains c) ?_ t.length _ _ ?_
 ·rintro f a s' ⟨i, hf, a0, a1, a7, a8, hcut, hct⟩
  by_cases hi : i < t.length
  ·have e1 : ((i : Int) < (t.length : Int)) := by omega
   have gi : t[i]? = some t[i] := List.getElem?_eq_getElem hi
   have x1 := wr64 ((i : Int) + 1) (by omega) (by omega)
   have hu8 := u8b t[i] c
   rw [List.drop_eq_getElem_cons hi, List.contains_cons] at hct
   cases hb : t[i] == c
   ·have hb2 : (c == t[i]) = false := by rw [beq_eq_false_iff_ne] at hb ⊢; exact fun h => hb h.symm
    rw [hb2, Bool.false_or] at hct
    simp -implicitDefEqProofs -dsimp only [go_sem, a0, a1, a7, a8, e1, gi, hu8, hb, x1]
    exact ⟨f - 1, by omega, i + 1, by omega, rfl, hcut, hct⟩
   ·have hb2 : (c == t[i]) = true := by rw [beq_iff_eq] at hb ⊢; exact hb.symm
    rw [hb2, Bool.true_or] at hct
    simp -implicitDefEqProofs -dsimp only [go_sem, a0, a1, a7, a8, e1, gi, hu8, hb, ← hct, hcut]
  ·have e1 : ¬ ((i : Int) < (t.length : Int)) := by omega
   rw [List.drop_eq_nil_of_le (by omega)] at hct
   simp -implicitDefEqProofs -dsimp only [go_sem, a7, a8, e1, ← hct, hcut, List.contains_nil]
 ·exact ⟨0, by omega, rfl, rfl, rfl, rfl, cut_und _ _ hu, rfl⟩
def numH (n : Int) : List UInt8 → Int
 | [] => n
 | b :: l => numH (if 1000 < n * 10 + ((b.toNat : Int) - 48) then 1000 else n * 10 + ((b.toNat : Int) - 48)) l
theorem numH_min : ∀ (l : List UInt8) (v : Nat), (∀ b ∈ l, dig b = true) → numH ((min v 1000 : Nat) : Int) l = ((min (l.foldl (fun n b => 10 * n + (b.toNat - 48)) v) 1000 : Nat) : Int)
 | [], v, _ => rfl
 | b :: l, v, h => by
  have hb := h b (List.mem_cons_self ..)
  simp only [dig, Bool.and_eq_true, decide_eq_true_eq] at hb
  rw [numH, List.foldl_cons, ← numH_min l _ fun x hx => h x (List.mem_cons_of_mem _ hx)]
  congr 1
  split <;> omega
def dgV (s : List UInt8) (n : Nat) : MV := .tup [.int .i64 (if digsAt s n = [] then -1 else if 255 < numV (digsAt s n) then -2 else (numV (digsAt s n) : Int)), .int .i64 (n + (digsAt s n).length : Nat)]
theorem w72 (s : List UInt8) (n : Nat) (hs : s.length ≤ 1000000) (hn : n ≤ s.length) (lim d : Nat) (σ : Sto) (hu : σ.Und d) : Ret lim d 152 [.str s, .int .i64 n] σ (dgV s n) σ := by
 have hA := digs_len s n
 have hAd := digs_dig s n
 have hfin := numH_min (digsAt s n) 0 hAd
 unfold Ret
 rw [WF_body (C := X) rfl func152 rfl (by kernel_rfl)]; simp only [results152]
 refine seq_cut (P := fun a s' => a 0 = .str s ∧ a 1 = .int .i64 n ∧ s'.cut d = σ) ?_ ?_
 rotate_left
 ·simp -implicitDefEqProofs -dsimp only [go_sem, cut_und _ _ hu]
 rintro a s' ⟨a0, a1, hcut⟩
 refine seq_cut (P := fun a s' => a 0 = .str s ∧ a 1 = .int .i64 n ∧ a 6 = .int .i64 0 ∧ a 7 = .int .i64 n ∧ s'.cut d = σ) ?_ ?_
 rotate_left
 ·simp -implicitDefEqProofs -dsimp only [go_sem, a0, a1, hcut]
 rintro a s' ⟨a0, a1, a6, a7, hcut⟩
 refine seq_cut (P := fun a s' => a 1 = .int .i64 (n + (digsAt s n).length : Nat) ∧ a 6 = .int .i64 ((min (numV (digsAt s n)) 1000 : Nat) : Int) ∧ a 7 = .int .i64 n ∧ s'.cut d = σ) ?_ ?_
 rotate_left
 ·simp -implicitDefEqProofs -dsimp only [go_sem]
  refine loop_h (I := fun f a s' => ∃ (m : Nat) (v : Int), m ≤ s.length ∧ f + m = s.length ∧ a 0 = .str s ∧ a 1 = .int .i64 m ∧ a 6 = .int .i64 v ∧ a 7 = .int .i64 n ∧ 0 ≤ v ∧ v ≤ 1000 ∧ s'.cut d = σ ∧ numH v (digsAt s m) = numH 0 (digsAt s n) ∧ m + (digsAt s m).length = n + (digsAt s n).length) ?_ (s.length - n) _ _ ?_
  ·rintro f a s' ⟨m, v, hm, hf, a0, a1, a6, a7, v1, v2, hcut, hnum, hlen⟩
   have done : digsAt s m = [] → n + (digsAt s n).length = m ∧ ((min (numV (digsAt s n)) 1000 : Nat) : Int) = v := fun h => by
    rw [h] at hnum hlen
    refine ⟨by simpa using hlen.symm, ?_⟩
    rw [numV, ← hfin]
    exact hnum.symm
   rw [digs_at] at hnum hlen
   have hdm := digs_at s m
   by_cases hlt : m < s.length
   ·have e1 : ((m : Int) < (s.length : Int)) := by omega
    have gm : s[m]? = some s[m] := List.getElem?_eq_getElem hlt
    rw [gm] at hnum hlen hdm
    simp only at hnum hlen hdm
    generalize s[m] = b at gm hnum hlen hdm
    cases hd : dig b
    ·obtain ⟨d1, d2⟩ := done (by rw [hdm, hd]; rfl)
     simp only [dig, Bool.and_eq_false_iff, decide_eq_false_iff_not] at hd
     by_cases h48 : 48 ≤ b.toNat
     ·have e2 : ((48 : Int) ≤ (b.toNat : Int)) := by omega
      have e3 : ¬ ((b.toNat : Int) ≤ 57) := by omega
      simp -implicitDefEqProofs -dsimp only [go_sem, a0, a1, a6, a7, e1, gm, e2, e3, d1, d2, hcut]
     ·have e2 : ¬ ((48 : Int) ≤ (b.toNat : Int)) := by omega
      simp -implicitDefEqProofs -dsimp only [go_sem, a0, a1, a6, a7, e1, gm, e2, d1, d2, hcut]
    ·have hdig := hd
     simp only [dig, Bool.and_eq_true, decide_eq_true_eq] at hdig
     rw [hd] at hnum hlen
     simp only [if_true, numH, List.length_cons] at hnum hlen
     have e2 : ((48 : Int) ≤ (b.toNat : Int)) := by omega
     have e3 : ((b.toNat : Int) ≤ 57) := by omega
     have x1 := wr64 ((m : Int) + 1) (by omega) (by omega)
     have x2 := wru8 ((b.toNat : Int) - 48) (by omega) (by omega)
     have x3 := wr64 ((b.toNat : Int) - 48) (by omega) (by omega)
     have x4 := wr64 (v * 10) (by omega) (by omega)
     have x5 := wr64 (v * 10 + ((b.toNat : Int) - 48)) (by omega) (by omega)
     simp -implicitDefEqProofs -dsimp only [go_sem, a0, a1, a6, a7, e1, gm, e2, e3, x1, x2, x3, x4, x5]
     refine ⟨f - 1, by omega, m + 1, _, by omega, by omega, rfl, rfl, ?_, ?_, hcut, hnum, by omega⟩
     ·split <;> omega
     ·split <;> omega
   ·have e1 : ¬ ((m : Int) < (s.length : Int)) := by omega
    have gm : s[m]? = none := List.getElem?_eq_none (by omega)
    rw [gm] at hdm
    obtain ⟨d1, d2⟩ := done hdm
    simp -implicitDefEqProofs -dsimp only [go_sem, a0, a1, a6, a7, e1, d1, d2, hcut]
  ·exact ⟨n, 0, hn, by omega, a0, a1, a6, a7, by omega, by omega, hcut, rfl, rfl⟩
 rintro a s' ⟨a1, a6, a7, hcut⟩
 unfold dgV
 generalize digsAt s n = A at hA hAd a1 a6
 by_cases hA0 : A = []
 ·subst hA0
  have e1 : (((n + ([] : List UInt8).length : Nat) : Int) == (n : Int)) = true := by simp
  simp -implicitDefEqProofs -dsimp only [go_sem, a1, a7, hcut]
 ·have hl : A.length ≠ 0 := fun h => hA0 (List.length_eq_zero_iff.1 h)
  have e1 : (((n + A.length : Nat) : Int) == (n : Int)) = false := by rw [beq_eq_false_iff_ne]; omega
  by_cases hb : 255 < numV A
  ·have e2 : ((255 : Int) < ((min (numV A) 1000 : Nat) : Int)) := by omega
   simp -implicitDefEqProofs -dsimp only [go_sem, a1, a6, a7, e1, e2, hcut, hA0, hb]
  ·have e2 : ¬ ((255 : Int) < ((min (numV A) 1000 : Nat) : Int)) := by omega
   have e3 : ((min (numV A) 1000 : Nat) : Int) = (numV A : Int) := by omega
   rw [e3] at a6 e2
   simp -implicitDefEqProofs -dsimp only [go_sem, a1, a6, a7, e1, e2, hcut, hA0, hb]
def timV (o : Option (Int × Int × Nat)) : MV := match o with
 | some x => .tup [.int .i64 x.1, .int .i64 x.2.1, .int .i64 x.2.2, .bool true]
 | none => .tup [.int .i64 0, .int .i64 0, .int .i64 0, .bool false]
theorem timV_some (x : Int × Int × Nat) : timV (some x) = .tup [.int .i64 x.1, .int .i64 x.2.1, .int .i64 x.2.2, .bool true] := rfl
theorem timV_none : timV none = .tup [.int .i64 0, .int .i64 0, .int .i64 0, .bool false] := rfl
theorem dgV_eq (s : List UInt8) (n : Nat) : dgV s n = .tup [.int .i64 (if digsAt s n = [] then -1 else if 255 < numV (digsAt s n) then -2 else (numV (digsAt s n) : Int)), .int .i64 (n + (digsAt s n).length : Nat)] := rfl
theorem one_at (s : List UInt8) (n : Nat) (b : UInt8) : ((s.drop n).take 1 == [b]) = (s[n]? == some b) := by
 by_cases h : n < s.length
 ·rw [List.drop_eq_getElem_cons h, List.getElem?_eq_getElem h]
  simp only [List.take_succ_cons, List.take_zero]
  rw [Bool.eq_iff_iff]; simp
 ·rw [List.drop_eq_nil_of_le (by omega), List.getElem?_eq_none (by omega)]
  rfl
theorem fail_bad {r : Rd} (h : r.bad = true) : r.fail = r := by cases r; simp only at h; subst h; rfl
theorem own_lenQ {s : Sto} {d : Nat} {v : MV} {acc : List Nd} (h : Own s d v acc) : lenT (.slice 27) v = some (.int .i64 acc.length) := by
 rcases h with ⟨rfl, rfl⟩ | ⟨c, rfl, _, _⟩
 ·rfl
 ·simp only [lenT, encs_len]
end Go.Proofs.Tryz.E
