/- Walks: what the functions compute. Walks: what the functions compute. Walks: what the functions compute. Walks: what the functions compute. Walks: what the functions compute. -/
import Derived.Test.YthmgjkngkhdjjaaGreatDoorC4
import Derived.Test.YthmgjkngkhdjjaaGreatDoorWA0
import Derived.Test.YthmgjkngkhdjjaaGreatDoorWA5
import Derived.Test.YthmgjkngkhdjjaaGreatDoorWE32
import Derived.Test.YthmgjkngkhdjjaaGreatDoorWB1
import Derived.Test.YthmgjkngkhdjjaaGreatDoorWC0
set_option linter.unusedVariables false
set_option linter.unusedSimpArgs false
/- The other reader, of basic patterns: all of a pattern; any text is read, or refused. -/
namespace Go.Proofs.Tryz.E
open Go.Mv
set_option maxHeartbeats 4000000
set_option maxRecDepth 20000
def pk (x : Nd) : Prop := x.kind ≠ 8 ∧ x.kind ≠ 9
theorem pk_z0 : pk z0 := by simp [pk, z0, Nd.kind]
theorem pk_lit (c : Int) : pk (lit c) := by simp [pk, lit, Nd.kind]
theorem pk_atom (s : List UInt8) (rec : Rd → Nd × Rd) (f : Bool) (r : Rd) : pk (atomB s rec f r).1 := by
 unfold atomB
 split
 ·exact pk_z0
 ·split
  ·unfold groupB
   split
   ·exact pk_z0
   ·simp only
    split
    ·simp [pk, Nd.kind]
    ·exact pk_z0
  ·split
   ·exact pk_z0
   ·split
    ·unfold escB
     split
     ·exact pk_z0
     ·split
      ·simp [pk, Nd.kind]
      ·split
       ·exact pk_lit _
       ·split
        ·exact pk_lit _
        ·exact pk_z0
    ·split
     ·split
      ·exact pk_z0
      ·simp [pk, inN, Nd.kind]
     ·unfold signB
      split
      ·simp [pk, nd, Nd.kind]
      ·split
       ·simp [pk, nd, Nd.kind]
       ·split
        ·simp [pk, nd, Nd.kind]
        ·exact pk_lit _
theorem pk_rep (s : List UInt8) (y : Nd) (r : Rd) (h : pk y) : pk (repB s y r).1 := by
 unfold repB
 split
 ·exact h
 ·split
  ·exact pk_z0
  ·split
   ·exact pk_z0
   ·split
    ·exact pk_z0
    ·simp [pk, Nd.kind]
theorem pk_piece (s : List UInt8) (rec : Rd → Nd × Rd) (f : Bool) (r : Rd) : pk (pieceB s rec f r).1 := by
 unfold pieceB
 simp only
 split
 ·exact pk_atom s rec f r
 ·exact pk_rep s _ _ (pk_atom s rec f r)
theorem flat8 : ∀ (l : List Nd), (∀ x ∈ l, pk x) → flatL 8 l = l
 | [], _ => rfl
 | x :: l, h => by
  rw [flatL, flat8 l fun y hy => h y (List.mem_cons_of_mem _ hy), if_neg (h x (List.mem_cons_self ..)).1]
  rfl
theorem join_kind (l : List Nd) (h : ∀ x ∈ l, pk x) : (joinN l).kind ≠ 9 := by
 unfold joinN
 rw [flat8 l h]
 unfold joinF
 split
 ·rename_i x; exact (h x (List.mem_cons_self ..)).2
 ·simp [nd, Nd.kind]
theorem seq_kind (s : List UInt8) (rec : Rd → Nd × Rd) (e : Nd) (he : e.kind ≠ 9) : ∀ (n : Nat) (f : Bool) (l : List Nd) (r : Rd), (∀ x ∈ l, pk x) → (seqB s rec e n f l r).1.kind ≠ 9
 | 0, _, _, _, _ => by simp [seqB, z0, Nd.kind]
 | n + 1, f, l, r, h => by
  rw [seqB]
  split
  ·exact join_kind l h
  ·split
   ·exact he
   ·refine seq_kind s rec e he n false _ _ fun x hx => ?_
    rcases List.mem_append.1 hx with hx | hx
    ·exact h x hx
    ·rw [List.mem_singleton.1 hx]; exact pk_piece ..
theorem either_one (x : Nd) (h : x.kind ≠ 9) : eitherN [x] = x := by
 unfold eitherN
 rw [show flatL 9 [x] = [x] by simp [flatL, h]]
 rfl
section
variable {s : List UInt8} {k : Nat} {rec : Rd → Nd × Rd} (H : HB s k rec) (K : HT s k rec)
include H K
theorem v22 (r : Rd) (hs : s.length ≤ 100000) (hr : r.at' ≤ s.length) (hb : r.bad = false) (h9 : r.g ≤ 9) (hk : 10 ≤ k + 1 + r.g) (p : Mv.Loc) (lim d : Nat) (hp : p.d < d) (hlim : lim ≤ p.d) (σ : Sto) (hu : σ.Und d) (ho : σ.ob p = some (encT s r)) :
  Ret lim d 68 [.ptr p 0] σ (.agg (enc (seqB s rec z0 (s.length + 1) true [] r).1)) (σ.set p (encT s (seqB s rec z0 (s.length + 1) true [] r).2)) := by
 have hun := und_succ hu
 have hne := ne_my hp
 have hmy := my_ne hp
 have hp1 := Nat.lt_succ_of_lt hp
 have hun1 : ∀ (t c : Nat) (cs : List MV), ((σ.set ⟨d, t, c⟩ cs).tick d).Und (d + 1) := fun t c cs => by simp only [u_tick, u_mine]; exact hun
 have hob1 : ∀ (t c : Nat) (cs : List MV), ((σ.set ⟨d, t, c⟩ cs).tick d).ob p = some (encT s r) := fun t c cs => by simp only [go_sem, hne, if_false]; exact ho
 have hkd := seq_kind s rec z0 (by simp [z0, Nd.kind]) (s.length + 1) true [] r (by simp)
 have G := gs_seq H (e := z0) (by simp [sz_z0]) hk (s.length + 1) true [] r (bj_0 s r hb hr h9)
 unfold Ret
 rw [WF_body (C := X) rfl func68 rfl (by kernel_rfl)]; simp only [results68]
 simp -implicitDefEqProofs -dsimp only [go_sem]
 refine (v32 H K r hs hr hb h9 hk p lim (d + 1) hp1 hlim _ (hun1 ..) (hob1 ..)).wh ?_
 generalize seqB s rec z0 (s.length + 1) true [] r = x at hkd G
 have g2 := G.sz'
 have g3 := G.in'
 simp -implicitDefEqProofs -dsimp only [go_sem]
 refine loop_h (I := fun n a s' => n = 0 ∧ a 0 = .ptr p 0 ∧ a 2 = .ptr ⟨d, 2, σ.ct d⟩ 0 ∧ (a 3).arg = .sl .no (encs [x.1]) ∧ s'.ob p = some (encT s x.2) ∧ (∃ z, s'.ob ⟨d, 2, σ.ct d⟩ = some z ∧ z.length = 10) ∧ s'.cut d = σ.set p (encT s x.2) ∧ s'.Und (d + 1)) ?_ 0 _ _ ?_
 ·rintro n a s' ⟨rfl, a0, a2, a3, hop, ⟨z, hz, hzl⟩, hcut, hus⟩
  have hput : ∀ x, putC z (enc x) 0 = enc x := fun x => putC_whole _ _ (by rw [hzl, enc_len])
  have hop3 := hop
  rw [encT_eq] at hop3
  simp -implicitDefEqProofs -dsimp only [go_sem, a0, hop3, a3]
  refine (w34 [x.1] (by simp [szs]; omega) lim (d + 1) _ (by omega) hus).wh ?_
  rw [either_one _ hkd]
  simp -implicitDefEqProofs -dsimp only [go_sem, a2, hz, hzl, hput, hcut]
 ·refine ⟨rfl, rfl, rfl, rfl, ?_, ⟨[.int .i64 0, .int .u8 0, .int .u64 0, .int .u64 0, .int .u64 0, .int .u64 0, .int .i64 0, .int .i64 0, .int .i64 0, .sl .nil []], ?_, rfl⟩, ?_, ?_⟩
  ·simp only [go_sem, hne, if_true, if_false]
  ·simp only [go_sem, hmy, if_true, if_false]
  ·simp only [go_sem, cut_set _ _ _ _ hp, cut_und _ _ hu]
  ·simp only [u_tick, u_own, u_set _ _ _ _ hp1, u_mine]; exact hun
theorem ht_step (hs : s.length ≤ 100000) : HT s (k + 1) (seqB s rec z0 (s.length + 1) true []) := fun r hb hr h9 hk lim d p σ hp hlim hu ho => v22 H K r hs hr hb h9 (by omega) p lim d hp hlim σ hu ho
end
theorem ht_par (s : List UInt8) (hs : s.length ≤ 100000) : ∀ k, HT s k (parB s z0 k)
 | 0 => fun r hb hr h9 hk => by omega
 | k + 1 => ht_step (hb_par s (by simp [sz_z0]) k) (ht_par s hs k) hs
theorem v9 (s : List UInt8) (hs : s.length ≤ 100000) (lim d : Nat) (hlim : lim ≤ d) (σ : Sto) (hu : σ.Und d) : Ret lim d 50 [.str s, .bool false] σ (parseBV (parseB z0 s)) σ := by
 have hun := und_succ hu
 have G := hb_par s (e := z0) (by simp [sz_z0]) 10 ⟨0, 0, false⟩ rfl (by simp) (by simp) (by simp)
 have hw := ht_par s hs 10 ⟨0, 0, false⟩ rfl (by simp) (by simp) (by simp)
 unfold Ret parseBV
 rw [parseB_eq]
 rw [WF_body (C := X) rfl func50 rfl (by kernel_rfl)]; simp only [results50]
 simp -implicitDefEqProofs -dsimp only [go_sem]
 rw [show [MV.str s, MV.int .i64 0, MV.bool false, MV.int .i64 0, MV.bool false] = encT s ⟨0, 0, false⟩ from rfl]
 refine (hw lim (d + 1) ⟨d, 12, σ.ct d + 1⟩ _ (Nat.lt_succ_self d) hlim ?_ ?_).wh ?_
 ·simp only [u_tick, u_mine]; exact hun
 ·simp only [go_sem, if_true]
 generalize parB s z0 10 ⟨0, 0, false⟩ = x at G
 obtain ⟨y, r⟩ := x
 have g2 := G.in'
 have hsz : sz y ≤ 1000000 := by have := G.sz'; simp only at this g2; omega
 simp only at g2 ⊢
 cases hbb : r.bad
 case true =>
  have hbd : encT s r = [.str s, .int .i64 r.at', .bool false, .int .i64 r.g, .bool true] := by rw [encT_eq, hbb]
  simp -implicitDefEqProofs -dsimp only [go_sem, hbd]
  rw [D_lx [.tmp 34] (by kernel_rfl) (by kernel_rfl)]; simp -implicitDefEqProofs -dsimp only [go_sem, List.takeWhile_cons, List.dropWhile_cons, isTail, evNews, List.mem_cons, List.not_mem_nil, or_false, false_or, not_false_eq_true, not_true_eq_false, decide_true, Bool.not_true, Bool.not_false, forall_eq, ne_eq, ct_lt2, Bool.true_or]
  exact ⟨rfl, cut_und _ _ hu⟩
 case false =>
  have hgood := encT_good s r hbb
  simp -implicitDefEqProofs -dsimp only [go_sem, hgood]
  refine (v23 s r ⟨d, 12, σ.ct d + 1⟩ lim (d + 1) (Nat.lt_succ_self d) _ ?_ ?_).wh ?_
  ·simp only [u_tick, u_mine]; exact hun
  ·simp only [go_sem, Nat.reduceEqDiff, and_false, false_and, if_false, if_true]; rw [hgood]
  by_cases hend : r.at' < s.length
  ·have e1 : ¬ ((s.length : Int) ≤ (r.at' : Int)) := by omega
   have hbd : encT s r.fail = [.str s, .int .i64 r.at', .bool false, .int .i64 r.g, .bool true] := rfl
   simp -implicitDefEqProofs -dsimp only [go_sem, e1]
   refine (v24 s r ⟨d, 12, σ.ct d + 1⟩ lim (d + 1) (Nat.lt_succ_self d) hlim _ ?_ ?_).wh ?_
   ·simp only [u_tick, u_mine]; exact hun
   ·simp only [go_sem, Nat.reduceEqDiff, and_false, false_and, if_false, if_true]; rw [hgood]
   simp -implicitDefEqProofs -dsimp only [go_sem, hbd]
   rw [D_lx [.tmp 34] (by kernel_rfl) (by kernel_rfl)]; simp -implicitDefEqProofs -dsimp only [go_sem, List.takeWhile_cons, List.dropWhile_cons, isTail, evNews, List.mem_cons, List.not_mem_nil, or_false, false_or, not_false_eq_true, not_true_eq_false, decide_true, Bool.not_true, Bool.not_false, forall_eq, ne_eq, ct_lt2, hend, Bool.or_true]
   exact ⟨rfl, cut_und _ _ hu⟩
  ·have e1 : ((s.length : Int) ≤ (r.at' : Int)) := by omega
   simp -implicitDefEqProofs -dsimp only [go_sem, e1]
   refine (w25 y hsz lim (d + 1) _ (by omega) ?_).wh ?_
   ·simp only [u_tick, u_mine]; exact hun
   cases formedB y
   ·simp -implicitDefEqProofs -dsimp only [go_sem, enc, z0, encs, cut_und _ _ hu, hend, Bool.or_self, Bool.false_eq_true]
   ·simp -implicitDefEqProofs -dsimp only [go_sem, cut_und _ _ hu, hend, Bool.or_self, Bool.false_eq_true]
def rdP (ext : Bool) (t : List UInt8) : Nd × Int × Int := if ext = true then parseS t else parseB z0 t
abbrev Ad := Int × Int × Nd
def zAd : Ad := (0, 0, zn)
def adV (a : Ad) : List MV := encA a.1 a.2.1 a.2.2
def patR (ext : Bool) (t : List UInt8) : Ad × Int := if t = [] then ((4, 0, zn), 0) else if (rdP ext t).2.2 ≠ 0 then (zAd, (rdP ext t).2.2) else ((3, 0, (rdP ext t).1), 0)
def delR (ext : Bool) (s : List UInt8) (n : Nat) (c : UInt8) : (Ad × Int) × Nat := match (delA c s n).1 with
 | none => ((zAd, 9), (delA c s n).2)
 | some t => (patR ext t, (delA c s n).2)
def oneR (ext : Bool) (s : List UInt8) (n : Nat) : (Ad × Int) × Nat :=
 if dig (pkL s n) = true then (if dgL s n = 0 ∨ 1000000000 < numW s n then ((zAd, 9), n) else (((1, numW s n, zn), 0), n + dgL s n))
 else if pkL s n = 36 then (((2, 0, zn), 0), n + 1)
 else if pkL s n = 47 then delR ext s (n + 1) 47
 else if pkL s n = 92 then (if s.length ≤ n + 1 ∨ pkL s (n + 1) = 92 ∨ pkL s (n + 1) = 10 then ((zAd, 9), n + 1) else delR ext s (n + 2) (pkL s (n + 1)))
 else ((zAd, 0), n)
def secR (ext : Bool) (s : List UInt8) (n : Nat) : (Ad × Int) × Nat :=
 if (oneR ext s n).1.2 = 0 ∧ (oneR ext s n).1.1.1 = 0 then (((oneR ext s n).1.1, 9), (oneR ext s n).2) else oneR ext s n
abbrev Rg := Ad × Ad × Bool
def zRg : Rg := (zAd, zAd, false)
def rgV (r : Rg) : List MV := encG r.1.1 r.1.2.1 r.1.2.2 r.2.1.1 r.2.1.2.1 r.2.1.2.2 r.2.2
def endR (s : List UInt8) (a b : Ad) (n : Nat) : (Rg × Int) × Nat :=
 if pkL s (n + blL s n) = 33 then (((a, b, true), 0), n + blL s n + 1 + blL s (n + blL s n + 1)) else (((a, b, false), 0), n + blL s n)
def rangeR (ext : Bool) (s : List UInt8) (n : Nat) : (Rg × Int) × Nat :=
 let a := oneR ext s n
 if a.1.2 ≠ 0 then ((zRg, a.1.2), a.2) else
 if a.1.1.1 ≠ 0 ∧ pkL s a.2 = 44 then
  let b := secR ext s (a.2 + 1 + blL s (a.2 + 1))
  if b.1.2 ≠ 0 then ((zRg, b.1.2), b.2) else endR s a.1.1 b.1.1 b.2
 else endR s a.1.1 zAd a.2
/-! ### Sizes, places -/
theorem app_snd (p : List UInt8) (n : Nat) (x : Dl) : (app p n x).2 = n + x.2 := rfl
theorem delF_le (c : UInt8) : ∀ (k : Nat) (t : List UInt8), (delF c k t).2 ≤ t.length ∧ ∀ u, (delF c k t).1 = some u → u.length ≤ (delF c k t).2
 | 0, t => ⟨Nat.zero_le _, fun u h => by cases h⟩
 | k + 1, [] => ⟨Nat.zero_le _, fun u h => by cases h⟩
 | k + 1, b :: r => by
  have hap : ∀ (p : List UInt8) (n : Nat) (t : List UInt8), p.length ≤ n → n + t.length ≤ (b :: r).length → (app p n (delF c k t)).2 ≤ (b :: r).length ∧ ∀ u, (app p n (delF c k t)).1 = some u → u.length ≤ (app p n (delF c k t)).2 := fun p n t hp hn => by
   obtain ⟨h1, h2⟩ := delF_le c k t
   refine ⟨by simp only [app]; omega, fun u hu => ?_⟩
   simp only [app] at hu ⊢
   obtain ⟨v, hv, rfl⟩ := Option.map_eq_some_iff.1 hu
   have := h2 v hv
   rw [List.length_append]; omega
  simp only [delF]
  split
  ·exact ⟨Nat.zero_le _, fun u h => by cases h⟩
  ·rename_i h10
   split
   ·exact ⟨by simp, fun u h => by simp at h; subst h; simp⟩
   ·split
    ·have hll := lin_len (b :: r)
     obtain ⟨m1, m2⟩ := brk_le (b :: r) (lin_ne rfl h10)
     exact hap _ _ _ (by rw [List.length_take]; exact Nat.min_le_left _ _) (by rw [List.length_drop]; omega)
    ·split
     ·split
      ·exact ⟨by simp, fun u h => by cases h⟩
      ·rename_i x r'
       split
       ·exact ⟨by simp, fun u h => by cases h⟩
       ·exact hap _ _ _ (by unfold escT; split <;> simp) (by simp; omega)
     ·exact hap _ _ _ (by simp) (by simp; omega)
theorem delA_le (c : UInt8) (s : List UInt8) (n : Nat) (hn : n ≤ s.length) : (delA c s n).2 ≤ s.length ∧ ∀ u, (delA c s n).1 = some u → u.length ≤ s.length := by
 obtain ⟨h1, h2⟩ := delF_le c (s.length + 1) (s.drop n)
 rw [List.length_drop] at h1
 refine ⟨by unfold delA; rw [app_snd]; omega, fun u hu => ?_⟩
 unfold delA app at hu
 obtain ⟨v, hv, rfl⟩ := Option.map_eq_some_iff.1 hu
 have := h2 v hv
 simp only [List.nil_append]; omega
theorem delR_le (ext : Bool) (s : List UInt8) (n : Nat) (c : UInt8) (hn : n ≤ s.length) : (delR ext s n c).2 ≤ s.length := by
 have := (delA_le c s n hn).1
 unfold delR
 split <;> exact this
theorem pk_lt {s : List UInt8} {n : Nat} (h : pkL s n ≠ 0) : n < s.length := by
 rcases Nat.lt_or_ge n s.length with q | q
 ·exact q
 ·exact absurd (by simp [pkL, List.getElem?_eq_none q]) h
theorem oneR_le (ext : Bool) (s : List UInt8) (n : Nat) (hn : n ≤ s.length) : (oneR ext s n).2 ≤ s.length := by
 have h1 := dgL_le s n
 rw [List.length_drop] at h1
 unfold oneR
 split
 ·split
  ·exact hn
  ·simp only; omega
 ·split
  ·rename_i h; have := pk_lt (s := s) (n := n) (by rw [h]; decide); simp only; omega
  ·split
   ·rename_i h; have := pk_lt (s := s) (n := n) (by rw [h]; decide); exact delR_le ext s _ _ (by omega)
   ·split
    ·rename_i h; have := pk_lt (s := s) (n := n) (by rw [h]; decide)
     split
     ·simp only; omega
     ·rename_i h2; exact delR_le ext s _ _ (by omega)
    ·exact hn
theorem rdP_sz (ext : Bool) (t : List UInt8) (ht : t.length ≤ 100000) : sz (rdP ext t).1 ≤ 1000000 := by
 unfold rdP
 cases ext
 ·exact parseB_sz z0 (by simp [sz_z0]) t ht
 ·exact parse_sz t ht
def okAd (a : Ad) : Prop := sz a.2.2 ≤ 1000000 ∧ formA a.1 a.2.1 a.2.2 = true
theorem sz_zn : sz zn = 1 := by simp [zn, sz, szs]
def oneV (x : Ad × Int) : MV := .tup [.agg (adV x.1), .int .i64 x.2]
theorem adV_len (a : Ad) : (adV a).length = 12 := by simp [adV, encA, enc_len]
theorem adV_data (a : Ad) : (adV a).all MV.data = true := by simp [adV, encA, enc_data, MV.data]
theorem adV_era (a : Ad) : (adV a).map MV.era = adV a := by simp [adV, encA, enc_era, MV.era]
theorem adV_take (a : Ad) : (adV a).take 12 = adV a := by rw [← adV_len a, List.take_length]
theorem delR_snd (ext : Bool) (s : List UInt8) (n : Nat) (c : UInt8) : (delR ext s n c).2 = (delA c s n).2 := by unfold delR; split <;> rfl
theorem byN {c : UInt8} {k : UInt8} (h : c ≠ k) : ((c.toNat : Int) == (k.toNat : Int)) = false := by
 rw [beq_eq_false_iff_ne]
 intro q
 exact h (UInt8.toNat_inj.1 (by omega))
theorem byY {c : UInt8} {k : UInt8} (h : c = k) : ((c.toNat : Int) == (k.toNat : Int)) = true := by rw [h]; exact beq_self_eq_true _
section
variable (s : List UInt8) (hs : s.length ≤ 100000)
include hs
end
theorem oneR_dig {ext : Bool} {s : List UInt8} {n : Nat} (h : dig (pkL s n) = true) : oneR ext s n = if dgL s n = 0 ∨ 1000000000 < numW s n then ((zAd, 9), n) else (((1, numW s n, zn), 0), n + dgL s n) := by unfold oneR; rw [if_pos h]
theorem oneR_36 {ext : Bool} {s : List UInt8} {n : Nat} (h : pkL s n = 36) : oneR ext s n = (((2, 0, zn), 0), n + 1) := by
 unfold oneR
 rw [if_neg (by rw [h]; decide), if_pos h]
theorem oneR_47 {ext : Bool} {s : List UInt8} {n : Nat} (h : pkL s n = 47) : oneR ext s n = delR ext s (n + 1) 47 := by
 unfold oneR
 rw [if_neg (by rw [h]; decide), if_neg (by rw [h]; decide), if_pos h]
theorem oneR_92 {ext : Bool} {s : List UInt8} {n : Nat} (h : pkL s n = 92) : oneR ext s n = if s.length ≤ n + 1 ∨ pkL s (n + 1) = 92 ∨ pkL s (n + 1) = 10 then ((zAd, 9), n + 1) else delR ext s (n + 2) (pkL s (n + 1)) := by
 unfold oneR
 rw [if_neg (by rw [h]; decide), if_neg (by rw [h]; decide), if_neg (by rw [h]; decide), if_pos h]
theorem oneR_no {ext : Bool} {s : List UInt8} {n : Nat} (h : ¬ dig (pkL s n) = true) (h1 : pkL s n ≠ 36) (h2 : pkL s n ≠ 47) (h3 : pkL s n ≠ 92) : oneR ext s n = ((zAd, 0), n) := by
 unfold oneR
 rw [if_neg h, if_neg h1, if_neg h2, if_neg h3]
section
variable (s : List UInt8) (hs : s.length ≤ 100000)
include hs
end
def rgT (x : Rg × Int) : MV := .tup [.agg (rgV x.1), .int .i64 x.2]
section
variable {ext : Bool} {s : List UInt8} {n : Nat}
theorem rangeR_e (h : (oneR ext s n).1.2 ≠ 0) : rangeR ext s n = ((zRg, (oneR ext s n).1.2), (oneR ext s n).2) := by
 unfold rangeR; simp only [if_pos h]
theorem rangeR_1 (h : (oneR ext s n).1.2 = 0) (h2 : ¬ ((oneR ext s n).1.1.1 ≠ 0 ∧ pkL s (oneR ext s n).2 = 44)) : rangeR ext s n = endR s (oneR ext s n).1.1 zAd (oneR ext s n).2 := by
 unfold rangeR; simp only [if_neg (fun q => q h : ¬ (oneR ext s n).1.2 ≠ 0), if_neg h2]
theorem rangeR_2 (h : (oneR ext s n).1.2 = 0) (h2 : (oneR ext s n).1.1.1 ≠ 0 ∧ pkL s (oneR ext s n).2 = 44) : rangeR ext s n =
  if (secR ext s ((oneR ext s n).2 + 1 + blL s ((oneR ext s n).2 + 1))).1.2 ≠ 0 then ((zRg, (secR ext s ((oneR ext s n).2 + 1 + blL s ((oneR ext s n).2 + 1))).1.2), (secR ext s ((oneR ext s n).2 + 1 + blL s ((oneR ext s n).2 + 1))).2) else endR s (oneR ext s n).1.1 (secR ext s ((oneR ext s n).2 + 1 + blL s ((oneR ext s n).2 + 1))).1.1 (secR ext s ((oneR ext s n).2 + 1 + blL s ((oneR ext s n).2 + 1))).2 := by
 unfold rangeR; simp only [if_neg (fun q => q h : ¬ (oneR ext s n).1.2 ≠ 0), if_pos h2]
end
section
variable (s : List UInt8) (hs : s.length ≤ 100000)
include hs
end
end Go.Proofs.Tryz.E
