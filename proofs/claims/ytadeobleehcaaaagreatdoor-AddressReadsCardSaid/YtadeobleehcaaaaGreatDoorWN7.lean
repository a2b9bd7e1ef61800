/- Walks: what the functions compute. Walks: what the functions compute. -/
import Derived.Test.YtadeobleehcaaaaGreatDoorWN5
import Derived.Test.YtadeobleehcaaaaGreatDoorN6
set_option linter.unusedVariables false
set_option linter.unusedSimpArgs false
/- The lexer: text up to a delimiter. -/
namespace Go.Proofs.Tryz.E
open Go.Mv
set_option maxHeartbeats 4000000
set_option maxRecDepth 20000
theorem SB.cutE {d : Nat} {l : Mv.Loc} {a b : Sto} (h : SB d l a b) (hl : l.d = d) : b.cut d = a.cut d := by
 refine Sto.ext' (fun l' => ?_) (fun k c => ?_) fun k => ?_
 ·simp only [Sto.cut]
  split
  ·rename_i h1; exact h.ob l' h1 (by rintro rfl; omega)
  ·rfl
 ·simp only [Sto.cut]
  split
  ·rename_i h1; exact h.ow k c h1 (by omega)
  ·rfl
 ·simp only [Sto.cut]
  split
  ·rename_i h1; exact h.ct k h1 (by omega)
  ·rfl
theorem set_selfN {σ : Sto} {p : Mv.Loc} {cs : List MV} (ho : σ.ob p = some cs) : σ.set p cs = σ := by
 refine Sto.ext' (fun l => ?_) (fun _ _ => rfl) fun _ => rfl
 simp only [Sto.set]
 split
 ·rename_i e; subst e; exact ho.symm
 ·rfl
def dlV (x : Dl) : MV := match x.1 with
 | none => .tup [.str [], .int .i64 9]
 | some t => .tup [.str t, .int .i64 0]
def BL (d c : Nat) : Mv.Loc := ⟨d, 1000000 + (121 * 1024 + 2), c⟩
section
variable (s : List UInt8) (hs : s.length ≤ 1000000)
include hs
theorem w603 (c : UInt8) (hc : c ≠ 92 ∧ c ≠ 10) (n0 : Nat) (hn0 : n0 ≤ s.length) (p : Mv.Loc) (lim d : Nat) (hp : p.d < d) (hlim : lim ≤ p.d) (σ : Sto) (hu : σ.Und d) (ho : σ.ob p = some (encL s n0)) :
  Ret lim d 59 [.ptr p 0, .int .u8 c.toNat, .bool true] σ (dlV (delA c s n0)) (σ.set p (encL s (delA c s n0).2)) := by
 have hun := und_succ hu
 have hne := ne_my hp
 have hmy := my_ne hp
 have hp1 := Nat.lt_succ_of_lt hp
 have c1 : ((c.toNat : Int) == 92) = false := by have := byte_lit c 92 (by decide); simp only [Int.cast_ofNat_Int] at this; rw [this]; simpa using hc.1
 have c2 : ((c.toNat : Int) == 10) = false := by have := byte_lit c 10 (by decide); simp only [Int.cast_ofNat_Int] at this; rw [this]; simpa using hc.2
 have hiB : isB (BL d (σ.ct d)) = true := by simp [isB, BL]
 have hpL : p ≠ BL d (σ.ct d) := fun e => by rw [e] at hp; simp [BL] at hp
 have hlB : lim ≤ (BL d (σ.ct d)).d := by simp only [BL]; omega
 have hdB : (BL d (σ.ct d)).d ≤ d := Nat.le_refl d
 unfold Ret
 unfold delA
 generalize hF : app [] n0 (delF c (s.length + 1) (s.drop n0)) = F
 rw [WF_body (C := X) rfl func59 rfl (by kernel_rfl)]; simp only [results59]
 simp -implicitDefEqProofs -dsimp only [↓reduceIte, ↓W_seq, go_sem, Nat.reduceEqDiff, Nat.reduceAdd, Nat.reduceMul, Nat.reduceLT, c1, c2]
 refine loop_h (I := fun f a s' => ∃ (n k : Nat) (acc : List UInt8), f = s.length - n ∧ n ≤ s.length ∧ s.length - n < k ∧ app acc n (delF c k (s.drop n)) = F ∧ a 0 = .ptr p 0 ∧ a 1 = .int .u8 c.toNat ∧ a 2 = .bool true ∧ a 8 = .ptr (BL d (σ.ct d)) 0 ∧ s'.ob p = some (encL s n) ∧
  BS s' (BL d (σ.ct d)) acc ∧ acc.length ≤ n ∧ s'.cut d = σ.set p (encL s n) ∧ s'.Und (d + 1)) ?_ (s.length - n0) _ _ ?_
 ·rintro f a s' ⟨n, k, acc, hf, hn, hk, hG, h0, h1, h2, h8, o, bs, hal, hcut, un⟩
  obtain ⟨k, rfl⟩ : ∃ k', k = k' + 1 := ⟨k - 1, by omega⟩
  simp -implicitDefEqProofs -dsimp only [↓reduceIte, ↓W_seq, go_sem, h0]
  refine (w309 s n hn p lim (d + 1) hp1 _ un o).wh ?_
  simp -implicitDefEqProofs -dsimp only [↓reduceIte, ↓W_seq, go_sem, reduceCtorEq, h0]
  refine (w314 s n hn p lim (d + 1) hp1 _ un o).wh ?_
  by_cases hend : n < s.length
  ·have e2 : s[n]? = some s[n] := List.getElem?_eq_getElem hend
   have e3 : pkL s n = s[n] := by simp [pkL, e2]
   have e1 : (s.drop n == []) = false := by rw [beq_eq_false_iff_ne]; intro q; have := List.drop_eq_nil_iff.1 q; omega
   have hdr := List.drop_eq_getElem_cons hend
   rw [hdr] at hG
   rw [e3]
   generalize hb : s[n] = b at *
   have g10 := byte_lit b 10 (by decide)
   have g91 := byte_lit b 91 (by decide)
   have g92 := byte_lit b 92 (by decide)
   simp only [Int.cast_ofNat_Int] at g10 g91 g92
   have gc := byte_eq b c
   simp only [delF] at hG
   have hdl : (s.drop n).length = s.length - n := List.length_drop
   by_cases hb10 : b = 10
   ·rw [if_pos hb10] at hG
    subst hG
    rw [show (b == UInt8.ofNat 10) = true by rw [hb10]; rfl] at g10
    simp -implicitDefEqProofs -dsimp only [↓reduceIte, ↓W_seq, go_sem, Nat.reduceEqDiff, e1, g10]
    exact ⟨rfl, hcut⟩
   rw [if_neg hb10] at hG
   rw [show (b == UInt8.ofNat 10) = false by simpa using hb10] at g10
   have hsk : ∀ (m : Nat) (s1 : Sto), s1.cut d = σ.set p (encL s n) → (s1.set p (encL s (n + m))).cut d = σ.set p (encL s (n + m)) := fun m s1 h => by rw [cut_set _ _ _ _ hp, h, set_set]
   have hus : ∀ (m : Nat) (s1 : Sto), s1.Und (d + 1) → (s1.set p (encL s (n + m))).Und (d + 1) := fun m s1 h => by rw [u_set _ _ _ _ hp1]; exact h
   have hos : ∀ (m : Nat) (s1 : Sto), (s1.set p (encL s (n + m))).ob p = some (encL s (n + m)) := fun m s1 => by simp [Sto.set]
   by_cases hbc : b = c
   ·rw [if_pos hbc] at hG
    subst hG
    rw [show (b == c) = true by simpa using hbc] at gc
    simp -implicitDefEqProofs -dsimp only [↓reduceIte, ↓W_seq, go_sem, Nat.reduceEqDiff, reduceCtorEq, e1, g10, h0, h1, gc]
    refine (w315 s hs n 1 (by omega) p lim (d + 1) hp1 hlim _ un o).wh ?_
    simp -implicitDefEqProofs -dsimp only [↓reduceIte, ↓W_seq, go_sem, Nat.reduceEqDiff, h8]
    refine w503 (bs.set hpL _) hlB hdB (by omega) fun s2 hs2 => ?_
    have hc2 := (hs2.cutE rfl).trans (hsk 1 s' hcut)
    simp -implicitDefEqProofs -dsimp only [↓reduceIte, go_sem, Nat.reduceEqDiff, app, Option.map_some, dlV, List.append_nil]
    exact hc2
   rw [if_neg hbc] at hG
   rw [show (b == c) = false by simpa using hbc] at gc
   by_cases hb91 : b = 91
   ·rw [if_pos hb91, ← hdr] at hG
    rw [show (b == UInt8.ofNat 91) = true by rw [hb91]; rfl] at g91
    have hll := lin_len (s.drop n)
    obtain ⟨m1, m2⟩ := brk_le (s.drop n) (lin_ne hdr hb10)
    have hw := w604 (s.drop n) (by omega) (s.drop (n + 1)) (by rw [hdr, hb91]) lim (d + 1)
    generalize brk (s.drop n) = m at *
    rw [app_app, List.drop_drop] at hG
    have q1 : (0 : Int) ≤ (m : Int) ∧ (m : Int) ≤ ((s.drop n).length : Int) := by omega
    have q2 : (m : Int) ≤ ((s.drop n).length : Int) := by omega
    simp -implicitDefEqProofs -dsimp only [↓reduceIte, ↓W_seq, go_sem, Nat.reduceEqDiff, reduceCtorEq, e1, g10, h0, h1, h2, gc, g91]
    refine (w316 s n hn p lim (d + 1) hp1 _ un o).wh ?_
    simp -implicitDefEqProofs -dsimp only [↓reduceIte, go_sem]
    refine (hw _ un).wh ?_
    simp -implicitDefEqProofs -dsimp only [↓reduceIte, ↓W_seq, go_sem, reduceCtorEq, h0]
    refine (w316 s n hn p lim (d + 1) hp1 _ un o).wh ?_
    simp -implicitDefEqProofs -dsimp only [↓reduceIte, go_sem, Nat.reduceEqDiff, h8, q1, List.drop_zero]
    refine w501 bs hlB hdB hiB un (by simp only [List.length_take]; omega) fun s1 v1 bs1 sb1 un1 => ?_
    have o1 : s1.ob p = some (encL s n) := by rw [sb1.ob _ (by omega) hpL]; exact o
    have hc1 := ((sb1.le (Nat.le_succ d)).cutE rfl).trans hcut
    simp -implicitDefEqProofs -dsimp only [↓reduceIte, go_sem, Nat.reduceEqDiff, reduceCtorEq, h0]
    refine (w315 s hs n m (by omega) p lim (d + 1) hp1 hlim _ un1 o1).wh ?_
    simp -implicitDefEqProofs -dsimp only [↓reduceIte, go_sem, Nat.reduceEqDiff, reduceCtorEq, h0, h1, h2, h8]
    exact ⟨s.length - (n + m), by omega, n + m, k, _, rfl, by omega, by omega, hG, by first | rfl | exact hos m s1, bs1.set hpL _, by simp only [List.length_append, List.length_take]; omega, hsk m s1 hc1, hus m s1 un1⟩
   rw [if_neg hb91] at hG
   rw [show (b == UInt8.ofNat 91) = false by simpa using hb91] at g91
   by_cases hb92 : b = 92
   ·rw [if_pos hb92] at hG
    rw [show (b == UInt8.ofNat 92) = true by rw [hb92]; rfl] at g92
    simp -implicitDefEqProofs -dsimp only [↓reduceIte, ↓W_seq, go_sem, Nat.reduceEqDiff, reduceCtorEq, e1, g10, h0, h1, h2, gc, g91, g92]
    refine (w315 s hs n 1 (by omega) p lim (d + 1) hp1 hlim _ un o).wh ?_
    have un1 := hus 1 s' un
    have o1 := hos 1 s'
    have hc1 := hsk 1 s' hcut
    have bs1 := bs.set hpL (encL s (n + 1))
    generalize s'.set p (encL s (n + 1)) = s1 at *
    simp -implicitDefEqProofs -dsimp only [↓reduceIte, ↓W_seq, go_sem, reduceCtorEq, h0]
    refine (w314 s (n + 1) (by omega) p lim (d + 1) hp1 _ un1 o1).wh ?_
    by_cases he : n + 1 < s.length
    ·have f1 : (s.drop (n + 1) == []) = false := by rw [beq_eq_false_iff_ne]; intro q; have := List.drop_eq_nil_iff.1 q; omega
     have f2 : s[n + 1]? = some s[n + 1] := List.getElem?_eq_getElem he
     have f3 : pkL s (n + 1) = s[n + 1] := by simp [pkL, f2]
     rw [List.drop_eq_getElem_cons he] at hG
     generalize hx : s[n + 1] = x at *
     have gx := byte_lit x 10 (by decide)
     simp only [Int.cast_ofNat_Int] at gx
     simp only at hG
     rw [f1]
     simp -implicitDefEqProofs -dsimp only [↓reduceIte, go_sem, Nat.reduceEqDiff, reduceCtorEq, h0, h2]
     refine (w309 s (n + 1) (by omega) p lim (d + 1) hp1 _ un1 o1).wh ?_
     rw [f3]
     by_cases hx10 : x = 10
     ·rw [if_pos hx10] at hG
      subst hG
      rw [show (x == UInt8.ofNat 10) = true by rw [hx10]; rfl] at gx
      simp -implicitDefEqProofs -dsimp only [↓reduceIte, ↓W_seq, go_sem, Nat.reduceEqDiff, gx]
      exact ⟨rfl, hc1⟩
     ·rw [if_neg hx10, app_app] at hG
      rw [show (x == UInt8.ofNat 10) = false by simpa using hx10] at gx
      have hel : (escT c x).length ≤ 2 := by unfold escT; split <;> simp
      simp -implicitDefEqProofs -dsimp only [↓reduceIte, go_sem, Nat.reduceEqDiff, reduceCtorEq, gx, h0]
      refine (w312 s hs (n + 1) he p lim (d + 1) hp1 hlim _ un1 o1).wh ?_
      rw [f3]
      simp -implicitDefEqProofs -dsimp only [↓reduceIte, go_sem, Nat.reduceEqDiff, h1, h2]
      refine (w605 x c lim (d + 1) _ (by rw [u_set _ _ _ _ hp1]; exact un1)).wh ?_
      simp -implicitDefEqProofs -dsimp only [↓reduceIte, go_sem, Nat.reduceEqDiff, h8]
      refine w501 (bs1.set hpL _) hlB hdB hiB (by rw [u_set _ _ _ _ hp1]; exact un1) (by omega) fun s3 v3 bs3 sb3 un3 => ?_
      have o3 : s3.ob p = some (encL s (n + 1 + 1)) := by rw [sb3.ob _ (by omega) hpL]; simp [Sto.set]
      have hc3 := (sb3.le (Nat.le_succ d)).cutE rfl
      rw [cut_set _ _ _ _ hp, hc1, set_set] at hc3
      simp -implicitDefEqProofs -dsimp only [↓reduceIte, go_sem, Nat.reduceEqDiff, reduceCtorEq, h0, h1, h2, h8]
      exact ⟨s.length - (n + 2), by omega, n + 2, k, _, rfl, by omega, by omega, hG, o3, bs3, by simp only [List.length_append]; omega, hc3, un3⟩
    ·have f1 : (s.drop (n + 1) == []) = true := by rw [beq_iff_eq]; exact List.drop_eq_nil_of_le (by omega)
     rw [List.drop_eq_nil_of_le (by omega : s.length ≤ n + 1)] at hG
     simp only at hG
     subst hG
     rw [f1]
     simp -implicitDefEqProofs -dsimp only [↓reduceIte, ↓W_seq, go_sem, Nat.reduceEqDiff, reduceCtorEq, h0, h2]
     exact ⟨rfl, hc1⟩
   rw [if_neg hb92, app_app] at hG
   rw [show (b == UInt8.ofNat 92) = false by simpa using hb92] at g92
   simp -implicitDefEqProofs -dsimp only [↓reduceIte, ↓W_seq, go_sem, Nat.reduceEqDiff, reduceCtorEq, e1, g10, h0, h1, h2, gc, g91, g92]
   refine (w312 s hs n hend p lim (d + 1) hp1 hlim _ un o).wh ?_
   rw [e3]
   simp -implicitDefEqProofs -dsimp only [↓reduceIte, go_sem, Nat.reduceEqDiff, h8]
   refine w502 (c := (b.toNat : Int)) (by have := b.toNat_lt; omega) (bs.set hpL _) hlB hdB hiB (hus 1 s' un) (by omega) fun s3 v3 bs3 sb3 un3 => ?_
   have o3 : s3.ob p = some (encL s (n + 1)) := by rw [sb3.ob _ (by omega) hpL]; simp [Sto.set]
   have hc3 := ((sb3.le (Nat.le_succ d)).cutE rfl).trans (hsk 1 s' hcut)
   rw [ofN] at bs3
   simp -implicitDefEqProofs -dsimp only [↓reduceIte, go_sem, Nat.reduceEqDiff, reduceCtorEq, h0, h1, h2, h8]
   exact ⟨s.length - (n + 1), by omega, n + 1, k, _, rfl, by omega, by omega, hG, o3, bs3, by simp only [List.length_append, List.length_cons, List.length_nil]; omega, hc3, un3⟩
  ·have hne' : n = s.length := by omega
   have e1 : (s.drop n == []) = true := by rw [beq_iff_eq]; exact List.drop_eq_nil_of_le (by omega)
   rw [List.drop_eq_nil_of_le (by omega)] at hG
   simp only [delF] at hG
   subst hG
   simp -implicitDefEqProofs -dsimp only [↓reduceIte, ↓W_seq, go_sem, Nat.reduceEqDiff, e1]
   exact ⟨rfl, hcut⟩
 ·refine ⟨n0, s.length + 1, [], rfl, hn0, by omega, hF, rfl, rfl, rfl, rfl, ?_, ⟨.nilp, .nil, ?_, rfl, .inl ⟨rfl, rfl⟩⟩, Nat.zero_le _, ?_, ?_⟩
  ·show (if p = BL d (σ.ct d) then _ else _) = _
   rw [if_neg hpL]; exact ho
  ·simp [Sto.set, Sto.tick, BL, bytesM]
  ·simp -implicitDefEqProofs -dsimp only [go_sem, cut_und _ _ hu]
   rw [set_selfN ho]
  ·simp only [u_tick, u_mine]; exact hun
end
section
variable (s : List UInt8) (hs : s.length ≤ 1000000)
include hs
theorem w621 (c : UInt8) (hc : c ≠ 92 ∧ c ≠ 10) (n0 : Nat) (hn0 : n0 ≤ s.length) (p : Mv.Loc) (lim d : Nat) (hp : p.d < d) (hlim : lim ≤ p.d) (σ : Sto) (hu : σ.Und d) (ho : σ.ob p = some (encL s n0)) :
  Ret lim d 65 [.ptr p 0, .int .u8 c.toNat, .bool true] σ (dlV (delA c s n0)) (σ.set p (encL s (delA c s n0).2)) := by
 have hun := und_succ hu
 have hp1 := Nat.lt_succ_of_lt hp
 have ho2 := ho
 rw [encL] at ho2
 have c1 : ((c.toNat : Int) == 92) = false := by have := byte_lit c 92 (by decide); simp only [Int.cast_ofNat_Int] at this; rw [this]; simpa using hc.1
 have c2 : ((c.toNat : Int) == 10) = false := by have := byte_lit c 10 (by decide); simp only [Int.cast_ofNat_Int] at this; rw [this]; simpa using hc.2
 have hfin : ∀ m : Nat, (σ.set p [.str s, .int .i64 (m : Int)]).cut d = σ.set p (encL s m) := fun m => by rw [cut_set _ _ _ _ hp, cut_und _ _ hu]; rfl
 unfold Ret
 unfold delA
 generalize hF : app [] n0 (delF c (s.length + 1) (s.drop n0)) = F
 rw [WF_body (C := X) rfl func65 rfl (by kernel_rfl)]; simp only [results65]
 simp -implicitDefEqProofs -dsimp only [↓reduceIte, ↓W_seq, go_sem, Nat.reduceEqDiff, reduceCtorEq, c1, c2, ho2]
 refine loop_h (I := fun f a s' => ∃ (n k : Nat) (acc : List UInt8), f = s.length - n ∧ n ≤ s.length ∧ s.length - n < k ∧ app acc n (delF c k (s.drop n)) = F ∧ a 0 = .ptr p 0 ∧ a 1 = .int .u8 c.toNat ∧ a 2 = .bool true ∧ a 8 = .str acc ∧ a 9 = .int .i64 n ∧ acc.length ≤ n ∧ s' = σ) ?_ (s.length - n0) _ _ ?_
 ·rintro f a s' ⟨n, k, acc, hf, hn, hk, hG, h0, h1, h2, h8, h9, hal, rfl⟩
  obtain ⟨k, rfl⟩ : ∃ k', k = k' + 1 := ⟨k - 1, by omega⟩
  by_cases hend : n < s.length
  ·have t1 : ¬ ((s.length : Int) ≤ (n : Int)) := by omega
   have e2 : s[n]? = some s[n] := List.getElem?_eq_getElem hend
   have hdr := List.drop_eq_getElem_cons hend
   rw [hdr] at hG
   generalize hb : s[n] = b at *
   have g10 := byte_lit b 10 (by decide)
   have g91 := byte_lit b 91 (by decide)
   have g92 := byte_lit b 92 (by decide)
   simp only [Int.cast_ofNat_Int] at g10 g91 g92
   have gc := byte_eq b c
   simp only [delF] at hG
   by_cases hb10 : b = 10
   ·rw [if_pos hb10] at hG
    subst hG
    rw [show (b == UInt8.ofNat 10) = true by rw [hb10]; rfl] at g10
    simp -implicitDefEqProofs -dsimp only [↓reduceIte, ↓W_seq, go_sem, Nat.reduceEqDiff, Nat.reduceAdd, reduceCtorEq, h0, h9, ho2, t1, e2, g10, hp, hlim]
    exact ⟨rfl, hfin n⟩
   rw [if_neg hb10] at hG
   rw [show (b == UInt8.ofNat 10) = false by simpa using hb10] at g10
   have x1 : IntKind.i64.wrap ((n : Int) + 1) = ((n + 1 : Nat) : Int) := by rw [wr64 _ (by omega) (by omega)]; omega
   have x2 : IntKind.i64.wrap ((n : Int) + 2) = ((n + 2 : Nat) : Int) := by rw [wr64 _ (by omega) (by omega)]; omega
   by_cases hbc : b = c
   ·rw [if_pos hbc] at hG
    subst hG
    rw [show (b == c) = true by simpa using hbc] at gc
    simp -implicitDefEqProofs -dsimp only [↓reduceIte, ↓W_seq, go_sem, Nat.reduceEqDiff, Nat.reduceAdd, reduceCtorEq, h0, h1, h8, h9, ho2, t1, e2, g10, gc, x1, hp, hlim, app, Option.map_some, dlV, List.append_nil]
    exact hfin (n + 1)
   rw [if_neg hbc] at hG
   rw [show (b == c) = false by simpa using hbc] at gc
   by_cases hb91 : b = 91
   ·rw [if_pos hb91, ← hdr] at hG
    rw [show (b == UInt8.ofNat 91) = true by rw [hb91]; rfl] at g91
    have hdl : (s.drop n).length = s.length - n := List.length_drop
    have hll := lin_len (s.drop n)
    obtain ⟨m1, m2⟩ := brk_le (s.drop n) (lin_ne hdr hb10)
    have hw := w622 s hs n (by rw [e2, hb91]) lim (d + 1)
    generalize brk (s.drop n) = m at *
    rw [app_app, List.drop_drop] at hG
    have q1 : (0 : Int) ≤ (n : Int) ∧ (n : Int) ≤ ((n + m : Nat) : Int) := by omega
    have q2 : (0 : Int) ≤ ((n + m : Nat) : Int) ∧ ((n + m : Nat) : Int) ≤ (s.length : Int) := by omega
    have q3 : (n : Int) ≤ ((n + m : Nat) : Int) := by omega
    have q4 : ((n + m : Nat) : Int) ≤ (s.length : Int) := by omega
    have hsl : (s.take (n + m)).drop n = (s.drop n).take m := by rw [List.drop_take]; congr 1; omega
    simp -implicitDefEqProofs -dsimp only [↓reduceIte, ↓W_seq, go_sem, Nat.reduceEqDiff, reduceCtorEq, h0, h1, h2, h9, ho2, t1, e2, g10, gc, g91]
    refine (hw _ hun).wh ?_
    simp -implicitDefEqProofs -dsimp only [↓reduceIte, ↓W_seq, go_sem, Nat.reduceEqDiff, reduceCtorEq, h0, h1, h2, h8, h9, ho2, q1, q2, hsl]
    exact ⟨by simp only [List.length_take]; omega, s.length - (n + m), by omega, n + m, k, _, rfl, by omega, by omega, hG, by and_intros <;> first | rfl | (simp only [List.length_append, List.length_take]; omega)⟩
   rw [if_neg hb91] at hG
   rw [show (b == UInt8.ofNat 91) = false by simpa using hb91] at g91
   by_cases hb92 : b = 92
   ·rw [if_pos hb92] at hG
    rw [show (b == UInt8.ofNat 92) = true by rw [hb92]; rfl] at g92
    have n92 : ((b.toNat : Int) != 92) = false := by rw [bne, g92]; rfl
    by_cases he : n + 1 < s.length
    ·have t2 : ¬ ((s.length : Int) ≤ ((n + 1 : Nat) : Int)) := by omega
     have f2 : s[n + 1]? = some s[n + 1] := List.getElem?_eq_getElem he
     rw [List.drop_eq_getElem_cons he] at hG
     have hx2 : (s.take (n + 2)).drop (n + 1) = [s[n + 1]] := by
      rw [List.drop_take, List.drop_eq_getElem_cons he, show n + 2 - (n + 1) = 1 by omega]; rfl
     have hx3 : (s.take (n + 2)).drop n = [b, s[n + 1]] := by
      rw [List.drop_take, List.drop_eq_getElem_cons hend, List.drop_eq_getElem_cons he, show n + 2 - n = 2 by omega, hb]; rfl
     generalize hx : s[n + 1] = x at *
     have gx := byte_lit x 10 (by decide)
     simp only [Int.cast_ofNat_Int] at gx
     have gxc := byte_eq x c
     have gcn := byte_lit c 110 (by decide)
     simp only [Int.cast_ofNat_Int] at gcn
     simp only at hG
     by_cases hx10 : x = 10
     ·rw [if_pos hx10] at hG
      subst hG
      rw [show (x == UInt8.ofNat 10) = true by rw [hx10]; rfl] at gx
      simp -implicitDefEqProofs -dsimp only [↓reduceIte, ↓W_seq, go_sem, Nat.reduceEqDiff, Nat.reduceAdd, reduceCtorEq, h0, h1, h2, h9, ho2, t1, t2, e2, f2, g10, gc, g91, n92, x1, gx, hp, hlim]
      exact ⟨rfl, hfin (n + 1)⟩
     ·rw [if_neg hx10, app_app] at hG
      rw [show (x == UInt8.ofNat 10) = false by simpa using hx10] at gx
      have q1 : (0 : Int) ≤ ((n + 1 : Nat) : Int) ∧ ((n + 1 : Nat) : Int) ≤ ((n + 2 : Nat) : Int) := by omega
      have q2 : (0 : Int) ≤ ((n + 2 : Nat) : Int) ∧ ((n + 2 : Nat) : Int) ≤ (s.length : Int) := by omega
      have q3 : ((n + 1 : Nat) : Int) ≤ ((n + 2 : Nat) : Int) := by omega
      have q4 : ((n + 2 : Nat) : Int) ≤ (s.length : Int) := by omega
      have q5 : (n : Int) ≤ ((n + 2 : Nat) : Int) := by omega
      cases hxc : x == c
      ·rw [hxc] at gxc
       have hE : escT c x = [92, x] := by unfold escT; rw [if_neg (fun q => by simp [q.1] at hxc)]
       rw [hE, ← hb92] at hG
       simp -implicitDefEqProofs -dsimp only [↓reduceIte, ↓W_seq, go_sem, Nat.reduceEqDiff, Nat.reduceAdd, Nat.reduceLeDiff, reduceCtorEq, h0, h1, h2, h8, h9, ho2, t1, t2, e2, f2, g10, gc, g91, n92, x1, x2, gx, gxc, q2, q5, hx3]
       exact ⟨by omega, s.length - (n + 2), by omega, n + 2, k, _, rfl, by omega, by omega, hG, by and_intros <;> first | rfl | (simp only [List.length_append, List.length_cons, List.length_nil]; omega)⟩
      ·rw [hxc] at gxc
       cases hcn : c == (110 : UInt8)
       ·rw [show (c == UInt8.ofNat 110) = false from hcn] at gcn
        have hE : escT c x = [x] := by unfold escT; rw [if_pos ⟨by simpa using hxc, by simpa using hcn⟩]
        rw [hE] at hG
        simp -implicitDefEqProofs -dsimp only [↓reduceIte, ↓W_seq, go_sem, Nat.reduceEqDiff, Nat.reduceLeDiff, reduceCtorEq, h0, h1, h2, h8, h9, ho2, t1, t2, e2, f2, g10, gc, g91, n92, x1, x2, gx, gxc, gcn, q1, q2, hx2]
        exact ⟨by omega, s.length - (n + 2), by omega, n + 2, k, _, rfl, by omega, by omega, hG, by and_intros <;> first | rfl | (simp only [List.length_append, List.length_cons, List.length_nil]; omega)⟩
       ·rw [show (c == UInt8.ofNat 110) = true from hcn] at gcn
        have hE : escT c x = [92, x] := by unfold escT; rw [if_neg (fun q => q.2 (by simpa using hcn))]
        rw [hE, ← hb92] at hG
        simp -implicitDefEqProofs -dsimp only [↓reduceIte, ↓W_seq, go_sem, Nat.reduceEqDiff, Nat.reduceAdd, Nat.reduceLeDiff, reduceCtorEq, h0, h1, h2, h8, h9, ho2, t1, t2, e2, f2, g10, gc, g91, n92, x1, x2, gx, gxc, gcn, q2, q5, hx3]
        exact ⟨by omega, s.length - (n + 2), by omega, n + 2, k, _, rfl, by omega, by omega, hG, by and_intros <;> first | rfl | (simp only [List.length_append, List.length_cons, List.length_nil]; omega)⟩
    ·have t2 : ((s.length : Int) ≤ ((n + 1 : Nat) : Int)) := by omega
     rw [List.drop_eq_nil_of_le (by omega : s.length ≤ n + 1)] at hG
     simp only at hG
     subst hG
     simp -implicitDefEqProofs -dsimp only [↓reduceIte, ↓W_seq, go_sem, Nat.reduceEqDiff, Nat.reduceAdd, reduceCtorEq, h0, h1, h2, h9, ho2, t1, t2, e2, g10, gc, g91, n92, x1, hp, hlim]
     exact ⟨rfl, hfin (n + 1)⟩
   rw [if_neg hb92, app_app] at hG
   rw [show (b == UInt8.ofNat 92) = false by simpa using hb92] at g92
   have n92 : ((b.toNat : Int) != 92) = true := by rw [bne, g92]; rfl
   have q2 : (0 : Int) ≤ ((n + 1 : Nat) : Int) ∧ ((n + 1 : Nat) : Int) ≤ (s.length : Int) := by omega
   have q4 : ((n + 1 : Nat) : Int) ≤ (s.length : Int) := by omega
   have q5 : (n : Int) ≤ ((n + 1 : Nat) : Int) := by omega
   have hx1 : (s.take (n + 1)).drop n = [b] := by
    rw [List.drop_take, List.drop_eq_getElem_cons hend, show n + 1 - n = 1 by omega, hb]; rfl
   simp -implicitDefEqProofs -dsimp only [↓reduceIte, ↓W_seq, go_sem, Nat.reduceEqDiff, Nat.reduceLeDiff, reduceCtorEq, h0, h1, h2, h8, h9, ho2, t1, e2, g10, gc, g91, n92, x1, q2, q5, hx1]
   exact ⟨by omega, s.length - (n + 1), by omega, n + 1, k, _, rfl, by omega, by omega, hG, by and_intros <;> first | rfl | (simp only [List.length_append, List.length_cons, List.length_nil]; omega)⟩
  ·have hne' : n = s.length := by omega
   have t1 : ((s.length : Int) ≤ (n : Int)) := by omega
   rw [List.drop_eq_nil_of_le (by omega)] at hG
   simp only [delF] at hG
   subst hG
   simp -implicitDefEqProofs -dsimp only [↓reduceIte, ↓W_seq, go_sem, Nat.reduceEqDiff, Nat.reduceAdd, reduceCtorEq, h0, h9, ho2, t1, hp, hlim]
   exact ⟨rfl, hfin n⟩
 ·exact ⟨n0, s.length + 1, [], rfl, hn0, by omega, hF, rfl, rfl, rfl, rfl, rfl, Nat.zero_le _, rfl⟩
theorem w620 (c : UInt8) (hc : c ≠ 92 ∧ c ≠ 10) (n0 : Nat) (hn0 : n0 ≤ s.length) (p : Mv.Loc) (lim d : Nat) (hp : p.d < d) (hlim : lim ≤ p.d) (σ : Sto) (hu : σ.Und d) (ho : σ.ob p = some (encL s n0)) :
  Ret lim d 49 [.ptr p 0, .int .u8 c.toNat] σ (dlV (delA c s n0)) (σ.set p (encL s (delA c s n0).2)) := by
 have hun := und_succ hu
 have h := w621 s hs c hc n0 hn0 p lim (d + 1) (Nat.lt_succ_of_lt hp) hlim σ hun ho
 have hcs := cut_set σ d p (encL s (delA c s n0).2) hp
 unfold Ret
 unfold dlV at h ⊢
 generalize delA c s n0 = D at *
 obtain ⟨o, m⟩ := D
 rw [WF_body (C := X) rfl func49 rfl (by kernel_rfl)]; simp only [results49]
 simp -implicitDefEqProofs -dsimp only [↓reduceIte, ↓W_seq, go_sem, Nat.reduceEqDiff, reduceCtorEq]
 refine h.wh ?_
 cases o
 ·simp -implicitDefEqProofs -dsimp only [↓reduceIte, go_sem, Nat.reduceEqDiff, hcs, cut_und _ _ hu]
 ·simp -implicitDefEqProofs -dsimp only [↓reduceIte, go_sem, Nat.reduceEqDiff, hcs, cut_und _ _ hu]
theorem w601 (c : UInt8) (hc : c ≠ 92 ∧ c ≠ 10) (n0 : Nat) (hn0 : n0 ≤ s.length) (p : Mv.Loc) (lim d : Nat) (hp : p.d < d) (hlim : lim ≤ p.d) (σ : Sto) (hu : σ.Und d) (ho : σ.ob p = some (encL s n0)) :
  Ret lim d 43 [.ptr p 0, .int .u8 c.toNat] σ (dlV (delA c s n0)) (σ.set p (encL s (delA c s n0).2)) := by
 have hun := und_succ hu
 have h := w603 s hs c hc n0 hn0 p lim (d + 1) (Nat.lt_succ_of_lt hp) hlim σ hun ho
 have hcs := cut_set σ d p (encL s (delA c s n0).2) hp
 unfold Ret
 unfold dlV at h ⊢
 generalize delA c s n0 = D at *
 obtain ⟨o, m⟩ := D
 rw [WF_body (C := X) rfl func43 rfl (by kernel_rfl)]; simp only [results43]
 simp -implicitDefEqProofs -dsimp only [↓reduceIte, ↓W_seq, go_sem, Nat.reduceEqDiff, reduceCtorEq]
 refine h.wh ?_
 cases o
 ·simp -implicitDefEqProofs -dsimp only [↓reduceIte, go_sem, Nat.reduceEqDiff, hcs, cut_und _ _ hu]
 ·simp -implicitDefEqProofs -dsimp only [↓reduceIte, go_sem, Nat.reduceEqDiff, hcs, cut_und _ _ hu]
end
end Go.Proofs.Tryz.E
