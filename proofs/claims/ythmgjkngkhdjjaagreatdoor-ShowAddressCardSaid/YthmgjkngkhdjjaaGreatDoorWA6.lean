/- Walks: what the functions compute. Walks: what the functions compute. Walks: what the functions compute. Walks: what the functions compute. Walks: what the functions compute. -/
import Derived.Test.YthmgjkngkhdjjaaGreatDoorWV7
import Derived.Test.YthmgjkngkhdjjaaGreatDoorWA5
import Derived.Test.YthmgjkngkhdjjaaGreatDoorWA3
set_option linter.unusedVariables false
set_option linter.unusedSimpArgs false
/- Each / of a printed pattern, but those in brackets, gets a backslash. -/
namespace Go.Proofs.Tryz.E
open Go.Mv
set_option maxHeartbeats 4000000
set_option maxRecDepth 20000
theorem drop_at {s : List UInt8} {i : Nat} {b : UInt8} {r : List UInt8} (h : s.drop i = b :: r) : s[i]? = some b ∧ s.drop (i + 1) = r ∧ i + (r.length + 1) = s.length := by
 have hl := congrArg List.length h
 rw [List.length_drop, List.length_cons] at hl
 refine ⟨?_, ?_, by omega⟩
 ·have := congrArg (·[0]?) h
  simpa [List.getElem?_drop] using this
 ·rw [← List.drop_drop, h]; rfl
theorem drop_more {s b r : List UInt8} {i : Nat} (h : s.drop i = b ++ r) : s.drop (i + b.length) = r := by
 rw [← List.drop_drop, h, List.drop_left]
theorem w706 {b w S : List UInt8} (hS : S = 91 :: (b ++ 93 :: w)) (h : Un b) (hl : S.length ≤ 900000) (lim d : Nat) (σ : Sto) (hu : σ.Und d) : Ret lim d 45 [.str S] σ (.int .i64 ((b.length + 2 : Nat) : Int)) σ := by
 have hun := und_succ hu
 have hln : S.length = b.length + w.length + 2 := by rw [hS]; simp; omega
 unfold Ret
 rw [WF_body (C := X) rfl func45 rfl (by kernel_rfl)]; simp only [results45]
 simp -implicitDefEqProofs -dsimp only [go_sem]
 refine loop_h (I := fun f a s' => ∃ (i : Nat) (r : List UInt8), f = r.length ∧ Un r ∧ S.drop i = r ++ 93 :: w ∧ i + r.length = b.length + 1 ∧ a 3 = .int .i64 i ∧ a 0 = .str S ∧ s'.cut d = σ ∧ s'.Und (d + 1)) ?_ b.length _ _ ?_
 ·rintro f a s' ⟨i, r, hf, hr, hdr, hi, h3, h0, hcut, un⟩
  have q1 : (0 : Int) ≤ (i : Int) ∧ (i : Int) ≤ (S.length : Int) := by omega
  have q2 : (i : Int) ≤ (S.length : Int) := by omega
  have x1 := wr64 ((i : Int) + 1) (by omega) (by omega)
  have x4 := wr64 ((i : Int) + 4) (by omega) (by omega)
  have hP := fun σ hσ => w81 (S.drop i) [91, 46] (by rw [List.length_drop]; omega) lim (d + 1) σ hσ
  simp -implicitDefEqProofs -dsimp only [go_sem, h3, h0, bnd, q1, List.take_length]
  refine (hP _ un).wh ?_
  cases hr with
  | nil =>
   rw [List.nil_append] at hdr
   have hp : preS (S.drop i) [91, 46] = false := by rw [hdr]; cases w <;> rfl
   obtain ⟨e1, _, _⟩ := drop_at hdr
   simp only [List.length_nil, Nat.add_zero] at hi
   have g93 : (((93 : UInt8).toNat : Int) == 93) = true := rfl
   simp -implicitDefEqProofs -dsimp only [go_sem, hp, h3, h0, e1, g93, x1]
   exact ⟨congrArg _ (by omega), hcut⟩
  | @sp c t hc ht =>
   have hp : preS (S.drop i) [91, 46] = true := by rw [hdr]; rfl
   have hd5 : S.drop (i + 5) = t ++ 93 :: w := drop_more (b := [91, 46, c, 46, 93]) hdr
   simp only [List.length_cons] at hi hf
   have x5 := wr64 ((i : Int) + 4 + 1) (by omega) (by omega)
   simp -implicitDefEqProofs -dsimp only [go_sem, hp, h3, h0, x4, x5]
   exact ⟨t.length, by omega, i + 5, t, rfl, ht, hd5, by omega, congrArg _ (by omega), hcut, un⟩
  | @pl x t h1 h2 h4 ht =>
   have hp : preS (S.drop i) [91, 46] = false := by
    rw [hdr]
    unfold preS
    rw [beq_eq_false_iff_ne]
    intro e
    rw [List.cons_append, List.length_cons, List.take_succ_cons, List.cons.injEq] at e
    exact h1 e.1
   obtain ⟨e1, e2, _⟩ := drop_at hdr
   have g93 : ((x.toNat : Int) == 93) = false := byN h2
   simp only [List.length_cons] at hi hf
   simp -implicitDefEqProofs -dsimp only [go_sem, hp, h3, h0, e1, g93, x1]
   exact ⟨t.length, by omega, i + 1, t, rfl, ht, e2, by omega, congrArg _ (by omega), hcut, un⟩
 ·refine ⟨1, b, rfl, h, by rw [hS]; rfl, by omega, rfl, rfl, ?_, hun⟩
  simp -implicitDefEqProofs -dsimp only [go_sem, cut_und _ _ hu]
theorem w705 {s u : List UInt8} (h : Sl s u) (hl : u.length ≤ 400000) (lim d : Nat) (hlim : lim ≤ d) (σ : Sto) (hu : σ.Und d) : Ret lim d 29 [.str s] σ (.str u) σ := by
 have hun := und_succ hu
 have hsl := h.len
 have hiB : isB (BL d (σ.ct d)) = true := by simp [isB, BL]
 have hlB : lim ≤ (BL d (σ.ct d)).d := hlim
 have hdB : (BL d (σ.ct d)).d ≤ d := Nat.le_refl d
 unfold Ret
 rw [WF_body (C := X) rfl func29 rfl (by kernel_rfl)]; simp only [results29]
 simp -implicitDefEqProofs -dsimp only [go_sem]
 refine loop_h (I := fun f a s' => ∃ (i : Nat) (r v t : List UInt8), f = r.length ∧ s.drop i = r ∧ i + r.length = s.length ∧ Sl r v ∧ t ++ v = u ∧ a 4 = .int .i64 i ∧ a 0 = .str s ∧ a 3 = .ptr (BL d (σ.ct d)) 0 ∧ BS s' (BL d (σ.ct d)) t ∧ SB d (BL d (σ.ct d)) σ s' ∧ s'.Und (d + 1)) ?_ s.length _ _ ?_
 ·rintro f a s' ⟨i, r, v, t, hf, hdr, hi, hr, htu, h4, h0, h3, bs, sb, un⟩
  have htl := congrArg List.length htu
  rw [List.length_append] at htl
  have q1 : (0 : Int) ≤ (i : Int) ∧ (i : Int) ≤ (s.length : Int) := by omega
  have q2 : (i : Int) ≤ (s.length : Int) := by omega
  have x1 : IntKind.i64.wrap ((i : Int) + 1) = ((i + 1 : Nat) : Int) := by rw [wr64 _ (by omega) (by omega)]; omega
  cases hr with
  | nil =>
   have e1 : ¬ ((i : Int) < (s.length : Int)) := by simp only [List.length_nil] at hi; omega
   rw [List.append_nil] at htu
   subst htu
   simp -implicitDefEqProofs -dsimp only [go_sem, h4, h0, e1, h3]
   refine w503 bs hlB hdB (by omega) fun s2 hs2 => ?_
   simp -implicitDefEqProofs -dsimp only [go_sem]
   exact (sb.trans hs2).back hu (Nat.le_refl _)
  | @es c r v hc hc2 hr =>
   obtain ⟨g1, g2, _⟩ := drop_at hdr
   obtain ⟨g3, g4, _⟩ := drop_at g2
   simp only [List.length_cons] at hi hf htl
   have e1 : ((i : Int) < (s.length : Int)) := by omega
   have g92 : (((92 : UInt8).toNat : Int) == 92) = true := rfl
   have x2 : IntKind.i64.wrap (((i + 1 : Nat) : Int) + 1) = ((i + 1 + 1 : Nat) : Int) := by rw [wr64 _ (by omega) (by omega)]; omega
   have p1 : (0 : Int) ≤ ((i + 1 : Nat) : Int) := by omega
   simp -implicitDefEqProofs -dsimp only [go_sem, h4, h0, e1, h3, g1, g92]
   refine w502 (c := ((92 : UInt8).toNat : Int)) (by decide) bs hlB hdB hiB un (by omega) fun s1 v1 bs1 sb1 un1 => ?_
   have hg3 : s[i + 1]? = some c := g3
   simp -implicitDefEqProofs -dsimp only [go_sem, h4, h0, h3, x1, p1, Int.toNat_natCast, hg3]
   refine w502 (c := (c.toNat : Int)) (by have := c.toNat_lt; omega) bs1 hlB hdB hiB un1 (by rw [List.length_append]; simp only [List.length_cons, List.length_nil]; omega) fun s2 v2 bs2 sb2 un2 => ?_
   rw [ofN, ofN] at bs2
   simp -implicitDefEqProofs -dsimp only [go_sem, h0, h3, x2]
   exact ⟨r.length, by omega, i + 1 + 1, r, v, t ++ [92] ++ [c], rfl, g4, by omega, hr, by rw [← htu]; simp, rfl, bs2, (sb.trans (sb1.le (Nat.le_succ d))).trans (sb2.le (Nat.le_succ d)), un2⟩
  | @br b r v h1 h2 h5 hr =>
   obtain ⟨g1, g2, _⟩ := drop_at hdr
   have g3 : s.drop (i + 1 + b.length) = 93 :: r := drop_more g2
   obtain ⟨g4, g5, _⟩ := drop_at g3
   simp only [List.length_cons, List.length_append] at hi hf htl
   have e1 : ((i : Int) < (s.length : Int)) := by omega
   have g92 : (((91 : UInt8).toNat : Int) == 92) = false := rfl
   have g47 : (((91 : UInt8).toNat : Int) == 47) = false := rfl
   have g91 : (((91 : UInt8).toNat : Int) == 91) = true := rfl
   have hB := fun σ hσ => w706 hdr h1 (by rw [List.length_drop]; omega) lim (d + 1) σ hσ
   have y1 : IntKind.i64.wrap ((i : Int) + ((b.length + 2 : Nat) : Int)) = ((i + b.length + 2 : Nat) : Int) := by rw [wr64 _ (by omega) (by omega)]; omega
   have y2 : IntKind.i64.wrap (((i + b.length + 2 : Nat) : Int) - 1) = ((i + b.length + 1 : Nat) : Int) := by rw [wr64 _ (by omega) (by omega)]; omega
   have y3 : IntKind.i64.wrap (((b.length + 2 : Nat) : Int) - 1) = ((b.length + 1 : Nat) : Int) := by rw [wr64 _ (by omega) (by omega)]; omega
   have y4 : IntKind.i64.wrap ((i : Int) + ((b.length + 1 : Nat) : Int)) = ((i + b.length + 1 : Nat) : Int) := by rw [wr64 _ (by omega) (by omega)]; omega
   have y5 : IntKind.i64.wrap (((i + b.length + 1 : Nat) : Int) + 1) = ((i + b.length + 2 : Nat) : Int) := by rw [wr64 _ (by omega) (by omega)]; omega
   have p1 : (0 : Int) ≤ ((i + b.length + 1 : Nat) : Int) ∧ ((i + b.length + 1 : Nat) : Int) ≤ (s.length : Int) := by omega
   have p2 : (0 : Int) ≤ (i : Int) ∧ (i : Int) ≤ ((i + b.length + 1 : Nat) : Int) := by omega
   have hsl : (s.take (i + b.length + 1)).drop i = 91 :: b := by
    rw [List.drop_take, hdr, show i + b.length + 1 - i = b.length + 1 by omega, List.take_succ_cons, List.take_left]
   have g6 : s[i + b.length + 1]? = some 93 := by rw [show i + b.length + 1 = i + 1 + b.length by omega]; exact g4
   simp -implicitDefEqProofs -dsimp only [go_sem, h4, h0, e1, g1, g92, g47, g91, bnd, q1, List.take_length]
   refine (hB _ un).wh ?_
   simp -implicitDefEqProofs -dsimp only [go_sem, h4, h0, h3, y1, y2, bnd, p1, p2, hsl, Int.toNat_natCast]
   refine w501 (x := 91 :: b) bs hlB hdB hiB un (by simp only [List.length_cons]; omega) fun s1 v1 bs1 sb1 un1 => ?_
   simp -implicitDefEqProofs -dsimp only [go_sem, h4, h0, h3, y3, y4, p1.1, Int.toNat_natCast, g6]
   refine w502 (c := ((93 : UInt8).toNat : Int)) (by decide) bs1 hlB hdB hiB un1 (by rw [List.length_append]; simp only [List.length_cons]; omega) fun s2 v2 bs2 sb2 un2 => ?_
   rw [ofN] at bs2
   simp -implicitDefEqProofs -dsimp only [go_sem, h0, h3, y5]
   exact ⟨r.length, by omega, i + b.length + 2, r, v, t ++ (91 :: b) ++ [93], rfl, by rw [← g5]; congr 1; omega, by omega, hr, by rw [← htu]; simp, rfl, bs2, (sb.trans (sb1.le (Nat.le_succ d))).trans (sb2.le (Nat.le_succ d)), un2⟩
  | @sh r v hr =>
   obtain ⟨g1, g2, _⟩ := drop_at hdr
   simp only [List.length_cons] at hi hf htl
   have e1 : ((i : Int) < (s.length : Int)) := by omega
   have g92 : (((47 : UInt8).toNat : Int) == 92) = false := rfl
   have g47 : (((47 : UInt8).toNat : Int) == 47) = true := rfl
   simp -implicitDefEqProofs -dsimp only [go_sem, h4, h0, e1, h3, g1, g92, g47]
   refine w502 (c := 92) (by decide) bs hlB hdB hiB un (by omega) fun s1 v1 bs1 sb1 un1 => ?_
   simp -implicitDefEqProofs -dsimp only [go_sem, h4, h0, h3, g1]
   refine w502 (c := ((47 : UInt8).toNat : Int)) (by decide) bs1 hlB hdB hiB un1 (by rw [List.length_append]; simp only [List.length_cons, List.length_nil]; omega) fun s2 v2 bs2 sb2 un2 => ?_
   rw [ofN] at bs2
   have bs3 : BS s2 (BL d (σ.ct d)) (t ++ [92] ++ [47]) := bs2
   simp -implicitDefEqProofs -dsimp only [go_sem, h4, h0, h3, x1]
   exact ⟨r.length, by omega, i + 1, r, v, t ++ [92] ++ [47], rfl, g2, by omega, hr, by rw [← htu]; simp, rfl, bs3, (sb.trans (sb1.le (Nat.le_succ d))).trans (sb2.le (Nat.le_succ d)), un2⟩
  | @pl b r v h1 h2 h5 h6 hr =>
   obtain ⟨g1, g2, _⟩ := drop_at hdr
   simp only [List.length_cons] at hi hf htl
   have e1 : ((i : Int) < (s.length : Int)) := by omega
   have g92 : ((b.toNat : Int) == 92) = false := byN h1
   have g47 : ((b.toNat : Int) == 47) = false := byN h6
   have g91 : ((b.toNat : Int) == 91) = false := byN h2
   simp -implicitDefEqProofs -dsimp only [go_sem, h4, h0, e1, h3, g1, g92, g47, g91]
   refine w502 (c := (b.toNat : Int)) (by have := b.toNat_lt; omega) bs hlB hdB hiB un (by omega) fun s1 v1 bs1 sb1 un1 => ?_
   rw [ofN] at bs1
   simp -implicitDefEqProofs -dsimp only [go_sem, h4, h0, h3, x1]
   exact ⟨r.length, by omega, i + 1, r, v, t ++ [b], rfl, g2, by omega, hr, by rw [← htu]; simp, rfl, bs1, sb.trans (sb1.le (Nat.le_succ d)), un1⟩
 ·refine ⟨0, s, u, [], rfl, rfl, Nat.zero_add _, h, rfl, rfl, rfl, rfl, ⟨.nilp, .nil, ?_, rfl, .inl ⟨rfl, rfl⟩⟩, ?_, ?_⟩
  ·simp [Sto.set, Sto.tick, BL, bytesM]
  ·exact ((SB.refl d _ σ).set _).tick
  ·simp only [u_tick, u_mine]; exact hun
def PatV (ext : Bool) (x : Nd) (r : MV) : Prop :=
 (∃ e, r = printV [] e ∧ (e == 0) = false) ∨
 ∃ s u, r = printV u 0 ∧ Sl s u ∧ u.length ≤ 90000 ∧ (rdP ext s).2.2 = 0 ∧ (rdP ext s).1 = x
theorem w704 (ext : Bool) (x : Nd) (hx : okc x) (hsz : sz x ≤ 1000000) (lim d : Nat) (hlim : lim ≤ d) (σ : Sto) (hu : σ.Und d) : WF X lim d 15 [.agg (enc x), .bool ext] σ fun r s => PatV ext x r ∧ s = σ := by
 have hun := und_succ hu
 have hB := fun σ h => w532 x hx hsz lim (d + 1) σ (by omega) h
 have hE := fun σ h => w514 x hx hsz lim (d + 1) σ (by omega) h
 have hc := cnt_sz x hsz
 have hfm : formedB x = true → sz x ≤ 300 := fun h => by
  simp only [formedB, Bool.and_eq_true, decide_eq_true_eq] at h
  omega
 have key : ∀ (σ' : Sto) (r : MV), PrtV ext x r → ∀ {Q : Prop}, ((∃ e, r = printV [] e ∧ (e != 0) = true) → Q) → (∀ s u, r = printV s 0 → Sl s u → u.length ≤ 90000 → (rdP ext s).2.2 = 0 → (rdP ext s).1 = x → Q) → Q := fun σ' r h Q h1 h2 => by
  rcases h with ⟨_, rfl⟩ | ⟨_, rfl⟩ | ⟨t, m, hf, rfl, hp, hm, he, hs⟩
  ·exact h1 ⟨1, rfl, rfl⟩
  ·exact h1 ⟨10, rfl, rfl⟩
  ·obtain ⟨u, hu, hul⟩ := sl_of hp
   have := hfm hf
   exact h2 t u rfl hu (by omega) he (same_eq hs)
 obtain ⟨kd, c, s0, s1, s2, s3, n, mn, mx, l⟩ := x
 rw [WF_body (C := X) rfl func15 rfl (by kernel_rfl)]; simp only [results15]
 cases ext
 ·simp -implicitDefEqProofs -dsimp only [go_sem, enc]
  refine WF.whm (hB _ (by simp only [u_tick, u_mine]; exact hun)) fun r s hr => ?_
  obtain ⟨hr, rfl⟩ := hr
  refine key σ r hr (fun h => ?_) fun s u h h2 h3 h4 h5 => ?_
  ·obtain ⟨e, rfl, he⟩ := h
   unfold printV
   simp -implicitDefEqProofs -dsimp only [go_sem, he, Option.some.injEq, exists_eq_left', cut_und _ _ hu]
   exact .inl ⟨e, rfl, by simpa using he⟩
  ·subst h
   unfold printV
   simp -implicitDefEqProofs -dsimp only [go_sem, Option.some.injEq, exists_eq_left']
   refine (w705 h2 (by omega) lim (d + 1) (by omega) _ (by simp only [u_tick, u_mine]; exact hun)).wh ?_
   simp -implicitDefEqProofs -dsimp only [go_sem, enc, cut_und _ _ hu]
   exact .inr ⟨s, u, rfl, h2, h3, h4, h5⟩
 ·simp -implicitDefEqProofs -dsimp only [go_sem, enc]
  refine WF.whm (hE _ (by simp only [u_tick, u_mine]; exact hun)) fun r s hr => ?_
  obtain ⟨hr, rfl⟩ := hr
  refine key σ r hr (fun h => ?_) fun s u h h2 h3 h4 h5 => ?_
  ·obtain ⟨e, rfl, he⟩ := h
   unfold printV
   simp -implicitDefEqProofs -dsimp only [go_sem, he, Option.some.injEq, exists_eq_left', cut_und _ _ hu]
   exact .inl ⟨e, rfl, by simpa using he⟩
  ·subst h
   unfold printV
   simp -implicitDefEqProofs -dsimp only [go_sem, Option.some.injEq, exists_eq_left']
   refine (w705 h2 (by omega) lim (d + 1) (by omega) _ (by simp only [u_tick, u_mine]; exact hun)).wh ?_
   simp -implicitDefEqProofs -dsimp only [go_sem, enc, cut_und _ _ hu]
   exact .inr ⟨s, u, rfl, h2, h3, h4, h5⟩
def AdrV (ext : Bool) (k v : Int) (x : Nd) (r : MV) : Prop :=
 (formA k v x = false ∧ r = printV [] 1) ∨ (formA k v x = true ∧ r = printV [] 10) ∨
 ∃ t, formA k v x = true ∧ r = printV t 0 ∧ AdT ext k v x t
theorem w703 (ext : Bool) (k v : Int) (x : Nd) (hx : okc x) (hsz : sz x ≤ 1000000) (lim d : Nat) (hlim : lim ≤ d) (σ : Sto) (hu : σ.Und d) : WF X lim d 6 [.agg (encA k v x), .bool ext] σ fun r s => AdrV ext k v x r ∧ s = σ := by
 have hun := und_succ hu
 have h407 := w407 k v x hsz 0 0 zn (by rw [sz_zn]; decide) false lim (d + 1)
 have h704 := w704 ext x hx hsz lim (d + 1) (by omega)
 have hz : formA 0 0 zn = true := by decide +kernel
 have hG : formG k v x 0 0 zn = formA k v x := by simp [formG, hz]
 rw [hG] at h407
 have hF : formA k v x = true → AdT ext k v x [] ∨ (k = 1 ∧ 0 ≤ v ∧ v ≤ 1000000000 ∧ x = zn) ∨ (k = 2 ∧ v = 0 ∧ x = zn) ∨ (k = 4 ∧ v = 0 ∧ x = zn) ∨ (k = 3 ∧ v = 0) := fun h => by
  unfold formA at h
  split at h
  ·rename_i q
   simp only [Bool.and_eq_true, beq_iff_eq] at h
   exact .inr (.inr (.inr (.inr ⟨q, h.1⟩)))
  ·split at h
   ·rename_i q
    simp only [Bool.and_eq_true, decide_eq_true_eq] at h
    exact .inr (.inl ⟨q, h.1, h.2.1, same_eq h.2.2⟩)
   ·split at h
    ·rename_i q
     simp only [Bool.and_eq_true, beq_iff_eq] at h
     obtain ⟨rfl, h⟩ := h
     cases same_eq h
     rcases q with rfl | rfl | rfl
     ·exact .inl .no
     ·exact .inr (.inr (.inl ⟨rfl, rfl, rfl⟩))
     ·exact .inr (.inr (.inr (.inl ⟨rfl, rfl, rfl⟩)))
    ·cases h
 unfold AdrV
 generalize hfv : formA k v x = fv at h407 hF
 have hx' : ∀ P : Prop, (∀ kd c s0 s1 s2 s3 n mn mx l, x = .mk kd c s0 s1 s2 s3 n mn mx l → P) → P := fun P h => by
  cases x; exact h _ _ _ _ _ _ _ _ _ _ rfl
 rw [WF_body (C := X) rfl func6 rfl (by kernel_rfl)]; simp only [results6]
 refine hx' _ fun kd c s0 s1 s2 s3 n mn mx l e => ?_
 rw [e] at h407 h704 ⊢
 simp -implicitDefEqProofs -dsimp only [go_sem, enc, encA]
 refine (h407 _ (by omega) (by simp only [u_tick, u_mine]; exact hun)).wh ?_
 cases fv
 ·simp -implicitDefEqProofs -dsimp only [go_sem, cut_und _ _ hu]
  exact .inl rfl
 rcases hF rfl with h | ⟨rfl, h1, h2, h3⟩ | ⟨rfl, rfl, h3⟩ | ⟨rfl, rfl, h3⟩ | ⟨rfl, rfl⟩
 ·rw [e] at h
  have hk : k = 0 := by
   generalize hn : ([] : List UInt8) = nl at h
   cases h with
   | no => rfl
   | ln n => exact absurd hn.symm (dec_ne n)
   | _ => cases hn
  subst hk
  simp -implicitDefEqProofs -dsimp only [go_sem, cut_und _ _ hu]
  exact .inr (.inr ⟨_, rfl, h⟩)
 ·simp -implicitDefEqProofs -dsimp only [go_sem]
  refine w506 v h1 h2 _ _ _ ?_
  simp -implicitDefEqProofs -dsimp only [go_sem, cut_und _ _ hu]
  refine .inr (.inr ⟨_, rfl, ?_⟩)
  rw [← e, h3, show v = ((v.toNat : Nat) : Int) by omega, itoa_dec]
  exact .ln _ (by omega)
 ·simp -implicitDefEqProofs -dsimp only [go_sem, cut_und _ _ hu]
  rw [← e, h3]
  exact .inr (.inr ⟨_, rfl, .la⟩)
 ·simp -implicitDefEqProofs -dsimp only [go_sem, cut_und _ _ hu]
  rw [← e, h3]
  exact .inr (.inr ⟨_, rfl, .sa⟩)
 ·simp -implicitDefEqProofs -dsimp only [go_sem]
  refine WF.whm (h704 _ (by simp only [u_tick, u_mine]; exact hun)) fun r s hr => ?_
  obtain ⟨hr, rfl⟩ := hr
  rcases hr with ⟨e1, rfl, he⟩ | ⟨s, u, rfl, g1, g2, g3, g4⟩
  ·unfold printV
   have he' : (e1 != 0) = true := by simpa using he
   simp -implicitDefEqProofs -dsimp only [go_sem, he', cut_und _ _ hu]
   exact .inr (.inl trivial)
  ·unfold printV
   have gl := g1.len
   cases hn : u == []
   ·simp -implicitDefEqProofs -dsimp only [go_sem, hn, List.length_cons, List.length_nil, cut_und _ _ hu]
    refine ⟨by omega, by omega, .inr (.inr ⟨_, rfl, ?_⟩)⟩
    have hs : s ≠ [] := fun q => by
     have : u = [] := by rw [q] at gl; simpa using gl
     rw [this] at hn
     cases hn
    exact .pt _ s u g1 hs g2 g3 g4
   ·simp -implicitDefEqProofs -dsimp only [go_sem, hn, cut_und _ _ hu]
    exact .inr (.inl trivial)
def adrL (k v : Int) : List MV := .int .i64 k :: .int .i64 v :: enc (.mk 0 0 0 0 0 0 0 0 0 [])
def OneL (s : List UInt8) (n : Nat) (k v : Int) (m : Nat) : Prop :=
 (k = 1 ∧ (∃ c, s[n]? = some c ∧ 48 ≤ c.toNat ∧ c.toNat ≤ 57) ∧ v = numV ((s.drop n).take (dgL s n)) ∧ numV ((s.drop n).take (dgL s n)) ≤ 1000000000 ∧ (∀ i, i < dgL s n → ∃ c, (s.drop n)[i]? = some c ∧ 48 ≤ c.toNat ∧ c.toNat ≤ 57) ∧ 0 < dgL s n ∧ m = n + dgL s n) ∨
 (k = 2 ∧ v = 0 ∧ s[n]? = some 36 ∧ m = n + 1)
section
variable (s : List UInt8) (hs : s.length ≤ 1000000)
include hs
end
@[go_sem] theorem bslF_eqL (P : Program) (t : TypeId) (n : Nat) (ps : List (Nat × MV)) : bslF P t n ps = (slc P t).bind fun x => if ps.length = n ∧ n * x.2.1 ≤ 65536 ∧ 0 < x.2.1 then (sliceParts x.2.1 0 ps).map fun xs => .sl .no xs else none := by
 unfold bslF
 cases slc P t <;> rfl
@[go_sem] theorem cvt_byL (tk : Tok) (n : Int) : cvtO X.P 86 9 (.sl tk [[.int .u8 n]]) = some (.str [UInt8.ofNat n.toNat]) := by
 have h1 : X.P.underlying 86 = some (.slice 5) := by kernel_rfl
 have h2 : X.P.underlying 9 = some .string := by kernel_rfl
 have h3 : X.P.underlying 5 = some (.int .u8) := by kernel_rfl
 simp only [cvtO, h1, h2, h3, bytesOf, Option.map_some]
theorem same_refl : ∀ x : Nd, sameB x x = true := by
 refine Nd.ind fun kd c s0 s1 s2 s3 n mn mx l ih => ?_
 have : ∀ l : List Nd, (∀ y ∈ l, sameB y y = true) → samesB l l = true := by
  intro l
  induction l with
  | nil => intro _; rfl
  | cons y l ih => intro h; simp only [samesB, h y (List.mem_cons_self ..), ih fun z hz => h z (List.mem_cons_of_mem _ hz), Bool.and_self]
 simp only [sameB, beq_self_eq_true, Bool.and_self, this l ih]
theorem like_refl (k v : Int) (x : Nd) (k2 v2 : Int) (y : Nd) (b : Bool) : likeG k v x k2 v2 y b k v x k2 v2 y b = true := by
 simp only [likeG, likeA, beq_self_eq_true, same_refl, Bool.and_self]
end Go.Proofs.Tryz.E
