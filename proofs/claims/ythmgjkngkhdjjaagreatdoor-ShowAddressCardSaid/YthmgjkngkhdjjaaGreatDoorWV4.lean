/- Walks: what the functions compute. Walks: what the functions compute. -/
import Derived.Test.YthmgjkngkhdjjaaGreatDoorWV2
set_option linter.unusedVariables false
set_option linter.unusedSimpArgs false
/- How patterns are written: a byte, a repeat. -/
namespace Go.Proofs.Tryz.E
open Go.Mv
set_option maxHeartbeats 4000000
set_option maxRecDepth 20000
structure Sty where
 o : List UInt8
 sh : List UInt8
 br : List UInt8
 ub : List UInt8
 es : List UInt8
def encY (y : Sty) : List MV := [.str y.o, .str y.sh, .str y.br, .str y.ub, .str y.es]
structure OkY (y : Sty) : Prop where
 o : Pc y.o 2
 sh : Pc y.sh 2
 br : Pc y.br 2
 ub : Pc y.ub 2
 e91 : y.es.contains 91 = true
 e92 : y.es.contains 92 = true
 e47 : y.es.contains 47 = false
attribute [go_sem] encY
theorem w518 (y : Sty) (hy : OkY y) (c : UInt8) (lim d : Nat) (σ : Sto) (hu : σ.Und d) : RetP lim d 77 [.agg (encY y), .int .u8 c.toNat] σ 2 := by
 have hun := und_succ hu
 have hI := fun σ hσ => w41 y.es c lim (d + 1) σ hσ
 unfold RetP
 rw [WF_body (C := X) rfl func77 rfl (by kernel_rfl)]; simp only [results77]
 by_cases h : (c.toNat : Int) = 10
 ·have e : ((c.toNat : Int) == 10) = true := by rw [h]; rfl
  simp -implicitDefEqProofs -dsimp only [go_sem, e, cut_und _ _ hu]
  exact ⟨_, _, rfl, Pc.two (by decide) (by decide), Nat.le_refl _⟩
 ·have e : ((c.toNat : Int) == 10) = false := by rw [beq_eq_false_iff_ne]; exact h
  have hb : UInt8.ofNat c.toNat ≠ 10 := byte_ten c.toNat_lt (by omega)
  have hcc : UInt8.ofNat c.toNat = c := by simp
  have hin := idxB_in y.es c
  simp -implicitDefEqProofs -dsimp only [go_sem, e]
  refine (hI _ (by simp only [u_tick, u_mine]; exact hun)).wh ?_
  by_cases g : 0 ≤ idxB y.es c.toNat
  ·simp -implicitDefEqProofs -dsimp only [go_sem, g, cut_und _ _ hu, Int.toNat_natCast, List.length_cons, List.length_nil, List.cons_append, List.nil_append]
   rw [decide_eq_true g] at hin
   exact ⟨_, _, rfl, Pc.two hb (by rw [hcc]; rintro rfl; rw [hy.e47] at hin; cases hin), Nat.le_refl _⟩
  ·simp -implicitDefEqProofs -dsimp only [go_sem, g, cut_und _ _ hu, Int.toNat_natCast]
   rw [decide_eq_false g] at hin
   exact ⟨_, _, rfl, Pc.one (by rw [hcc]; rintro rfl; rw [hy.e92] at hin; cases hin) (by rw [hcc]; rintro rfl; rw [hy.e91] at hin; cases hin) hb, Nat.le_refl _⟩
theorem ito_all : (List.range 256).all (fun n => ((Lib.itoa (n : Int)).all fun b => b != 92 && b != 91 && b != 10) && decide ((Lib.itoa (n : Int)).length ≤ 3)) = true := by kernel_rfl
theorem ito_ok (n : Int) (h : 0 ≤ n) (h2 : n ≤ 255) : Pc (Lib.itoa n) (2 * (Lib.itoa n).length) ∧ (Lib.itoa n).length ≤ 3 := by
 have := List.all_eq_true.1 ito_all n.toNat (by rw [List.mem_range]; omega)
 rw [show ((n.toNat : Nat) : Int) = n by omega, Bool.and_eq_true, decide_eq_true_eq, List.all_eq_true] at this
 refine ⟨Pc.plain _ fun x hx => ?_, this.2⟩
 have := this.1 x hx
 simp only [Bool.and_eq_true, bne_iff_ne, ne_eq] at this
 exact ⟨this.1.1, this.1.2, this.2⟩
theorem ito_one (n : Int) (h : 0 < n) (h2 : n ≤ 9) : Pc (92 :: Lib.itoa n) 2 := by
 obtain ⟨k, rfl⟩ : ∃ k : Nat, n = k := ⟨n.toNat, by omega⟩
 have hk : k < 10 := by omega
 have e : Lib.itoa (k : Int) = [UInt8.ofNat (48 + k)] := by
  unfold Lib.itoa
  rw [if_neg (by omega), Int.toNat_natCast, Lib.decDigits_one hk]
 rw [e]
 exact Pc.two (byte_of_ne (by omega) (z := 10) (by decide) (by omega)) (byte_of_ne (by omega) (z := 47) (by decide) (by omega))
theorem w506 (n : Int) (h : 0 ≤ n) (h2 : n ≤ 1000000000) (lim d : Nat) (σ : Sto) {P : MV → Sto → Prop} (hq : P (.str (Lib.itoa n)) σ) : WFh X lim d 14 [.int .i64 n] σ (TagF P) := by
 rw [← WF_h, WF_prim (p := itoaP) rfl]
 exact ⟨(.str (Lib.itoa n), σ), by simp only [itoaP]; rw [if_pos (by omega)], hq⟩
theorem w519 (y : Sty) (hy : OkY y) (x : Nd) (mn mx : Int) (hb : boundsB mn mx = true) (lim d : Nat) (σ : Sto) (hu : σ.Und d) (kd c s0 s1 s2 s3 n : Int) (l : List Nd) : RetP lim d 79 [.agg (encY y), .agg (enc (.mk kd c s0 s1 s2 s3 n mn mx l))] σ 18 := by
 have hun := und_succ hu
 simp only [boundsB, Bool.and_eq_true, Bool.or_eq_true, decide_eq_true_eq, beq_iff_eq] at hb
 obtain ⟨⟨hb1, hb2⟩, hb3⟩ := hb
 obtain ⟨i1, i2⟩ := ito_ok mn hb1 hb2
 unfold RetP
 rw [WF_body (C := X) rfl func79 rfl (by kernel_rfl)]; simp only [results79]
 have n3 := hy.br
 have n4 := hy.ub
 have l3 := n3.len
 have l4 := n4.len
 have nc : Pc [44] 2 := Pc.one (by decide) (by decide) (by decide)
 cases e0 : mn == 0
 ·simp -implicitDefEqProofs -dsimp only [go_sem, enc, e0]
  rw [D_dr (by kernel_rfl) rfl]
  simp -implicitDefEqProofs -dsimp only [go_sem]
  refine w506 mn hb1 (by omega) _ _ _ ?_
  simp -implicitDefEqProofs -dsimp only [go_sem, List.length_append]
  refine ⟨by omega, ?_⟩
  cases e2 : mx != mn
  ·simp -implicitDefEqProofs -dsimp only [go_sem, cut_und _ _ hu]
   exact ⟨by omega, _, _, rfl, (n3.app i1).app n4, by omega⟩
  ·cases e3 : decide (0 ≤ mx)
   ·simp -implicitDefEqProofs -dsimp only [go_sem, cut_und _ _ hu]
    exact ⟨by omega, by omega, _, _, rfl, ((n3.app i1).app nc).app n4, by omega⟩
   ·have h0 : 0 ≤ mx := of_decide_eq_true e3
    obtain ⟨j1, j2⟩ := ito_ok mx h0 (by omega)
    simp -implicitDefEqProofs -dsimp only [go_sem]
    refine ⟨by omega, w506 mx h0 (by omega) _ _ _ ?_⟩
    simp -implicitDefEqProofs -dsimp only [go_sem, cut_und _ _ hu, List.length_append, List.length_cons, List.length_nil]
    exact ⟨by omega, by omega, _, _, rfl, (((n3.app i1).app nc).app j1).app n4, by omega⟩
 ·cases e1 : mx == -1
  ·simp -implicitDefEqProofs -dsimp only [go_sem, enc, e0, e1]
   rw [D_dr (by kernel_rfl) rfl]
   simp -implicitDefEqProofs -dsimp only [go_sem]
   refine w506 mn hb1 (by omega) _ _ _ ?_
   simp -implicitDefEqProofs -dsimp only [go_sem, List.length_append]
   refine ⟨by omega, ?_⟩
   cases e2 : mx != mn
   ·simp -implicitDefEqProofs -dsimp only [go_sem, cut_und _ _ hu]
    exact ⟨by omega, _, _, rfl, (n3.app i1).app n4, by omega⟩
   ·cases e3 : decide (0 ≤ mx)
    ·simp -implicitDefEqProofs -dsimp only [go_sem, cut_und _ _ hu]
     exact ⟨by omega, by omega, _, _, rfl, ((n3.app i1).app nc).app n4, by omega⟩
    ·have h0 : 0 ≤ mx := of_decide_eq_true e3
     obtain ⟨j1, j2⟩ := ito_ok mx h0 (by omega)
     simp -implicitDefEqProofs -dsimp only [go_sem]
     refine ⟨by omega, w506 mx h0 (by omega) _ _ _ ?_⟩
     simp -implicitDefEqProofs -dsimp only [go_sem, cut_und _ _ hu, List.length_append, List.length_cons, List.length_nil]
     exact ⟨by omega, by omega, _, _, rfl, (((n3.app i1).app nc).app j1).app n4, by omega⟩
  ·simp -implicitDefEqProofs -dsimp only [go_sem, enc, e0, e1, cut_und _ _ hu]
   exact ⟨_, _, rfl, Pc.one (by decide) (by decide) (by decide), by omega⟩
mutual
def okc : Nd → Prop
 | .mk _ c s0 s1 s2 s3 _ _ _ l => ((∃ b : UInt8, c = b.toNat) ∧ okW [s0, s1, s2, s3]) ∧ okcs l
def okcs : List Nd → Prop
 | [] => True
 | x :: l => okc x ∧ okcs l
end
mutual
def wfN : Nd → Prop
 | .mk kd c s0 s1 s2 s3 n mn mx l => ((∃ b : UInt8, c = b.toNat) ∧ okW [s0, s1, s2, s3]) ∧ (kd = 7 → 0 < n ∧ n ≤ 9) ∧ (kd = 6 ∨ kd = 10 → l.length = 1) ∧ (kd = 10 → boundsB mn mx = true) ∧ wfNs l
def wfNs : List Nd → Prop
 | [] => True
 | x :: l => wfN x ∧ wfNs l
end
theorem wfNs_at : ∀ (l : List Nd) (y : Nd), wfNs l → y ∈ l → wfN y
 | x :: l, y, h, hm => by
  rcases List.mem_cons.1 hm with rfl | hm
  ·exact h.1
  ·exact wfNs_at l y h.2 hm
mutual
theorem wf_of : ∀ (x : Nd) (g : Int) (e : List Bool), okc x → (chk x g e).1 = true → wfN x
 | .mk kd c s0 s1 s2 s3 n mn mx l, g, e, ho, h => by
  simp only [chk] at h
  split at h
  ·rename_i hw
   simp only [ownB, Bool.and_eq_true] at hw
   obtain ⟨hp, hw⟩ := hw
   simp only [plainB, Bool.and_eq_true, decide_eq_true_eq] at hp
   have hl := hp.2
   have hcs : (chks kd l (ownG (.mk kd c s0 s1 s2 s3 n mn mx l) g) e).1 = true := by
    split at h
    ·rename_i q; exact q
    ·exact h
   refine ⟨ho.1, fun k7 => ?_, fun k => ?_, fun k10 => ?_, wfs_of kd l _ _ ho.2 hcs⟩
   ·subst k7
    simp at hw
    exact ⟨hw.1.1, hw.1.2⟩
   ·rw [if_pos k] at hl
    simpa using hl
   ·subst k10
    simp at hw
    exact hw.1
  ·cases h
theorem wfs_of : ∀ (kd : Int) (l : List Nd) (g : Int) (e : List Bool), okcs l → (chks kd l g e).1 = true → wfNs l
 | _, [], _, _, _, _ => trivial
 | kd, x :: l, g, e, ho, h => by
  simp only [chks] at h
  split at h
  ·cases h
  ·split at h
   ·rename_i q
    exact ⟨wf_of x g e ho.1 q, wfs_of kd l _ _ ho.2 h⟩
   ·rename_i q
    exact absurd h q
end
def Wrote (d : Nat) (l : Mv.Loc) (σ : Sto) (t : List UInt8) (n : Nat) (s : Sto) : Prop := ∃ t' m, Pc t' m ∧ m + 2 ≤ n ∧ t'.length ≤ m ∧ BS s l (t ++ t') ∧ SB d l σ s ∧ s.Und d
theorem wrote_end {d m : Nat} {l : Mv.Loc} {σ s : Sto} {t x : List UInt8} {n : Nat} (hx : Pc x m) (hn : m + 2 ≤ n) (hb : BS s l (t ++ x)) (hs : SB d l σ s) (hl : l.d < d) : Wrote d l σ t n (s.cut d) :=
 ⟨x, m, hx, hn, hx.len, hb.cut hl, hs.cut, und_cut s d⟩
theorem pc_one {b : UInt8} (h : b ≠ 92 ∧ b ≠ 91 ∧ b ≠ 10) : Pc [b] 2 := Pc.one h.1 h.2.1 h.2.2
theorem w517 (y : Sty) (hy : OkY y) (lim : Nat) (L : Mv.Loc) (hlim : lim ≤ L.d) (hB : isB L = true) : ∀ x : Nd, wfN x → ∀ (d : Nat) (σ : Sto) (t : List UInt8), L.d < d → σ.Und d → BS σ L t → t.length + 300 * sz x ≤ 1000000 →
  WF X lim d 60 [.agg (encY y), .ptr L 0, .agg (enc x)] σ fun v s => Wrote d L σ t (300 * sz x) s := by
 refine Nd.ind fun kd c s0 s1 s2 s3 n mn mx l ih hwf d σ t hld hu hb hsz => ?_
 have hun := und_succ hu
 obtain ⟨⟨⟨b, rfl⟩, hw4⟩, w7, w6, w10, hws⟩ := hwf
 simp only [sz] at hsz ⊢
 generalize hN : 300 * (1 + szs l) = N at hsz ⊢
 have hne : ∀ t c, (⟨d, t, c⟩ : Mv.Loc) ≠ L := fun t c e => by rw [← e] at hld; exact Nat.lt_irrefl _ hld
 have hs1 : ∀ c c' cs cs', SB d L σ ((((σ.set ⟨d, 3, c⟩ cs).set ⟨d, 5, c'⟩ cs').tick d).tick d) := fun c c' cs cs' => (((SB.refl d L σ).set _).set _).tick.tick
 have hb1 : ∀ c c' cs cs', BS ((((σ.set ⟨d, 3, c⟩ cs).set ⟨d, 5, c'⟩ cs').tick d).tick d) L t := fun c c' cs cs' => ((hb.set (hne _ _) _).set (hne _ _) _).tick.tick
 have hu1 : ∀ c c' cs cs', ((((σ.set ⟨d, 3, c⟩ cs).set ⟨d, 5, c'⟩ cs').tick d).tick d).Und (d + 1) := fun c c' cs cs' => by simp only [u_tick, u_mine]; exact hun
 have hld' : L.d ≤ d := Nat.le_of_lt hld
 rw [WF_body (C := X) rfl func60 rfl (by kernel_rfl)]; simp only [results60]
 by_cases k1 : kd = 1
 ·subst k1
  simp -implicitDefEqProofs -dsimp only [go_sem, enc, beq_self_eq_true]
  refine (w518 y hy b lim (d + 1) _ (hu1 ..)).wh fun x xm h1 h2 h3 => ?_
  simp -implicitDefEqProofs -dsimp only [go_sem, enc]
  refine w501 (hb1 ..) hlim hld' hB (hu1 ..) (by omega) fun s v hbs hsb hus => ?_
  simp -implicitDefEqProofs -dsimp only [go_sem, enc]
  exact wrote_end h1 (by omega) hbs ((hs1 _ _ _ _).trans (hsb.le (Nat.le_succ d))) hld
 have e1 := beq_ne k1
 by_cases k2 : kd = 2
 ·subst k2
  simp -implicitDefEqProofs -dsimp only [go_sem, enc, beq_self_eq_true, Int.reduceBEq]
  refine w502 (by decide) (hb1 ..) hlim hld' hB (hu1 ..) (by omega) fun s v hbs hsb hus => ?_
  simp -implicitDefEqProofs -dsimp only [go_sem, enc]
  exact wrote_end (pc_one (by decide)) (by omega) hbs ((hs1 _ _ _ _).trans (hsb.le (Nat.le_succ d))) hld
 have e2 := beq_ne k2
 by_cases k3 : kd = 3
 ·subst k3
  simp -implicitDefEqProofs -dsimp only [go_sem, enc, beq_self_eq_true, Int.reduceBEq]
  refine (w520 [s0, s1, s2, s3] hw4 lim (d + 1) _ (by omega) (hu1 ..)).wh fun x xm h1 h2 h3 => ?_
  simp -implicitDefEqProofs -dsimp only [go_sem, enc]
  refine w501 (hb1 ..) hlim hld' hB (hu1 ..) (by omega) fun s v hbs hsb hus => ?_
  simp -implicitDefEqProofs -dsimp only [go_sem, enc]
  exact wrote_end h1 (by omega) hbs ((hs1 _ _ _ _).trans (hsb.le (Nat.le_succ d))) hld
 have e3 := beq_ne k3
 by_cases k4 : kd = 4
 ·subst k4
  simp -implicitDefEqProofs -dsimp only [go_sem, enc, beq_self_eq_true, Int.reduceBEq]
  refine w502 (by decide) (hb1 ..) hlim hld' hB (hu1 ..) (by omega) fun s v hbs hsb hus => ?_
  simp -implicitDefEqProofs -dsimp only [go_sem, enc]
  exact wrote_end (pc_one (by decide)) (by omega) hbs ((hs1 _ _ _ _).trans (hsb.le (Nat.le_succ d))) hld
 have e4 := beq_ne k4
 by_cases k5 : kd = 5
 ·subst k5
  simp -implicitDefEqProofs -dsimp only [go_sem, enc, beq_self_eq_true, Int.reduceBEq]
  refine w502 (by decide) (hb1 ..) hlim hld' hB (hu1 ..) (by omega) fun s v hbs hsb hus => ?_
  simp -implicitDefEqProofs -dsimp only [go_sem, enc]
  exact wrote_end (pc_one (by decide)) (by omega) hbs ((hs1 _ _ _ _).trans (hsb.le (Nat.le_succ d))) hld
 have e5 := beq_ne k5
 by_cases k7 : kd = 7
 ·subst k7
  obtain ⟨n0, n9⟩ := w7 rfl
  obtain ⟨i1, i2⟩ := ito_ok n (by omega) (by omega)
  simp -implicitDefEqProofs -dsimp only [go_sem, enc, beq_self_eq_true, Int.reduceBEq]
  refine w506 n (by omega) (by omega) _ _ _ ?_
  simp -implicitDefEqProofs -dsimp only [go_sem, enc, List.length_cons, List.length_nil]
  refine ⟨by omega, ?_⟩
  refine w501 (hb1 ..) hlim hld' hB (hu1 ..) (by simp only [List.length_cons]; omega) fun s v hbs hsb hus => ?_
  simp -implicitDefEqProofs -dsimp only [go_sem, enc]
  exact wrote_end (ito_one n n0 n9) (by omega) hbs ((hs1 _ _ _ _).trans (hsb.le (Nat.le_succ d))) hld
 have e7 := beq_ne k7
 by_cases k6 : kd = 6
 ·subst k6
  simp -implicitDefEqProofs -dsimp only [go_sem, enc, beq_self_eq_true, Int.reduceBEq]
  obtain ⟨z, rfl⟩ := List.length_eq_one_iff.1 (w6 (.inl rfl))
  simp only [szs] at hN
  have no := hy.o
  have ns := hy.sh
  have lo := no.len
  have ls := ns.len
  refine w501 (hb1 ..) hlim hld' hB (hu1 ..) (by omega) fun p v hbs hsb hus => ?_
  have sb := (hs1 _ _ _ _).trans (hsb.le (Nat.le_succ d))
  have o3 : p.ob ⟨d, 3, σ.ct d⟩ = some (encY y) := by rw [hsb.ob _ (Nat.lt_succ_self d) (hne _ _)]; simp [Sto.set, Sto.tick, encY]
  have o5 : p.ob ⟨d, 5, σ.ct d + 1⟩ = some (enc (.mk 6 b.toNat s0 s1 s2 s3 n mn mx [z])) := by rw [hsb.ob _ (Nat.lt_succ_self d) (hne _ _)]; simp [Sto.set, Sto.tick, enc, encs]
  simp -implicitDefEqProofs -dsimp only [go_sem, enc, encs]
  rw [D_dr (by kernel_rfl) rfl]
  simp -implicitDefEqProofs -dsimp only [go_sem, enc, o3, o5, encs, List.getElem?_cons_zero]
  refine WF.whm (ih z (List.mem_singleton.2 rfl) hws.1 (d + 1) p (t ++ y.o) (by omega) hus hbs (by simp only [List.length_append]; omega)) fun v2 p2 h2 => ?_
  obtain ⟨t', m', n', l', q', hb2, sb2, un2⟩ := h2
  have o32 : p2.ob ⟨d, 3, σ.ct d⟩ = some (encY y) := by rw [sb2.ob _ (Nat.lt_succ_self d) (hne _ _)]; exact o3
  have sb' := sb.trans (sb2.le (Nat.le_succ d))
  simp -implicitDefEqProofs -dsimp only [go_sem, o32]
  refine w501 hb2 hlim hld' hB un2 (by simp only [List.length_append]; omega) fun p3 v hb3 sb3 un3 => ?_
  simp -implicitDefEqProofs -dsimp only [go_sem]
  have hb4 : BS p3 L (t ++ (y.o ++ t' ++ y.sh)) := by simpa only [List.append_assoc] using hb3
  exact wrote_end ((no.app n').app ns) (by omega) hb4 (sb'.trans (sb3.le (Nat.le_succ d))) hld
 have e6 := beq_ne k6
 by_cases k10 : kd = 10
 ·subst k10
  simp -implicitDefEqProofs -dsimp only [go_sem, enc, beq_self_eq_true, Int.reduceBEq]
  obtain ⟨z, rfl⟩ := List.length_eq_one_iff.1 (w6 (.inr rfl))
  simp only [szs] at hN
  have hbd := w10 rfl
  simp -implicitDefEqProofs -dsimp only [go_sem, encs]
  rw [D_dr (by kernel_rfl) rfl]
  simp -implicitDefEqProofs -dsimp only [go_sem, List.getElem?_cons_zero]
  refine WF.whm (ih z (List.mem_singleton.2 rfl) hws.1 (d + 1) _ t (by omega) (hu1 ..) (hb1 ..) (by omega)) fun v2 p2 h2 => ?_
  obtain ⟨t', m', n', l', q', hb2, sb2, un2⟩ := h2
  have sb' := (hs1 _ _ _ _).trans (sb2.le (Nat.le_succ d))
  have o3 : p2.ob ⟨d, 3, σ.ct d⟩ = some (encY y) := by rw [sb2.ob _ (Nat.lt_succ_self d) (hne _ _)]; simp [Sto.set, Sto.tick, encY]
  have o5 : p2.ob ⟨d, 5, σ.ct d + 1⟩ = some (enc (.mk 10 b.toNat s0 s1 s2 s3 n mn mx [z])) := by rw [sb2.ob _ (Nat.lt_succ_self d) (hne _ _)]; simp [Sto.set, Sto.tick, enc, encs]
  simp -implicitDefEqProofs -dsimp only [go_sem, enc, o3, o5, encs]
  refine (w519 y hy z mn mx hbd lim (d + 1) _ un2 10 b.toNat s0 s1 s2 s3 n [z]).wh fun x xm h1 h2 h3 => ?_
  simp -implicitDefEqProofs -dsimp only [go_sem]
  refine w501 hb2 hlim hld' hB un2 (by simp only [List.length_append]; omega) fun p3 v hb3 sb3 un3 => ?_
  simp -implicitDefEqProofs -dsimp only [go_sem]
  have hb4 : BS p3 L (t ++ (t' ++ x)) := by simpa only [List.append_assoc] using hb3
  exact wrote_end (n'.app h1) (by omega) hb4 (sb'.trans (sb3.le (Nat.le_succ d))) hld
 have e10 := beq_ne k10
 simp -implicitDefEqProofs -dsimp only [go_sem, enc, e1, e2, e3, e4, e5, e6, e7, e10, encs_len]
 refine loop_h (I := fun k m s' => ∃ (i : Nat) (t' : List UInt8), i + k = l.length ∧ m 13 = .int .i64 i ∧ m 12 = .int .i64 l.length ∧ m 11 = .sl .no (encs l) ∧ m 1 = .ptr L 0 ∧ m 3 = .ptr ⟨d, 3, σ.ct d⟩ 0 ∧ m 5 = .ptr ⟨d, 5, σ.ct d + 1⟩ 0 ∧ s'.ob ⟨d, 3, σ.ct d⟩ = some (encY y) ∧
  s'.ob ⟨d, 5, σ.ct d + 1⟩ = some (enc (.mk kd b.toNat s0 s1 s2 s3 n mn mx l)) ∧ (∃ m', Pc t' m' ∧ m' + 300 * szs (l.drop i) ≤ 300 * szs l ∧ t'.length ≤ m') ∧ BS s' L (t ++ t') ∧ SB d L σ s' ∧ s'.Und (d + 1)) ?_ l.length _ _ ?_
 ·rintro k m s' ⟨i, t', hk, h13, h12, h11, h1, h3, h5, o3, o5, ⟨m', nl, tl, ql⟩, bs, sb, un⟩
  by_cases hi : i < l.length
  ·have g1 : ((i : Int) < (l.length : Int)) := by omega
   have g2 : l[i]? = some l[i] := List.getElem?_eq_getElem hi
   have hm := List.getElem_mem hi
   have x1 := wr64 ((i : Int) + 1) (by have := len_le l; omega) (by have := len_le l; omega)
   rw [List.drop_eq_getElem_cons hi] at tl
   simp only [szs] at tl
   cases gi : decide ((0 : Int) < (i : Int))
   ·simp -implicitDefEqProofs -dsimp only [go_sem, g1, g2, h13, h12, h11, h1, h3, h5, o3, gi, encs_at]
    refine WF.whm (ih l[i] hm (wfNs_at l _ hws hm) (d + 1) _ (t ++ t') (by omega) (by simp only [u_tick, u_mine]; exact un) (bs.set (hne _ _) _).tick (by simp only [List.length_append]; omega)) fun v2 p2 h2 => ?_
    obtain ⟨u, mu, nu, lu, qu, hb2, sb2, un2⟩ := h2
    have o32 : p2.ob ⟨d, 3, σ.ct d⟩ = some (encY y) := by rw [sb2.ob _ (Nat.lt_succ_self d) (hne _ _)]; simp only [Sto.tick, Sto.set]; rw [if_neg (by simp)]; exact o3
    have o52 : p2.ob ⟨d, 5, σ.ct d + 1⟩ = some (enc (.mk kd b.toNat s0 s1 s2 s3 n mn mx l)) := by rw [sb2.ob _ (Nat.lt_succ_self d) (hne _ _)]; simp only [Sto.tick, Sto.set]; rw [if_neg (by simp)]; exact o5
    simp -implicitDefEqProofs -dsimp only [go_sem, enc, h13, h12, h11, h1, h3, h5, x1]
    exact ⟨k - 1, by omega, i + 1, t' ++ u, by omega, rfl, o32, o52, ⟨_, nl.app nu, by omega, by simp only [List.length_append]; omega⟩, by rw [← List.append_assoc]; exact hb2, (sb.set _).tick.trans (sb2.le (Nat.le_succ d)), un2⟩
   ·cases gk : kd == 9
    ·simp -implicitDefEqProofs -dsimp only [go_sem, enc, g1, g2, h13, h12, h11, h1, h3, h5, o3, o5, gi, gk, encs_at]
     refine WF.whm (ih l[i] hm (wfNs_at l _ hws hm) (d + 1) _ (t ++ t') (by omega) (by simp only [u_tick, u_mine]; exact un) (bs.set (hne _ _) _).tick (by simp only [List.length_append]; omega)) fun v2 p2 h2 => ?_
     obtain ⟨u, mu, nu, lu, qu, hb2, sb2, un2⟩ := h2
     have o32 : p2.ob ⟨d, 3, σ.ct d⟩ = some (encY y) := by rw [sb2.ob _ (Nat.lt_succ_self d) (hne _ _)]; simp only [Sto.tick, Sto.set]; rw [if_neg (by simp)]; exact o3
     have o52 : p2.ob ⟨d, 5, σ.ct d + 1⟩ = some (enc (.mk kd b.toNat s0 s1 s2 s3 n mn mx l)) := by rw [sb2.ob _ (Nat.lt_succ_self d) (hne _ _)]; simp only [Sto.tick, Sto.set]; rw [if_neg (by simp)]; exact o5
     simp -implicitDefEqProofs -dsimp only [go_sem, enc, h13, h12, h11, h1, h3, h5, x1]
     exact ⟨k - 1, by omega, i + 1, t' ++ u, by omega, rfl, o32, o52, ⟨_, nl.app nu, by omega, by simp only [List.length_append]; omega⟩, by rw [← List.append_assoc]; exact hb2, (sb.set _).tick.trans (sb2.le (Nat.le_succ d)), un2⟩
    ·simp -implicitDefEqProofs -dsimp only [go_sem, enc, g1, g2, h13, h12, h11, h1, h5, o5, gi, gk, encs_at]
     refine w502 (by decide) (bs.set (hne _ _) _).tick hlim hld' hB (by simp only [u_tick, u_mine]; exact un) (by simp only [List.length_append]; omega) fun p v hbs hsb hus => ?_
     have o33 : p.ob ⟨d, 3, σ.ct d⟩ = some (encY y) := by rw [hsb.ob _ (Nat.lt_succ_self d) (hne _ _)]; simp only [Sto.tick, Sto.set]; rw [if_neg (by simp)]; exact o3
     have o53 : p.ob ⟨d, 5, σ.ct d + 1⟩ = some (enc (.mk kd b.toNat s0 s1 s2 s3 n mn mx l)) := by rw [hsb.ob _ (Nat.lt_succ_self d) (hne _ _)]; simp only [Sto.tick, Sto.set]; rw [if_neg (by simp)]; exact o5
     have o7 : p.ob ⟨d, 7, s'.ct d⟩ = some (enc l[i]) := by rw [hsb.ob _ (Nat.lt_succ_self d) (hne _ _)]; simp only [Sto.tick, Sto.set, if_true]
     simp -implicitDefEqProofs -dsimp only [go_sem, h1, h3, o33, o7]
     refine WF.whm (ih l[i] hm (wfNs_at l _ hws hm) (d + 1) _ _ (by omega) hus hbs (by simp only [List.length_append, List.length_cons, List.length_nil]; omega)) fun v2 p2 h2 => ?_
     obtain ⟨u, mu, nu, lu, qu, hb2, sb2, un2⟩ := h2
     have o32 : p2.ob ⟨d, 3, σ.ct d⟩ = some (encY y) := by rw [sb2.ob _ (Nat.lt_succ_self d) (hne _ _)]; exact o33
     have o52 : p2.ob ⟨d, 5, σ.ct d + 1⟩ = some (enc (.mk kd b.toNat s0 s1 s2 s3 n mn mx l)) := by rw [sb2.ob _ (Nat.lt_succ_self d) (hne _ _)]; exact o53
     simp -implicitDefEqProofs -dsimp only [go_sem, enc, h13, h12, h11, h1, h3, h5, x1]
     exact ⟨k - 1, by omega, i + 1, t' ++ [124] ++ u, by omega, rfl, o32, o52, ⟨_, (nl.app (pc_one (by decide))).app nu, by omega, by simp only [List.length_append, List.length_cons, List.length_nil]; omega⟩, by have h := hb2; rw [List.append_assoc, List.append_assoc] at h; rw [List.append_assoc]; exact h, ((sb.set _).tick.trans (hsb.le (Nat.le_succ d))).trans (sb2.le (Nat.le_succ d)), un2⟩
  ·have g1 : ¬ ((i : Int) < (l.length : Int)) := by omega
   simp -implicitDefEqProofs -dsimp only [go_sem, g1, h13, h12]
   exact wrote_end nl (by omega) bs sb hld
 ·refine ⟨0, [], Nat.zero_add _, rfl, rfl, rfl, rfl, rfl, rfl, ?_, ?_, ⟨0, .nil, by simp, Nat.le_refl _⟩, by rw [List.append_nil]; exact hb1 .., hs1 .., hu1 ..⟩
  ·simp [Sto.set, Sto.tick, encY]
  ·simp [Sto.set, Sto.tick, enc]
end Go.Proofs.Tryz.E
