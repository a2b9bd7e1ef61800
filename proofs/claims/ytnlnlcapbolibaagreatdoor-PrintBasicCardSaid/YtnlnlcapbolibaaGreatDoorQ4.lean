/- Walks: what the functions compute. -/
import Derived.Test.YtnlnlcapbolibaaGreatDoorQ3
set_option linter.unusedVariables false
set_option linter.unusedSimpArgs false
/- A pattern, written. -/
namespace Go.Proofs.Tryz.E
open Go.Mv
set_option maxHeartbeats 4000000
set_option maxRecDepth 20000
mutual
/-- Each byte is one. -/
def okc : Nd → Prop
  | .mk _ c _ _ _ _ _ _ _ l => (∃ b : UInt8, c = b.toNat) ∧ okcs l
def okcs : List Nd → Prop
  | [] => True
  | x :: l => okc x ∧ okcs l
end
mutual
/-- What is written without a fault. -/
def wfN : Nd → Prop
  | .mk kd c _ _ _ _ n mn mx l => (∃ b : UInt8, c = b.toNat) ∧ (kd = 7 → 0 < n ∧ n ≤ 9) ∧ (kd = 6 ∨ kd = 10 → l.length = 1) ∧ (kd = 10 → boundsB mn mx = true) ∧ wfNs l
def wfNs : List Nd → Prop
  | [] => True
  | x :: l => wfN x ∧ wfNs l
end
theorem wfNs_at : ∀ (l : List Nd) (y : Nd), wfNs l → y ∈ l → wfN y
  | x :: l, y, h, hm => by
    rcases List.mem_cons.1 hm with rfl | hm
    · exact h.1
    · exact wfNs_at l y h.2 hm
mutual
theorem wf_of : ∀ (x : Nd) (g : Int) (e : List Bool), okc x → (chk x g e).1 = true → wfN x
  | .mk kd c s0 s1 s2 s3 n mn mx l, g, e, ho, h => by
    simp only [chk] at h
    split at h
    · rename_i hw
      simp only [ownB, Bool.and_eq_true] at hw
      obtain ⟨hp, hw⟩ := hw
      simp only [plainB, Bool.and_eq_true, decide_eq_true_eq] at hp
      have hl := hp.2
      have hcs : (chks kd l (ownG (.mk kd c s0 s1 s2 s3 n mn mx l) g) e).1 = true := by
        split at h
        · rename_i q; exact q
        · exact h
      refine ⟨ho.1, fun k7 => ?_, fun k => ?_, fun k10 => ?_, wfs_of kd l _ _ ho.2 hcs⟩
      · subst k7
        simp at hw
        exact ⟨hw.1.1, hw.1.2⟩
      · rw [if_pos k] at hl
        simpa using hl
      · subst k10
        simp at hw
        exact hw.1
    · cases h
theorem wfs_of : ∀ (kd : Int) (l : List Nd) (g : Int) (e : List Bool), okcs l → (chks kd l g e).1 = true → wfNs l
  | _, [], _, _, _, _ => trivial
  | kd, x :: l, g, e, ho, h => by
    simp only [chks] at h
    split at h
    · cases h
    · split at h
      · rename_i q
        exact ⟨wf_of x g e ho.1 q, wfs_of kd l _ _ ho.2 h⟩
      · rename_i q
        exact absurd h q
end
/-- What a call wrote. -/
def Wrote (d : Nat) (l : Mv.Loc) (σ : Sto) (t : List UInt8) (n : Nat) (s : Sto) : Prop := ∃ t', noNl t' ∧ t'.length + 1 ≤ n ∧ BS s l (t ++ t') ∧ SB d l σ s ∧ s.Und d
theorem wrote_end {d : Nat} {l : Mv.Loc} {σ s : Sto} {t x : List UInt8} {n : Nat} (hx : noNl x) (hn : x.length + 1 ≤ n) (hb : BS s l (t ++ x)) (hs : SB d l σ s) (hl : l.d < d) : Wrote d l σ t n (s.cut d) :=
  ⟨x, hx, hn, hb.cut hl, hs.cut, und_cut s d⟩
theorem noNl_one {b : UInt8} (h : b ≠ 10) : noNl [b] := noNl_cons h noNl_nil
theorem WF.whm {lim d : Nat} {f : FuncId} {args : List MV} {σ : Sto} {Q P : MV → Sto → Prop} (h : WF X lim d f args σ Q) (hq : ∀ v s, Q v s → P v s) : WFh X lim d f args σ (TagF P) := WF.mono h hq
theorem w517 (y : Sty) (hy : OkY y) (lim : Nat) (L : Mv.Loc) (hlim : lim ≤ L.d) (hB : isB L = true) : ∀ x : Nd, wfN x → ∀ (d : Nat) (σ : Sto) (t : List UInt8), L.d < d → σ.Und d → BS σ L t → t.length + 300 * sz x ≤ 1000000 →
    WF X lim d 31 [.agg (encY y), .ptr L 0, .agg (enc x)] σ fun v s => Wrote d L σ t (300 * sz x) s := by
  refine Nd.ind fun kd c s0 s1 s2 s3 n mn mx l ih hwf d σ t hld hu hb hsz => ?_
  have hun := und_succ hu
  obtain ⟨⟨b, rfl⟩, w7, w6, w10, hws⟩ := hwf
  simp only [sz] at hsz ⊢
  generalize hN : 300 * (1 + szs l) = N at hsz ⊢
  have hne : ∀ t c, (⟨d, t, c⟩ : Mv.Loc) ≠ L := fun t c e => by rw [← e] at hld; exact Nat.lt_irrefl _ hld
  have hs1 : ∀ c c' cs cs', SB d L σ ((((σ.set ⟨d, 3, c⟩ cs).set ⟨d, 5, c'⟩ cs').tick d).tick d) := fun c c' cs cs' => (((SB.refl d L σ).set _).set _).tick.tick
  have hb1 : ∀ c c' cs cs', BS ((((σ.set ⟨d, 3, c⟩ cs).set ⟨d, 5, c'⟩ cs').tick d).tick d) L t := fun c c' cs cs' => ((hb.set (hne _ _) _).set (hne _ _) _).tick.tick
  have hu1 : ∀ c c' cs cs', ((((σ.set ⟨d, 3, c⟩ cs).set ⟨d, 5, c'⟩ cs').tick d).tick d).Und (d + 1) := fun c c' cs cs' => by simp only [u_tick, u_mine]; exact hun
  have hld' : L.d ≤ d := Nat.le_of_lt hld
  rw [WF_body (C := X) rfl Go.Proofs.Tryz.func31 rfl (by kernel_rfl)]; simp only [Go.Proofs.Tryz.results31]
  by_cases k1 : kd = 1
  · subst k1
    simp -implicitDefEqProofs -dsimp only [↓reduceIte, ↓W_seq, go_sem, WR_nil, evNews, Nat.reduceEqDiff, Nat.reduceAdd, Nat.reduceMul, Nat.reduceLeDiff, Nat.reduceLT, Int.cast_ofNat_Int, Int.reduceBNe, Int.reduceToNat, Int.reduceLT, Int.reduceLE, Int.reduceAdd, Int.reduceNeg, Int.reduceEq, reduceCtorEq, enc, beq_self_eq_true, Int.reduceBEq]
    refine (w518 y b lim (d + 1) _ (hu1 ..)).wh fun x h1 h2 => ?_
    simp -implicitDefEqProofs -dsimp only [↓reduceIte, ↓W_seq, go_sem, WR_nil, evNews, Nat.reduceEqDiff, Nat.reduceAdd, Nat.reduceMul, Nat.reduceLeDiff, Nat.reduceLT, Int.cast_ofNat_Int, Int.reduceBNe, Int.reduceToNat, Int.reduceLT, Int.reduceLE, Int.reduceAdd, Int.reduceNeg, Int.reduceEq, reduceCtorEq, enc]
    refine w501 (hb1 ..) hlim hld' hB (hu1 ..) (by omega) fun s v hbs hsb hus => ?_
    simp -implicitDefEqProofs -dsimp only [↓reduceIte, ↓W_seq, go_sem, WR_nil, evNews, Nat.reduceEqDiff, Nat.reduceAdd, Nat.reduceMul, Nat.reduceLeDiff, Nat.reduceLT, Int.cast_ofNat_Int, Int.reduceBNe, Int.reduceToNat, Int.reduceLT, Int.reduceLE, Int.reduceAdd, Int.reduceNeg, Int.reduceEq, reduceCtorEq, enc]
    exact wrote_end h1 (by omega) hbs ((hs1 _ _ _ _).trans (hsb.le (Nat.le_succ d))) hld
  have e1 := beq_ne k1
  by_cases k2 : kd = 2
  · subst k2
    simp -implicitDefEqProofs -dsimp only [↓reduceIte, ↓W_seq, go_sem, WR_nil, evNews, Nat.reduceEqDiff, Nat.reduceAdd, Nat.reduceMul, Nat.reduceLeDiff, Nat.reduceLT, Int.cast_ofNat_Int, Int.reduceBNe, Int.reduceToNat, Int.reduceLT, Int.reduceLE, Int.reduceAdd, Int.reduceNeg, Int.reduceEq, reduceCtorEq, enc, beq_self_eq_true, Int.reduceBEq]
    refine w502 (by decide) (hb1 ..) hlim hld' hB (hu1 ..) (by omega) fun s v hbs hsb hus => ?_
    simp -implicitDefEqProofs -dsimp only [↓reduceIte, ↓W_seq, go_sem, WR_nil, evNews, Nat.reduceEqDiff, Nat.reduceAdd, Nat.reduceMul, Nat.reduceLeDiff, Nat.reduceLT, Int.cast_ofNat_Int, Int.reduceBNe, Int.reduceToNat, Int.reduceLT, Int.reduceLE, Int.reduceAdd, Int.reduceNeg, Int.reduceEq, reduceCtorEq, enc]
    exact wrote_end (noNl_one (by decide)) (by simp; omega) hbs ((hs1 _ _ _ _).trans (hsb.le (Nat.le_succ d))) hld
  have e2 := beq_ne k2
  by_cases k3 : kd = 3
  · subst k3
    simp -implicitDefEqProofs -dsimp only [↓reduceIte, ↓W_seq, go_sem, WR_nil, evNews, Nat.reduceEqDiff, Nat.reduceAdd, Nat.reduceMul, Nat.reduceLeDiff, Nat.reduceLT, Int.cast_ofNat_Int, Int.reduceBNe, Int.reduceToNat, Int.reduceLT, Int.reduceLE, Int.reduceAdd, Int.reduceNeg, Int.reduceEq, reduceCtorEq, enc, beq_self_eq_true, Int.reduceBEq]
    refine (w520 [s0, s1, s2, s3] rfl lim (d + 1) _ (by omega) (hu1 ..)).wh fun x h1 h2 => ?_
    simp -implicitDefEqProofs -dsimp only [↓reduceIte, ↓W_seq, go_sem, WR_nil, evNews, Nat.reduceEqDiff, Nat.reduceAdd, Nat.reduceMul, Nat.reduceLeDiff, Nat.reduceLT, Int.cast_ofNat_Int, Int.reduceBNe, Int.reduceToNat, Int.reduceLT, Int.reduceLE, Int.reduceAdd, Int.reduceNeg, Int.reduceEq, reduceCtorEq, enc]
    refine w501 (hb1 ..) hlim hld' hB (hu1 ..) (by omega) fun s v hbs hsb hus => ?_
    simp -implicitDefEqProofs -dsimp only [↓reduceIte, ↓W_seq, go_sem, WR_nil, evNews, Nat.reduceEqDiff, Nat.reduceAdd, Nat.reduceMul, Nat.reduceLeDiff, Nat.reduceLT, Int.cast_ofNat_Int, Int.reduceBNe, Int.reduceToNat, Int.reduceLT, Int.reduceLE, Int.reduceAdd, Int.reduceNeg, Int.reduceEq, reduceCtorEq, enc]
    exact wrote_end h1 (by omega) hbs ((hs1 _ _ _ _).trans (hsb.le (Nat.le_succ d))) hld
  have e3 := beq_ne k3
  by_cases k4 : kd = 4
  · subst k4
    simp -implicitDefEqProofs -dsimp only [↓reduceIte, ↓W_seq, go_sem, WR_nil, evNews, Nat.reduceEqDiff, Nat.reduceAdd, Nat.reduceMul, Nat.reduceLeDiff, Nat.reduceLT, Int.cast_ofNat_Int, Int.reduceBNe, Int.reduceToNat, Int.reduceLT, Int.reduceLE, Int.reduceAdd, Int.reduceNeg, Int.reduceEq, reduceCtorEq, enc, beq_self_eq_true, Int.reduceBEq]
    refine w502 (by decide) (hb1 ..) hlim hld' hB (hu1 ..) (by omega) fun s v hbs hsb hus => ?_
    simp -implicitDefEqProofs -dsimp only [↓reduceIte, ↓W_seq, go_sem, WR_nil, evNews, Nat.reduceEqDiff, Nat.reduceAdd, Nat.reduceMul, Nat.reduceLeDiff, Nat.reduceLT, Int.cast_ofNat_Int, Int.reduceBNe, Int.reduceToNat, Int.reduceLT, Int.reduceLE, Int.reduceAdd, Int.reduceNeg, Int.reduceEq, reduceCtorEq, enc]
    exact wrote_end (noNl_one (by decide)) (by simp; omega) hbs ((hs1 _ _ _ _).trans (hsb.le (Nat.le_succ d))) hld
  have e4 := beq_ne k4
  by_cases k5 : kd = 5
  · subst k5
    simp -implicitDefEqProofs -dsimp only [↓reduceIte, ↓W_seq, go_sem, WR_nil, evNews, Nat.reduceEqDiff, Nat.reduceAdd, Nat.reduceMul, Nat.reduceLeDiff, Nat.reduceLT, Int.cast_ofNat_Int, Int.reduceBNe, Int.reduceToNat, Int.reduceLT, Int.reduceLE, Int.reduceAdd, Int.reduceNeg, Int.reduceEq, reduceCtorEq, enc, beq_self_eq_true, Int.reduceBEq]
    refine w502 (by decide) (hb1 ..) hlim hld' hB (hu1 ..) (by omega) fun s v hbs hsb hus => ?_
    simp -implicitDefEqProofs -dsimp only [↓reduceIte, ↓W_seq, go_sem, WR_nil, evNews, Nat.reduceEqDiff, Nat.reduceAdd, Nat.reduceMul, Nat.reduceLeDiff, Nat.reduceLT, Int.cast_ofNat_Int, Int.reduceBNe, Int.reduceToNat, Int.reduceLT, Int.reduceLE, Int.reduceAdd, Int.reduceNeg, Int.reduceEq, reduceCtorEq, enc]
    exact wrote_end (noNl_one (by decide)) (by simp; omega) hbs ((hs1 _ _ _ _).trans (hsb.le (Nat.le_succ d))) hld
  have e5 := beq_ne k5
  by_cases k7 : kd = 7
  · subst k7
    obtain ⟨n0, n9⟩ := w7 rfl
    obtain ⟨i1, i2⟩ := ito_ok n (by omega) (by omega)
    simp -implicitDefEqProofs -dsimp only [↓reduceIte, ↓W_seq, go_sem, WR_nil, evNews, Nat.reduceEqDiff, Nat.reduceAdd, Nat.reduceMul, Nat.reduceLeDiff, Nat.reduceLT, Int.cast_ofNat_Int, Int.reduceBNe, Int.reduceToNat, Int.reduceLT, Int.reduceLE, Int.reduceAdd, Int.reduceNeg, Int.reduceEq, reduceCtorEq, enc, beq_self_eq_true, Int.reduceBEq]
    refine w506 n (by omega) (by omega) _ _ _ ?_
    simp -implicitDefEqProofs -dsimp only [↓reduceIte, ↓W_seq, go_sem, WR_nil, evNews, Nat.reduceEqDiff, Nat.reduceAdd, Nat.reduceMul, Nat.reduceLeDiff, Nat.reduceLT, Int.cast_ofNat_Int, Int.reduceBNe, Int.reduceToNat, Int.reduceLT, Int.reduceLE, Int.reduceAdd, Int.reduceNeg, Int.reduceEq, reduceCtorEq, enc, List.length_cons, List.length_nil]
    refine ⟨by omega, ?_⟩
    refine w501 (hb1 ..) hlim hld' hB (hu1 ..) (by simp only [List.length_append, List.length_cons, List.length_nil]; omega) fun s v hbs hsb hus => ?_
    simp -implicitDefEqProofs -dsimp only [↓reduceIte, ↓W_seq, go_sem, WR_nil, evNews, Nat.reduceEqDiff, Nat.reduceAdd, Nat.reduceMul, Nat.reduceLeDiff, Nat.reduceLT, Int.cast_ofNat_Int, Int.reduceBNe, Int.reduceToNat, Int.reduceLT, Int.reduceLE, Int.reduceAdd, Int.reduceNeg, Int.reduceEq, reduceCtorEq, enc]
    exact wrote_end (noNl_app (noNl_one (by decide)) i1) (by simp only [List.length_append, List.length_cons, List.length_nil]; omega) hbs ((hs1 _ _ _ _).trans (hsb.le (Nat.le_succ d))) hld
  have e7 := beq_ne k7
  by_cases k6 : kd = 6
  · subst k6
    simp -implicitDefEqProofs -dsimp only [↓reduceIte, ↓W_seq, go_sem, WR_nil, evNews, Nat.reduceEqDiff, Nat.reduceAdd, Nat.reduceMul, Nat.reduceLeDiff, Nat.reduceLT, Int.cast_ofNat_Int, Int.reduceBNe, Int.reduceToNat, Int.reduceLT, Int.reduceLE, Int.reduceAdd, Int.reduceNeg, Int.reduceEq, reduceCtorEq, enc, beq_self_eq_true, Int.reduceBEq]
    obtain ⟨z, rfl⟩ := List.length_eq_one_iff.1 (w6 (.inl rfl))
    simp only [szs] at hN
    obtain ⟨no, lo⟩ := hy.o
    obtain ⟨ns, ls⟩ := hy.sh
    refine w501 (hb1 ..) hlim hld' hB (hu1 ..) (by omega) fun p v hbs hsb hus => ?_
    have sb := (hs1 _ _ _ _).trans (hsb.le (Nat.le_succ d))
    have o3 : p.ob ⟨d, 3, σ.ct d⟩ = some (encY y) := by rw [hsb.ob _ (Nat.lt_succ_self d) (hne _ _)]; simp [Sto.set, Sto.tick, encY]
    have o5 : p.ob ⟨d, 5, σ.ct d + 1⟩ = some (enc (.mk 6 b.toNat s0 s1 s2 s3 n mn mx [z])) := by rw [hsb.ob _ (Nat.lt_succ_self d) (hne _ _)]; simp [Sto.set, Sto.tick, enc, encs]
    simp -implicitDefEqProofs -dsimp only [↓reduceIte, ↓W_seq, go_sem, WR_nil, evNews, Nat.reduceEqDiff, Nat.reduceAdd, Nat.reduceMul, Nat.reduceLeDiff, Nat.reduceLT, Int.cast_ofNat_Int, Int.reduceBNe, Int.reduceToNat, Int.reduceLT, Int.reduceLE, Int.reduceAdd, Int.reduceNeg, Int.reduceEq, reduceCtorEq, enc, o3, o5, encs]
    rw [D_dr (by kernel_rfl) rfl]
    simp -implicitDefEqProofs -dsimp only [↓reduceIte, ↓W_seq, go_sem, WR_nil, evNews, Nat.reduceEqDiff, Nat.reduceAdd, Nat.reduceMul, Nat.reduceLeDiff, Nat.reduceLT, Int.cast_ofNat_Int, Int.reduceBNe, Int.reduceToNat, Int.reduceLT, Int.reduceLE, Int.reduceAdd, Int.reduceNeg, Int.reduceEq, reduceCtorEq, enc, o3, o5, encs, List.getElem?_cons_zero]
    refine WF.whm (ih z (List.mem_singleton.2 rfl) hws.1 (d + 1) p (t ++ y.o) (by omega) hus hbs (by simp only [List.length_append]; omega)) fun v2 p2 h2 => ?_
    obtain ⟨t', n', l', hb2, sb2, un2⟩ := h2
    have o32 : p2.ob ⟨d, 3, σ.ct d⟩ = some (encY y) := by rw [sb2.ob _ (Nat.lt_succ_self d) (hne _ _)]; exact o3
    have sb' := sb.trans (sb2.le (Nat.le_succ d))
    simp -implicitDefEqProofs -dsimp only [↓reduceIte, ↓W_seq, go_sem, WR_nil, evNews, Nat.reduceEqDiff, Nat.reduceAdd, Nat.reduceMul, Nat.reduceLeDiff, Nat.reduceLT, Int.cast_ofNat_Int, Int.reduceBNe, Int.reduceToNat, Int.reduceLT, Int.reduceLE, Int.reduceAdd, Int.reduceNeg, Int.reduceEq, reduceCtorEq, enc, o32]
    refine w501 hb2 hlim hld' hB un2 (by simp only [List.length_append]; omega) fun p3 v hb3 sb3 un3 => ?_
    simp -implicitDefEqProofs -dsimp only [↓reduceIte, ↓W_seq, go_sem, WR_nil, evNews, Nat.reduceEqDiff, Nat.reduceAdd, Nat.reduceMul, Nat.reduceLeDiff, Nat.reduceLT, Int.cast_ofNat_Int, Int.reduceBNe, Int.reduceToNat, Int.reduceLT, Int.reduceLE, Int.reduceAdd, Int.reduceNeg, Int.reduceEq, reduceCtorEq, enc]
    have hb4 : BS p3 L (t ++ (y.o ++ t' ++ y.sh)) := by simpa only [List.append_assoc] using hb3
    exact wrote_end (noNl_app (noNl_app no n') ns) (by simp only [List.length_append]; omega) hb4 (sb'.trans (sb3.le (Nat.le_succ d))) hld
  have e6 := beq_ne k6
  by_cases k10 : kd = 10
  · subst k10
    simp -implicitDefEqProofs -dsimp only [↓reduceIte, ↓W_seq, go_sem, WR_nil, evNews, Nat.reduceEqDiff, Nat.reduceAdd, Nat.reduceMul, Nat.reduceLeDiff, Nat.reduceLT, Int.cast_ofNat_Int, Int.reduceBNe, Int.reduceToNat, Int.reduceLT, Int.reduceLE, Int.reduceAdd, Int.reduceNeg, Int.reduceEq, reduceCtorEq, enc, beq_self_eq_true, Int.reduceBEq]
    obtain ⟨z, rfl⟩ := List.length_eq_one_iff.1 (w6 (.inr rfl))
    simp only [szs] at hN
    have hbd := w10 rfl
    simp -implicitDefEqProofs -dsimp only [↓reduceIte, ↓W_seq, go_sem, WR_nil, evNews, Nat.reduceEqDiff, Nat.reduceAdd, Nat.reduceMul, Nat.reduceLeDiff, Nat.reduceLT, Int.cast_ofNat_Int, Int.reduceBNe, Int.reduceToNat, Int.reduceLT, Int.reduceLE, Int.reduceAdd, Int.reduceNeg, Int.reduceEq, reduceCtorEq, enc, encs]
    rw [D_dr (by kernel_rfl) rfl]
    simp -implicitDefEqProofs -dsimp only [↓reduceIte, ↓W_seq, go_sem, WR_nil, evNews, Nat.reduceEqDiff, Nat.reduceAdd, Nat.reduceMul, Nat.reduceLeDiff, Nat.reduceLT, Int.cast_ofNat_Int, Int.reduceBNe, Int.reduceToNat, Int.reduceLT, Int.reduceLE, Int.reduceAdd, Int.reduceNeg, Int.reduceEq, reduceCtorEq, enc, encs, List.getElem?_cons_zero]
    refine WF.whm (ih z (List.mem_singleton.2 rfl) hws.1 (d + 1) _ t (by omega) (hu1 ..) (hb1 ..) (by omega)) fun v2 p2 h2 => ?_
    obtain ⟨t', n', l', hb2, sb2, un2⟩ := h2
    have sb' := (hs1 _ _ _ _).trans (sb2.le (Nat.le_succ d))
    have o3 : p2.ob ⟨d, 3, σ.ct d⟩ = some (encY y) := by rw [sb2.ob _ (Nat.lt_succ_self d) (hne _ _)]; simp [Sto.set, Sto.tick, encY]
    have o5 : p2.ob ⟨d, 5, σ.ct d + 1⟩ = some (enc (.mk 10 b.toNat s0 s1 s2 s3 n mn mx [z])) := by rw [sb2.ob _ (Nat.lt_succ_self d) (hne _ _)]; simp [Sto.set, Sto.tick, enc, encs]
    simp -implicitDefEqProofs -dsimp only [↓reduceIte, ↓W_seq, go_sem, WR_nil, evNews, Nat.reduceEqDiff, Nat.reduceAdd, Nat.reduceMul, Nat.reduceLeDiff, Nat.reduceLT, Int.cast_ofNat_Int, Int.reduceBNe, Int.reduceToNat, Int.reduceLT, Int.reduceLE, Int.reduceAdd, Int.reduceNeg, Int.reduceEq, reduceCtorEq, enc, o3, o5, encs]
    refine (w519 y hy z mn mx hbd lim (d + 1) _ un2 10 b.toNat s0 s1 s2 s3 n [z]).wh fun x h1 h2 => ?_
    simp -implicitDefEqProofs -dsimp only [↓reduceIte, ↓W_seq, go_sem, WR_nil, evNews, Nat.reduceEqDiff, Nat.reduceAdd, Nat.reduceMul, Nat.reduceLeDiff, Nat.reduceLT, Int.cast_ofNat_Int, Int.reduceBNe, Int.reduceToNat, Int.reduceLT, Int.reduceLE, Int.reduceAdd, Int.reduceNeg, Int.reduceEq, reduceCtorEq, enc]
    refine w501 hb2 hlim hld' hB un2 (by simp only [List.length_append]; omega) fun p3 v hb3 sb3 un3 => ?_
    simp -implicitDefEqProofs -dsimp only [↓reduceIte, ↓W_seq, go_sem, WR_nil, evNews, Nat.reduceEqDiff, Nat.reduceAdd, Nat.reduceMul, Nat.reduceLeDiff, Nat.reduceLT, Int.cast_ofNat_Int, Int.reduceBNe, Int.reduceToNat, Int.reduceLT, Int.reduceLE, Int.reduceAdd, Int.reduceNeg, Int.reduceEq, reduceCtorEq, enc]
    have hb4 : BS p3 L (t ++ (t' ++ x)) := by simpa only [List.append_assoc] using hb3
    exact wrote_end (noNl_app n' h1) (by simp only [List.length_append]; omega) hb4 (sb'.trans (sb3.le (Nat.le_succ d))) hld
  have e10 := beq_ne k10
  simp -implicitDefEqProofs -dsimp only [↓reduceIte, ↓W_seq, go_sem, WR_nil, evNews, Nat.reduceEqDiff, Nat.reduceAdd, Nat.reduceMul, Nat.reduceLeDiff, Nat.reduceLT, Int.cast_ofNat_Int, Int.reduceBNe, Int.reduceToNat, Int.reduceLT, Int.reduceLE, Int.reduceAdd, Int.reduceNeg, Int.reduceEq, reduceCtorEq, enc, e1, e2, e3, e4, e5, e6, e7, e10, encs_len]
  refine loop_h (I := fun k m s' => ∃ (i : Nat) (t' : List UInt8), i + k = l.length ∧ m 13 = .int .i64 i ∧ m 12 = .int .i64 l.length ∧ m 11 = .sl .no (encs l) ∧ m 1 = .ptr L 0 ∧ m 3 = .ptr ⟨d, 3, σ.ct d⟩ 0 ∧ m 5 = .ptr ⟨d, 5, σ.ct d + 1⟩ 0 ∧ s'.ob ⟨d, 3, σ.ct d⟩ = some (encY y) ∧
    s'.ob ⟨d, 5, σ.ct d + 1⟩ = some (enc (.mk kd b.toNat s0 s1 s2 s3 n mn mx l)) ∧ noNl t' ∧ t'.length + 300 * szs (l.drop i) ≤ 300 * szs l ∧ BS s' L (t ++ t') ∧ SB d L σ s' ∧ s'.Und (d + 1)) ?_ l.length _ _ ?_
  · rintro k m s' ⟨i, t', hk, h13, h12, h11, h1, h3, h5, o3, o5, nl, tl, bs, sb, un⟩
    by_cases hi : i < l.length
    · have g1 : ((i : Int) < (l.length : Int)) := by omega
      have g2 : l[i]? = some l[i] := List.getElem?_eq_getElem hi
      have hm := List.getElem_mem hi
      have x1 := wr64 ((i : Int) + 1) (by have := len_le l; omega) (by have := len_le l; omega)
      rw [List.drop_eq_getElem_cons hi] at tl
      simp only [szs] at tl
      cases gi : decide ((0 : Int) < (i : Int))
      · simp -implicitDefEqProofs -dsimp only [↓reduceIte, ↓W_seq, go_sem, WR_nil, evNews, Nat.reduceEqDiff, Nat.reduceAdd, Nat.reduceMul, Nat.reduceLeDiff, Nat.reduceLT, Int.cast_ofNat_Int, Int.reduceBNe, Int.reduceToNat, Int.reduceLT, Int.reduceLE, Int.reduceAdd, Int.reduceNeg, Int.reduceEq, reduceCtorEq, enc, g1, g2, h13, h12, h11, h1, h3, h5, o3, o5, gi, encs_at]
        refine WF.whm (ih l[i] hm (wfNs_at l _ hws hm) (d + 1) _ (t ++ t') (by omega) (by simp only [u_tick, u_mine]; exact un) (bs.set (hne _ _) _).tick (by simp only [List.length_append]; omega)) fun v2 p2 h2 => ?_
        obtain ⟨u, nu, lu, hb2, sb2, un2⟩ := h2
        have o32 : p2.ob ⟨d, 3, σ.ct d⟩ = some (encY y) := by rw [sb2.ob _ (Nat.lt_succ_self d) (hne _ _)]; simp only [Sto.tick, Sto.set]; rw [if_neg (by simp)]; exact o3
        have o52 : p2.ob ⟨d, 5, σ.ct d + 1⟩ = some (enc (.mk kd b.toNat s0 s1 s2 s3 n mn mx l)) := by rw [sb2.ob _ (Nat.lt_succ_self d) (hne _ _)]; simp only [Sto.tick, Sto.set]; rw [if_neg (by simp)]; exact o5
        simp -implicitDefEqProofs -dsimp only [↓reduceIte, ↓W_seq, go_sem, WR_nil, evNews, Nat.reduceEqDiff, Nat.reduceAdd, Nat.reduceMul, Nat.reduceLeDiff, Nat.reduceLT, Int.cast_ofNat_Int, Int.reduceBNe, Int.reduceToNat, Int.reduceLT, Int.reduceLE, Int.reduceAdd, Int.reduceNeg, Int.reduceEq, reduceCtorEq, enc, h13, h12, h11, h1, h3, h5, x1]
        exact ⟨k - 1, by omega, i + 1, t' ++ u, by omega, rfl, o32, o52, noNl_app nl nu, by simp only [List.length_append]; omega, by rw [← List.append_assoc]; exact hb2, (sb.set _).tick.trans (sb2.le (Nat.le_succ d)), un2⟩
      · cases gk : kd == 9
        · simp -implicitDefEqProofs -dsimp only [↓reduceIte, ↓W_seq, go_sem, WR_nil, evNews, Nat.reduceEqDiff, Nat.reduceAdd, Nat.reduceMul, Nat.reduceLeDiff, Nat.reduceLT, Int.cast_ofNat_Int, Int.reduceBNe, Int.reduceToNat, Int.reduceLT, Int.reduceLE, Int.reduceAdd, Int.reduceNeg, Int.reduceEq, reduceCtorEq, enc, g1, g2, h13, h12, h11, h1, h3, h5, o3, o5, gi, gk, encs_at]
          refine WF.whm (ih l[i] hm (wfNs_at l _ hws hm) (d + 1) _ (t ++ t') (by omega) (by simp only [u_tick, u_mine]; exact un) (bs.set (hne _ _) _).tick (by simp only [List.length_append]; omega)) fun v2 p2 h2 => ?_
          obtain ⟨u, nu, lu, hb2, sb2, un2⟩ := h2
          have o32 : p2.ob ⟨d, 3, σ.ct d⟩ = some (encY y) := by rw [sb2.ob _ (Nat.lt_succ_self d) (hne _ _)]; simp only [Sto.tick, Sto.set]; rw [if_neg (by simp)]; exact o3
          have o52 : p2.ob ⟨d, 5, σ.ct d + 1⟩ = some (enc (.mk kd b.toNat s0 s1 s2 s3 n mn mx l)) := by rw [sb2.ob _ (Nat.lt_succ_self d) (hne _ _)]; simp only [Sto.tick, Sto.set]; rw [if_neg (by simp)]; exact o5
          simp -implicitDefEqProofs -dsimp only [↓reduceIte, ↓W_seq, go_sem, WR_nil, evNews, Nat.reduceEqDiff, Nat.reduceAdd, Nat.reduceMul, Nat.reduceLeDiff, Nat.reduceLT, Int.cast_ofNat_Int, Int.reduceBNe, Int.reduceToNat, Int.reduceLT, Int.reduceLE, Int.reduceAdd, Int.reduceNeg, Int.reduceEq, reduceCtorEq, enc, h13, h12, h11, h1, h3, h5, x1]
          exact ⟨k - 1, by omega, i + 1, t' ++ u, by omega, rfl, o32, o52, noNl_app nl nu, by simp only [List.length_append]; omega, by rw [← List.append_assoc]; exact hb2, (sb.set _).tick.trans (sb2.le (Nat.le_succ d)), un2⟩
        · simp -implicitDefEqProofs -dsimp only [↓reduceIte, ↓W_seq, go_sem, WR_nil, evNews, Nat.reduceEqDiff, Nat.reduceAdd, Nat.reduceMul, Nat.reduceLeDiff, Nat.reduceLT, Int.cast_ofNat_Int, Int.reduceBNe, Int.reduceToNat, Int.reduceLT, Int.reduceLE, Int.reduceAdd, Int.reduceNeg, Int.reduceEq, reduceCtorEq, enc, g1, g2, h13, h12, h11, h1, h3, h5, o3, o5, gi, gk, encs_at]
          refine w502 (by decide) (bs.set (hne _ _) _).tick hlim hld' hB (by simp only [u_tick, u_mine]; exact un) (by simp only [List.length_append]; omega) fun p v hbs hsb hus => ?_
          have o33 : p.ob ⟨d, 3, σ.ct d⟩ = some (encY y) := by rw [hsb.ob _ (Nat.lt_succ_self d) (hne _ _)]; simp only [Sto.tick, Sto.set]; rw [if_neg (by simp)]; exact o3
          have o53 : p.ob ⟨d, 5, σ.ct d + 1⟩ = some (enc (.mk kd b.toNat s0 s1 s2 s3 n mn mx l)) := by rw [hsb.ob _ (Nat.lt_succ_self d) (hne _ _)]; simp only [Sto.tick, Sto.set]; rw [if_neg (by simp)]; exact o5
          have o7 : p.ob ⟨d, 7, s'.ct d⟩ = some (enc l[i]) := by rw [hsb.ob _ (Nat.lt_succ_self d) (hne _ _)]; simp only [Sto.tick, Sto.set, if_true]
          simp -implicitDefEqProofs -dsimp only [↓reduceIte, ↓W_seq, go_sem, WR_nil, evNews, Nat.reduceEqDiff, Nat.reduceAdd, Nat.reduceMul, Nat.reduceLeDiff, Nat.reduceLT, Int.cast_ofNat_Int, Int.reduceBNe, Int.reduceToNat, Int.reduceLT, Int.reduceLE, Int.reduceAdd, Int.reduceNeg, Int.reduceEq, reduceCtorEq, enc, h13, h12, h11, h1, h3, h5, o33, o53, o7]
          refine WF.whm (ih l[i] hm (wfNs_at l _ hws hm) (d + 1) _ _ (by omega) hus hbs (by simp only [List.length_append, List.length_cons, List.length_nil]; omega)) fun v2 p2 h2 => ?_
          obtain ⟨u, nu, lu, hb2, sb2, un2⟩ := h2
          have o32 : p2.ob ⟨d, 3, σ.ct d⟩ = some (encY y) := by rw [sb2.ob _ (Nat.lt_succ_self d) (hne _ _)]; exact o33
          have o52 : p2.ob ⟨d, 5, σ.ct d + 1⟩ = some (enc (.mk kd b.toNat s0 s1 s2 s3 n mn mx l)) := by rw [sb2.ob _ (Nat.lt_succ_self d) (hne _ _)]; exact o53
          simp -implicitDefEqProofs -dsimp only [↓reduceIte, ↓W_seq, go_sem, WR_nil, evNews, Nat.reduceEqDiff, Nat.reduceAdd, Nat.reduceMul, Nat.reduceLeDiff, Nat.reduceLT, Int.cast_ofNat_Int, Int.reduceBNe, Int.reduceToNat, Int.reduceLT, Int.reduceLE, Int.reduceAdd, Int.reduceNeg, Int.reduceEq, reduceCtorEq, enc, h13, h12, h11, h1, h3, h5, x1]
          exact ⟨k - 1, by omega, i + 1, t' ++ [124] ++ u, by omega, rfl, o32, o52, noNl_app (noNl_app nl (noNl_one (by decide))) nu, by simp only [List.length_append, List.length_cons, List.length_nil]; omega, by have h := hb2; rw [List.append_assoc, List.append_assoc] at h; rw [List.append_assoc]; exact h, ((sb.set _).tick.trans (hsb.le (Nat.le_succ d))).trans (sb2.le (Nat.le_succ d)), un2⟩
    · have g1 : ¬ ((i : Int) < (l.length : Int)) := by omega
      simp -implicitDefEqProofs -dsimp only [↓reduceIte, ↓W_seq, go_sem, WR_nil, evNews, Nat.reduceEqDiff, Nat.reduceAdd, Nat.reduceMul, Nat.reduceLeDiff, Nat.reduceLT, Int.cast_ofNat_Int, Int.reduceBNe, Int.reduceToNat, Int.reduceLT, Int.reduceLE, Int.reduceAdd, Int.reduceNeg, Int.reduceEq, reduceCtorEq, enc, g1, h13, h12]
      exact wrote_end nl (by omega) bs sb hld
  · refine ⟨0, [], Nat.zero_add _, rfl, rfl, rfl, rfl, rfl, rfl, ?_, ?_, noNl_nil, by simp, by rw [List.append_nil]; exact hb1 .., hs1 .., hu1 ..⟩
    · simp [Sto.set, Sto.tick, encY]
    · simp [Sto.set, Sto.tick, enc]
end Go.Proofs.Tryz.E
