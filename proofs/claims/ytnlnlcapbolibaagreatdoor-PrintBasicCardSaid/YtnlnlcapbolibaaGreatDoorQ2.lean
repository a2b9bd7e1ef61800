/- Walks: what the functions compute. -/
import Derived.Test.YtnlnlcapbolibaaGreatDoorQ1
set_option linter.unusedVariables false
set_option linter.unusedSimpArgs false
/- A set, written. -/
namespace Go.Proofs.Tryz.E
open Go.Mv
set_option maxHeartbeats 4000000
set_option maxRecDepth 20000
/-- How much the bytes below one take. -/
def cw : Nat → Nat
  | 0 => 0
  | c + 1 => cw c + (wrt c).length
theorem cw_all : cw 256 = 277 := by kernel_rfl
theorem wrt_pos (c : Nat) : 1 ≤ (wrt c).length := by
  unfold wrt
  split
  · decide
  · split <;> simp
theorem wrt_le (c : Nat) : (wrt c).length ≤ 5 := by
  unfold wrt
  split
  · decide
  · split <;> simp
theorem noNl_cons {b : UInt8} {t : List UInt8} (hb : b ≠ 10) (h : noNl t) : noNl (b :: t) := fun x hx => by
  rcases List.mem_cons.1 hx with rfl | hx
  · exact hb
  · exact h x hx
theorem noNl_nil : noNl [] := fun x hx => absurd hx (by simp)
theorem cw_le {a b : Nat} (h : a ≤ b) : cw a ≤ cw b := by
  induction b with
  | zero => rw [Nat.le_zero.1 h]; exact Nat.le_refl _
  | succ b ih =>
    rcases Nat.lt_or_ge b a with h1 | h1
    · rw [show a = b + 1 by omega]; exact Nat.le_refl _
    · have := ih h1
      simp only [cw]
      omega
def BL (d c : Nat) : Mv.Loc := ⟨d, 1000000 + (67 * 1024 + 2), c⟩
structure RunI (σ : Sto) (d : Nat) (S : List Int) (c : Nat) (m : Nat → MV) (s' : Sto) : Prop where
  h3 : m 3 = .ptr (BL d (σ.ct d + 1)) 0
  h1 : m 1 = .ptr ⟨d, 1, σ.ct d⟩ 0
  o1 : s'.ob ⟨d, 1, σ.ct d⟩ = some (encS S)
  sb : SB d (BL d (σ.ct d + 1)) σ s'
  un : s'.Und (d + 1)
  bs : ∃ t, BS s' (BL d (σ.ct d + 1)) t ∧ noNl t ∧ t.length ≤ cw c
theorem BL_ne (d c : Nat) : (⟨d, 1, c⟩ : Mv.Loc) ≠ BL d (c + 1) := fun e => by have := congrArg Mv.Loc.c e; simp [BL] at this
theorem w522 (S : List Int) (hS : S.length = 4) (lim d : Nat) (σ : Sto) (hlim : lim ≤ d) (hu : σ.Und d) : RetT lim d 71 [.agg (encS S)] σ 277 := by
  have hun := und_succ hu
  have hH := fun c hc σ hσ => w525 S hS c hc lim (d + 1) σ hσ
  have hW := fun c hc σ hσ => w526 c hc lim (d + 1) σ hσ
  have hiB : isB (BL d (σ.ct d + 1)) = true := by simp [isB, BL]
  have h255 := cw_le (show 256 ≤ 256 by omega)
  have hall := cw_all
  unfold RetT
  rw [WF_body (C := X) rfl Go.Proofs.Tryz.func71 rfl (by kernel_rfl)]; simp only [Go.Proofs.Tryz.results71]
  simp -implicitDefEqProofs -dsimp only [↓reduceIte, ↓W_seq, go_sem, WR_nil, evNews, Nat.reduceEqDiff, Nat.reduceAdd, Nat.reduceMul, Nat.reduceLeDiff, Nat.reduceLT, Int.cast_ofNat_Int, Int.reduceBNe, Int.reduceToNat, Int.reduceLT, Int.reduceLE, Int.reduceAdd, Int.reduceNeg, Int.reduceEq, reduceCtorEq, enc]
  refine loop_h (I := fun k m s' => ∃ c : Nat, c + k = 256 ∧ m 4 = .int .i64 c ∧ RunI σ d S c m s') ?_ 256 _ _ ?_
  · rintro k m s' ⟨c, hk, h4, h3, h1, o1, sb, un, t, bs, nl, tl⟩
    cases k with
    | zero =>
      have e1 : ¬ ((c : Int) < 256) := by omega
      simp -implicitDefEqProofs -dsimp only [↓reduceIte, ↓W_seq, go_sem, WR_nil, evNews, Nat.reduceEqDiff, Nat.reduceAdd, Nat.reduceMul, Nat.reduceLeDiff, Nat.reduceLT, Int.cast_ofNat_Int, Int.reduceBNe, Int.reduceToNat, Int.reduceLT, Int.reduceLE, Int.reduceAdd, Int.reduceNeg, Int.reduceEq, reduceCtorEq, enc, h4, h3, e1]
      refine w503 bs (by simp only [BL]; exact hlim) (by simp only [BL]; omega) (by have := cw_le (show c ≤ 256 by omega); omega) fun s hs => ?_
      have hcw := cw_le (show c ≤ 256 by omega)
      simp -implicitDefEqProofs -dsimp only [↓reduceIte, ↓W_seq, go_sem, WR_nil, evNews, Nat.reduceEqDiff, Nat.reduceAdd, Nat.reduceMul, Nat.reduceLeDiff, Nat.reduceLT, Int.cast_ofNat_Int, Int.reduceBNe, Int.reduceToNat, Int.reduceLT, Int.reduceLE, Int.reduceAdd, Int.reduceNeg, Int.reduceEq, reduceCtorEq, enc]
      exact ⟨⟨t, rfl, nl, by omega⟩, (sb.trans hs).back hu (Nat.le_refl _)⟩
    | succ k =>
      have e1 : ((c : Int) < 256) := by omega
      have hc : c < 256 := by omega
      have hu8 := wru8 (c : Int) (by omega) (by omega)
      have x1 : IntKind.i64.wrap ((c : Int) + 1) = ((c + 1 : Nat) : Int) := by rw [wr64 _ (by omega) (by omega)]; omega
      simp -implicitDefEqProofs -dsimp only [↓reduceIte, ↓W_seq, go_sem, WR_nil, evNews, Nat.reduceEqDiff, Nat.reduceAdd, Nat.reduceMul, Nat.reduceLeDiff, Nat.reduceLT, Int.cast_ofNat_Int, Int.reduceBNe, Int.reduceToNat, Int.reduceLT, Int.reduceLE, Int.reduceAdd, Int.reduceNeg, Int.reduceEq, reduceCtorEq, enc, h4, h3, h1, o1, e1, hu8, hS, encS_take S hS]
      refine (hH c hc _ un).wh fun b => ?_
      cases b
      · simp -implicitDefEqProofs -dsimp only [↓reduceIte, ↓W_seq, go_sem, WR_nil, evNews, Nat.reduceEqDiff, Nat.reduceAdd, Nat.reduceMul, Nat.reduceLeDiff, Nat.reduceLT, Int.cast_ofNat_Int, Int.reduceBNe, Int.reduceToNat, Int.reduceLT, Int.reduceLE, Int.reduceAdd, Int.reduceNeg, Int.reduceEq, reduceCtorEq, enc, h4, x1]
        exact ⟨k, by omega, c + 1, by omega, rfl, h3, h1, o1, sb, un, t, bs, nl, Nat.le_trans tl (cw_le (by omega))⟩
      · simp -implicitDefEqProofs -dsimp only [↓reduceIte, ↓W_seq, go_sem, WR_nil, evNews, Nat.reduceEqDiff, Nat.reduceAdd, Nat.reduceMul, Nat.reduceLeDiff, Nat.reduceLT, Int.cast_ofNat_Int, Int.reduceBNe, Int.reduceToNat, Int.reduceLT, Int.reduceLE, Int.reduceAdd, Int.reduceNeg, Int.reduceEq, reduceCtorEq, enc, h4]
        refine loop_h (I := fun k m s' => ∃ c' : Nat, c ≤ c' ∧ c' + k = 255 ∧ m 4 = .int .i64 c' ∧ m 5 = .int .i64 c ∧ RunI σ d S c m s') ?_ (255 - c) _ _ ?_
        · rintro k' m s' ⟨c', hcc, hk', h4, h5, h3, h1, o1, sb, un, t, bs, nl, tl⟩
          have hx3 : IntKind.i64.wrap ((c' : Int) + 1) = ((c' + 1 : Nat) : Int) := by rw [wr64 _ (by omega) (by omega)]; omega
          have x3 := hx3
          have hu9' : IntKind.u8.wrap (c' : Int) = c' := wru8 _ (by omega) (by omega)
          have hwc := wrt_le c
          have hwc' := wrt_le c'
          have hwl : 1 + (wrt c').length ≤ 9223372036854775807 := by omega
          have hcb := cw_le (show c ≤ 256 by omega)
          by_cases hlt : c' < 255
          · have e2 : ((c' : Int) < 255) := by omega
            have hu9 : IntKind.u8.wrap ((c' + 1 : Nat) : Int) = ((c' + 1 : Nat) : Int) := wru8 _ (by omega) (by omega)
            have x2 : IntKind.i64.wrap ((c' : Int) + 1) = ((c' + 1 : Nat) : Int) := by rw [wr64 _ (by omega) (by omega)]; omega
            simp -implicitDefEqProofs -dsimp only [↓reduceIte, ↓W_seq, go_sem, WR_nil, evNews, Nat.reduceEqDiff, Nat.reduceAdd, Nat.reduceMul, Nat.reduceLeDiff, Nat.reduceLT, Int.cast_ofNat_Int, Int.reduceBNe, Int.reduceToNat, Int.reduceLT, Int.reduceLE, Int.reduceAdd, Int.reduceNeg, Int.reduceEq, reduceCtorEq, enc, h4, h3, h1, o1, e2, x2, hu9, hS, encS_take S hS]
            refine (hH (c' + 1) (by omega) _ un).wh fun b => ?_
            cases b
            · simp -implicitDefEqProofs -dsimp only [↓reduceIte, ↓W_seq, go_sem, WR_nil, evNews, Nat.reduceEqDiff, Nat.reduceAdd, Nat.reduceMul, Nat.reduceLeDiff, Nat.reduceLT, Int.cast_ofNat_Int, Int.reduceBNe, Int.reduceToNat, Int.reduceLT, Int.reduceLE, Int.reduceAdd, Int.reduceNeg, Int.reduceEq, reduceCtorEq, enc, h5, h4, hu8]
              refine (hW c hc _ un).wh ?_
              simp -implicitDefEqProofs -dsimp only [↓reduceIte, ↓W_seq, go_sem, WR_nil, evNews, Nat.reduceEqDiff, Nat.reduceAdd, Nat.reduceMul, Nat.reduceLeDiff, Nat.reduceLT, Int.cast_ofNat_Int, Int.reduceBNe, Int.reduceToNat, Int.reduceLT, Int.reduceLE, Int.reduceAdd, Int.reduceNeg, Int.reduceEq, reduceCtorEq, enc, h3]
              refine w501 bs (by simp only [BL]; exact hlim) (by simp only [BL]; omega) hiB un (by omega) fun s1 v1 bs1 sb1 un1 => ?_
              have nl1 := noNl_app nl (wrt_nl c hc)
              have o11 : s1.ob ⟨d, 1, σ.ct d⟩ = some (encS S) := by rw [sb1.ob _ (Nat.lt_succ_self d) (BL_ne d _)]; exact o1
              by_cases z0 : c' = c
              · have s0 : IntKind.i64.wrap ((c' : Int) - (c : Int)) = 0 := by rw [wr64 _ (by omega) (by omega)]; omega
                simp -implicitDefEqProofs -dsimp only [↓reduceIte, ↓W_seq, go_sem, WR_nil, evNews, Nat.reduceEqDiff, Nat.reduceAdd, Nat.reduceMul, Nat.reduceLeDiff, Nat.reduceLT, Int.cast_ofNat_Int, Int.reduceBNe, Int.reduceToNat, Int.reduceLT, Int.reduceLE, Int.reduceAdd, Int.reduceNeg, Int.reduceEq, reduceCtorEq, enc, h4, h5, s0, x3, beq_self_eq_true]
                exact ⟨255 - c', by omega, c' + 1, by omega, rfl, h3, h1, o11, sb.trans (sb1.le (Nat.le_succ d)), un1, _, bs1, nl1, by rw [List.length_append, z0]; simp only [cw]; omega⟩
              by_cases z1 : c' = c + 1
              · have s0 : IntKind.i64.wrap ((c' : Int) - (c : Int)) = 1 := by rw [wr64 _ (by omega) (by omega)]; omega
                simp -implicitDefEqProofs -dsimp only [↓reduceIte, ↓W_seq, go_sem, WR_nil, evNews, Nat.reduceEqDiff, Nat.reduceAdd, Nat.reduceMul, Nat.reduceLeDiff, Nat.reduceLT, Int.cast_ofNat_Int, Int.reduceBNe, Int.reduceToNat, Int.reduceLT, Int.reduceLE, Int.reduceAdd, Int.reduceNeg, Int.reduceEq, reduceCtorEq, enc, h4, h5, s0, x3, hu9', beq_self_eq_true, Int.reduceBEq]
                refine (hW c' (by omega) _ un1).wh ?_
                simp -implicitDefEqProofs -dsimp only [↓reduceIte, ↓W_seq, go_sem, WR_nil, evNews, Nat.reduceEqDiff, Nat.reduceAdd, Nat.reduceMul, Nat.reduceLeDiff, Nat.reduceLT, Int.cast_ofNat_Int, Int.reduceBNe, Int.reduceToNat, Int.reduceLT, Int.reduceLE, Int.reduceAdd, Int.reduceNeg, Int.reduceEq, reduceCtorEq, enc, h3]
                refine w501 bs1 (by simp only [BL]; exact hlim) (by simp only [BL]; omega) hiB un1 (by rw [List.length_append]; omega) fun s2 v2 bs2 sb2 un2 => ?_
                have o12 : s2.ob ⟨d, 1, σ.ct d⟩ = some (encS S) := by rw [sb2.ob _ (Nat.lt_succ_self d) (BL_ne d _)]; exact o11
                simp -implicitDefEqProofs -dsimp only [↓reduceIte, ↓W_seq, go_sem, WR_nil, evNews, Nat.reduceEqDiff, Nat.reduceAdd, Nat.reduceMul, Nat.reduceLeDiff, Nat.reduceLT, Int.cast_ofNat_Int, Int.reduceBNe, Int.reduceToNat, Int.reduceLT, Int.reduceLE, Int.reduceAdd, Int.reduceNeg, Int.reduceEq, reduceCtorEq, enc, h4, x3]
                exact ⟨255 - c', by omega, c' + 1, by omega, rfl, h3, h1, o12, (sb.trans (sb1.le (Nat.le_succ d))).trans (sb2.le (Nat.le_succ d)), un2, _, bs2, noNl_app nl1 (wrt_nl c' (by omega)), by rw [List.length_append, List.length_append, z1]; simp only [cw]; omega⟩
              · have s0 : IntKind.i64.wrap ((c' : Int) - (c : Int)) = ((c' - c : Nat) : Int) := by rw [wr64 _ (by omega) (by omega)]; omega
                have b0 : (((c' - c : Nat) : Int) == 0) = false := by rw [beq_eq_false_iff_ne]; omega
                have b1 : (((c' - c : Nat) : Int) == 1) = false := by rw [beq_eq_false_iff_ne]; omega
                simp -implicitDefEqProofs -dsimp only [↓reduceIte, ↓W_seq, go_sem, WR_nil, evNews, Nat.reduceEqDiff, Nat.reduceAdd, Nat.reduceMul, Nat.reduceLeDiff, Nat.reduceLT, Int.cast_ofNat_Int, Int.reduceBNe, Int.reduceToNat, Int.reduceLT, Int.reduceLE, Int.reduceAdd, Int.reduceNeg, Int.reduceEq, reduceCtorEq, enc, h4, h5, s0, x3, hu9', b0, b1]
                refine (hW c' (by omega) _ un1).wh ?_
                simp -implicitDefEqProofs -dsimp only [↓reduceIte, ↓W_seq, go_sem, WR_nil, evNews, Nat.reduceEqDiff, Nat.reduceAdd, Nat.reduceMul, Nat.reduceLeDiff, Nat.reduceLT, Int.cast_ofNat_Int, Int.reduceBNe, Int.reduceToNat, Int.reduceLT, Int.reduceLE, Int.reduceAdd, Int.reduceNeg, Int.reduceEq, reduceCtorEq, enc, h3, List.length_cons, List.length_nil, List.singleton_append, hwl]
                refine w501 bs1 (by simp only [BL]; exact hlim) (by simp only [BL]; omega) hiB un1 (by simp only [List.length_append, List.length_cons, List.length_nil]; omega) fun s2 v2 bs2 sb2 un2 => ?_
                have o12 : s2.ob ⟨d, 1, σ.ct d⟩ = some (encS S) := by rw [sb2.ob _ (Nat.lt_succ_self d) (BL_ne d _)]; exact o11
                have hc2 : cw (c + 1 + 1) ≤ cw c' := cw_le (by omega)
                have hp := wrt_pos (c + 1)
                simp only [cw] at hc2
                simp -implicitDefEqProofs -dsimp only [↓reduceIte, ↓W_seq, go_sem, WR_nil, evNews, Nat.reduceEqDiff, Nat.reduceAdd, Nat.reduceMul, Nat.reduceLeDiff, Nat.reduceLT, Int.cast_ofNat_Int, Int.reduceBNe, Int.reduceToNat, Int.reduceLT, Int.reduceLE, Int.reduceAdd, Int.reduceNeg, Int.reduceEq, reduceCtorEq, enc, h4, x3]
                exact ⟨255 - c', by omega, c' + 1, by omega, rfl, h3, h1, o12, (sb.trans (sb1.le (Nat.le_succ d))).trans (sb2.le (Nat.le_succ d)), un2, _, bs2, noNl_app nl1 (noNl_cons (by decide) (wrt_nl c' (by omega))), by simp only [List.length_append, cw, List.length_cons, List.length_nil]; omega⟩
            · simp -implicitDefEqProofs -dsimp only [↓reduceIte, ↓W_seq, go_sem, WR_nil, evNews, Nat.reduceEqDiff, Nat.reduceAdd, Nat.reduceMul, Nat.reduceLeDiff, Nat.reduceLT, Int.cast_ofNat_Int, Int.reduceBNe, Int.reduceToNat, Int.reduceLT, Int.reduceLE, Int.reduceAdd, Int.reduceNeg, Int.reduceEq, reduceCtorEq, enc, h5, h4, x2]
              exact ⟨k' - 1, by omega, c' + 1, by omega, by omega, rfl, h3, h1, o1, sb, un, t, bs, nl, tl⟩
          · have e2 : ¬ ((c' : Int) < 255) := by omega
            simp -implicitDefEqProofs -dsimp only [↓reduceIte, ↓W_seq, go_sem, WR_nil, evNews, Nat.reduceEqDiff, Nat.reduceAdd, Nat.reduceMul, Nat.reduceLeDiff, Nat.reduceLT, Int.cast_ofNat_Int, Int.reduceBNe, Int.reduceToNat, Int.reduceLT, Int.reduceLE, Int.reduceAdd, Int.reduceNeg, Int.reduceEq, reduceCtorEq, enc, h4, e2, h5, hu8]
            refine (hW c hc _ un).wh ?_
            simp -implicitDefEqProofs -dsimp only [↓reduceIte, ↓W_seq, go_sem, WR_nil, evNews, Nat.reduceEqDiff, Nat.reduceAdd, Nat.reduceMul, Nat.reduceLeDiff, Nat.reduceLT, Int.cast_ofNat_Int, Int.reduceBNe, Int.reduceToNat, Int.reduceLT, Int.reduceLE, Int.reduceAdd, Int.reduceNeg, Int.reduceEq, reduceCtorEq, enc, h3]
            refine w501 bs (by simp only [BL]; exact hlim) (by simp only [BL]; omega) hiB un (by omega) fun s1 v1 bs1 sb1 un1 => ?_
            have nl1 := noNl_app nl (wrt_nl c hc)
            have o11 : s1.ob ⟨d, 1, σ.ct d⟩ = some (encS S) := by rw [sb1.ob _ (Nat.lt_succ_self d) (BL_ne d _)]; exact o1
            by_cases z0 : c' = c
            · have s0 : IntKind.i64.wrap ((c' : Int) - (c : Int)) = 0 := by rw [wr64 _ (by omega) (by omega)]; omega
              simp -implicitDefEqProofs -dsimp only [↓reduceIte, ↓W_seq, go_sem, WR_nil, evNews, Nat.reduceEqDiff, Nat.reduceAdd, Nat.reduceMul, Nat.reduceLeDiff, Nat.reduceLT, Int.cast_ofNat_Int, Int.reduceBNe, Int.reduceToNat, Int.reduceLT, Int.reduceLE, Int.reduceAdd, Int.reduceNeg, Int.reduceEq, reduceCtorEq, enc, h4, h5, s0, x3, beq_self_eq_true]
              exact ⟨255 - c', by omega, c' + 1, by omega, rfl, h3, h1, o11, sb.trans (sb1.le (Nat.le_succ d)), un1, _, bs1, nl1, by rw [List.length_append, z0]; simp only [cw]; omega⟩
            by_cases z1 : c' = c + 1
            · have s0 : IntKind.i64.wrap ((c' : Int) - (c : Int)) = 1 := by rw [wr64 _ (by omega) (by omega)]; omega
              simp -implicitDefEqProofs -dsimp only [↓reduceIte, ↓W_seq, go_sem, WR_nil, evNews, Nat.reduceEqDiff, Nat.reduceAdd, Nat.reduceMul, Nat.reduceLeDiff, Nat.reduceLT, Int.cast_ofNat_Int, Int.reduceBNe, Int.reduceToNat, Int.reduceLT, Int.reduceLE, Int.reduceAdd, Int.reduceNeg, Int.reduceEq, reduceCtorEq, enc, h4, h5, s0, x3, hu9', beq_self_eq_true, Int.reduceBEq]
              refine (hW c' (by omega) _ un1).wh ?_
              simp -implicitDefEqProofs -dsimp only [↓reduceIte, ↓W_seq, go_sem, WR_nil, evNews, Nat.reduceEqDiff, Nat.reduceAdd, Nat.reduceMul, Nat.reduceLeDiff, Nat.reduceLT, Int.cast_ofNat_Int, Int.reduceBNe, Int.reduceToNat, Int.reduceLT, Int.reduceLE, Int.reduceAdd, Int.reduceNeg, Int.reduceEq, reduceCtorEq, enc, h3]
              refine w501 bs1 (by simp only [BL]; exact hlim) (by simp only [BL]; omega) hiB un1 (by rw [List.length_append]; omega) fun s2 v2 bs2 sb2 un2 => ?_
              have o12 : s2.ob ⟨d, 1, σ.ct d⟩ = some (encS S) := by rw [sb2.ob _ (Nat.lt_succ_self d) (BL_ne d _)]; exact o11
              simp -implicitDefEqProofs -dsimp only [↓reduceIte, ↓W_seq, go_sem, WR_nil, evNews, Nat.reduceEqDiff, Nat.reduceAdd, Nat.reduceMul, Nat.reduceLeDiff, Nat.reduceLT, Int.cast_ofNat_Int, Int.reduceBNe, Int.reduceToNat, Int.reduceLT, Int.reduceLE, Int.reduceAdd, Int.reduceNeg, Int.reduceEq, reduceCtorEq, enc, h4, x3]
              exact ⟨255 - c', by omega, c' + 1, by omega, rfl, h3, h1, o12, (sb.trans (sb1.le (Nat.le_succ d))).trans (sb2.le (Nat.le_succ d)), un2, _, bs2, noNl_app nl1 (wrt_nl c' (by omega)), by rw [List.length_append, List.length_append, z1]; simp only [cw]; omega⟩
            · have s0 : IntKind.i64.wrap ((c' : Int) - (c : Int)) = ((c' - c : Nat) : Int) := by rw [wr64 _ (by omega) (by omega)]; omega
              have b0 : (((c' - c : Nat) : Int) == 0) = false := by rw [beq_eq_false_iff_ne]; omega
              have b1 : (((c' - c : Nat) : Int) == 1) = false := by rw [beq_eq_false_iff_ne]; omega
              simp -implicitDefEqProofs -dsimp only [↓reduceIte, ↓W_seq, go_sem, WR_nil, evNews, Nat.reduceEqDiff, Nat.reduceAdd, Nat.reduceMul, Nat.reduceLeDiff, Nat.reduceLT, Int.cast_ofNat_Int, Int.reduceBNe, Int.reduceToNat, Int.reduceLT, Int.reduceLE, Int.reduceAdd, Int.reduceNeg, Int.reduceEq, reduceCtorEq, enc, h4, h5, s0, x3, hu9', b0, b1]
              refine (hW c' (by omega) _ un1).wh ?_
              simp -implicitDefEqProofs -dsimp only [↓reduceIte, ↓W_seq, go_sem, WR_nil, evNews, Nat.reduceEqDiff, Nat.reduceAdd, Nat.reduceMul, Nat.reduceLeDiff, Nat.reduceLT, Int.cast_ofNat_Int, Int.reduceBNe, Int.reduceToNat, Int.reduceLT, Int.reduceLE, Int.reduceAdd, Int.reduceNeg, Int.reduceEq, reduceCtorEq, enc, h3, List.length_cons, List.length_nil, List.singleton_append, hwl]
              refine w501 bs1 (by simp only [BL]; exact hlim) (by simp only [BL]; omega) hiB un1 (by simp only [List.length_append, List.length_cons, List.length_nil]; omega) fun s2 v2 bs2 sb2 un2 => ?_
              have o12 : s2.ob ⟨d, 1, σ.ct d⟩ = some (encS S) := by rw [sb2.ob _ (Nat.lt_succ_self d) (BL_ne d _)]; exact o11
              have hc2 : cw (c + 1 + 1) ≤ cw c' := cw_le (by omega)
              have hp := wrt_pos (c + 1)
              simp only [cw] at hc2
              simp -implicitDefEqProofs -dsimp only [↓reduceIte, ↓W_seq, go_sem, WR_nil, evNews, Nat.reduceEqDiff, Nat.reduceAdd, Nat.reduceMul, Nat.reduceLeDiff, Nat.reduceLT, Int.cast_ofNat_Int, Int.reduceBNe, Int.reduceToNat, Int.reduceLT, Int.reduceLE, Int.reduceAdd, Int.reduceNeg, Int.reduceEq, reduceCtorEq, enc, h4, x3]
              exact ⟨255 - c', by omega, c' + 1, by omega, rfl, h3, h1, o12, (sb.trans (sb1.le (Nat.le_succ d))).trans (sb2.le (Nat.le_succ d)), un2, _, bs2, noNl_app nl1 (noNl_cons (by decide) (wrt_nl c' (by omega))), by simp only [List.length_append, cw, List.length_cons, List.length_nil]; omega⟩
        · exact ⟨c, by omega, by omega, h4, rfl, h3, h1, o1, sb, un, t, bs, nl, tl⟩
  · refine ⟨0, rfl, rfl, rfl, rfl, ?_, ((SB.refl d _ σ).set _).set _ |>.tick.tick, ?_, [], ⟨.nilp, .nil, ?_, rfl, .inl ⟨rfl, rfl⟩⟩, fun x hx => absurd hx (by simp), Nat.zero_le _⟩
    · simp -implicitDefEqProofs -dsimp only [↓reduceIte, ↓W_seq, go_sem, WR_nil, evNews, Nat.reduceEqDiff, Nat.reduceAdd, Nat.reduceMul, Nat.reduceLeDiff, Nat.reduceLT, Int.cast_ofNat_Int, Int.reduceBNe, Int.reduceToNat, Int.reduceLT, Int.reduceLE, Int.reduceAdd, Int.reduceNeg, Int.reduceEq, reduceCtorEq, enc]
    · simp only [u_tick, u_mine]; exact hun
    · simp [Sto.set, Sto.tick, BL, bytesM]
theorem w520 (S : List Int) (hS : S.length = 4) (lim d : Nat) (σ : Sto) (hlim : lim ≤ d) (hu : σ.Und d) : RetT lim d 47 [.agg (encS S)] σ 280 := by
  have hun := und_succ hu
  have hN := fun σ hσ => w76 S hS lim (d + 1) σ hσ
  have hR := fun σ hσ => w522 S hS lim (d + 1) σ (by omega) hσ
  have hR2 := fun σ hσ => w522 (notS S) (by rw [notS_len]; exact hS) lim (d + 1) σ (by omega) hσ
  have hu' : ((σ.set ⟨d, 1, σ.ct d⟩ (encS S)).tick d).Und (d + 1) := by simp only [u_tick, u_mine]; exact hun
  unfold RetT
  rw [WF_body (C := X) rfl Go.Proofs.Tryz.func47 rfl (by kernel_rfl)]; simp only [Go.Proofs.Tryz.results47]
  simp -implicitDefEqProofs -dsimp only [↓reduceIte, ↓W_seq, go_sem, WR_nil, evNews, Nat.reduceEqDiff, Nat.reduceAdd, Nat.reduceMul, Nat.reduceLeDiff, Nat.reduceLT, Int.cast_ofNat_Int, Int.reduceBNe, Int.reduceToNat, Int.reduceLT, Int.reduceLE, Int.reduceAdd, Int.reduceNeg, Int.reduceEq, reduceCtorEq, enc, hS, encS_take S hS]
  refine (w521 S hS lim (d + 1) _ hu').wh fun y => ?_
  cases hy : y == 0
  · simp -implicitDefEqProofs -dsimp only [↓reduceIte, ↓W_seq, go_sem, WR_nil, evNews, Nat.reduceEqDiff, Nat.reduceAdd, Nat.reduceMul, Nat.reduceLeDiff, Nat.reduceLT, Int.cast_ofNat_Int, Int.reduceBNe, Int.reduceToNat, Int.reduceLT, Int.reduceLE, Int.reduceAdd, Int.reduceNeg, Int.reduceEq, reduceCtorEq, enc, hy, hS, encS_take S hS]
    refine (hR _ hu').wh fun t h1 h2 => ?_
    have g1 : t.length + 1 ≤ 9223372036854775807 := by omega
    have g2 : 1 + t.length ≤ 9223372036854775807 := by omega
    simp -implicitDefEqProofs -dsimp only [↓reduceIte, ↓W_seq, go_sem, WR_nil, evNews, Nat.reduceEqDiff, Nat.reduceAdd, Nat.reduceMul, Nat.reduceLeDiff, Nat.reduceLT, Int.cast_ofNat_Int, Int.reduceBNe, Int.reduceToNat, Int.reduceLT, Int.reduceLE, Int.reduceAdd, Int.reduceNeg, Int.reduceEq, reduceCtorEq, enc, cut_und _ _ hu, List.length_cons, List.length_nil, List.length_append, g1, g2]
    exact ⟨by omega, _, rfl, noNl_cons (by decide) (noNl_app h1 (noNl_cons (by decide) noNl_nil)), by simp only [List.length_cons, List.length_append, List.length_nil]; omega⟩
  · simp -implicitDefEqProofs -dsimp only [↓reduceIte, ↓W_seq, go_sem, WR_nil, evNews, Nat.reduceEqDiff, Nat.reduceAdd, Nat.reduceMul, Nat.reduceLeDiff, Nat.reduceLT, Int.cast_ofNat_Int, Int.reduceBNe, Int.reduceToNat, Int.reduceLT, Int.reduceLE, Int.reduceAdd, Int.reduceNeg, Int.reduceEq, reduceCtorEq, enc, hy, hS, encS_take S hS]
    refine (hN _ hu').wh ?_
    simp -implicitDefEqProofs -dsimp only [↓reduceIte, ↓W_seq, go_sem, WR_nil, evNews, Nat.reduceEqDiff, Nat.reduceAdd, Nat.reduceMul, Nat.reduceLeDiff, Nat.reduceLT, Int.cast_ofNat_Int, Int.reduceBNe, Int.reduceToNat, Int.reduceLT, Int.reduceLE, Int.reduceAdd, Int.reduceNeg, Int.reduceEq, reduceCtorEq, enc]
    refine (hR2 _ hu').wh fun t h1 h2 => ?_
    have g1 : t.length + 2 ≤ 9223372036854775807 := by omega
    have g2 : 2 + t.length ≤ 9223372036854775807 := by omega
    simp -implicitDefEqProofs -dsimp only [↓reduceIte, ↓W_seq, go_sem, WR_nil, evNews, Nat.reduceEqDiff, Nat.reduceAdd, Nat.reduceMul, Nat.reduceLeDiff, Nat.reduceLT, Int.cast_ofNat_Int, Int.reduceBNe, Int.reduceToNat, Int.reduceLT, Int.reduceLE, Int.reduceAdd, Int.reduceNeg, Int.reduceEq, reduceCtorEq, enc, cut_und _ _ hu, List.length_cons, List.length_nil, List.length_append, g1, g2]
    exact ⟨by omega, _, rfl, noNl_cons (by decide) (noNl_cons (by decide) (noNl_app h1 (noNl_cons (by decide) noNl_nil))), by simp only [List.length_cons, List.length_append, List.length_nil]; omega⟩
end Go.Proofs.Tryz.E
