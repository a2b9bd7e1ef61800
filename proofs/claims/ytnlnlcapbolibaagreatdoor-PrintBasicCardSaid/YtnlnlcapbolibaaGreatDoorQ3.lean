/- Walks: what the functions compute. -/
import Derived.Test.YtnlnlcapbolibaaGreatDoorQ2
set_option linter.unusedVariables false
set_option linter.unusedSimpArgs false
/- How patterns are written: a byte, a repeat. -/
namespace Go.Proofs.Tryz.E
open Go.Mv
set_option maxHeartbeats 4000000
set_option maxRecDepth 20000
/-- A kind's signs. -/
structure Sty where
  o : List UInt8
  sh : List UInt8
  br : List UInt8
  ub : List UInt8
  es : List UInt8
def encY (y : Sty) : List MV := [.str y.o, .str y.sh, .str y.br, .str y.ub, .str y.es]
def shortS (t : List UInt8) : Prop := noNl t ∧ t.length ≤ 2
structure OkY (y : Sty) : Prop where
  o : shortS y.o
  sh : shortS y.sh
  br : shortS y.br
  ub : shortS y.ub
attribute [go_sem] encY
theorem w518 (y : Sty) (c : UInt8) (lim d : Nat) (σ : Sto) (hu : σ.Und d) : RetT lim d 45 [.agg (encY y), .int .u8 c.toNat] σ 2 := by
  have hun := und_succ hu
  have hI := fun σ hσ => w41 y.es c lim (d + 1) σ hσ
  unfold RetT
  rw [WF_body (C := X) rfl Go.Proofs.Tryz.func45 rfl (by kernel_rfl)]; simp only [Go.Proofs.Tryz.results45]
  by_cases h : (c.toNat : Int) = 10
  · have e : ((c.toNat : Int) == 10) = true := by rw [h]; rfl
    simp -implicitDefEqProofs -dsimp only [↓reduceIte, ↓W_seq, go_sem, WR_nil, evNews, Nat.reduceEqDiff, Nat.reduceAdd, Nat.reduceMul, Nat.reduceLeDiff, Nat.reduceLT, Int.cast_ofNat_Int, Int.reduceBNe, Int.reduceToNat, Int.reduceLT, Int.reduceLE, Int.reduceAdd, Int.reduceNeg, Int.reduceEq, reduceCtorEq, enc, e, cut_und _ _ hu]
    exact ⟨_, rfl, noNl_cons (by decide) (noNl_cons (by decide) noNl_nil), by simp⟩
  · have e : ((c.toNat : Int) == 10) = false := by rw [beq_eq_false_iff_ne]; exact h
    have hb : UInt8.ofNat c.toNat ≠ 10 := byte_ten c.toNat_lt (by omega)
    simp -implicitDefEqProofs -dsimp only [↓reduceIte, ↓W_seq, go_sem, WR_nil, evNews, Nat.reduceEqDiff, Nat.reduceAdd, Nat.reduceMul, Nat.reduceLeDiff, Nat.reduceLT, Int.cast_ofNat_Int, Int.reduceBNe, Int.reduceToNat, Int.reduceLT, Int.reduceLE, Int.reduceAdd, Int.reduceNeg, Int.reduceEq, reduceCtorEq, enc, e]
    refine (hI _ (by simp only [u_tick, u_mine]; exact hun)).wh ?_
    by_cases g : 0 ≤ idxB y.es c.toNat
    · simp -implicitDefEqProofs -dsimp only [↓reduceIte, ↓W_seq, go_sem, WR_nil, evNews, Nat.reduceEqDiff, Nat.reduceAdd, Nat.reduceMul, Nat.reduceLeDiff, Nat.reduceLT, Int.cast_ofNat_Int, Int.reduceBNe, Int.reduceToNat, Int.reduceLT, Int.reduceLE, Int.reduceAdd, Int.reduceNeg, Int.reduceEq, reduceCtorEq, enc, g, cut_und _ _ hu, Int.toNat_natCast, List.length_cons, List.length_nil, List.singleton_append, List.cons_append, List.nil_append]
      exact ⟨_, rfl, noNl_cons (by decide) (noNl_cons hb noNl_nil), by simp⟩
    · simp -implicitDefEqProofs -dsimp only [↓reduceIte, ↓W_seq, go_sem, WR_nil, evNews, Nat.reduceEqDiff, Nat.reduceAdd, Nat.reduceMul, Nat.reduceLeDiff, Nat.reduceLT, Int.cast_ofNat_Int, Int.reduceBNe, Int.reduceToNat, Int.reduceLT, Int.reduceLE, Int.reduceAdd, Int.reduceNeg, Int.reduceEq, reduceCtorEq, enc, g, cut_und _ _ hu, Int.toNat_natCast]
      exact ⟨_, rfl, noNl_cons hb noNl_nil, by simp⟩
theorem ito_all : (List.range 256).all (fun n => ((Lib.itoa (n : Int)).all fun b => b != 10) && decide ((Lib.itoa (n : Int)).length ≤ 3)) = true := by kernel_rfl
theorem ito_ok (n : Int) (h : 0 ≤ n) (h2 : n ≤ 255) : noNl (Lib.itoa n) ∧ (Lib.itoa n).length ≤ 3 := by
  have := List.all_eq_true.1 ito_all n.toNat (by rw [List.mem_range]; omega)
  rw [show ((n.toNat : Nat) : Int) = n by omega, Bool.and_eq_true, decide_eq_true_eq, List.all_eq_true] at this
  exact ⟨fun x hx => by simpa using this.1 x hx, this.2⟩
theorem w506 (n : Int) (h : 0 ≤ n) (h2 : n ≤ 255) (lim d : Nat) (σ : Sto) {P : MV → Sto → Prop} (hq : P (.str (Lib.itoa n)) σ) : WFh X lim d 48 [.int .i64 n] σ (TagF P) := by
  rw [← WF_h, WF_prim (p := itoaP) rfl]
  exact ⟨(.str (Lib.itoa n), σ), by simp only [itoaP]; rw [if_pos (by omega)], hq⟩
theorem w519 (y : Sty) (hy : OkY y) (x : Nd) (mn mx : Int) (hb : boundsB mn mx = true) (lim d : Nat) (σ : Sto) (hu : σ.Und d) (kd c s0 s1 s2 s3 n : Int) (l : List Nd) : RetT lim d 49 [.agg (encY y), .agg (enc (.mk kd c s0 s1 s2 s3 n mn mx l))] σ 11 := by
  have hun := und_succ hu
  simp only [boundsB, Bool.and_eq_true, Bool.or_eq_true, decide_eq_true_eq, beq_iff_eq] at hb
  obtain ⟨⟨hb1, hb2⟩, hb3⟩ := hb
  obtain ⟨i1, i2⟩ := ito_ok mn hb1 hb2
  unfold RetT
  rw [WF_body (C := X) rfl Go.Proofs.Tryz.func49 rfl (by kernel_rfl)]; simp only [Go.Proofs.Tryz.results49]
  obtain ⟨n3, l3⟩ := hy.br
  obtain ⟨n4, l4⟩ := hy.ub
  have nc : noNl [44] := noNl_cons (by decide) noNl_nil
  cases e0 : mn == 0
  · simp -implicitDefEqProofs -dsimp only [↓reduceIte, ↓W_seq, go_sem, WR_nil, evNews, Nat.reduceEqDiff, Nat.reduceAdd, Nat.reduceMul, Nat.reduceLeDiff, Nat.reduceLT, Int.cast_ofNat_Int, Int.reduceBNe, Int.reduceToNat, Int.reduceLT, Int.reduceLE, Int.reduceAdd, Int.reduceNeg, Int.reduceEq, reduceCtorEq, enc, e0]
    rw [D_dr (by kernel_rfl) rfl]
    simp -implicitDefEqProofs -dsimp only [↓reduceIte, ↓W_seq, go_sem, WR_nil, evNews, Nat.reduceEqDiff, Nat.reduceAdd, Nat.reduceMul, Nat.reduceLeDiff, Nat.reduceLT, Int.cast_ofNat_Int, Int.reduceBNe, Int.reduceToNat, Int.reduceLT, Int.reduceLE, Int.reduceAdd, Int.reduceNeg, Int.reduceEq, reduceCtorEq, enc]
    refine w506 mn hb1 hb2 _ _ _ ?_
    simp -implicitDefEqProofs -dsimp only [↓reduceIte, ↓W_seq, go_sem, WR_nil, evNews, Nat.reduceEqDiff, Nat.reduceAdd, Nat.reduceMul, Nat.reduceLeDiff, Nat.reduceLT, Int.cast_ofNat_Int, Int.reduceBNe, Int.reduceToNat, Int.reduceLT, Int.reduceLE, Int.reduceAdd, Int.reduceNeg, Int.reduceEq, reduceCtorEq, enc, List.length_append]
    refine ⟨by omega, ?_⟩
    cases e2 : mx != mn
    · simp -implicitDefEqProofs -dsimp only [↓reduceIte, ↓W_seq, go_sem, WR_nil, evNews, Nat.reduceEqDiff, Nat.reduceAdd, Nat.reduceMul, Nat.reduceLeDiff, Nat.reduceLT, Int.cast_ofNat_Int, Int.reduceBNe, Int.reduceToNat, Int.reduceLT, Int.reduceLE, Int.reduceAdd, Int.reduceNeg, Int.reduceEq, reduceCtorEq, enc, e2, cut_und _ _ hu, List.length_append]
      exact ⟨by omega, _, rfl, noNl_app (noNl_app n3 i1) n4, by simp only [List.length_append]; omega⟩
    · cases e3 : decide (0 ≤ mx)
      · simp -implicitDefEqProofs -dsimp only [↓reduceIte, ↓W_seq, go_sem, WR_nil, evNews, Nat.reduceEqDiff, Nat.reduceAdd, Nat.reduceMul, Nat.reduceLeDiff, Nat.reduceLT, Int.cast_ofNat_Int, Int.reduceBNe, Int.reduceToNat, Int.reduceLT, Int.reduceLE, Int.reduceAdd, Int.reduceNeg, Int.reduceEq, reduceCtorEq, enc, e2, e3, cut_und _ _ hu, List.length_append, List.length_cons, List.length_nil]
        exact ⟨by omega, by omega, _, rfl, noNl_app (noNl_app (noNl_app n3 i1) nc) n4, by simp only [List.length_append, List.length_cons, List.length_nil]; omega⟩
      · have h0 : 0 ≤ mx := of_decide_eq_true e3
        obtain ⟨j1, j2⟩ := ito_ok mx h0 (by omega)
        simp -implicitDefEqProofs -dsimp only [↓reduceIte, ↓W_seq, go_sem, WR_nil, evNews, Nat.reduceEqDiff, Nat.reduceAdd, Nat.reduceMul, Nat.reduceLeDiff, Nat.reduceLT, Int.cast_ofNat_Int, Int.reduceBNe, Int.reduceToNat, Int.reduceLT, Int.reduceLE, Int.reduceAdd, Int.reduceNeg, Int.reduceEq, reduceCtorEq, enc, e2, e3, List.length_append, List.length_cons, List.length_nil]
        refine ⟨by omega, w506 mx h0 (by omega) _ _ _ ?_⟩
        simp -implicitDefEqProofs -dsimp only [↓reduceIte, ↓W_seq, go_sem, WR_nil, evNews, Nat.reduceEqDiff, Nat.reduceAdd, Nat.reduceMul, Nat.reduceLeDiff, Nat.reduceLT, Int.cast_ofNat_Int, Int.reduceBNe, Int.reduceToNat, Int.reduceLT, Int.reduceLE, Int.reduceAdd, Int.reduceNeg, Int.reduceEq, reduceCtorEq, enc, cut_und _ _ hu, List.length_append, List.length_cons, List.length_nil]
        exact ⟨by omega, by omega, _, rfl, noNl_app (noNl_app (noNl_app (noNl_app n3 i1) nc) j1) n4, by simp only [List.length_append, List.length_cons, List.length_nil]; omega⟩
  · cases e1 : mx == -1
    · simp -implicitDefEqProofs -dsimp only [↓reduceIte, ↓W_seq, go_sem, WR_nil, evNews, Nat.reduceEqDiff, Nat.reduceAdd, Nat.reduceMul, Nat.reduceLeDiff, Nat.reduceLT, Int.cast_ofNat_Int, Int.reduceBNe, Int.reduceToNat, Int.reduceLT, Int.reduceLE, Int.reduceAdd, Int.reduceNeg, Int.reduceEq, reduceCtorEq, enc, e0, e1]
      rw [D_dr (by kernel_rfl) rfl]
      simp -implicitDefEqProofs -dsimp only [↓reduceIte, ↓W_seq, go_sem, WR_nil, evNews, Nat.reduceEqDiff, Nat.reduceAdd, Nat.reduceMul, Nat.reduceLeDiff, Nat.reduceLT, Int.cast_ofNat_Int, Int.reduceBNe, Int.reduceToNat, Int.reduceLT, Int.reduceLE, Int.reduceAdd, Int.reduceNeg, Int.reduceEq, reduceCtorEq, enc]
      refine w506 mn hb1 hb2 _ _ _ ?_
      simp -implicitDefEqProofs -dsimp only [↓reduceIte, ↓W_seq, go_sem, WR_nil, evNews, Nat.reduceEqDiff, Nat.reduceAdd, Nat.reduceMul, Nat.reduceLeDiff, Nat.reduceLT, Int.cast_ofNat_Int, Int.reduceBNe, Int.reduceToNat, Int.reduceLT, Int.reduceLE, Int.reduceAdd, Int.reduceNeg, Int.reduceEq, reduceCtorEq, enc, List.length_append]
      refine ⟨by omega, ?_⟩
      cases e2 : mx != mn
      · simp -implicitDefEqProofs -dsimp only [↓reduceIte, ↓W_seq, go_sem, WR_nil, evNews, Nat.reduceEqDiff, Nat.reduceAdd, Nat.reduceMul, Nat.reduceLeDiff, Nat.reduceLT, Int.cast_ofNat_Int, Int.reduceBNe, Int.reduceToNat, Int.reduceLT, Int.reduceLE, Int.reduceAdd, Int.reduceNeg, Int.reduceEq, reduceCtorEq, enc, e2, cut_und _ _ hu, List.length_append]
        exact ⟨by omega, _, rfl, noNl_app (noNl_app n3 i1) n4, by simp only [List.length_append]; omega⟩
      · cases e3 : decide (0 ≤ mx)
        · simp -implicitDefEqProofs -dsimp only [↓reduceIte, ↓W_seq, go_sem, WR_nil, evNews, Nat.reduceEqDiff, Nat.reduceAdd, Nat.reduceMul, Nat.reduceLeDiff, Nat.reduceLT, Int.cast_ofNat_Int, Int.reduceBNe, Int.reduceToNat, Int.reduceLT, Int.reduceLE, Int.reduceAdd, Int.reduceNeg, Int.reduceEq, reduceCtorEq, enc, e2, e3, cut_und _ _ hu, List.length_append, List.length_cons, List.length_nil]
          exact ⟨by omega, by omega, _, rfl, noNl_app (noNl_app (noNl_app n3 i1) nc) n4, by simp only [List.length_append, List.length_cons, List.length_nil]; omega⟩
        · have h0 : 0 ≤ mx := of_decide_eq_true e3
          obtain ⟨j1, j2⟩ := ito_ok mx h0 (by omega)
          simp -implicitDefEqProofs -dsimp only [↓reduceIte, ↓W_seq, go_sem, WR_nil, evNews, Nat.reduceEqDiff, Nat.reduceAdd, Nat.reduceMul, Nat.reduceLeDiff, Nat.reduceLT, Int.cast_ofNat_Int, Int.reduceBNe, Int.reduceToNat, Int.reduceLT, Int.reduceLE, Int.reduceAdd, Int.reduceNeg, Int.reduceEq, reduceCtorEq, enc, e2, e3, List.length_append, List.length_cons, List.length_nil]
          refine ⟨by omega, w506 mx h0 (by omega) _ _ _ ?_⟩
          simp -implicitDefEqProofs -dsimp only [↓reduceIte, ↓W_seq, go_sem, WR_nil, evNews, Nat.reduceEqDiff, Nat.reduceAdd, Nat.reduceMul, Nat.reduceLeDiff, Nat.reduceLT, Int.cast_ofNat_Int, Int.reduceBNe, Int.reduceToNat, Int.reduceLT, Int.reduceLE, Int.reduceAdd, Int.reduceNeg, Int.reduceEq, reduceCtorEq, enc, cut_und _ _ hu, List.length_append, List.length_cons, List.length_nil]
          exact ⟨by omega, by omega, _, rfl, noNl_app (noNl_app (noNl_app (noNl_app n3 i1) nc) j1) n4, by simp only [List.length_append, List.length_cons, List.length_nil]; omega⟩
    · simp -implicitDefEqProofs -dsimp only [↓reduceIte, ↓W_seq, go_sem, WR_nil, evNews, Nat.reduceEqDiff, Nat.reduceAdd, Nat.reduceMul, Nat.reduceLeDiff, Nat.reduceLT, Int.cast_ofNat_Int, Int.reduceBNe, Int.reduceToNat, Int.reduceLT, Int.reduceLE, Int.reduceAdd, Int.reduceNeg, Int.reduceEq, reduceCtorEq, enc, e0, e1, cut_und _ _ hu]
      exact ⟨_, rfl, noNl_cons (by decide) noNl_nil, by simp⟩
end Go.Proofs.Tryz.E
