/- Walks: what the functions compute. -/
import Derived.Test.YtklnfgmfcpcfcaaGreatDoorU1
set_option linter.unusedVariables false
set_option linter.unusedSimpArgs false
/- Labels, files' names, texts with a byte twice. -/
namespace Go.Proofs.Tryz.E
open Go.Mv
set_option maxHeartbeats 4000000
set_option maxRecDepth 20000
theorem w670 (s : List UInt8) (hs : s.length < 4294967281) (lim d : Nat) (σ : Sto) {Q : MV → Sto → Prop} (hq : Q (.bool (s.any (([10, 59, 125] : List UInt8).contains ·))) σ) : WFh X lim d 65 [.str s, .str [10, 59, 125]] σ (TagF Q) := by
  rw [← WF_h, WF_prim (p := anyP) rfl]
  exact ⟨(.bool (s.any (([10, 59, 125] : List UInt8).contains ·)), σ), by simp only [anyP]; rw [if_pos ⟨trivial, hs⟩], hq⟩
theorem w671 (s : List UInt8) (hs : s.length ≤ 9223372036854775807) (lim d : Nat) (σ : Sto) {Q : MV → Sto → Prop} (hq : Q (.str (trimB s)) σ) : WFh X lim d 66 [.str s, .str [32, 9]] σ (TagF Q) := by
  rw [← WF_h, WF_prim (p := trimAllP) rfl]
  exact ⟨(.str (trimB s), σ), by simp only [trimAllP]; rw [if_pos ⟨trivial, hs⟩], hq⟩
theorem wh67 (t : List UInt8) (c : UInt8) (lim d : Nat) (σ : Sto) {Q : MV → Sto → Prop} (hq : Q (.int .i64 (idxB t c.toNat)) σ) : WFh X lim d 118 [.str t, .int .u8 c.toNat] σ (TagF Q) := by
  rw [← WF_h, WF_prim (p := idxByteP) rfl]
  have := c.toNat_lt
  exact ⟨(.int .i64 (idxB t c.toNat), σ), by simp only [idxByteP]; rw [if_pos (by omega)], hq⟩
theorem w55 (t : List UInt8) (c : UInt8) (lim d : Nat) (σ : Sto) (hu : σ.Und d) : Ret lim d 93 [.str t, .int .u8 c.toNat] σ (.int .i64 (idxB t c.toNat)) σ := by
  unfold Ret
  rw [WF_body (C := X) rfl Go.Proofs.Tryz.func93 rfl (by kernel_rfl)]; simp only [Go.Proofs.Tryz.results93]
  simp -implicitDefEqProofs -dsimp only [↓reduceIte, ↓W_seq, go_sem, WR_nil, evNews, Nat.reduceEqDiff, Nat.reduceAdd, Nat.reduceMul, Nat.reduceLeDiff, Nat.reduceLT, Int.cast_ofNat_Int, Int.reduceBNe, Int.reduceToNat, Int.reduceLT, Int.reduceLE, Int.reduceAdd, Int.reduceNeg, Int.reduceEq, reduceCtorEq, enc]
  refine wh67 t c lim (d + 1) _ ?_
  simp -implicitDefEqProofs -dsimp only [↓reduceIte, ↓W_seq, go_sem, WR_nil, evNews, Nat.reduceEqDiff, Nat.reduceAdd, Nat.reduceMul, Nat.reduceLeDiff, Nat.reduceLT, Int.cast_ofNat_Int, Int.reduceBNe, Int.reduceToNat, Int.reduceLT, Int.reduceLE, Int.reduceAdd, Int.reduceNeg, Int.reduceEq, reduceCtorEq, enc, cut_und _ _ hu]
theorem w41 (t : List UInt8) (c : UInt8) (lim d : Nat) (σ : Sto) (hu : σ.Und d) : Ret lim d 68 [.str t, .int .u8 c.toNat] σ (.int .i64 (idxB t c.toNat)) σ := by
  unfold Ret
  rw [WF_body (C := X) rfl Go.Proofs.Tryz.func68 rfl (by kernel_rfl)]; simp only [Go.Proofs.Tryz.results68]
  simp -implicitDefEqProofs -dsimp only [↓reduceIte, ↓W_seq, go_sem, WR_nil, evNews, Nat.reduceEqDiff, Nat.reduceAdd, Nat.reduceMul, Nat.reduceLeDiff, Nat.reduceLT, Int.cast_ofNat_Int, Int.reduceBNe, Int.reduceToNat, Int.reduceLT, Int.reduceLE, Int.reduceAdd, Int.reduceNeg, Int.reduceEq, reduceCtorEq, enc]
  refine (w55 t c lim (d + 1) _ (und_succ hu)).wh ?_
  simp -implicitDefEqProofs -dsimp only [↓reduceIte, ↓W_seq, go_sem, WR_nil, evNews, Nat.reduceEqDiff, Nat.reduceAdd, Nat.reduceMul, Nat.reduceLeDiff, Nat.reduceLT, Int.cast_ofNat_Int, Int.reduceBNe, Int.reduceToNat, Int.reduceLT, Int.reduceLE, Int.reduceAdd, Int.reduceNeg, Int.reduceEq, reduceCtorEq, enc, cut_und _ _ hu]
theorem wh91 (s t : List UInt8) (hs : s.length < 4294967281) (lim d : Nat) (σ : Sto) {Q : MV → Sto → Prop} (hq : Q (.int .i64 (idxS s t)) σ) : WFh X lim d 117 [.str s, .str t] σ (TagF Q) := by
  rw [← WF_h, WF_prim (p := indexP) rfl]
  exact ⟨(.int .i64 (idxS s t), σ), by simp only [indexP]; rw [if_pos hs], hq⟩
theorem w609 (s t : List UInt8) (hs : s.length < 4294967281) (lim d : Nat) (σ : Sto) (hu : σ.Und d) : Ret lim d 92 [.str s, .str t] σ (.int .i64 (idxS s t)) σ := by
  unfold Ret
  rw [WF_body (C := X) rfl Go.Proofs.Tryz.func92 rfl (by kernel_rfl)]; simp only [Go.Proofs.Tryz.results92]
  simp -implicitDefEqProofs -dsimp only [↓reduceIte, ↓W_seq, go_sem, WR_nil, evNews, Nat.reduceEqDiff, Nat.reduceAdd, Nat.reduceMul, Nat.reduceLeDiff, Nat.reduceLT, Int.cast_ofNat_Int, Int.reduceBNe, Int.reduceToNat, Int.reduceLT, Int.reduceLE, Int.reduceAdd, Int.reduceNeg, Int.reduceEq, reduceCtorEq, enc]
  refine wh91 s t hs lim (d + 1) _ ?_
  simp -implicitDefEqProofs -dsimp only [↓reduceIte, ↓W_seq, go_sem, WR_nil, evNews, Nat.reduceEqDiff, Nat.reduceAdd, Nat.reduceMul, Nat.reduceLeDiff, Nat.reduceLT, Int.cast_ofNat_Int, Int.reduceBNe, Int.reduceToNat, Int.reduceLT, Int.reduceLE, Int.reduceAdd, Int.reduceNeg, Int.reduceEq, reduceCtorEq, enc, cut_und _ _ hu]
theorem w672 (s t : List UInt8) (hs : s.length < 4294967281) (lim d : Nat) (σ : Sto) (hu : σ.Und d) : Ret lim d 67 [.str s, .str t] σ (.bool (decide (0 ≤ idxS s t))) σ := by
  unfold Ret
  rw [WF_body (C := X) rfl Go.Proofs.Tryz.func67 rfl (by kernel_rfl)]; simp only [Go.Proofs.Tryz.results67]
  simp -implicitDefEqProofs -dsimp only [↓reduceIte, ↓W_seq, go_sem, WR_nil, evNews, Nat.reduceEqDiff, Nat.reduceAdd, Nat.reduceMul, Nat.reduceLeDiff, Nat.reduceLT, Int.cast_ofNat_Int, Int.reduceBNe, Int.reduceToNat, Int.reduceLT, Int.reduceLE, Int.reduceAdd, Int.reduceNeg, Int.reduceEq, reduceCtorEq, enc]
  refine (w609 s t hs lim (d + 1) _ (und_succ hu)).wh ?_
  simp -implicitDefEqProofs -dsimp only [↓reduceIte, ↓W_seq, go_sem, WR_nil, evNews, Nat.reduceEqDiff, Nat.reduceAdd, Nat.reduceMul, Nat.reduceLeDiff, Nat.reduceLT, Int.cast_ofNat_Int, Int.reduceBNe, Int.reduceToNat, Int.reduceLT, Int.reduceLE, Int.reduceAdd, Int.reduceNeg, Int.reduceEq, reduceCtorEq, enc, cut_und _ _ hu]
/-- A label's name, by both sides. -/
def labB (s : List UInt8) : Bool := !(s == []) && (decide (s.length ≤ 20) && (!(s.any (([10, 59, 125] : List UInt8).contains ·)) && trimB s == s))
theorem w680 (s : List UInt8) (lim d : Nat) (σ : Sto) (hu : σ.Und d) : Ret lim d 36 [.str s] σ (.bool (labB s)) σ := by
  have hun := und_succ hu
  unfold Ret
  unfold labB
  rw [WF_body (C := X) rfl Go.Proofs.Tryz.func36 rfl (by kernel_rfl)]; simp only [Go.Proofs.Tryz.results36]
  cases h0 : s == []
  rotate_left
  · simp -implicitDefEqProofs -dsimp only [↓reduceIte, ↓W_seq, go_sem, WR_nil, evNews, Nat.reduceEqDiff, Nat.reduceAdd, Nat.reduceMul, Nat.reduceLeDiff, Nat.reduceLT, Int.cast_ofNat_Int, Int.reduceBNe, Int.reduceToNat, Int.reduceLT, Int.reduceLE, Int.reduceAdd, Int.reduceNeg, Int.reduceEq, reduceCtorEq, enc, h0, cut_und _ _ hu]
  by_cases h1 : s.length ≤ 20
  rotate_left
  · have e1 : ¬ ((s.length : Int) ≤ 20) := by omega
    simp -implicitDefEqProofs -dsimp only [↓reduceIte, ↓W_seq, go_sem, WR_nil, evNews, Nat.reduceEqDiff, Nat.reduceAdd, Nat.reduceMul, Nat.reduceLeDiff, Nat.reduceLT, Int.cast_ofNat_Int, Int.reduceBNe, Int.reduceToNat, Int.reduceLT, Int.reduceLE, Int.reduceAdd, Int.reduceNeg, Int.reduceEq, reduceCtorEq, enc, h0, h1, e1, cut_und _ _ hu]
  have e1 : (s.length : Int) ≤ 20 := by omega
  simp -implicitDefEqProofs -dsimp only [↓reduceIte, ↓W_seq, go_sem, WR_nil, evNews, Nat.reduceEqDiff, Nat.reduceAdd, Nat.reduceMul, Nat.reduceLeDiff, Nat.reduceLT, Int.cast_ofNat_Int, Int.reduceBNe, Int.reduceToNat, Int.reduceLT, Int.reduceLE, Int.reduceAdd, Int.reduceNeg, Int.reduceEq, reduceCtorEq, enc, h0, h1, e1]
  refine w670 s (by omega) lim (d + 1) _ ?_
  cases h2 : s.any (([10, 59, 125] : List UInt8).contains ·)
  rotate_left
  · simp -implicitDefEqProofs -dsimp only [↓reduceIte, ↓W_seq, go_sem, WR_nil, evNews, Nat.reduceEqDiff, Nat.reduceAdd, Nat.reduceMul, Nat.reduceLeDiff, Nat.reduceLT, Int.cast_ofNat_Int, Int.reduceBNe, Int.reduceToNat, Int.reduceLT, Int.reduceLE, Int.reduceAdd, Int.reduceNeg, Int.reduceEq, reduceCtorEq, enc, cut_und _ _ hu]
  simp -implicitDefEqProofs -dsimp only [↓reduceIte, ↓W_seq, go_sem, WR_nil, evNews, Nat.reduceEqDiff, Nat.reduceAdd, Nat.reduceMul, Nat.reduceLeDiff, Nat.reduceLT, Int.cast_ofNat_Int, Int.reduceBNe, Int.reduceToNat, Int.reduceLT, Int.reduceLE, Int.reduceAdd, Int.reduceNeg, Int.reduceEq, reduceCtorEq, enc]
  refine w671 s (by omega) lim (d + 1) _ ?_
  cases h3 : trimB s == s
  · simp -implicitDefEqProofs -dsimp only [↓reduceIte, ↓W_seq, go_sem, WR_nil, evNews, Nat.reduceEqDiff, Nat.reduceAdd, Nat.reduceMul, Nat.reduceLeDiff, Nat.reduceLT, Int.cast_ofNat_Int, Int.reduceBNe, Int.reduceToNat, Int.reduceLT, Int.reduceLE, Int.reduceAdd, Int.reduceNeg, Int.reduceEq, reduceCtorEq, enc, h3, h1, cut_und _ _ hu]
  · simp -implicitDefEqProofs -dsimp only [↓reduceIte, ↓W_seq, go_sem, WR_nil, evNews, Nat.reduceEqDiff, Nat.reduceAdd, Nat.reduceMul, Nat.reduceLeDiff, Nat.reduceLT, Int.cast_ofNat_Int, Int.reduceBNe, Int.reduceToNat, Int.reduceLT, Int.reduceLE, Int.reduceAdd, Int.reduceNeg, Int.reduceEq, reduceCtorEq, enc, h3, h1, cut_und _ _ hu]
def filB (s : List UInt8) : Bool := !(s == []) && (decide (s.length ≤ 20) && (!(inS s 10) && (match s with | [] => false | b :: _ => !(b == 32) && !(b == 9))))
theorem idxS_one (c : UInt8) : ∀ s : List UInt8, decide (0 ≤ idxS s [c]) = inS s c.toNat
  | [] => rfl
  | b :: s => by
    have ih := idxS_one c s
    have e : (([c] : List UInt8) <+: (b :: s)) ↔ b = c := by
      rw [List.cons_prefix_cons]
      exact ⟨fun h => h.1.symm, fun h => ⟨h.symm, List.nil_prefix⟩⟩
    have hi : inS (b :: s) c.toNat = (((b.toNat : Int) == (c.toNat : Int)) || inS s c.toNat) := rfl
    have hu : idxS (b :: s) [c] = if ([c] : List UInt8) <+: (b :: s) then 0 else if idxS s [c] < 0 then -1 else idxS s [c] + 1 := rfl
    rw [hi, ← ih, hu]
    by_cases h : b = c
    · subst h
      rw [if_pos (e.2 rfl)]
      simp
    · rw [if_neg (fun q => h (e.1 q))]
      have hn : ((b.toNat : Int) == (c.toNat : Int)) = false := by
        rw [beq_eq_false_iff_ne]
        exact fun q => h (UInt8.toNat_inj.1 (by omega))
      rw [hn, Bool.false_or]
      by_cases h2 : idxS s [c] < 0
      · rw [if_pos h2]
        rw [decide_eq_false (by omega), decide_eq_false (by omega)]
      · rw [if_neg h2]
        rw [decide_eq_true (by omega), decide_eq_true (by omega)]
theorem idxB_bl (b : UInt8) : decide (idxB [32, 9] b.toNat < 0) = (!(b == 32) && !(b == 9)) := by
  have : ∀ n : Fin 256, decide (idxB [32, 9] (UInt8.ofNat n).toNat < 0) = (!(UInt8.ofNat n == 32) && !(UInt8.ofNat n == 9)) := by decide
  have h := this ⟨b.toNat, UInt8.toNat_lt b⟩
  simpa using h
theorem w681 (s : List UInt8) (lim d : Nat) (σ : Sto) (hu : σ.Und d) : Ret lim d 37 [.str s] σ (.bool (filB s)) σ := by
  have hun := und_succ hu
  unfold Ret
  unfold filB
  rw [WF_body (C := X) rfl Go.Proofs.Tryz.func37 rfl (by kernel_rfl)]; simp only [Go.Proofs.Tryz.results37]
  cases s with
  | nil => simp -implicitDefEqProofs -dsimp only [↓reduceIte, ↓W_seq, go_sem, WR_nil, evNews, Nat.reduceEqDiff, Nat.reduceAdd, Nat.reduceMul, Nat.reduceLeDiff, Nat.reduceLT, Int.cast_ofNat_Int, Int.reduceBNe, Int.reduceToNat, Int.reduceLT, Int.reduceLE, Int.reduceAdd, Int.reduceNeg, Int.reduceEq, reduceCtorEq, enc, cut_und _ _ hu]
  | cons b r =>
    have h0 : ((b :: r) == ([] : List UInt8)) = false := rfl
    by_cases h1 : (b :: r).length ≤ 20
    rotate_left
    · have e1 : ¬ (((b :: r).length : Int) ≤ 20) := by omega
      simp only [h0, decide_eq_false h1, Bool.false_and, Bool.and_false]
      generalize hL : b :: r = s at *
      simp -implicitDefEqProofs -dsimp only [↓reduceIte, ↓W_seq, go_sem, WR_nil, evNews, Nat.reduceEqDiff, Nat.reduceAdd, Nat.reduceMul, Nat.reduceLeDiff, Nat.reduceLT, Int.cast_ofNat_Int, Int.reduceBNe, Int.reduceToNat, Int.reduceLT, Int.reduceLE, Int.reduceAdd, Int.reduceNeg, Int.reduceEq, reduceCtorEq, enc, h0, e1, cut_und _ _ hu]
    have e1 : ((b :: r).length : Int) ≤ 20 := by omega
    have hb : (b :: r)[0]? = some b := rfl
    have hw := w672 (b :: r) [10] (by omega) lim (d + 1)
    rw [show ((10 : Int)) = ((10 : UInt8).toNat : Int) from rfl, ← idxS_one]
    simp only [h0, decide_eq_true h1]
    generalize b :: r = s at *
    simp -implicitDefEqProofs -dsimp only [↓reduceIte, ↓W_seq, go_sem, WR_nil, evNews, Nat.reduceEqDiff, Nat.reduceAdd, Nat.reduceMul, Nat.reduceLeDiff, Nat.reduceLT, Int.cast_ofNat_Int, Int.reduceBNe, Int.reduceToNat, Int.reduceLT, Int.reduceLE, Int.reduceAdd, Int.reduceNeg, Int.reduceEq, reduceCtorEq, enc, h0, e1]
    refine (hw _ hun).wh ?_
    cases h2 : decide (0 ≤ idxS s [10])
    rotate_left
    · simp -implicitDefEqProofs -dsimp only [↓reduceIte, ↓W_seq, go_sem, WR_nil, evNews, Nat.reduceEqDiff, Nat.reduceAdd, Nat.reduceMul, Nat.reduceLeDiff, Nat.reduceLT, Int.cast_ofNat_Int, Int.reduceBNe, Int.reduceToNat, Int.reduceLT, Int.reduceLE, Int.reduceAdd, Int.reduceNeg, Int.reduceEq, reduceCtorEq, enc, cut_und _ _ hu]
    simp -implicitDefEqProofs -dsimp only [↓reduceIte, ↓W_seq, go_sem, WR_nil, evNews, Nat.reduceEqDiff, Nat.reduceAdd, Nat.reduceMul, Nat.reduceLeDiff, Nat.reduceLT, Int.cast_ofNat_Int, Int.reduceBNe, Int.reduceToNat, Int.reduceLT, Int.reduceLE, Int.reduceAdd, Int.reduceNeg, Int.reduceEq, reduceCtorEq, enc, hb]
    refine (w41 [32, 9] b lim (d + 1) _ hun).wh ?_
    rw [← idxB_bl]
    simp -implicitDefEqProofs -dsimp only [↓reduceIte, ↓W_seq, go_sem, WR_nil, evNews, Nat.reduceEqDiff, Nat.reduceAdd, Nat.reduceMul, Nat.reduceLeDiff, Nat.reduceLT, Int.cast_ofNat_Int, Int.reduceBNe, Int.reduceToNat, Int.reduceLT, Int.reduceLE, Int.reduceAdd, Int.reduceNeg, Int.reduceEq, reduceCtorEq, enc, cut_und _ _ hu]
end Go.Proofs.Tryz.E
