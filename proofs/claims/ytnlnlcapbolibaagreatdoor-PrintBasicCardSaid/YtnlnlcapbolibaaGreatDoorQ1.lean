/- Walks: what the functions compute. -/
import Derived.Test.YtnlnlcapbolibaaGreatDoorWQ0
import Derived.Test.YtnlnlcapbolibaaGreatDoorG0
set_option linter.unusedVariables false
set_option linter.unusedSimpArgs false
/- What is written of a byte; sets: how many bytes, whether a byte is among them. -/
namespace Go.Proofs.Tryz.E
open Go.Mv
set_option maxHeartbeats 4000000
set_option maxRecDepth 20000
@[go_sem] theorem cvt_byQ (tk : Tok) (n : Int) : cvtO X.P 65 9 (.sl tk [[.int .u8 n]]) = some (.str [UInt8.ofNat n.toNat]) := by
  have h1 : X.P.underlying 65 = some (.slice 5) := by kernel_rfl
  have h2 : X.P.underlying 9 = some .string := by kernel_rfl
  have h3 : X.P.underlying 5 = some (.int .u8) := by kernel_rfl
  simp only [cvtO, h1, h2, h3, bytesOf, Option.map_some]
@[go_sem] theorem bitI_andu (x y : Int) : bitI .and .u64 x y = some (.int .u64 (IntKind.u64.wrap (BitVec.ofInt 64 x &&& BitVec.ofInt 64 y).toNat)) := rfl
@[go_sem] theorem bitI_andi (x y : Int) : bitI .and .i64 x y = some (.int .i64 (IntKind.i64.wrap (BitVec.ofInt 64 x &&& BitVec.ofInt 64 y).toNat)) := rfl
theorem shr_o (k : IntKind) (x y : Int) (h : 0 ≤ y) : shiftI .shr k x y = some (.int k (x.fdiv (2 ^ (min y.toNat k.bits)))) := by
  simp only [shiftI]
  rw [if_neg (by omega)]
/-- A call comes to a number, to yes or no; the store is as it was. -/
def RetI (lim d : Nat) (f : FuncId) (args : List MV) (σ : Sto) : Prop := WF X lim d f args σ fun v s => (∃ y, v = .int .i64 y) ∧ s = σ
theorem RetI.wh {lim d : Nat} {f : FuncId} {args : List MV} {σ : Sto} (h : RetI lim d f args σ) {P : MV → Sto → Prop} (hq : ∀ y, P (.int .i64 y) σ) : WFh X lim d f args σ (TagF P) :=
  WF.mono h fun v s e => by obtain ⟨⟨t, rfl⟩, rfl⟩ := e; exact hq t
def RetB (lim d : Nat) (f : FuncId) (args : List MV) (σ : Sto) : Prop := WF X lim d f args σ fun v s => (∃ y, v = .bool y) ∧ s = σ
theorem RetB.wh {lim d : Nat} {f : FuncId} {args : List MV} {σ : Sto} (h : RetB lim d f args σ) {P : MV → Sto → Prop} (hq : ∀ y, P (.bool y) σ) : WFh X lim d f args σ (TagF P) :=
  WF.mono h fun v s e => by obtain ⟨⟨t, rfl⟩, rfl⟩ := e; exact hq t
theorem w524 (x : Int) (lim d : Nat) (σ : Sto) (hu : σ.Und d) : RetI lim d 92 [.int .u64 x] σ := by
  have s1 := fun z => shr_o .u64 z 1 (by decide)
  have s2 := fun z => shr_o .u64 z 2 (by decide)
  have s3 := fun z => shr_o .u64 z 4 (by decide)
  have s4 := fun z => shr_o .u64 z 8 (by decide)
  have s5 := fun z => shr_o .u64 z 16 (by decide)
  have s6 := fun z => shr_o .u64 z 32 (by decide)
  unfold RetI
  rw [WF_body (C := X) rfl Go.Proofs.Tryz.func92 rfl (by kernel_rfl)]; simp only [Go.Proofs.Tryz.results92]
  simp -implicitDefEqProofs -dsimp only [↓reduceIte, ↓W_seq, go_sem, WR_nil, evNews, Nat.reduceEqDiff, Nat.reduceAdd, Nat.reduceMul, Nat.reduceLeDiff, Nat.reduceLT, Int.cast_ofNat_Int, Int.reduceBNe, Int.reduceToNat, Int.reduceLT, Int.reduceLE, Int.reduceAdd, Int.reduceNeg, Int.reduceEq, reduceCtorEq, enc, s1, s2, s3, s4, s5, s6, cut_und _ _ hu]
  exact ⟨_, rfl⟩
theorem w525 (s : List Int) (hs : s.length = 4) (c : Nat) (hc : c < 256) (lim d : Nat) (σ : Sto) (hu : σ.Und d) : RetB lim d 93 [.agg (encS s), .int .u8 c] σ := by
  have hun := und_succ hu
  have e64 := tdiv64 c
  have m64 := tmod64 c
  have w1 := wru8 ((c / 64 : Nat) : Int) (by omega) (by omega)
  have w2 := wru8 ((c % 64 : Nat) : Int) (by omega) (by omega)
  have hlt : c / 64 < s.length := by omega
  have hi4 : ((c / 64 : Nat) : Int) < 4 := by omega
  have hat := encS_at s (c / 64) hlt
  have s1 := fun z => shr_o .u64 z ((c % 64 : Nat) : Int) (by omega)
  unfold RetB
  rw [WF_body (C := X) rfl Go.Proofs.Tryz.func93 rfl (by kernel_rfl)]; simp only [Go.Proofs.Tryz.results93]
  simp -implicitDefEqProofs -dsimp only [↓reduceIte, ↓W_seq, go_sem, WR_nil, evNews, Nat.reduceEqDiff, Nat.reduceAdd, Nat.reduceMul, Nat.reduceLeDiff, Nat.reduceLT, Int.cast_ofNat_Int, Int.reduceBNe, Int.reduceToNat, Int.reduceLT, Int.reduceLE, Int.reduceAdd, Int.reduceNeg, Int.reduceEq, reduceCtorEq, enc, e64, m64, w1, w2, hs, encS_take s hs, Nat.mul_one, hat, hi4, s1, cut_und _ _ hu]
  exact ⟨_, rfl⟩
theorem w521 (s : List Int) (hs : s.length = 4) (lim d : Nat) (σ : Sto) (hu : σ.Und d) : RetI lim d 70 [.agg (encS s)] σ := by
  have hun := und_succ hu
  have x1 := wr64 1 (by decide) (by decide)
  have x2 := wr64 2 (by decide) (by decide)
  have x3 := wr64 3 (by decide) (by decide)
  have x4 := wr64 4 (by decide) (by decide)
  unfold RetI
  rw [WF_body (C := X) rfl Go.Proofs.Tryz.func70 rfl (by kernel_rfl)]; simp only [Go.Proofs.Tryz.results70]
  obtain ⟨s0, s1, s2, s3, rfl⟩ := ln4 hs
  simp only [encS, List.map_cons, List.map_nil]
  have h0 := fun x σ hσ => w524 x lim (d + 1) σ hσ
  simp -implicitDefEqProofs -dsimp only [↓reduceIte, ↓W_seq, go_sem, WR_nil, evNews, Nat.reduceEqDiff, Nat.reduceAdd, Nat.reduceMul, Nat.reduceLeDiff, Nat.reduceLT, Int.cast_ofNat_Int, Int.reduceBNe, Int.reduceToNat, Int.reduceLT, Int.reduceLE, Int.reduceAdd, Int.reduceNeg, Int.reduceEq, reduceCtorEq, enc]
  rw [WL_h]
  simp -implicitDefEqProofs -dsimp only [↓reduceIte, ↓W_seq, go_sem, WR_nil, evNews, Nat.reduceEqDiff, Nat.reduceAdd, Nat.reduceMul, Nat.reduceLeDiff, Nat.reduceLT, Int.cast_ofNat_Int, Int.reduceBNe, Int.reduceToNat, Int.reduceLT, Int.reduceLE, Int.reduceAdd, Int.reduceNeg, Int.reduceEq, reduceCtorEq, enc]
  refine (h0 _ _ (by simp only [u_tick, u_mine]; exact hun)).wh fun y1 => ?_
  simp -implicitDefEqProofs -dsimp only [↓reduceIte, ↓W_seq, go_sem, WR_nil, evNews, Nat.reduceEqDiff, Nat.reduceAdd, Nat.reduceMul, Nat.reduceLeDiff, Nat.reduceLT, Int.cast_ofNat_Int, Int.reduceBNe, Int.reduceToNat, Int.reduceLT, Int.reduceLE, Int.reduceAdd, Int.reduceNeg, Int.reduceEq, reduceCtorEq, enc, x1]
  rw [WL_h]
  simp -implicitDefEqProofs -dsimp only [↓reduceIte, ↓W_seq, go_sem, WR_nil, evNews, Nat.reduceEqDiff, Nat.reduceAdd, Nat.reduceMul, Nat.reduceLeDiff, Nat.reduceLT, Int.cast_ofNat_Int, Int.reduceBNe, Int.reduceToNat, Int.reduceLT, Int.reduceLE, Int.reduceAdd, Int.reduceNeg, Int.reduceEq, reduceCtorEq, enc]
  refine (h0 _ _ (by simp only [u_tick, u_mine]; exact hun)).wh fun y2 => ?_
  simp -implicitDefEqProofs -dsimp only [↓reduceIte, ↓W_seq, go_sem, WR_nil, evNews, Nat.reduceEqDiff, Nat.reduceAdd, Nat.reduceMul, Nat.reduceLeDiff, Nat.reduceLT, Int.cast_ofNat_Int, Int.reduceBNe, Int.reduceToNat, Int.reduceLT, Int.reduceLE, Int.reduceAdd, Int.reduceNeg, Int.reduceEq, reduceCtorEq, enc, x2]
  rw [WL_h]
  simp -implicitDefEqProofs -dsimp only [↓reduceIte, ↓W_seq, go_sem, WR_nil, evNews, Nat.reduceEqDiff, Nat.reduceAdd, Nat.reduceMul, Nat.reduceLeDiff, Nat.reduceLT, Int.cast_ofNat_Int, Int.reduceBNe, Int.reduceToNat, Int.reduceLT, Int.reduceLE, Int.reduceAdd, Int.reduceNeg, Int.reduceEq, reduceCtorEq, enc]
  refine (h0 _ _ (by simp only [u_tick, u_mine]; exact hun)).wh fun y3 => ?_
  simp -implicitDefEqProofs -dsimp only [↓reduceIte, ↓W_seq, go_sem, WR_nil, evNews, Nat.reduceEqDiff, Nat.reduceAdd, Nat.reduceMul, Nat.reduceLeDiff, Nat.reduceLT, Int.cast_ofNat_Int, Int.reduceBNe, Int.reduceToNat, Int.reduceLT, Int.reduceLE, Int.reduceAdd, Int.reduceNeg, Int.reduceEq, reduceCtorEq, enc, x3]
  rw [WL_h]
  simp -implicitDefEqProofs -dsimp only [↓reduceIte, ↓W_seq, go_sem, WR_nil, evNews, Nat.reduceEqDiff, Nat.reduceAdd, Nat.reduceMul, Nat.reduceLeDiff, Nat.reduceLT, Int.cast_ofNat_Int, Int.reduceBNe, Int.reduceToNat, Int.reduceLT, Int.reduceLE, Int.reduceAdd, Int.reduceNeg, Int.reduceEq, reduceCtorEq, enc]
  refine (h0 _ _ (by simp only [u_tick, u_mine]; exact hun)).wh fun y4 => ?_
  simp -implicitDefEqProofs -dsimp only [↓reduceIte, ↓W_seq, go_sem, WR_nil, evNews, Nat.reduceEqDiff, Nat.reduceAdd, Nat.reduceMul, Nat.reduceLeDiff, Nat.reduceLT, Int.cast_ofNat_Int, Int.reduceBNe, Int.reduceToNat, Int.reduceLT, Int.reduceLE, Int.reduceAdd, Int.reduceNeg, Int.reduceEq, reduceCtorEq, enc, x4]
  rw [WL_h]
  simp -implicitDefEqProofs -dsimp only [↓reduceIte, ↓W_seq, go_sem, WR_nil, evNews, Nat.reduceEqDiff, Nat.reduceAdd, Nat.reduceMul, Nat.reduceLeDiff, Nat.reduceLT, Int.cast_ofNat_Int, Int.reduceBNe, Int.reduceToNat, Int.reduceLT, Int.reduceLE, Int.reduceAdd, Int.reduceNeg, Int.reduceEq, reduceCtorEq, enc, cut_und _ _ hu]
  exact ⟨_, rfl⟩
/-- A byte between others. -/
def wrt (c : Nat) : List UInt8 := if c = 10 then [92, 110] else if c = 91 ∨ c = 93 ∨ c = 45 ∨ c = 94 ∨ c = 92 then [91, 46, UInt8.ofNat c, 46, 93] else [UInt8.ofNat c]
theorem byte_ten {c : Nat} (hc : c < 256) (h : c ≠ 10) : UInt8.ofNat c ≠ 10 := by
  intro e
  have := congrArg UInt8.toNat e
  simp at this
  omega
theorem wrt_nl (c : Nat) (hc : c < 256) : noNl (wrt c) := by
  unfold wrt
  split
  · intro x hx; simp at hx; rcases hx with rfl | rfl <;> decide
  · rename_i h
    have := byte_ten hc h
    split
    · intro x hx; simp at hx; rcases hx with rfl | rfl | rfl | rfl | rfl <;> first | exact this | decide
    · intro x hx; simp at hx; subst hx; exact this
theorem w526 (c : Nat) (hc : c < 256) (lim d : Nat) (σ : Sto) (hu : σ.Und d) : Ret lim d 94 [.int .u8 c] σ (.str (wrt c)) σ := by
  have hun := und_succ hu
  unfold Ret
  rw [WF_body (C := X) rfl Go.Proofs.Tryz.func94 rfl (by kernel_rfl)]; simp only [Go.Proofs.Tryz.results94]
  have hb : ∀ z : Nat, ((c : Int) == (z : Int)) = decide (c = z) := fun z => by rw [Bool.eq_iff_iff]; simp; omega
  have b10 := hb 10
  have b91 := hb 91
  have b93 := hb 93
  have b45 := hb 45
  have b94 := hb 94
  have b92 := hb 92
  simp only [Int.cast_ofNat_Int] at b10 b91 b93 b45 b94 b92
  unfold wrt
  by_cases e0 : c = 10
  · simp -implicitDefEqProofs -dsimp only [↓reduceIte, ↓W_seq, go_sem, WR_nil, evNews, Nat.reduceEqDiff, Nat.reduceAdd, Nat.reduceMul, Nat.reduceLeDiff, Nat.reduceLT, Int.cast_ofNat_Int, Int.reduceBNe, Int.reduceToNat, Int.reduceLT, Int.reduceLE, Int.reduceAdd, Int.reduceNeg, Int.reduceEq, reduceCtorEq, enc, b10, e0, decide_true, cut_und _ _ hu]
  by_cases e1 : c = 91
  · simp -implicitDefEqProofs -dsimp only [↓reduceIte, ↓W_seq, go_sem, WR_nil, evNews, Nat.reduceEqDiff, Nat.reduceAdd, Nat.reduceMul, Nat.reduceLeDiff, Nat.reduceLT, Int.cast_ofNat_Int, Int.reduceBNe, Int.reduceToNat, Int.reduceLT, Int.reduceLE, Int.reduceAdd, Int.reduceNeg, Int.reduceEq, reduceCtorEq, enc, b10, e0, b91, e1, decide_true, decide_false, true_or, bytesOf, Option.map_some, Int.toNat_natCast, List.length_cons, List.length_nil, cut_und _ _ hu]
  by_cases e2 : c = 93
  · simp -implicitDefEqProofs -dsimp only [↓reduceIte, ↓W_seq, go_sem, WR_nil, evNews, Nat.reduceEqDiff, Nat.reduceAdd, Nat.reduceMul, Nat.reduceLeDiff, Nat.reduceLT, Int.cast_ofNat_Int, Int.reduceBNe, Int.reduceToNat, Int.reduceLT, Int.reduceLE, Int.reduceAdd, Int.reduceNeg, Int.reduceEq, reduceCtorEq, enc, b10, e0, b91, e1, b93, e2, decide_true, decide_false, true_or, or_true, bytesOf, Option.map_some, Int.toNat_natCast, List.length_cons, List.length_nil, cut_und _ _ hu]
  by_cases e3 : c = 45
  · simp -implicitDefEqProofs -dsimp only [↓reduceIte, ↓W_seq, go_sem, WR_nil, evNews, Nat.reduceEqDiff, Nat.reduceAdd, Nat.reduceMul, Nat.reduceLeDiff, Nat.reduceLT, Int.cast_ofNat_Int, Int.reduceBNe, Int.reduceToNat, Int.reduceLT, Int.reduceLE, Int.reduceAdd, Int.reduceNeg, Int.reduceEq, reduceCtorEq, enc, b10, e0, b91, e1, b93, e2, b45, e3, decide_true, decide_false, true_or, or_true, bytesOf, Option.map_some, Int.toNat_natCast, List.length_cons, List.length_nil, cut_und _ _ hu]
  by_cases e4 : c = 94
  · simp -implicitDefEqProofs -dsimp only [↓reduceIte, ↓W_seq, go_sem, WR_nil, evNews, Nat.reduceEqDiff, Nat.reduceAdd, Nat.reduceMul, Nat.reduceLeDiff, Nat.reduceLT, Int.cast_ofNat_Int, Int.reduceBNe, Int.reduceToNat, Int.reduceLT, Int.reduceLE, Int.reduceAdd, Int.reduceNeg, Int.reduceEq, reduceCtorEq, enc, b10, e0, b91, e1, b93, e2, b45, e3, b94, e4, decide_true, decide_false, true_or, or_true, bytesOf, Option.map_some, Int.toNat_natCast, List.length_cons, List.length_nil, cut_und _ _ hu]
  by_cases e5 : c = 92
  · simp -implicitDefEqProofs -dsimp only [↓reduceIte, ↓W_seq, go_sem, WR_nil, evNews, Nat.reduceEqDiff, Nat.reduceAdd, Nat.reduceMul, Nat.reduceLeDiff, Nat.reduceLT, Int.cast_ofNat_Int, Int.reduceBNe, Int.reduceToNat, Int.reduceLT, Int.reduceLE, Int.reduceAdd, Int.reduceNeg, Int.reduceEq, reduceCtorEq, enc, b10, e0, b91, e1, b93, e2, b45, e3, b94, e4, b92, e5, decide_true, decide_false, true_or, or_true, bytesOf, Option.map_some, Int.toNat_natCast, List.length_cons, List.length_nil, cut_und _ _ hu]
  simp -implicitDefEqProofs -dsimp only [↓reduceIte, ↓W_seq, go_sem, WR_nil, evNews, Nat.reduceEqDiff, Nat.reduceAdd, Nat.reduceMul, Nat.reduceLeDiff, Nat.reduceLT, Int.cast_ofNat_Int, Int.reduceBNe, Int.reduceToNat, Int.reduceLT, Int.reduceLE, Int.reduceAdd, Int.reduceNeg, Int.reduceEq, reduceCtorEq, enc, b10, e0, b91, e1, b93, e2, b45, e3, b94, e4, b92, e5, decide_true, decide_false, false_or, bytesOf, Option.map_some, Int.toNat_natCast, List.length_cons, List.length_nil, cut_und _ _ hu]
end Go.Proofs.Tryz.E
