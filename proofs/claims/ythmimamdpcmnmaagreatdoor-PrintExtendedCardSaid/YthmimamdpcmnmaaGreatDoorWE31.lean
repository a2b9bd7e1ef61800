/- Walks: what the functions compute. Walks: what the functions compute. -/
import Derived.Test.YthmimamdpcmnmaaGreatDoorWE29
set_option linter.unusedVariables false
set_option linter.unusedSimpArgs false
/- The other reader: what stands next, what is wrong. -/
namespace Go.Proofs.Tryz.E
open Go.Mv
set_option maxHeartbeats 4000000
set_option maxRecDepth 20000
def encQ (s : List UInt8) (r : Rd) : List MV := [.str s, .int .i64 r.at', .bool true, .int .i64 r.g, .bool r.bad]
theorem w33 (s : List UInt8) (r : Rd) (t : List UInt8) (hs : s.length ≤ 1000000) (ht : t.length ≤ 1000) (hr : r.at' ≤ s.length) (p : Mv.Loc) (lim d : Nat) (hp : p.d < d) (σ : Sto) (hu : σ.Und d) (ho : σ.ob p = some (encQ s r)) : Ret lim d 36 [.ptr p 0, .str t] σ (.bool (!r.bad && preS (s.drop r.at') t)) σ := by
  obtain ⟨n, g, bad⟩ := r
  simp only [encQ] at ho hr ⊢
  have x1 := wr64 ((s.length : Int) - n) (by omega) (by omega)
  have x2 := wr64 ((n : Int) + t.length) (by omega) (by omega)
  have hc := cut_at s n 0 t.length
  simp only [Nat.add_zero, List.drop_zero] at hc
  have t1 : ((n : Int) + t.length).toNat = n + t.length := by omega
  have p1 : (0 : Int) ≤ (n : Int) + t.length := by omega
  have p2 : (n : Int) ≤ ((n + t.length : Nat) : Int) := by omega
  unfold Ret
  rw [WF_body (C := X) rfl Go.Proofs.Tryz.func36 rfl (by kernel_rfl)]; simp only [Go.Proofs.Tryz.results36]
  simp -implicitDefEqProofs -dsimp only [↓reduceIte, ↓W_seq, go_sem, WR_nil, evNews, Nat.reduceEqDiff, Nat.reduceAdd, Nat.reduceMul, Nat.reduceLeDiff, Nat.reduceLT, Int.cast_ofNat_Int, Int.reduceBNe, Int.reduceToNat, Int.reduceLT, Int.reduceLE, Int.reduceAdd, Int.reduceNeg, Int.reduceEq, reduceCtorEq, enc]
  rw [D_dr (by kernel_rfl) rfl]
  cases bad
  · by_cases hl : t.length ≤ s.length - n
    · have e1 : ((t.length : Int) ≤ (s.length : Int) - n) := by omega
      have e2 : (n : Int) + t.length ≤ (s.length : Int) := by omega
      simp -implicitDefEqProofs -dsimp only [↓reduceIte, ↓W_seq, go_sem, WR_nil, evNews, Nat.reduceEqDiff, Nat.reduceAdd, Nat.reduceMul, Nat.reduceLeDiff, Nat.reduceLT, Int.cast_ofNat_Int, Int.reduceBNe, Int.reduceToNat, Int.reduceLT, Int.reduceLE, Int.reduceAdd, Int.reduceNeg, Int.reduceEq, reduceCtorEq, enc, ho, x1, x2, e1, e2, t1, p1, p2, hc, cut_und _ _ hu]
      rfl
    · have e1 : ¬ ((t.length : Int) ≤ (s.length : Int) - n) := by omega
      have e2 : preS (s.drop n) t = false := by
        cases h : preS (s.drop n) t with
        | false => rfl
        | true => have := pre_le h; rw [List.length_drop] at this; omega
      simp -implicitDefEqProofs -dsimp only [↓reduceIte, ↓W_seq, go_sem, WR_nil, evNews, Nat.reduceEqDiff, Nat.reduceAdd, Nat.reduceMul, Nat.reduceLeDiff, Nat.reduceLT, Int.cast_ofNat_Int, Int.reduceBNe, Int.reduceToNat, Int.reduceLT, Int.reduceLE, Int.reduceAdd, Int.reduceNeg, Int.reduceEq, reduceCtorEq, enc, ho, x1, e1, e2, cut_und _ _ hu]
  · simp -implicitDefEqProofs -dsimp only [↓reduceIte, ↓W_seq, go_sem, WR_nil, evNews, Nat.reduceEqDiff, Nat.reduceAdd, Nat.reduceMul, Nat.reduceLeDiff, Nat.reduceLT, Int.cast_ofNat_Int, Int.reduceBNe, Int.reduceToNat, Int.reduceLT, Int.reduceLE, Int.reduceAdd, Int.reduceNeg, Int.reduceEq, reduceCtorEq, enc, ho, cut_und _ _ hu]
theorem w23 (s : List UInt8) (r : Rd) (p : Mv.Loc) (lim d : Nat) (hp : p.d < d) (σ : Sto) (hu : σ.Und d) (ho : σ.ob p = some (encQ s r)) : Ret lim d 22 [.ptr p 0] σ (.bool (decide ((s.length : Int) ≤ (r.at' : Int)))) σ := by
  rw [encQ] at ho
  unfold Ret
  rw [WF_body (C := X) rfl Go.Proofs.Tryz.func22 rfl (by kernel_rfl)]; simp only [Go.Proofs.Tryz.results22]
  simp -implicitDefEqProofs -dsimp only [↓reduceIte, ↓W_seq, go_sem, WR_nil, evNews, Nat.reduceEqDiff, Nat.reduceAdd, Nat.reduceMul, Nat.reduceLeDiff, Nat.reduceLT, Int.cast_ofNat_Int, Int.reduceBNe, Int.reduceToNat, Int.reduceLT, Int.reduceLE, Int.reduceAdd, Int.reduceNeg, Int.reduceEq, reduceCtorEq, enc]
  rw [D_dr (by kernel_rfl) rfl]
  simp -implicitDefEqProofs -dsimp only [↓reduceIte, ↓W_seq, go_sem, WR_nil, evNews, Nat.reduceEqDiff, Nat.reduceAdd, Nat.reduceMul, Nat.reduceLeDiff, Nat.reduceLT, Int.cast_ofNat_Int, Int.reduceBNe, Int.reduceToNat, Int.reduceLT, Int.reduceLE, Int.reduceAdd, Int.reduceNeg, Int.reduceEq, reduceCtorEq, enc, ho, cut_und _ _ hu]
theorem w24 (s : List UInt8) (r : Rd) (p : Mv.Loc) (lim d : Nat) (hp : p.d < d) (hlim : lim ≤ p.d) (σ : Sto) (hu : σ.Und d) (ho : σ.ob p = some (encQ s r)) : Ret lim d 23 [.ptr p 0] σ (.agg (enc z0)) (σ.set p (encQ s r.fail)) := by
  have hne := ne_my hp
  have hmy := my_ne hp
  rw [encQ] at ho
  simp only [encQ, Rd.fail]
  unfold Ret
  rw [WF_body (C := X) rfl Go.Proofs.Tryz.func23 rfl (by kernel_rfl)]; simp only [Go.Proofs.Tryz.results23]
  simp -implicitDefEqProofs -dsimp only [↓reduceIte, ↓W_seq, go_sem, WR_nil, evNews, Nat.reduceEqDiff, Nat.reduceAdd, Nat.reduceMul, Nat.reduceLeDiff, Nat.reduceLT, Int.cast_ofNat_Int, Int.reduceBNe, Int.reduceToNat, Int.reduceLT, Int.reduceLE, Int.reduceAdd, Int.reduceNeg, Int.reduceEq, reduceCtorEq, enc, ho, hne, hmy, hp, hlim, cut_set _ _ _ _ hp, cut_und _ _ hu, z0, encs]
theorem w42 (s : List UInt8) (r : Rd) (p : Mv.Loc) (lim d : Nat) (hp : p.d < d) (σ : Sto) (hu : σ.Und d) (ho : σ.ob p = some (encQ s r)) : Ret lim d 48 [.ptr p 0] σ (.str [41]) σ := by
  rw [encQ] at ho
  unfold Ret
  rw [WF_body (C := X) rfl Go.Proofs.Tryz.func48 rfl (by kernel_rfl)]; simp only [Go.Proofs.Tryz.results48]
  simp -implicitDefEqProofs -dsimp only [↓reduceIte, ↓W_seq, go_sem, WR_nil, evNews, Nat.reduceEqDiff, Nat.reduceAdd, Nat.reduceMul, Nat.reduceLeDiff, Nat.reduceLT, Int.cast_ofNat_Int, Int.reduceBNe, Int.reduceToNat, Int.reduceLT, Int.reduceLE, Int.reduceAdd, Int.reduceNeg, Int.reduceEq, reduceCtorEq, enc, ho, ba_data, cut_und _ _ hu]
theorem w56 (s : List UInt8) (r : Rd) (p : Mv.Loc) (lim d : Nat) (hp : p.d < d) (σ : Sto) (hu : σ.Und d) (ho : σ.ob p = some (encQ s r)) : Ret lim d 66 [.ptr p 0] σ (.str [123]) σ := by
  rw [encQ] at ho
  unfold Ret
  rw [WF_body (C := X) rfl Go.Proofs.Tryz.func66 rfl (by kernel_rfl)]; simp only [Go.Proofs.Tryz.results66]
  simp -implicitDefEqProofs -dsimp only [↓reduceIte, ↓W_seq, go_sem, WR_nil, evNews, Nat.reduceEqDiff, Nat.reduceAdd, Nat.reduceMul, Nat.reduceLeDiff, Nat.reduceLT, Int.cast_ofNat_Int, Int.reduceBNe, Int.reduceToNat, Int.reduceLT, Int.reduceLE, Int.reduceAdd, Int.reduceNeg, Int.reduceEq, reduceCtorEq, enc, ho, ba_data, cut_und _ _ hu]
theorem w57 (s : List UInt8) (r : Rd) (p : Mv.Loc) (lim d : Nat) (hp : p.d < d) (σ : Sto) (hu : σ.Und d) (ho : σ.ob p = some (encQ s r)) : Ret lim d 67 [.ptr p 0] σ (.str [40]) σ := by
  rw [encQ] at ho
  unfold Ret
  rw [WF_body (C := X) rfl Go.Proofs.Tryz.func67 rfl (by kernel_rfl)]; simp only [Go.Proofs.Tryz.results67]
  simp -implicitDefEqProofs -dsimp only [↓reduceIte, ↓W_seq, go_sem, WR_nil, evNews, Nat.reduceEqDiff, Nat.reduceAdd, Nat.reduceMul, Nat.reduceLeDiff, Nat.reduceLT, Int.cast_ofNat_Int, Int.reduceBNe, Int.reduceToNat, Int.reduceLT, Int.reduceLE, Int.reduceAdd, Int.reduceNeg, Int.reduceEq, reduceCtorEq, enc, ho, ba_data, cut_und _ _ hu]
theorem h1 (s : List UInt8) (r : Rd) (b : UInt8) (hs : s.length ≤ 1000000) (hr : r.at' ≤ s.length) (p : Mv.Loc) (lim d : Nat) (hp : p.d < d) (σ : Sto) (hu : σ.Und d) (ho : σ.ob p = some (encQ s r)) : Ret lim d 36 [.ptr p 0, .str [b]] σ (.bool (r.nx s == some b)) σ := by
  rw [← has_one s r hr b]
  exact w33 s r [b] hs (by simp) hr p lim d hp σ hu ho
theorem w43 (s : List UInt8) (r : Rd) (hs : s.length ≤ 1000000) (hr : r.at' ≤ s.length) (p : Mv.Loc) (lim d : Nat) (hp : p.d < d) (σ : Sto) (hu : σ.Und d) (ho : σ.ob p = some (encQ s r)) : Ret lim d 49 [.ptr p 0] σ (.bool (isRep (r.nx s))) σ := by
  have hun := und_succ hu
  have hp1 := Nat.lt_succ_of_lt hp
  have hh := fun (b : UInt8) => h1 s r b hs hr p lim (d + 1) hp1 σ hun ho
  have ho2 := ho
  rw [encQ] at ho2
  unfold Ret
  rw [WF_body (C := X) rfl Go.Proofs.Tryz.func49 rfl (by kernel_rfl)]; simp only [Go.Proofs.Tryz.results49]
  simp -implicitDefEqProofs -dsimp only [↓reduceIte, ↓W_seq, go_sem, WR_nil, evNews, Nat.reduceEqDiff, Nat.reduceAdd, Nat.reduceMul, Nat.reduceLeDiff, Nat.reduceLT, Int.cast_ofNat_Int, Int.reduceBNe, Int.reduceToNat, Int.reduceLT, Int.reduceLE, Int.reduceAdd, Int.reduceNeg, Int.reduceEq, reduceCtorEq, enc, ba_data]
  refine (hh 42).wh ?_
  unfold isRep
  cases h42 : r.nx s == some 42
  · simp -implicitDefEqProofs -dsimp only [↓reduceIte, ↓W_seq, go_sem, WR_nil, evNews, Nat.reduceEqDiff, Nat.reduceAdd, Nat.reduceMul, Nat.reduceLeDiff, Nat.reduceLT, Int.cast_ofNat_Int, Int.reduceBNe, Int.reduceToNat, Int.reduceLT, Int.reduceLE, Int.reduceAdd, Int.reduceNeg, Int.reduceEq, reduceCtorEq, enc]
    refine (w56 s r p lim (d + 1) hp1 σ hun ho).wh ?_
    simp -implicitDefEqProofs -dsimp only [↓reduceIte, ↓W_seq, go_sem, WR_nil, evNews, Nat.reduceEqDiff, Nat.reduceAdd, Nat.reduceMul, Nat.reduceLeDiff, Nat.reduceLT, Int.cast_ofNat_Int, Int.reduceBNe, Int.reduceToNat, Int.reduceLT, Int.reduceLE, Int.reduceAdd, Int.reduceNeg, Int.reduceEq, reduceCtorEq, enc]
    refine (hh 123).wh ?_
    cases h123 : r.nx s == some 123
    · simp -implicitDefEqProofs -dsimp only [↓reduceIte, ↓W_seq, go_sem, WR_nil, evNews, Nat.reduceEqDiff, Nat.reduceAdd, Nat.reduceMul, Nat.reduceLeDiff, Nat.reduceLT, Int.cast_ofNat_Int, Int.reduceBNe, Int.reduceToNat, Int.reduceLT, Int.reduceLE, Int.reduceAdd, Int.reduceNeg, Int.reduceEq, reduceCtorEq, enc, ho2, ba_data]
      refine (hh 43).wh ?_
      cases h43 : r.nx s == some 43
      · simp -implicitDefEqProofs -dsimp only [↓reduceIte, ↓W_seq, go_sem, WR_nil, evNews, Nat.reduceEqDiff, Nat.reduceAdd, Nat.reduceMul, Nat.reduceLeDiff, Nat.reduceLT, Int.cast_ofNat_Int, Int.reduceBNe, Int.reduceToNat, Int.reduceLT, Int.reduceLE, Int.reduceAdd, Int.reduceNeg, Int.reduceEq, reduceCtorEq, enc, ba_data]
        refine (hh 63).wh ?_
        cases h63 : r.nx s == some 63
        · simp -implicitDefEqProofs -dsimp only [↓reduceIte, ↓W_seq, go_sem, WR_nil, evNews, Nat.reduceEqDiff, Nat.reduceAdd, Nat.reduceMul, Nat.reduceLeDiff, Nat.reduceLT, Int.cast_ofNat_Int, Int.reduceBNe, Int.reduceToNat, Int.reduceLT, Int.reduceLE, Int.reduceAdd, Int.reduceNeg, Int.reduceEq, reduceCtorEq, enc, h42, h123, h43, cut_und _ _ hu]
        · simp -implicitDefEqProofs -dsimp only [↓reduceIte, ↓W_seq, go_sem, WR_nil, evNews, Nat.reduceEqDiff, Nat.reduceAdd, Nat.reduceMul, Nat.reduceLeDiff, Nat.reduceLT, Int.cast_ofNat_Int, Int.reduceBNe, Int.reduceToNat, Int.reduceLT, Int.reduceLE, Int.reduceAdd, Int.reduceNeg, Int.reduceEq, reduceCtorEq, enc, h42, h123, h43, cut_und _ _ hu]
      · simp -implicitDefEqProofs -dsimp only [↓reduceIte, ↓W_seq, go_sem, WR_nil, evNews, Nat.reduceEqDiff, Nat.reduceAdd, Nat.reduceMul, Nat.reduceLeDiff, Nat.reduceLT, Int.cast_ofNat_Int, Int.reduceBNe, Int.reduceToNat, Int.reduceLT, Int.reduceLE, Int.reduceAdd, Int.reduceNeg, Int.reduceEq, reduceCtorEq, enc, h42, h123, cut_und _ _ hu]
    · simp -implicitDefEqProofs -dsimp only [↓reduceIte, ↓W_seq, go_sem, WR_nil, evNews, Nat.reduceEqDiff, Nat.reduceAdd, Nat.reduceMul, Nat.reduceLeDiff, Nat.reduceLT, Int.cast_ofNat_Int, Int.reduceBNe, Int.reduceToNat, Int.reduceLT, Int.reduceLE, Int.reduceAdd, Int.reduceNeg, Int.reduceEq, reduceCtorEq, enc, h42, cut_und _ _ hu]
  · simp -implicitDefEqProofs -dsimp only [↓reduceIte, ↓W_seq, go_sem, WR_nil, evNews, Nat.reduceEqDiff, Nat.reduceAdd, Nat.reduceMul, Nat.reduceLeDiff, Nat.reduceLT, Int.cast_ofNat_Int, Int.reduceBNe, Int.reduceToNat, Int.reduceLT, Int.reduceLE, Int.reduceAdd, Int.reduceNeg, Int.reduceEq, reduceCtorEq, enc, cut_und _ _ hu]end Go.Proofs.Tryz.E
set_option linter.unusedVariables false
set_option linter.unusedSimpArgs false
/- The other reader: numbers, a repeat's bounds. -/
namespace Go.Proofs.Tryz.E
open Go.Mv
set_option maxHeartbeats 4000000
set_option maxRecDepth 20000
end Go.Proofs.Tryz.E
