/- Walks: what the functions compute. -/
import Derived.Test.YtibjgennjjhfdaaE29
set_option linter.unusedVariables false
set_option linter.unusedSimpArgs false
/- The other reader: what stands next, what is wrong. -/
namespace Go.Proofs.Try.E
open Go.Mv
set_option maxHeartbeats 4000000
set_option maxRecDepth 20000
def encQ (s : List UInt8) (r : Rd) : List MV := [.str s, .int .i64 r.at', .bool true, .int .i64 r.g, .bool r.bad]
theorem has_one (s : List UInt8) (r : Rd) (hr : r.at' ≤ s.length) (b : UInt8) : (!r.bad && preS (s.drop r.at') [b]) = (r.nx s == some b) := by
  unfold Rd.nx
  cases r.bad
  · simp only [Bool.not_false, Bool.true_and, Bool.false_eq_true, if_false]
    by_cases h : r.at' < s.length
    · rw [List.drop_eq_getElem_cons h, pre_one, List.getElem?_eq_getElem h]
      rw [Bool.eq_iff_iff]; simp
    · rw [List.drop_eq_nil_of_le (by omega), pre_nil _ (by simp), List.getElem?_eq_none (by omega)]
      rfl
  · simp
theorem w33 (s : List UInt8) (r : Rd) (t : List UInt8) (hs : s.length ≤ 1000000) (ht : t.length ≤ 1000) (hr : r.at' ≤ s.length) (p : Mv.Loc) (lim d : Nat) (hp : p.d < d) (σ : Sto) (hu : σ.Und d) (ho : σ.ob p = some (encQ s r)) : Ret lim d 33 [.ptr p 0, .str t] σ (.bool (!r.bad && preS (s.drop r.at') t)) σ := by
  obtain ⟨n, g, bad⟩ := r
  simp only [encQ] at ho hr ⊢
  have x1 := wr64 ((s.length : Int) - n) (by omega) (by omega)
  have x2 := wr64 ((n : Int) + t.length) (by omega) (by omega)
  have hc := cut_at s n 0 t.length
  simp only [Nat.add_zero, List.drop_zero] at hc
  have t1 : ((n : Int) + t.length).toNat = n + t.length := by omega
  have p1 : (0 : Int) ≤ (n : Int) + t.length := by omega
  have p2 : (n : Int) ≤ ((n + t.length : Nat) : Int) := by omega
  unfold Ret
  rw [WF_body (C := X) rfl Go.Proofs.Try.func33 rfl (by kernel_rfl)]; simp only [Go.Proofs.Try.results33]
  simp -implicitDefEqProofs -dsimp only [↓reduceIte, not_false_eq_true, ↓W_seq, go_sem, WR_nil, evNews, if_true, if_false, and_true, true_and, Nat.reduceEqDiff, Nat.reduceAdd, Nat.reduceMul, Nat.reduceLeDiff, Nat.reduceLT, Int.cast_ofNat_Int, Int.reduceBNe, Int.reduceToNat, Int.reduceLT, Int.reduceLE, Int.reduceToNat, Int.reduceAdd, Int.reduceNeg, Int.natCast_zero, Int.natCast_one, Int.le_refl, Int.reduceEq, Int.lt_irrefl, reduceCtorEq, enc]
  rw [D_dr (by kernel_rfl) rfl]
  cases bad
  · by_cases hl : t.length ≤ s.length - n
    · have e1 : ((t.length : Int) ≤ (s.length : Int) - n) := by omega
      have e2 : (n : Int) + t.length ≤ (s.length : Int) := by omega
      simp -implicitDefEqProofs -dsimp only [↓reduceIte, not_false_eq_true, ↓W_seq, go_sem, WR_nil, evNews, if_true, if_false, and_true, true_and, Nat.reduceEqDiff, Nat.reduceAdd, Nat.reduceMul, Nat.reduceLeDiff, Nat.reduceLT, Int.cast_ofNat_Int, Int.reduceBNe, Int.reduceToNat, Int.reduceLT, Int.reduceLE, Int.reduceToNat, Int.reduceAdd, Int.reduceNeg, Int.natCast_zero, Int.natCast_one, Int.le_refl, Int.reduceEq, Int.lt_irrefl, reduceCtorEq, enc, ho, x1, x2, e1, e2, t1, p1, p2, hc, cut_und _ _ hu]
      rfl
    · have e1 : ¬ ((t.length : Int) ≤ (s.length : Int) - n) := by omega
      have e2 : preS (s.drop n) t = false := by
        cases h : preS (s.drop n) t with
        | false => rfl
        | true => have := pre_le h; rw [List.length_drop] at this; omega
      simp -implicitDefEqProofs -dsimp only [↓reduceIte, not_false_eq_true, ↓W_seq, go_sem, WR_nil, evNews, if_true, if_false, and_true, true_and, Nat.reduceEqDiff, Nat.reduceAdd, Nat.reduceMul, Nat.reduceLeDiff, Nat.reduceLT, Int.cast_ofNat_Int, Int.reduceBNe, Int.reduceToNat, Int.reduceLT, Int.reduceLE, Int.reduceToNat, Int.reduceAdd, Int.reduceNeg, Int.natCast_zero, Int.natCast_one, Int.le_refl, Int.reduceEq, Int.lt_irrefl, reduceCtorEq, enc, ho, x1, e1, e2, cut_und _ _ hu]
  · simp -implicitDefEqProofs -dsimp only [↓reduceIte, not_false_eq_true, ↓W_seq, go_sem, WR_nil, evNews, if_true, if_false, and_true, true_and, Nat.reduceEqDiff, Nat.reduceAdd, Nat.reduceMul, Nat.reduceLeDiff, Nat.reduceLT, Int.cast_ofNat_Int, Int.reduceBNe, Int.reduceToNat, Int.reduceLT, Int.reduceLE, Int.reduceToNat, Int.reduceAdd, Int.reduceNeg, Int.natCast_zero, Int.natCast_one, Int.le_refl, Int.reduceEq, Int.lt_irrefl, reduceCtorEq, enc, ho, cut_und _ _ hu]
theorem w23 (s : List UInt8) (r : Rd) (p : Mv.Loc) (lim d : Nat) (hp : p.d < d) (σ : Sto) (hu : σ.Und d) (ho : σ.ob p = some (encQ s r)) : Ret lim d 23 [.ptr p 0] σ (.bool (decide ((s.length : Int) ≤ (r.at' : Int)))) σ := by
  rw [encQ] at ho
  unfold Ret
  rw [WF_body (C := X) rfl Go.Proofs.Try.func23 rfl (by kernel_rfl)]; simp only [Go.Proofs.Try.results23]
  simp -implicitDefEqProofs -dsimp only [↓reduceIte, not_false_eq_true, ↓W_seq, go_sem, WR_nil, evNews, if_true, if_false, and_true, true_and, Nat.reduceEqDiff, Nat.reduceAdd, Nat.reduceMul, Nat.reduceLeDiff, Nat.reduceLT, Int.cast_ofNat_Int, Int.reduceBNe, Int.reduceToNat, Int.reduceLT, Int.reduceLE, Int.reduceToNat, Int.reduceAdd, Int.reduceNeg, Int.natCast_zero, Int.natCast_one, Int.le_refl, Int.reduceEq, Int.lt_irrefl, reduceCtorEq, enc]
  rw [D_dr (by kernel_rfl) rfl]
  simp -implicitDefEqProofs -dsimp only [↓reduceIte, not_false_eq_true, ↓W_seq, go_sem, WR_nil, evNews, if_true, if_false, and_true, true_and, Nat.reduceEqDiff, Nat.reduceAdd, Nat.reduceMul, Nat.reduceLeDiff, Nat.reduceLT, Int.cast_ofNat_Int, Int.reduceBNe, Int.reduceToNat, Int.reduceLT, Int.reduceLE, Int.reduceToNat, Int.reduceAdd, Int.reduceNeg, Int.natCast_zero, Int.natCast_one, Int.le_refl, Int.reduceEq, Int.lt_irrefl, reduceCtorEq, enc, ho, cut_und _ _ hu]
theorem w24 (s : List UInt8) (r : Rd) (p : Mv.Loc) (lim d : Nat) (hp : p.d < d) (hlim : lim ≤ p.d) (σ : Sto) (hu : σ.Und d) (ho : σ.ob p = some (encQ s r)) : Ret lim d 24 [.ptr p 0] σ (.agg (enc z0)) (σ.set p (encQ s r.fail)) := by
  have hne := ne_my hp
  have hmy := my_ne hp
  rw [encQ] at ho
  simp only [encQ, Rd.fail]
  unfold Ret
  rw [WF_body (C := X) rfl Go.Proofs.Try.func24 rfl (by kernel_rfl)]; simp only [Go.Proofs.Try.results24]
  simp -implicitDefEqProofs -dsimp only [↓reduceIte, not_false_eq_true, ↓W_seq, go_sem, WR_nil, evNews, if_true, if_false, and_true, true_and, Nat.reduceEqDiff, Nat.reduceAdd, Nat.reduceMul, Nat.reduceLeDiff, Nat.reduceLT, Int.cast_ofNat_Int, Int.reduceBNe, Int.reduceToNat, Int.reduceLT, Int.reduceLE, Int.reduceToNat, Int.reduceAdd, Int.reduceNeg, Int.natCast_zero, Int.natCast_one, Int.le_refl, Int.reduceEq, Int.lt_irrefl, reduceCtorEq, enc, ho, hne, hmy, hp, hlim, cut_set _ _ _ _ hp, cut_und _ _ hu, z0, encs]
theorem w42 (s : List UInt8) (r : Rd) (p : Mv.Loc) (lim d : Nat) (hp : p.d < d) (σ : Sto) (hu : σ.Und d) (ho : σ.ob p = some (encQ s r)) : Ret lim d 42 [.ptr p 0] σ (.str [41]) σ := by
  rw [encQ] at ho
  unfold Ret
  rw [WF_body (C := X) rfl Go.Proofs.Try.func42 rfl (by kernel_rfl)]; simp only [Go.Proofs.Try.results42]
  simp -implicitDefEqProofs -dsimp only [↓reduceIte, not_false_eq_true, ↓W_seq, go_sem, WR_nil, evNews, if_true, if_false, and_true, true_and, Nat.reduceEqDiff, Nat.reduceAdd, Nat.reduceMul, Nat.reduceLeDiff, Nat.reduceLT, Int.cast_ofNat_Int, Int.reduceBNe, Int.reduceToNat, Int.reduceLT, Int.reduceLE, Int.reduceToNat, Int.reduceAdd, Int.reduceNeg, Int.natCast_zero, Int.natCast_one, Int.le_refl, Int.reduceEq, Int.lt_irrefl, reduceCtorEq, enc, ho, ba_data, cut_und _ _ hu]
theorem w56 (s : List UInt8) (r : Rd) (p : Mv.Loc) (lim d : Nat) (hp : p.d < d) (σ : Sto) (hu : σ.Und d) (ho : σ.ob p = some (encQ s r)) : Ret lim d 56 [.ptr p 0] σ (.str [123]) σ := by
  rw [encQ] at ho
  unfold Ret
  rw [WF_body (C := X) rfl Go.Proofs.Try.func56 rfl (by kernel_rfl)]; simp only [Go.Proofs.Try.results56]
  simp -implicitDefEqProofs -dsimp only [↓reduceIte, not_false_eq_true, ↓W_seq, go_sem, WR_nil, evNews, if_true, if_false, and_true, true_and, Nat.reduceEqDiff, Nat.reduceAdd, Nat.reduceMul, Nat.reduceLeDiff, Nat.reduceLT, Int.cast_ofNat_Int, Int.reduceBNe, Int.reduceToNat, Int.reduceLT, Int.reduceLE, Int.reduceToNat, Int.reduceAdd, Int.reduceNeg, Int.natCast_zero, Int.natCast_one, Int.le_refl, Int.reduceEq, Int.lt_irrefl, reduceCtorEq, enc, ho, ba_data, cut_und _ _ hu]
theorem w57 (s : List UInt8) (r : Rd) (p : Mv.Loc) (lim d : Nat) (hp : p.d < d) (σ : Sto) (hu : σ.Und d) (ho : σ.ob p = some (encQ s r)) : Ret lim d 57 [.ptr p 0] σ (.str [40]) σ := by
  rw [encQ] at ho
  unfold Ret
  rw [WF_body (C := X) rfl Go.Proofs.Try.func57 rfl (by kernel_rfl)]; simp only [Go.Proofs.Try.results57]
  simp -implicitDefEqProofs -dsimp only [↓reduceIte, not_false_eq_true, ↓W_seq, go_sem, WR_nil, evNews, if_true, if_false, and_true, true_and, Nat.reduceEqDiff, Nat.reduceAdd, Nat.reduceMul, Nat.reduceLeDiff, Nat.reduceLT, Int.cast_ofNat_Int, Int.reduceBNe, Int.reduceToNat, Int.reduceLT, Int.reduceLE, Int.reduceToNat, Int.reduceAdd, Int.reduceNeg, Int.natCast_zero, Int.natCast_one, Int.le_refl, Int.reduceEq, Int.lt_irrefl, reduceCtorEq, enc, ho, ba_data, cut_und _ _ hu]
theorem h1 (s : List UInt8) (r : Rd) (b : UInt8) (hs : s.length ≤ 1000000) (hr : r.at' ≤ s.length) (p : Mv.Loc) (lim d : Nat) (hp : p.d < d) (σ : Sto) (hu : σ.Und d) (ho : σ.ob p = some (encQ s r)) : Ret lim d 33 [.ptr p 0, .str [b]] σ (.bool (r.nx s == some b)) σ := by
  rw [← has_one s r hr b]
  exact w33 s r [b] hs (by simp) hr p lim d hp σ hu ho
theorem w43 (s : List UInt8) (r : Rd) (hs : s.length ≤ 1000000) (hr : r.at' ≤ s.length) (p : Mv.Loc) (lim d : Nat) (hp : p.d < d) (σ : Sto) (hu : σ.Und d) (ho : σ.ob p = some (encQ s r)) : Ret lim d 43 [.ptr p 0] σ (.bool (isRep (r.nx s))) σ := by
  have hun := und_succ hu
  have hp1 := Nat.lt_succ_of_lt hp
  have hh := fun (b : UInt8) => h1 s r b hs hr p lim (d + 1) hp1 σ hun ho
  have ho2 := ho
  rw [encQ] at ho2
  unfold Ret
  rw [WF_body (C := X) rfl Go.Proofs.Try.func43 rfl (by kernel_rfl)]; simp only [Go.Proofs.Try.results43]
  simp -implicitDefEqProofs -dsimp only [↓reduceIte, not_false_eq_true, ↓W_seq, go_sem, WR_nil, evNews, if_true, if_false, and_true, true_and, Nat.reduceEqDiff, Nat.reduceAdd, Nat.reduceMul, Nat.reduceLeDiff, Nat.reduceLT, Int.cast_ofNat_Int, Int.reduceBNe, Int.reduceToNat, Int.reduceLT, Int.reduceLE, Int.reduceToNat, Int.reduceAdd, Int.reduceNeg, Int.natCast_zero, Int.natCast_one, Int.le_refl, Int.reduceEq, Int.lt_irrefl, reduceCtorEq, enc, ba_data]
  refine (hh 42).wh ?_
  unfold isRep
  cases h42 : r.nx s == some 42
  · simp -implicitDefEqProofs -dsimp only [↓reduceIte, not_false_eq_true, ↓W_seq, go_sem, WR_nil, evNews, if_true, if_false, and_true, true_and, Nat.reduceEqDiff, Nat.reduceAdd, Nat.reduceMul, Nat.reduceLeDiff, Nat.reduceLT, Int.cast_ofNat_Int, Int.reduceBNe, Int.reduceToNat, Int.reduceLT, Int.reduceLE, Int.reduceToNat, Int.reduceAdd, Int.reduceNeg, Int.natCast_zero, Int.natCast_one, Int.le_refl, Int.reduceEq, Int.lt_irrefl, reduceCtorEq, enc]
    refine (w56 s r p lim (d + 1) hp1 σ hun ho).wh ?_
    simp -implicitDefEqProofs -dsimp only [↓reduceIte, not_false_eq_true, ↓W_seq, go_sem, WR_nil, evNews, if_true, if_false, and_true, true_and, Nat.reduceEqDiff, Nat.reduceAdd, Nat.reduceMul, Nat.reduceLeDiff, Nat.reduceLT, Int.cast_ofNat_Int, Int.reduceBNe, Int.reduceToNat, Int.reduceLT, Int.reduceLE, Int.reduceToNat, Int.reduceAdd, Int.reduceNeg, Int.natCast_zero, Int.natCast_one, Int.le_refl, Int.reduceEq, Int.lt_irrefl, reduceCtorEq, enc]
    refine (hh 123).wh ?_
    cases h123 : r.nx s == some 123
    · simp -implicitDefEqProofs -dsimp only [↓reduceIte, not_false_eq_true, ↓W_seq, go_sem, WR_nil, evNews, if_true, if_false, and_true, true_and, Nat.reduceEqDiff, Nat.reduceAdd, Nat.reduceMul, Nat.reduceLeDiff, Nat.reduceLT, Int.cast_ofNat_Int, Int.reduceBNe, Int.reduceToNat, Int.reduceLT, Int.reduceLE, Int.reduceToNat, Int.reduceAdd, Int.reduceNeg, Int.natCast_zero, Int.natCast_one, Int.le_refl, Int.reduceEq, Int.lt_irrefl, reduceCtorEq, enc, ho2, ba_data]
      refine (hh 43).wh ?_
      cases h43 : r.nx s == some 43
      · simp -implicitDefEqProofs -dsimp only [↓reduceIte, not_false_eq_true, ↓W_seq, go_sem, WR_nil, evNews, if_true, if_false, and_true, true_and, Nat.reduceEqDiff, Nat.reduceAdd, Nat.reduceMul, Nat.reduceLeDiff, Nat.reduceLT, Int.cast_ofNat_Int, Int.reduceBNe, Int.reduceToNat, Int.reduceLT, Int.reduceLE, Int.reduceToNat, Int.reduceAdd, Int.reduceNeg, Int.natCast_zero, Int.natCast_one, Int.le_refl, Int.reduceEq, Int.lt_irrefl, reduceCtorEq, enc, ba_data]
        refine (hh 63).wh ?_
        cases h63 : r.nx s == some 63
        · simp -implicitDefEqProofs -dsimp only [↓reduceIte, not_false_eq_true, ↓W_seq, go_sem, WR_nil, evNews, if_true, if_false, and_true, true_and, Nat.reduceEqDiff, Nat.reduceAdd, Nat.reduceMul, Nat.reduceLeDiff, Nat.reduceLT, Int.cast_ofNat_Int, Int.reduceBNe, Int.reduceToNat, Int.reduceLT, Int.reduceLE, Int.reduceToNat, Int.reduceAdd, Int.reduceNeg, Int.natCast_zero, Int.natCast_one, Int.le_refl, Int.reduceEq, Int.lt_irrefl, reduceCtorEq, enc, h42, h123, h43, cut_und _ _ hu]
        · simp -implicitDefEqProofs -dsimp only [↓reduceIte, not_false_eq_true, ↓W_seq, go_sem, WR_nil, evNews, if_true, if_false, and_true, true_and, Nat.reduceEqDiff, Nat.reduceAdd, Nat.reduceMul, Nat.reduceLeDiff, Nat.reduceLT, Int.cast_ofNat_Int, Int.reduceBNe, Int.reduceToNat, Int.reduceLT, Int.reduceLE, Int.reduceToNat, Int.reduceAdd, Int.reduceNeg, Int.natCast_zero, Int.natCast_one, Int.le_refl, Int.reduceEq, Int.lt_irrefl, reduceCtorEq, enc, h42, h123, h43, cut_und _ _ hu]
      · simp -implicitDefEqProofs -dsimp only [↓reduceIte, not_false_eq_true, ↓W_seq, go_sem, WR_nil, evNews, if_true, if_false, and_true, true_and, Nat.reduceEqDiff, Nat.reduceAdd, Nat.reduceMul, Nat.reduceLeDiff, Nat.reduceLT, Int.cast_ofNat_Int, Int.reduceBNe, Int.reduceToNat, Int.reduceLT, Int.reduceLE, Int.reduceToNat, Int.reduceAdd, Int.reduceNeg, Int.natCast_zero, Int.natCast_one, Int.le_refl, Int.reduceEq, Int.lt_irrefl, reduceCtorEq, enc, h42, h123, cut_und _ _ hu]
    · simp -implicitDefEqProofs -dsimp only [↓reduceIte, not_false_eq_true, ↓W_seq, go_sem, WR_nil, evNews, if_true, if_false, and_true, true_and, Nat.reduceEqDiff, Nat.reduceAdd, Nat.reduceMul, Nat.reduceLeDiff, Nat.reduceLT, Int.cast_ofNat_Int, Int.reduceBNe, Int.reduceToNat, Int.reduceLT, Int.reduceLE, Int.reduceToNat, Int.reduceAdd, Int.reduceNeg, Int.natCast_zero, Int.natCast_one, Int.le_refl, Int.reduceEq, Int.lt_irrefl, reduceCtorEq, enc, h42, cut_und _ _ hu]
  · simp -implicitDefEqProofs -dsimp only [↓reduceIte, not_false_eq_true, ↓W_seq, go_sem, WR_nil, evNews, if_true, if_false, and_true, true_and, Nat.reduceEqDiff, Nat.reduceAdd, Nat.reduceMul, Nat.reduceLeDiff, Nat.reduceLT, Int.cast_ofNat_Int, Int.reduceBNe, Int.reduceToNat, Int.reduceLT, Int.reduceLE, Int.reduceToNat, Int.reduceAdd, Int.reduceNeg, Int.natCast_zero, Int.natCast_one, Int.le_refl, Int.reduceEq, Int.lt_irrefl, reduceCtorEq, enc, cut_und _ _ hu]
theorem w68 (t : List UInt8) (c : UInt8) (ht : t.length ≤ 1000) (lim d : Nat) (σ : Sto) (hu : σ.Und d) : Ret lim d 68 [.str t, .int .u8 c.toNat] σ (.bool (t.contains c)) σ := by
  have hun := und_succ hu
  unfold Ret
  rw [WF_body (C := X) rfl Go.Proofs.Try.func68 rfl (by kernel_rfl)]; simp only [Go.Proofs.Try.results68]
  simp -implicitDefEqProofs -dsimp only [↓reduceIte, not_false_eq_true, ↓W_seq, go_sem, WR_nil, evNews, if_true, if_false, and_true, true_and, Nat.reduceEqDiff, Nat.reduceAdd, Nat.reduceMul, Nat.reduceLeDiff, Nat.reduceLT, Int.cast_ofNat_Int, Int.reduceBNe, Int.reduceToNat, Int.reduceLT, Int.reduceLE, Int.reduceToNat, Int.reduceAdd, Int.reduceNeg, Int.natCast_zero, Int.natCast_one, Int.le_refl, Int.reduceEq, Int.lt_irrefl, reduceCtorEq, enc]
  refine loop_h (I := fun f a s' => ∃ i : Nat, f + i = t.length ∧ a 0 = .str t ∧ a 1 = .int .u8 c.toNat ∧ a 7 = .int .i64 t.length ∧ a 8 = .int .i64 i ∧ s'.cut d = σ ∧ (t.drop i).contains c = t.contains c) ?_ t.length _ _ ?_
  · rintro f a s' ⟨i, hf, a0, a1, a7, a8, hcut, hct⟩
    by_cases hi : i < t.length
    · have e1 : ((i : Int) < (t.length : Int)) := by omega
      have gi : t[i]? = some t[i] := List.getElem?_eq_getElem hi
      have x1 := wr64 ((i : Int) + 1) (by omega) (by omega)
      have hu8 := u8b t[i] c
      rw [List.drop_eq_getElem_cons hi, List.contains_cons] at hct
      cases hb : t[i] == c
      · have hb2 : (c == t[i]) = false := by rw [beq_eq_false_iff_ne] at hb ⊢; exact fun h => hb h.symm
        rw [hb2, Bool.false_or] at hct
        simp -implicitDefEqProofs -dsimp only [↓reduceIte, not_false_eq_true, ↓W_seq, go_sem, WR_nil, evNews, if_true, if_false, and_true, true_and, Nat.reduceEqDiff, Nat.reduceAdd, Nat.reduceMul, Nat.reduceLeDiff, Nat.reduceLT, Int.cast_ofNat_Int, Int.reduceBNe, Int.reduceToNat, Int.reduceLT, Int.reduceLE, Int.reduceToNat, Int.reduceAdd, Int.reduceNeg, Int.natCast_zero, Int.natCast_one, Int.le_refl, Int.reduceEq, Int.lt_irrefl, reduceCtorEq, enc, a0, a1, a7, a8, e1, gi, hu8, hb, x1]
        exact ⟨f - 1, by omega, i + 1, by omega, rfl, hcut, hct⟩
      · have hb2 : (c == t[i]) = true := by rw [beq_iff_eq] at hb ⊢; exact hb.symm
        rw [hb2, Bool.true_or] at hct
        simp -implicitDefEqProofs -dsimp only [↓reduceIte, not_false_eq_true, ↓W_seq, go_sem, WR_nil, evNews, if_true, if_false, and_true, true_and, Nat.reduceEqDiff, Nat.reduceAdd, Nat.reduceMul, Nat.reduceLeDiff, Nat.reduceLT, Int.cast_ofNat_Int, Int.reduceBNe, Int.reduceToNat, Int.reduceLT, Int.reduceLE, Int.reduceToNat, Int.reduceAdd, Int.reduceNeg, Int.natCast_zero, Int.natCast_one, Int.le_refl, Int.reduceEq, Int.lt_irrefl, reduceCtorEq, enc, a0, a1, a7, a8, e1, gi, hu8, hb, ← hct, hcut]
    · have e1 : ¬ ((i : Int) < (t.length : Int)) := by omega
      rw [List.drop_eq_nil_of_le (by omega)] at hct
      simp -implicitDefEqProofs -dsimp only [↓reduceIte, not_false_eq_true, ↓W_seq, go_sem, WR_nil, evNews, if_true, if_false, and_true, true_and, Nat.reduceEqDiff, Nat.reduceAdd, Nat.reduceMul, Nat.reduceLeDiff, Nat.reduceLT, Int.cast_ofNat_Int, Int.reduceBNe, Int.reduceToNat, Int.reduceLT, Int.reduceLE, Int.reduceToNat, Int.reduceAdd, Int.reduceNeg, Int.natCast_zero, Int.natCast_one, Int.le_refl, Int.reduceEq, Int.lt_irrefl, reduceCtorEq, enc, a7, a8, e1, ← hct, hcut, List.contains_nil]
  · exact ⟨0, by omega, rfl, rfl, rfl, rfl, cut_und _ _ hu, rfl⟩
end Go.Proofs.Try.E
