/- Walks: what the functions compute. -/
import Derived.Test.YtgdecplonaaahaaDoorB7
set_option linter.unusedVariables false
set_option linter.unusedSimpArgs false
/- Any text is read as a basic pattern, or refused: the program. -/
namespace Go.Proofs.Tryd.E
open Go.Mv
set_option maxHeartbeats 4000000
set_option maxRecDepth 20000
theorem hw_step {s : List UInt8} {k : Nat} {rec : Rd → Nd × Rd} (H : HB s k rec) (K : HW s k rec) (hs : s.length ≤ 100000) : HW s (k + 1) (seqB s rec (joinN []) (s.length + 1) true []) := fun r hb hr h9 hk lim d p σ hp hlim hu ho => w205 H K r hs hr hb h9 (by omega) p lim d hp hlim σ hu ho
theorem hw_par (s : List UInt8) (hs : s.length ≤ 100000) : ∀ k, HW s k (parB s (joinN []) k)
  | 0 => fun r hb hr h9 hk => by omega
  | k + 1 => hw_step (hb_par s (by decide) k) (hw_par s hs k) hs
theorem w204 (s : List UInt8) (hs : s.length ≤ 100000) (lim d : Nat) (hlim : lim ≤ d) (σ : Sto) (hu : σ.Und d) : Ret lim d 5 [.str s] σ (parseBV (parseB (joinN []) s)) σ := by
  have hun := und_succ hu
  have G := hb_par s (e := joinN []) (by decide) 10 ⟨0, 0, false⟩ rfl (by simp) (by simp) (by simp)
  have hw := hw_par s hs 10 ⟨0, 0, false⟩ rfl (by simp) (by simp) (by simp)
  unfold Ret parseBV
  rw [parseB_eq]
  rw [WF_body (C := X) rfl Go.Proofs.Tryd.func5 rfl (by kernel_rfl)]; simp only [Go.Proofs.Tryd.results5]
  simp -implicitDefEqProofs -dsimp only [↓reduceIte, not_false_eq_true, ↓W_seq, go_sem, WR_nil, evNews, if_true, if_false, and_true, true_and, Nat.reduceEqDiff, Nat.reduceAdd, Nat.reduceMul, Nat.reduceLeDiff, Nat.reduceLT, Int.cast_ofNat_Int, Int.reduceBNe, Int.reduceToNat, Int.reduceLT, Int.reduceLE, Int.reduceToNat, Int.reduceAdd, Int.reduceNeg, Int.natCast_zero, Int.natCast_one, Int.le_refl, Int.reduceEq, Int.lt_irrefl, reduceCtorEq, enc]
  rw [show [MV.str s, MV.int .i64 0, MV.int .i64 0, MV.bool false] = encB s ⟨0, 0, false⟩ from rfl]
  refine (hw lim (d + 1) ⟨d, 9, σ.ct d + 1⟩ _ (Nat.lt_succ_self d) hlim ?_ ?_).wh ?_
  · simp only [u_tick, u_mine]; exact hun
  · simp only [go_sem, if_true]
  generalize parB s (joinN []) 10 ⟨0, 0, false⟩ = x at G
  obtain ⟨y, r⟩ := x
  have g2 := G.in'
  have hsz : sz y ≤ 1000000 := by have := G.sz'; simp only at this g2; omega
  simp only at g2 ⊢
  cases hbb : r.bad
  case true =>
    have hbd : encB s r = [.str s, .int .i64 r.at', .int .i64 r.g, .bool true] := by rw [encB, hbb]
    simp -implicitDefEqProofs -dsimp only [↓reduceIte, not_false_eq_true, ↓W_seq, go_sem, WR_nil, evNews, if_true, if_false, and_true, true_and, Nat.reduceEqDiff, Nat.reduceAdd, Nat.reduceMul, Nat.reduceLeDiff, Nat.reduceLT, Int.cast_ofNat_Int, Int.reduceBNe, Int.reduceToNat, Int.reduceLT, Int.reduceLE, Int.reduceToNat, Int.reduceAdd, Int.reduceNeg, Int.natCast_zero, Int.natCast_one, Int.le_refl, Int.reduceEq, Int.lt_irrefl, reduceCtorEq, enc, hbd]
    rw [D_lx [.tmp 29] (by kernel_rfl) (by kernel_rfl)]; simp -implicitDefEqProofs -dsimp only [↓reduceIte, not_false_eq_true, ↓W_seq, go_sem, WR_nil, evNews, if_true, if_false, and_true, true_and, Nat.reduceEqDiff, Nat.reduceAdd, Nat.reduceMul, Nat.reduceLeDiff, Nat.reduceLT, Int.cast_ofNat_Int, Int.reduceBNe, Int.reduceToNat, Int.reduceLT, Int.reduceLE, Int.reduceToNat, Int.reduceAdd, Int.reduceNeg, Int.natCast_zero, Int.natCast_one, Int.le_refl, Int.reduceEq, Int.lt_irrefl, reduceCtorEq, enc, List.takeWhile_cons, List.dropWhile_cons, List.takeWhile_nil, List.dropWhile_nil, isTail, evNews, List.mem_cons, List.not_mem_nil, or_false, false_or, not_false_eq_true, not_true_eq_false, decide_true, decide_false, Bool.not_true, Bool.not_false, if_true, if_false, forall_eq, forall_eq_or_imp, false_imp_iff, implies_true, ne_eq, ct_lt1, ct_lt2, ct_lt3, ct_lt4, ct_lt5, Bool.true_or]
    exact ⟨rfl, cut_und _ _ hu⟩
  case false =>
    have hgood := encB_good s r hbb
    by_cases hend : r.at' < s.length
    · have e1 : (r.at' : Int) < (s.length : Int) := by omega
      simp -implicitDefEqProofs -dsimp only [↓reduceIte, not_false_eq_true, ↓W_seq, go_sem, WR_nil, evNews, if_true, if_false, and_true, true_and, Nat.reduceEqDiff, Nat.reduceAdd, Nat.reduceMul, Nat.reduceLeDiff, Nat.reduceLT, Int.cast_ofNat_Int, Int.reduceBNe, Int.reduceToNat, Int.reduceLT, Int.reduceLE, Int.reduceToNat, Int.reduceAdd, Int.reduceNeg, Int.natCast_zero, Int.natCast_one, Int.le_refl, Int.reduceEq, Int.lt_irrefl, reduceCtorEq, enc, hgood, e1]
      rw [D_lx [.tmp 29] (by kernel_rfl) (by kernel_rfl)]; simp -implicitDefEqProofs -dsimp only [↓reduceIte, not_false_eq_true, ↓W_seq, go_sem, WR_nil, evNews, if_true, if_false, and_true, true_and, Nat.reduceEqDiff, Nat.reduceAdd, Nat.reduceMul, Nat.reduceLeDiff, Nat.reduceLT, Int.cast_ofNat_Int, Int.reduceBNe, Int.reduceToNat, Int.reduceLT, Int.reduceLE, Int.reduceToNat, Int.reduceAdd, Int.reduceNeg, Int.natCast_zero, Int.natCast_one, Int.le_refl, Int.reduceEq, Int.lt_irrefl, reduceCtorEq, enc, List.takeWhile_cons, List.dropWhile_cons, List.takeWhile_nil, List.dropWhile_nil, isTail, evNews, List.mem_cons, List.not_mem_nil, or_false, false_or, not_false_eq_true, not_true_eq_false, decide_true, decide_false, Bool.not_true, Bool.not_false, if_true, if_false, forall_eq, forall_eq_or_imp, false_imp_iff, implies_true, ne_eq, ct_lt1, ct_lt2, ct_lt3, ct_lt4, ct_lt5, hend, Bool.or_true]
      exact ⟨rfl, cut_und _ _ hu⟩
    · have e1 : ¬ (r.at' : Int) < (s.length : Int) := by omega
      simp -implicitDefEqProofs -dsimp only [↓reduceIte, not_false_eq_true, ↓W_seq, go_sem, WR_nil, evNews, if_true, if_false, and_true, true_and, Nat.reduceEqDiff, Nat.reduceAdd, Nat.reduceMul, Nat.reduceLeDiff, Nat.reduceLT, Int.cast_ofNat_Int, Int.reduceBNe, Int.reduceToNat, Int.reduceLT, Int.reduceLE, Int.reduceToNat, Int.reduceAdd, Int.reduceNeg, Int.natCast_zero, Int.natCast_one, Int.le_refl, Int.reduceEq, Int.lt_irrefl, reduceCtorEq, enc, hgood, e1]
      refine (w12 y hsz lim (d + 1) _ (by omega) ?_).wh ?_
      · simp only [u_tick, u_mine]; exact hun
      cases formedB y
      · simp -implicitDefEqProofs -dsimp only [↓reduceIte, not_false_eq_true, ↓W_seq, go_sem, WR_nil, evNews, if_true, if_false, and_true, true_and, Nat.reduceEqDiff, Nat.reduceAdd, Nat.reduceMul, Nat.reduceLeDiff, Nat.reduceLT, Int.cast_ofNat_Int, Int.reduceBNe, Int.reduceToNat, Int.reduceLT, Int.reduceLE, Int.reduceToNat, Int.reduceAdd, Int.reduceNeg, Int.natCast_zero, Int.natCast_one, Int.le_refl, Int.reduceEq, Int.lt_irrefl, reduceCtorEq, enc, z0, encs, cut_und _ _ hu, hend, Bool.or_false, Bool.or_self, Bool.false_eq_true]
      · simp -implicitDefEqProofs -dsimp only [↓reduceIte, not_false_eq_true, ↓W_seq, go_sem, WR_nil, evNews, if_true, if_false, and_true, true_and, Nat.reduceEqDiff, Nat.reduceAdd, Nat.reduceMul, Nat.reduceLeDiff, Nat.reduceLT, Int.cast_ofNat_Int, Int.reduceBNe, Int.reduceToNat, Int.reduceLT, Int.reduceLE, Int.reduceToNat, Int.reduceAdd, Int.reduceNeg, Int.natCast_zero, Int.natCast_one, Int.le_refl, Int.reduceEq, Int.lt_irrefl, reduceCtorEq, enc, cut_und _ _ hu, hend, Bool.or_false, Bool.or_self, Bool.false_eq_true]
theorem parseB_sz (e : Nd) (he : sz e ≤ 1) (s : List UInt8) (hs : s.length ≤ 100000) : sz (parseB e s).1 ≤ 1000000 := by
  have G := hb_par s he 10 ⟨0, 0, false⟩ rfl (by simp) (by simp) (by simp)
  rw [parseB_eq]
  generalize parB s e 10 ⟨0, 0, false⟩ = x at G
  have g2 := G.in'
  have g3 := G.sz'
  simp only at g2 g3
  split
  · simp [sz_z0]
  · split
    · simp only; omega
    · simp [sz_z0]
theorem parseB_formed (e : Nd) (s : List UInt8) (h : (parseB e s).2.2 = 0) : formedB (parseB e s).1 = true := by
  rw [parseB_eq] at h ⊢
  split
  · rename_i h1; rw [if_pos h1] at h; cases h
  · rename_i h1
    rw [if_neg h1] at h
    split
    · assumption
    · rename_i h2; rw [if_neg h2] at h; cases h
theorem wakeB_err : (parseB (joinN []) [97, 42]).2.2 = 0 := by decide +kernel
theorem wakeB_kind : (parseB (joinN []) [97, 42]).1.kind = 10 := by decide +kernel
theorem w203 (lim d : Nat) (hlim : lim ≤ d) (σ : Sto) (hu : σ.Und d) : Ret lim d 4 [] σ (.bool true) σ := by
  have hun := und_succ hu
  unfold Ret
  rw [WF_body (C := X) rfl Go.Proofs.Tryd.func4 rfl (by kernel_rfl)]; simp only [Go.Proofs.Tryd.results4]
  simp -implicitDefEqProofs -dsimp only [↓reduceIte, not_false_eq_true, ↓W_seq, go_sem, WR_nil, evNews, if_true, if_false, and_true, true_and, Nat.reduceEqDiff, Nat.reduceAdd, Nat.reduceMul, Nat.reduceLeDiff, Nat.reduceLT, Int.cast_ofNat_Int, Int.reduceBNe, Int.reduceToNat, Int.reduceLT, Int.reduceLE, Int.reduceToNat, Int.reduceAdd, Int.reduceNeg, Int.natCast_zero, Int.natCast_one, Int.le_refl, Int.reduceEq, Int.lt_irrefl, reduceCtorEq, enc, ba_data]
  refine (w204 [97, 42] (by simp) lim (d + 1) (by omega) _ ?_).wh ?_
  · exact hun
  unfold parseBV
  have h1 := wakeB_err
  have h2 := wakeB_kind
  generalize parseB (joinN []) [97, 42] = x at h1 h2
  simp -implicitDefEqProofs -dsimp only [↓reduceIte, not_false_eq_true, ↓W_seq, go_sem, WR_nil, evNews, if_true, if_false, and_true, true_and, Nat.reduceEqDiff, Nat.reduceAdd, Nat.reduceMul, Nat.reduceLeDiff, Nat.reduceLT, Int.cast_ofNat_Int, Int.reduceBNe, Int.reduceToNat, Int.reduceLT, Int.reduceLE, Int.reduceToNat, Int.reduceAdd, Int.reduceNeg, Int.natCast_zero, Int.natCast_one, Int.le_refl, Int.reduceEq, Int.lt_irrefl, reduceCtorEq, enc, h1, enc_take, enc_kind, h2, cut_und _ _ hu]
end Go.Proofs.Tryd.E
