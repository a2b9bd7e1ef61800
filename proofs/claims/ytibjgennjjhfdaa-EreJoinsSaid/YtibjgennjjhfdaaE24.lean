/- Walks: what the functions compute. -/
import Derived.Test.YtibjgennjjhfdaaE23
set_option linter.unusedVariables false
set_option linter.unusedSimpArgs false
/- The reader: bounds; what begins with a backslash; groups. -/
namespace Go.Proofs.Try.E
open Go.Mv
set_option maxHeartbeats 4000000
set_option maxRecDepth 20000
theorem brs_go (s : List UInt8) (n : Nat) (x : Int × Int × Nat) (h : bracesS s n = some x) : n < x.2.2 ∧ x.2.2 ≤ s.length := by
  unfold bracesS at h
  have l1 := digs_len s (n + 1)
  have l2 := digs_len s (n + 1 + (digsAt s (n + 1)).length + 1)
  have lt : ∀ k, s[k]? = some 125 → k < s.length := fun k hk => by
    rcases Nat.lt_or_ge k s.length with h | h
    · exact h
    · rw [List.getElem?_eq_none h] at hk; cases hk
  simp only at h
  split at h
  · cases h
  · split at h
    · split at h
      · rename_i h3; have := lt _ h3.1; cases h; simp only; omega
      · cases h
    · split at h
      · rename_i h3; have := lt _ h3; cases h; simp only; omega
      · cases h
theorem bnd_go (s : List UInt8) (n : Nat) (hn : n < s.length) (x : Int × Int × Nat) (h : boundsS s n = some x) : n < x.2.2 ∧ x.2.2 ≤ s.length := by
  unfold boundsS at h
  split at h
  · exact brs_go s n x h
  · split at h
    · cases h; simp only; omega
    · split at h <;> (cases h; simp only; omega)
theorem w54 (s : List UInt8) (r : Rd) (hs : s.length ≤ 1000000) (hr : r.at' < s.length) (hb : r.bad = false) (p : Mv.Loc) (lim d : Nat) (hp : p.d < d) (hlim : lim ≤ p.d) (σ : Sto) (hu : σ.Und d) (ho : σ.ob p = some (encP s r)) :
    Ret lim d 54 [.ptr p 0] σ (brcV (boundsS s r.at')) (σ.set p (encP s (brcR r (boundsS s r.at')))) := by
  have hun := und_succ hu
  have hp1 := Nat.lt_succ_of_lt hp
  have ho2 := ho
  rw [encP_good s r hb] at ho2
  have x1 := wr64 ((r.at' : Int) + 1) (by omega) (by omega)
  have g0 : s[r.at']? = some s[r.at'] := List.getElem?_eq_getElem hr
  have hnx : r.nx s = some s[r.at'] := by simp [Rd.nx, hb]
  unfold Ret
  rw [WF_body (C := X) rfl Go.Proofs.Try.func54 rfl (by kernel_rfl)]; simp only [Go.Proofs.Try.results54]
  simp -implicitDefEqProofs -dsimp only [↓reduceIte, not_false_eq_true, ↓W_seq, go_sem, WR_nil, evNews, if_true, if_false, and_true, true_and, Nat.reduceEqDiff, Nat.reduceAdd, Nat.reduceMul, Nat.reduceLeDiff, Nat.reduceLT, Int.cast_ofNat_Int, Int.reduceBNe, Int.reduceToNat, Int.reduceLT, Int.reduceLE, Int.reduceToNat, Int.reduceAdd, Int.reduceNeg, Int.natCast_zero, Int.natCast_one, Int.le_refl, Int.reduceEq, Int.lt_irrefl, reduceCtorEq, enc]
  refine (w20 s r hs p lim (d + 1) hp1 _ hun ho).wh ?_
  rw [hnx]
  unfold boundsS
  rw [g0]
  cases h1 : s[r.at'] == 123
  · have h1' : ¬ some s[r.at'] = some (123 : UInt8) := by simpa using h1
    rw [if_neg h1']
    cases h2 : s[r.at'] == 43
    · have h2' : ¬ some s[r.at'] = some (43 : UInt8) := by simpa using h2
      rw [if_neg h2']
      cases h3 : s[r.at'] == 63
      · have h3' : ¬ some s[r.at'] = some (63 : UInt8) := by simpa using h3
        rw [if_neg h3']
        simp -implicitDefEqProofs -dsimp only [↓reduceIte, not_false_eq_true, ↓W_seq, go_sem, WR_nil, evNews, if_true, if_false, and_true, true_and, Nat.reduceEqDiff, Nat.reduceAdd, Nat.reduceMul, Nat.reduceLeDiff, Nat.reduceLT, Int.cast_ofNat_Int, Int.reduceBNe, Int.reduceToNat, Int.reduceLT, Int.reduceLE, Int.reduceToNat, Int.reduceAdd, Int.reduceNeg, Int.natCast_zero, Int.natCast_one, Int.le_refl, Int.reduceEq, Int.lt_irrefl, reduceCtorEq, enc, pkV_some, h1, h2, h3, ho2, x1, hp, hlim, brcV_some, brcR_some, encP_go s r _ hb, cut_set _ _ _ _ hp, cut_und _ _ hu, Int.natCast_add]
      · have h3' : some s[r.at'] = some (63 : UInt8) := by simpa using h3
        rw [if_pos h3']
        simp -implicitDefEqProofs -dsimp only [↓reduceIte, not_false_eq_true, ↓W_seq, go_sem, WR_nil, evNews, if_true, if_false, and_true, true_and, Nat.reduceEqDiff, Nat.reduceAdd, Nat.reduceMul, Nat.reduceLeDiff, Nat.reduceLT, Int.cast_ofNat_Int, Int.reduceBNe, Int.reduceToNat, Int.reduceLT, Int.reduceLE, Int.reduceToNat, Int.reduceAdd, Int.reduceNeg, Int.natCast_zero, Int.natCast_one, Int.le_refl, Int.reduceEq, Int.lt_irrefl, reduceCtorEq, enc, pkV_some, h1, h2, h3, ho2, x1, hp, hlim, brcV_some, brcR_some, encP_go s r _ hb, cut_set _ _ _ _ hp, cut_und _ _ hu, Int.natCast_add]
    · have h2' : some s[r.at'] = some (43 : UInt8) := by simpa using h2
      rw [if_pos h2']
      simp -implicitDefEqProofs -dsimp only [↓reduceIte, not_false_eq_true, ↓W_seq, go_sem, WR_nil, evNews, if_true, if_false, and_true, true_and, Nat.reduceEqDiff, Nat.reduceAdd, Nat.reduceMul, Nat.reduceLeDiff, Nat.reduceLT, Int.cast_ofNat_Int, Int.reduceBNe, Int.reduceToNat, Int.reduceLT, Int.reduceLE, Int.reduceToNat, Int.reduceAdd, Int.reduceNeg, Int.natCast_zero, Int.natCast_one, Int.le_refl, Int.reduceEq, Int.lt_irrefl, reduceCtorEq, enc, pkV_some, h1, h2, ho2, x1, hp, hlim, brcV_some, brcR_some, encP_go s r _ hb, cut_set _ _ _ _ hp, cut_und _ _ hu, Int.natCast_add]
  · have h1' : some s[r.at'] = some (123 : UInt8) := by simpa using h1
    rw [if_pos h1']
    simp -implicitDefEqProofs -dsimp only [↓reduceIte, not_false_eq_true, ↓W_seq, go_sem, WR_nil, evNews, if_true, if_false, and_true, true_and, Nat.reduceEqDiff, Nat.reduceAdd, Nat.reduceMul, Nat.reduceLeDiff, Nat.reduceLT, Int.cast_ofNat_Int, Int.reduceBNe, Int.reduceToNat, Int.reduceLT, Int.reduceLE, Int.reduceToNat, Int.reduceAdd, Int.reduceNeg, Int.natCast_zero, Int.natCast_one, Int.le_refl, Int.reduceEq, Int.lt_irrefl, reduceCtorEq, enc, pkV_some, h1]
    refine (w66 s r hs hr hb p lim (d + 1) hp1 hlim _ hun ho).wh ?_
    cases bracesS s r.at' with
    | none => simp -implicitDefEqProofs -dsimp only [↓reduceIte, not_false_eq_true, ↓W_seq, go_sem, WR_nil, evNews, if_true, if_false, and_true, true_and, Nat.reduceEqDiff, Nat.reduceAdd, Nat.reduceMul, Nat.reduceLeDiff, Nat.reduceLT, Int.cast_ofNat_Int, Int.reduceBNe, Int.reduceToNat, Int.reduceLT, Int.reduceLE, Int.reduceToNat, Int.reduceAdd, Int.reduceNeg, Int.natCast_zero, Int.natCast_one, Int.le_refl, Int.reduceEq, Int.lt_irrefl, reduceCtorEq, enc, brcV_none, brcR_none, cut_set _ _ _ _ hp, cut_und _ _ hu]
    | some x => simp -implicitDefEqProofs -dsimp only [↓reduceIte, not_false_eq_true, ↓W_seq, go_sem, WR_nil, evNews, if_true, if_false, and_true, true_and, Nat.reduceEqDiff, Nat.reduceAdd, Nat.reduceMul, Nat.reduceLeDiff, Nat.reduceLT, Int.cast_ofNat_Int, Int.reduceBNe, Int.reduceToNat, Int.reduceLT, Int.reduceLE, Int.reduceToNat, Int.reduceAdd, Int.reduceNeg, Int.natCast_zero, Int.natCast_one, Int.le_refl, Int.reduceEq, Int.lt_irrefl, reduceCtorEq, enc, brcV_some, brcR_some, cut_set _ _ _ _ hp, cut_und _ _ hu]
theorem its_is (b : UInt8) : ([46, 91, 93, 40, 41, 42, 43, 63, 123, 125, 124, 94, 36, 47, 92, 38, 45] : List UInt8).contains b = itselfS b := rfl
theorem idx_neg (t : List UInt8) (c : UInt8) : decide (idxB t c.toNat < 0) = !(t.contains c) := by
  rw [← idxB_in]
  by_cases h : idxB t c.toNat < 0
  · have : ¬ (0 ≤ idxB t c.toNat) := by omega
    simp [h, this]
  · have : (0 ≤ idxB t c.toNat) := by omega
    simp [h, this]
/-- A node, and how the reader goes on. -/
def NdR (s : List UInt8) (p : Mv.Loc) (σ : Sto) (x : Nd × Rd) (v : MV) (s' : Sto) : Prop := v = .agg (enc x.1) ∧ s' = σ.set p (encP s x.2)
theorem w63 (s : List UInt8) (r : Rd) (hs : s.length ≤ 1000000) (hr : r.at' < s.length) (hb : r.bad = false) (p : Mv.Loc) (lim d : Nat) (hp : p.d < d) (hlim : lim ≤ p.d) (σ : Sto) (hu : σ.Und d) (ho : σ.ob p = some (encP s r)) :
    Ret lim d 63 [.ptr p 0] σ (.agg (enc (escS s r).1)) (σ.set p (encP s (escS s r).2)) := by
  have hun := und_succ hu
  have hne := ne_my hp
  have hmy := my_ne hp
  have hp1 := Nat.lt_succ_of_lt hp
  have ho2 := ho
  rw [encP_good s r hb] at ho2
  have hun1 : ∀ (t c : Nat) (cs : List MV), ((σ.set ⟨d, t, c⟩ cs).tick d).Und (d + 1) := fun t c cs => by simp only [u_tick, u_mine]; exact hun
  have hob1 : ∀ (t c : Nat) (cs : List MV), ((σ.set ⟨d, t, c⟩ cs).tick d).ob p = some (encP s r) := fun t c cs => by simp only [go_sem, hne, if_false]; exact ho
  have x1 := wr64 ((r.at' : Int) + 1) (by omega) (by omega)
  have x2 := wr64 ((r.at' : Int) + 2) (by omega) (by omega)
  have t1 : ((r.at' : Int) + 1).toNat = r.at' + 1 := by omega
  have p1 : (0 : Int) ≤ (r.at' : Int) + 1 := by omega
  unfold Ret
  rw [WF_body (C := X) rfl Go.Proofs.Try.func63 rfl (by kernel_rfl)]; simp only [Go.Proofs.Try.results63]
  unfold escS
  simp -implicitDefEqProofs -dsimp only [↓reduceIte, not_false_eq_true, ↓W_seq, go_sem, WR_nil, evNews, if_true, if_false, and_true, true_and, Nat.reduceEqDiff, Nat.reduceAdd, Nat.reduceMul, Nat.reduceLeDiff, Nat.reduceLT, Int.cast_ofNat_Int, Int.reduceBNe, Int.reduceToNat, Int.reduceLT, Int.reduceLE, Int.reduceToNat, Int.reduceAdd, Int.reduceNeg, Int.natCast_zero, Int.natCast_one, Int.le_refl, Int.reduceEq, Int.lt_irrefl, reduceCtorEq, enc]
  rw [D_dr (by kernel_rfl) rfl]
  by_cases hl : r.at' + 1 < s.length
  · have e1 : ¬ ((s.length : Int) ≤ (r.at' : Int) + 1) := by omega
    have g1 : s[r.at' + 1]? = some s[r.at' + 1] := List.getElem?_eq_getElem hl
    rw [g1]
    simp only
    generalize s[r.at' + 1] = c at g1
    simp -implicitDefEqProofs -dsimp only [↓reduceIte, not_false_eq_true, ↓W_seq, go_sem, WR_nil, evNews, if_true, if_false, and_true, true_and, Nat.reduceEqDiff, Nat.reduceAdd, Nat.reduceMul, Nat.reduceLeDiff, Nat.reduceLT, Int.cast_ofNat_Int, Int.reduceBNe, Int.reduceToNat, Int.reduceLT, Int.reduceLE, Int.reduceToNat, Int.reduceAdd, Int.reduceNeg, Int.natCast_zero, Int.natCast_one, Int.le_refl, Int.reduceEq, Int.lt_irrefl, reduceCtorEq, enc, ho2, hne, x1, e1]
    rw [D_dr (by kernel_rfl) rfl]
    cases h110 : c == 110
    · have h110' : ¬ c = 110 := by simpa using h110
      rw [if_neg h110']
      by_cases h49 : 49 ≤ c.toNat ∧ c.toNat ≤ 57
      · have e2 : ((49 : Int) ≤ (c.toNat : Int)) := by omega
        have e3 : ((c.toNat : Int) ≤ 57) := by omega
        have y1 := wru8 ((c.toNat : Int) - 48) (by omega) (by omega)
        have y2 := wr64 ((c.toNat : Int) - 48) (by omega) (by omega)
        rw [if_pos h49]
        simp -implicitDefEqProofs -dsimp only [↓reduceIte, not_false_eq_true, ↓W_seq, go_sem, WR_nil, evNews, if_true, if_false, and_true, true_and, Nat.reduceEqDiff, Nat.reduceAdd, Nat.reduceMul, Nat.reduceLeDiff, Nat.reduceLT, Int.cast_ofNat_Int, Int.reduceBNe, Int.reduceToNat, Int.reduceLT, Int.reduceLE, Int.reduceToNat, Int.reduceAdd, Int.reduceNeg, Int.natCast_zero, Int.natCast_one, Int.le_refl, Int.reduceEq, Int.lt_irrefl, reduceCtorEq, enc, ho2, hne, hmy, x1, x2, t1, p1, g1, h110, e2, e3, y1, y2, hp, hlim, encs, encP_go s r _ hb, cut_set _ _ _ _ hp, cut_und _ _ hu, Int.natCast_add]
      · rw [if_neg h49]
        by_cases e2 : 49 ≤ c.toNat
        · have e2' : ((49 : Int) ≤ (c.toNat : Int)) := by omega
          have e3 : ¬ ((c.toNat : Int) ≤ 57) := by omega
          cases hits : itselfS c
          · simp -implicitDefEqProofs -dsimp only [↓reduceIte, not_false_eq_true, ↓W_seq, go_sem, WR_nil, evNews, if_true, if_false, and_true, true_and, Nat.reduceEqDiff, Nat.reduceAdd, Nat.reduceMul, Nat.reduceLeDiff, Nat.reduceLT, Int.cast_ofNat_Int, Int.reduceBNe, Int.reduceToNat, Int.reduceLT, Int.reduceLE, Int.reduceToNat, Int.reduceAdd, Int.reduceNeg, Int.natCast_zero, Int.natCast_one, Int.le_refl, Int.reduceEq, Int.lt_irrefl, reduceCtorEq, enc, ho2, hne, hmy, x1, x2, t1, p1, g1, h110, e2', e3, ba_data]
            refine (w41 _ c lim (d + 1) _ ?_).wh ?_
            · simp only [go_sem, u_tick, u_mine]; exact hun
            simp -implicitDefEqProofs -dsimp only [↓reduceIte, not_false_eq_true, ↓W_seq, go_sem, WR_nil, evNews, if_true, if_false, and_true, true_and, Nat.reduceEqDiff, Nat.reduceAdd, Nat.reduceMul, Nat.reduceLeDiff, Nat.reduceLT, Int.cast_ofNat_Int, Int.reduceBNe, Int.reduceToNat, Int.reduceLT, Int.reduceLE, Int.reduceToNat, Int.reduceAdd, Int.reduceNeg, Int.natCast_zero, Int.natCast_one, Int.le_refl, Int.reduceEq, Int.lt_irrefl, reduceCtorEq, enc, idx_neg, its_is, hits]
            refine (w21 s r p lim (d + 1) hp1 hlim _ ?_ ?_).wh ?_
            · simp only [go_sem, u_tick, u_mine]; exact hun
            · simp only [go_sem, hne, if_false]; exact ho
            simp -implicitDefEqProofs -dsimp only [↓reduceIte, not_false_eq_true, ↓W_seq, go_sem, WR_nil, evNews, if_true, if_false, and_true, true_and, Nat.reduceEqDiff, Nat.reduceAdd, Nat.reduceMul, Nat.reduceLeDiff, Nat.reduceLT, Int.cast_ofNat_Int, Int.reduceBNe, Int.reduceToNat, Int.reduceLT, Int.reduceLE, Int.reduceToNat, Int.reduceAdd, Int.reduceNeg, Int.natCast_zero, Int.natCast_one, Int.le_refl, Int.reduceEq, Int.lt_irrefl, reduceCtorEq, enc, hmy, cut_set _ _ _ _ hp, cut_und _ _ hu]
          · simp -implicitDefEqProofs -dsimp only [↓reduceIte, not_false_eq_true, ↓W_seq, go_sem, WR_nil, evNews, if_true, if_false, and_true, true_and, Nat.reduceEqDiff, Nat.reduceAdd, Nat.reduceMul, Nat.reduceLeDiff, Nat.reduceLT, Int.cast_ofNat_Int, Int.reduceBNe, Int.reduceToNat, Int.reduceLT, Int.reduceLE, Int.reduceToNat, Int.reduceAdd, Int.reduceNeg, Int.natCast_zero, Int.natCast_one, Int.le_refl, Int.reduceEq, Int.lt_irrefl, reduceCtorEq, enc, ho2, hne, hmy, x1, x2, t1, p1, g1, h110, e2', e3, ba_data]
            refine (w41 _ c lim (d + 1) _ ?_).wh ?_
            · simp only [go_sem, u_tick, u_mine]; exact hun
            simp -implicitDefEqProofs -dsimp only [↓reduceIte, not_false_eq_true, ↓W_seq, go_sem, WR_nil, evNews, if_true, if_false, and_true, true_and, Nat.reduceEqDiff, Nat.reduceAdd, Nat.reduceMul, Nat.reduceLeDiff, Nat.reduceLT, Int.cast_ofNat_Int, Int.reduceBNe, Int.reduceToNat, Int.reduceLT, Int.reduceLE, Int.reduceToNat, Int.reduceAdd, Int.reduceNeg, Int.natCast_zero, Int.natCast_one, Int.le_refl, Int.reduceEq, Int.lt_irrefl, reduceCtorEq, enc, idx_neg, its_is, hits, ho2, hne, hmy, x2, hp, hlim, lit, encs, encP_go s r _ hb, cut_set _ _ _ _ hp, cut_und _ _ hu, Int.natCast_add]
        · have e2' : ¬ ((49 : Int) ≤ (c.toNat : Int)) := by omega
          cases hits : itselfS c
          · simp -implicitDefEqProofs -dsimp only [↓reduceIte, not_false_eq_true, ↓W_seq, go_sem, WR_nil, evNews, if_true, if_false, and_true, true_and, Nat.reduceEqDiff, Nat.reduceAdd, Nat.reduceMul, Nat.reduceLeDiff, Nat.reduceLT, Int.cast_ofNat_Int, Int.reduceBNe, Int.reduceToNat, Int.reduceLT, Int.reduceLE, Int.reduceToNat, Int.reduceAdd, Int.reduceNeg, Int.natCast_zero, Int.natCast_one, Int.le_refl, Int.reduceEq, Int.lt_irrefl, reduceCtorEq, enc, ho2, hne, hmy, x1, x2, t1, p1, g1, h110, e2', ba_data]
            refine (w41 _ c lim (d + 1) _ ?_).wh ?_
            · simp only [go_sem, u_tick, u_mine]; exact hun
            simp -implicitDefEqProofs -dsimp only [↓reduceIte, not_false_eq_true, ↓W_seq, go_sem, WR_nil, evNews, if_true, if_false, and_true, true_and, Nat.reduceEqDiff, Nat.reduceAdd, Nat.reduceMul, Nat.reduceLeDiff, Nat.reduceLT, Int.cast_ofNat_Int, Int.reduceBNe, Int.reduceToNat, Int.reduceLT, Int.reduceLE, Int.reduceToNat, Int.reduceAdd, Int.reduceNeg, Int.natCast_zero, Int.natCast_one, Int.le_refl, Int.reduceEq, Int.lt_irrefl, reduceCtorEq, enc, idx_neg, its_is, hits]
            refine (w21 s r p lim (d + 1) hp1 hlim _ ?_ ?_).wh ?_
            · simp only [go_sem, u_tick, u_mine]; exact hun
            · simp only [go_sem, hne, if_false]; exact ho
            simp -implicitDefEqProofs -dsimp only [↓reduceIte, not_false_eq_true, ↓W_seq, go_sem, WR_nil, evNews, if_true, if_false, and_true, true_and, Nat.reduceEqDiff, Nat.reduceAdd, Nat.reduceMul, Nat.reduceLeDiff, Nat.reduceLT, Int.cast_ofNat_Int, Int.reduceBNe, Int.reduceToNat, Int.reduceLT, Int.reduceLE, Int.reduceToNat, Int.reduceAdd, Int.reduceNeg, Int.natCast_zero, Int.natCast_one, Int.le_refl, Int.reduceEq, Int.lt_irrefl, reduceCtorEq, enc, hmy, cut_set _ _ _ _ hp, cut_und _ _ hu]
          · simp -implicitDefEqProofs -dsimp only [↓reduceIte, not_false_eq_true, ↓W_seq, go_sem, WR_nil, evNews, if_true, if_false, and_true, true_and, Nat.reduceEqDiff, Nat.reduceAdd, Nat.reduceMul, Nat.reduceLeDiff, Nat.reduceLT, Int.cast_ofNat_Int, Int.reduceBNe, Int.reduceToNat, Int.reduceLT, Int.reduceLE, Int.reduceToNat, Int.reduceAdd, Int.reduceNeg, Int.natCast_zero, Int.natCast_one, Int.le_refl, Int.reduceEq, Int.lt_irrefl, reduceCtorEq, enc, ho2, hne, hmy, x1, x2, t1, p1, g1, h110, e2', ba_data]
            refine (w41 _ c lim (d + 1) _ ?_).wh ?_
            · simp only [go_sem, u_tick, u_mine]; exact hun
            simp -implicitDefEqProofs -dsimp only [↓reduceIte, not_false_eq_true, ↓W_seq, go_sem, WR_nil, evNews, if_true, if_false, and_true, true_and, Nat.reduceEqDiff, Nat.reduceAdd, Nat.reduceMul, Nat.reduceLeDiff, Nat.reduceLT, Int.cast_ofNat_Int, Int.reduceBNe, Int.reduceToNat, Int.reduceLT, Int.reduceLE, Int.reduceToNat, Int.reduceAdd, Int.reduceNeg, Int.natCast_zero, Int.natCast_one, Int.le_refl, Int.reduceEq, Int.lt_irrefl, reduceCtorEq, enc, idx_neg, its_is, hits, ho2, hne, hmy, x2, hp, hlim, lit, encs, encP_go s r _ hb, cut_set _ _ _ _ hp, cut_und _ _ hu, Int.natCast_add]
    · have h110' : c = 110 := by simpa using h110
      rw [if_pos h110']
      simp -implicitDefEqProofs -dsimp only [↓reduceIte, not_false_eq_true, ↓W_seq, go_sem, WR_nil, evNews, if_true, if_false, and_true, true_and, Nat.reduceEqDiff, Nat.reduceAdd, Nat.reduceMul, Nat.reduceLeDiff, Nat.reduceLT, Int.cast_ofNat_Int, Int.reduceBNe, Int.reduceToNat, Int.reduceLT, Int.reduceLE, Int.reduceToNat, Int.reduceAdd, Int.reduceNeg, Int.natCast_zero, Int.natCast_one, Int.le_refl, Int.reduceEq, Int.lt_irrefl, reduceCtorEq, enc, ho2, hne, hmy, x1, x2, t1, p1, g1, h110, hp, hlim, lit, encs, encP_go s r _ hb, cut_set _ _ _ _ hp, cut_und _ _ hu, Int.natCast_add]
  · have e1 : ((s.length : Int) ≤ (r.at' : Int) + 1) := by omega
    rw [List.getElem?_eq_none (by omega)]
    simp only
    simp -implicitDefEqProofs -dsimp only [↓reduceIte, not_false_eq_true, ↓W_seq, go_sem, WR_nil, evNews, if_true, if_false, and_true, true_and, Nat.reduceEqDiff, Nat.reduceAdd, Nat.reduceMul, Nat.reduceLeDiff, Nat.reduceLT, Int.cast_ofNat_Int, Int.reduceBNe, Int.reduceToNat, Int.reduceLT, Int.reduceLE, Int.reduceToNat, Int.reduceAdd, Int.reduceNeg, Int.natCast_zero, Int.natCast_one, Int.le_refl, Int.reduceEq, Int.lt_irrefl, reduceCtorEq, enc, ho2, hne, x1, e1]
    refine (w21 s r p lim (d + 1) hp1 hlim _ (hun1 ..) (hob1 ..)).wh ?_
    simp -implicitDefEqProofs -dsimp only [↓reduceIte, not_false_eq_true, ↓W_seq, go_sem, WR_nil, evNews, if_true, if_false, and_true, true_and, Nat.reduceEqDiff, Nat.reduceAdd, Nat.reduceMul, Nat.reduceLeDiff, Nat.reduceLT, Int.cast_ofNat_Int, Int.reduceBNe, Int.reduceToNat, Int.reduceLT, Int.reduceLE, Int.reduceToNat, Int.reduceAdd, Int.reduceNeg, Int.natCast_zero, Int.natCast_one, Int.le_refl, Int.reduceEq, Int.lt_irrefl, reduceCtorEq, enc, hmy, cut_set _ _ _ _ hp, cut_und _ _ hu]
end Go.Proofs.Try.E
