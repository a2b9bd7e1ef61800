/- Walks: what the functions compute. -/
import Derived.Test.YtcgjdgmmnmmifaaGreatDoorA2
set_option linter.unusedVariables false
set_option linter.unusedSimpArgs false
/- Few nodes; the same tree, as the package has it. -/
namespace Go.Proofs.Tryz.E
open Go.Mv
set_option maxHeartbeats 4000000
set_option maxRecDepth 20000
mutual
/-- How many nodes are left. -/
def bndT : Nd → Int → Int → Int
  | .mk _ _ _ _ _ _ _ _ _ l, deep, left => if deep = 0 then 0 else let r := bnds l deep (left - 1); if r ≤ 0 then 0 else r
def bnds : List Nd → Int → Int → Int
  | [], _, left => left
  | x :: l, deep, left => if left ≤ 0 then 0 else bnds l deep (bndT x (deep - 1) left)
end
theorem bnds_at {l : List Nd} {i : Nat} (h : i < l.length) (deep left : Int) : bnds (l.drop i) deep left = if left ≤ 0 then 0 else bnds (l.drop (i + 1)) deep (bndT l[i] (deep - 1) left) := by rw [List.drop_eq_getElem_cons h, bnds]
theorem bnds_le0 (deep left : Int) (h : left ≤ 0) : ∀ l, bnds l deep left ≤ 0
  | [] => by simpa [bnds] using h
  | x :: l => by simp [bnds, h]
mutual
theorem bnd_sz : ∀ (x : Nd) (deep left : Int), 0 < bndT x deep left → (sz x : Int) + bndT x deep left ≤ left
  | .mk _ _ _ _ _ _ _ _ _ l, deep, left, h => by
    simp only [bndT] at h ⊢
    by_cases h0 : deep = 0
    · rw [if_pos h0] at h; exact absurd h (Int.lt_irrefl 0)
    rw [if_neg h0] at h ⊢
    by_cases h1 : bnds l deep (left - 1) ≤ 0
    · simp only [if_pos h1] at h; exact absurd h (Int.lt_irrefl 0)
    simp only [if_neg h1] at h ⊢
    have := bnds_sz l deep (left - 1) h
    simp only [sz]
    omega
theorem bnds_sz : ∀ (l : List Nd) (deep left : Int), 0 < bnds l deep left → (szs l : Int) + bnds l deep left ≤ left
  | [], _, left, h => by simp [bnds, szs]
  | x :: l, deep, left, h => by
    simp only [bnds] at h ⊢
    by_cases h0 : left ≤ 0
    · rw [if_pos h0] at h; exact absurd h (Int.lt_irrefl 0)
    rw [if_neg h0] at h ⊢
    have h1 := bnds_sz l deep _ h
    have h2 : 0 < bndT x (deep - 1) left := by
      rcases Int.lt_or_le 0 (bndT x (deep - 1) left) with q | q
      · exact q
      · have := bnds_le0 deep _ q l; omega
    have h3 := bnd_sz x (deep - 1) left h2
    simp only [szs]
    omega
end
theorem bnd_rng (x : Nd) (deep left : Int) : 0 ≤ bndT x deep left ∧ bndT x deep left ≤ (if 0 ≤ left then left else 0) := by
  have h0 : 0 ≤ bndT x deep left := by
    cases x
    simp only [bndT]
    split
    · exact Int.le_refl _
    · split <;> omega
  refine ⟨h0, ?_⟩
  rcases Int.lt_or_le 0 (bndT x deep left) with q | q
  · have := bnd_sz x deep left q
    split <;> omega
  · split <;> omega
theorem w416 : ∀ (x : Nd) (deep left : Int), 0 ≤ deep → deep ≤ 40 → 0 ≤ left → left ≤ 400 → ∀ (lim d : Nat) (σ : Sto), lim ≤ d → σ.Und d → Ret lim d 43 [.agg (enc x), .int .i64 deep, .int .i64 left] σ (.int .i64 (bndT x deep left)) σ := by
  refine Nd.ind fun kd c s0 s1 s2 s3 n mn mx l ih deep left hd hd2 hl hl2 lim d σ hlim hu => ?_
  have hun := und_succ hu
  have y1 := wr64 (left - 1) (by omega) (by omega)
  unfold Ret
  simp only [bndT]
  rw [WF_body (C := X) rfl Go.Proofs.Tryz.func43 rfl (by kernel_rfl)]; simp only [Go.Proofs.Tryz.results43]
  by_cases h0 : deep = 0
  · subst h0
    simp -implicitDefEqProofs -dsimp only [↓reduceIte, ↓W_seq, go_sem, enc, y1, beq_self_eq_true, cut_und _ _ hu]
  have y2 := wr64 (deep - 1) (by omega) (by omega)
  simp -implicitDefEqProofs -dsimp only [↓reduceIte, ↓W_seq, go_sem, enc, y1, beq_ne h0, h0, encs_len, Bool.false_eq_true]
  refine loop_h (I := fun k a s => ∃ (i : Nat) (m : Int), i + k = l.length ∧ a 15 = .int .i64 i ∧ a 14 = .int .i64 l.length ∧ a 1 = .int .i64 deep ∧ a 2 = .int .i64 m ∧ a 3 = .ptr ⟨d, 3, σ.ct d⟩ 0 ∧ s.ob ⟨d, 3, σ.ct d⟩ = some (enc (.mk kd c s0 s1 s2 s3 n mn mx l)) ∧ -1 ≤ m ∧ m + i ≤ 400 ∧ bnds (l.drop i) deep m = bnds l deep (left - 1) ∧ s.cut d = σ ∧ s.Und (d + 1)) ?_ l.length _ _ ?_
  · rintro k a s ⟨i, m, hk, h15, h14, h1, h2, h3, o3, hm1, hm2, hq, hs, hs2⟩
    by_cases hi : i < l.length
    · have e1 : ((i : Int) < (l.length : Int)) := by omega
      have e2 : l[i]? = some l[i] := List.getElem?_eq_getElem hi
      have hm := List.getElem_mem hi
      rw [bnds_at hi] at hq
      by_cases hm0 : m ≤ 0
      · rw [if_pos hm0] at hq
        simp -implicitDefEqProofs -dsimp only [↓reduceIte, ↓W_seq, go_sem, enc, e1, h15, h14, h1, h2, h3, hm0, ← hq, hs]
      · rw [if_neg hm0] at hq
        simp -implicitDefEqProofs -dsimp only [↓reduceIte, ↓W_seq, go_sem, enc, e1, e2, h15, h14, h1, h2, h3, o3, hm0, y2, encs_at]
        refine (ih l[i] hm (deep - 1) m (by omega) (by omega) (by omega) (by omega) lim (d + 1) _ (by omega) hs2).wh ?_
        have hr := bnd_rng l[i] (deep - 1) m
        rw [if_pos (by omega)] at hr
        simp -implicitDefEqProofs -dsimp only [↓reduceIte, ↓W_seq, go_sem, enc, h15, h14, h1, h2, h3]
        have hi4 : bndT l[i] (deep - 1) m + ((i : Int) + 1) ≤ 400 := by
          rcases Int.lt_or_le 0 (bndT l[i] (deep - 1) m) with q | q
          · have := bnd_sz l[i] (deep - 1) m q
            have := sz_pos l[i]
            omega
          · omega
        exact ⟨k - 1, by omega, i + 1, _, by omega, by rw [wr64 _ (by omega) (by omega)]; rfl, rfl, by rw [o3, enc], by omega, by omega, hq, hs, hs2⟩
    · have e1 : ¬ ((i : Int) < (l.length : Int)) := by omega
      rw [List.drop_eq_nil_of_le (by omega), bnds] at hq
      simp -implicitDefEqProofs -dsimp only [↓reduceIte, ↓W_seq, go_sem, enc, e1, h15, h14, h1, h2, h3, hs, ← hq]
      refine congrArg _ ?_
      rw [if_neg h0]
      split <;> split <;> omega
  · refine ⟨0, left - 1, Nat.zero_add _, ?_⟩
    simp -implicitDefEqProofs -dsimp only [↓reduceIte, ↓W_seq, go_sem, enc, cut_und _ _ hu, u_tick, u_mine, hun, List.drop_zero]
    omega
theorem w410 (x : Nd) (lim d : Nat) (σ : Sto) (hlim : lim ≤ d) (hu : σ.Und d) : Ret lim d 29 [.agg (enc x)] σ (.bool (decide (0 < bndT x 40 400))) σ := by
  have hun := und_succ hu
  unfold Ret
  obtain ⟨kd, c, s0, s1, s2, s3, n, mn, mx, l⟩ := x
  rw [WF_body (C := X) rfl Go.Proofs.Tryz.func29 rfl (by kernel_rfl)]; simp only [Go.Proofs.Tryz.results29]
  simp -implicitDefEqProofs -dsimp only [↓reduceIte, ↓W_seq, go_sem, enc]
  refine (w416 (.mk kd c s0 s1 s2 s3 n mn mx l) 40 400 (by omega) (by omega) (by omega) (by omega) lim (d + 1) _ (by omega) (by simp only [u_tick, u_mine]; exact hun)).wh ?_
  simp -implicitDefEqProofs -dsimp only [↓reduceIte, ↓W_seq, go_sem, enc, cut_und _ _ hu]
theorem w417 : ∀ (x : Nd), sz x ≤ 1000000 → ∀ (lim d : Nat) (σ : Sto), lim ≤ d → σ.Und d → Ret lim d 45 [.agg (enc x)] σ (.agg (enc x)) σ := by
  refine Nd.ind fun kd c s0 s1 s2 s3 n mn mx l ih hsz lim d σ hlim hu => ?_
  have hl := len_le l
  simp only [sz] at hsz
  have hun := und_succ hu
  unfold Ret
  rw [WF_body (C := X) rfl Go.Proofs.Tryz.func45 rfl (by kernel_rfl)]; simp only [Go.Proofs.Tryz.results45]
  simp -implicitDefEqProofs -dsimp only [↓reduceIte, ↓W_seq, go_sem, enc, encs_len]
  refine loop_h (I := fun k a s => ∃ (i : Nat) (L : MV) (acc : List Nd), i + k = l.length ∧ a 21 = .int .i64 i ∧ a 20 = .int .i64 l.length ∧ a 1 = .ptr ⟨d, 1, σ.ct d⟩ 0 ∧ a 2 = .ptr ⟨d, 2, σ.ct d + 1⟩ 0 ∧ a 3 = .ptr ⟨d, 3, σ.ct d + 1 + 1⟩ 0 ∧ s.ob ⟨d, 1, σ.ct d⟩ = some (enc (.mk kd c s0 s1 s2 s3 n mn mx l)) ∧
    (∃ z, s.ob ⟨d, 2, σ.ct d + 1⟩ = some z ∧ z.length = 10) ∧ s.ob ⟨d, 3, σ.ct d + 1 + 1⟩ = some [.int .i64 kd, .int .u8 c, .int .u64 s0, .int .u64 s1, .int .u64 s2, .int .u64 s3, .int .i64 n, .int .i64 mn, .int .i64 mx, L] ∧ Own s d L acc ∧ acc ++ l.drop i = l ∧ s.cut d = σ ∧ s.Und (d + 1)) ?_ l.length _ _ ?_
  · rintro k a s ⟨i, L, acc, hk, h21, h20, h1, h2, h3, o1, ⟨z, o2, oz⟩, o3, hO, hc, hs, hs2⟩
    have hal : acc.length = i := by
      have := congrArg List.length hc
      simp at this; omega
    by_cases hi : i < l.length
    · have e1 : ((i : Int) < (l.length : Int)) := by omega
      have e2 : l[i]? = some l[i] := List.getElem?_eq_getElem hi
      have hm := List.getElem_mem hi
      have hy := sz_le l _ hm
      simp -implicitDefEqProofs -dsimp only [↓reduceIte, ↓W_seq, go_sem, enc, e1, h21, h20]
      rw [D_dr (by kernel_rfl) rfl]
      simp -implicitDefEqProofs -dsimp only [↓reduceIte, ↓W_seq, go_sem, enc, e1, e2, h21, h20, h1, h2, h3, o1, o2, o3, encs_at]
      refine (ih l[i] hm (by omega) (d + 1) (d + 1) _ (Nat.le_refl _) hs2).wh ?_
      obtain ⟨v', s', q1, q2, q3, q4, q5⟩ := app_own (P := X.P) (t := 34) (ys := [l[i]]) (tk := .no) slc_34 hO (by simp; omega) hlim hs2
      simp only [encs] at q1
      simp -implicitDefEqProofs -dsimp only [↓reduceIte, ↓W_seq, go_sem, enc, e1, e2, h21, h20, h1, h2, h3, o1, o2, o3, encs_at, q1, own_cells q2, q5]
      refine ⟨k - 1, by omega, i + 1, v', acc ++ [l[i]], by omega, by rw [wr64 _ (by omega) (by omega)]; rfl, ⟨z, rfl, oz⟩, rfl, own_set q2 _ _, ?_, by rw [q3]; exact hs, by rw [u_mine]; exact q4⟩
      rw [List.append_assoc, List.singleton_append, ← List.drop_eq_getElem_cons hi, hc]
    · have e1 : ¬ ((i : Int) < (l.length : Int)) := by omega
      rw [List.drop_eq_nil_of_le (by omega), List.append_nil] at hc
      subst hc
      simp -implicitDefEqProofs -dsimp only [↓reduceIte, ↓W_seq, go_sem, enc, e1, h21, h20, h2, h3, o3, o2, oz, own_frz hO]
      rw [putC_whole _ _ (by simp [oz])]
      simp -implicitDefEqProofs -dsimp only [↓reduceIte, ↓W_seq, go_sem, enc, own_frz hO, hs]
  · refine ⟨0, .sl .nil [], [], Nat.zero_add _, ?_⟩
    simp -implicitDefEqProofs -dsimp only [↓reduceIte, ↓W_seq, go_sem, enc, cut_und _ _ hu, u_tick, u_mine, hun]
    exact ⟨⟨_, rfl, rfl⟩, .inl ⟨rfl, rfl⟩⟩
end Go.Proofs.Tryz.E
