/- Walks: what the functions compute. Walks: what the functions compute. -/
import Derived.Test.YtnlnlcapbolibaaGreatDoorWA2
set_option linter.unusedVariables false
set_option linter.unusedSimpArgs false
/- Few nodes; the same tree, as the package has it. -/
namespace Go.Proofs.Tryz.E
open Go.Mv
set_option maxHeartbeats 4000000
set_option maxRecDepth 20000
mutual
/-- How many nodes are left. -/
def bnd : Nd → Int → Int → Int
  | .mk _ _ _ _ _ _ _ _ _ l, deep, left => if deep = 0 then 0 else let r := bnds l deep (left - 1); if r ≤ 0 then 0 else r
def bnds : List Nd → Int → Int → Int
  | [], _, left => left
  | x :: l, deep, left => if left ≤ 0 then 0 else bnds l deep (bnd x (deep - 1) left)
end
theorem bnds_at {l : List Nd} {i : Nat} (h : i < l.length) (deep left : Int) : bnds (l.drop i) deep left = if left ≤ 0 then 0 else bnds (l.drop (i + 1)) deep (bnd l[i] (deep - 1) left) := by rw [List.drop_eq_getElem_cons h, bnds]
theorem bnds_le0 (deep left : Int) (h : left ≤ 0) : ∀ l, bnds l deep left ≤ 0
  | [] => by simpa [bnds] using h
  | x :: l => by simp [bnds, h]
mutual
theorem bnd_sz : ∀ (x : Nd) (deep left : Int), 0 < bnd x deep left → (sz x : Int) + bnd x deep left ≤ left
  | .mk _ _ _ _ _ _ _ _ _ l, deep, left, h => by
    simp only [bnd] at h ⊢
    by_cases h0 : deep = 0
    · rw [if_pos h0] at h; exact absurd h (Int.lt_irrefl 0)
    rw [if_neg h0] at h ⊢
    by_cases h1 : bnds l deep (left - 1) ≤ 0
    · simp only [if_pos h1] at h; exact absurd h (Int.lt_irrefl 0)
    simp only [if_neg h1] at h ⊢
    have := bnds_sz l deep (left - 1) h
    simp only [sz]
    omega
theorem bnds_sz : ∀ (l : List Nd) (deep left : Int), 0 < bnds l deep left → (szs l : Int) + bnds l deep left ≤ left
  | [], _, left, h => by simp [bnds, szs]
  | x :: l, deep, left, h => by
    simp only [bnds] at h ⊢
    by_cases h0 : left ≤ 0
    · rw [if_pos h0] at h; exact absurd h (Int.lt_irrefl 0)
    rw [if_neg h0] at h ⊢
    have h1 := bnds_sz l deep _ h
    have h2 : 0 < bnd x (deep - 1) left := by
      rcases Int.lt_or_le 0 (bnd x (deep - 1) left) with q | q
      · exact q
      · have := bnds_le0 deep _ q l; omega
    have h3 := bnd_sz x (deep - 1) left h2
    simp only [szs]
    omega
end
theorem bnd_rng (x : Nd) (deep left : Int) : 0 ≤ bnd x deep left ∧ bnd x deep left ≤ (if 0 ≤ left then left else 0) := by
  have h0 : 0 ≤ bnd x deep left := by
    cases x
    simp only [bnd]
    split
    · exact Int.le_refl _
    · split <;> omega
  refine ⟨h0, ?_⟩
  rcases Int.lt_or_le 0 (bnd x deep left) with q | q
  · have := bnd_sz x deep left q
    split <;> omega
  · split <;> omega
theorem w416 : ∀ (x : Nd) (deep left : Int), 0 ≤ deep → deep ≤ 40 → 0 ≤ left → left ≤ 400 → ∀ (lim d : Nat) (σ : Sto), lim ≤ d → σ.Und d → Ret lim d 14 [.agg (enc x), .int .i64 deep, .int .i64 left] σ (.int .i64 (bnd x deep left)) σ := by
  refine Nd.ind fun kd c s0 s1 s2 s3 n mn mx l ih deep left hd hd2 hl hl2 lim d σ hlim hu => ?_
  have hun := und_succ hu
  have y1 := wr64 (left - 1) (by omega) (by omega)
  unfold Ret
  simp only [bnd]
  rw [WF_body (C := X) rfl Go.Proofs.Tryz.func14 rfl (by kernel_rfl)]; simp only [Go.Proofs.Tryz.results14]
  by_cases h0 : deep = 0
  · subst h0
    simp -implicitDefEqProofs -dsimp only [↓reduceIte, ↓W_seq, go_sem, WR_nil, evNews, Nat.reduceEqDiff, Nat.reduceAdd, Nat.reduceMul, Nat.reduceLeDiff, Nat.reduceLT, Int.cast_ofNat_Int, Int.reduceBNe, Int.reduceToNat, Int.reduceLT, Int.reduceLE, Int.reduceAdd, Int.reduceNeg, Int.reduceEq, reduceCtorEq, enc, y1, beq_self_eq_true, cut_und _ _ hu]
  have y2 := wr64 (deep - 1) (by omega) (by omega)
  simp -implicitDefEqProofs -dsimp only [↓reduceIte, ↓W_seq, go_sem, WR_nil, evNews, Nat.reduceEqDiff, Nat.reduceAdd, Nat.reduceMul, Nat.reduceLeDiff, Nat.reduceLT, Int.cast_ofNat_Int, Int.reduceBNe, Int.reduceToNat, Int.reduceLT, Int.reduceLE, Int.reduceAdd, Int.reduceNeg, Int.reduceEq, reduceCtorEq, enc, y1, beq_ne h0, h0, encs_len, Bool.false_eq_true]
  refine loop_h (I := fun k a s => ∃ (i : Nat) (m : Int), i + k = l.length ∧ a 15 = .int .i64 i ∧ a 14 = .int .i64 l.length ∧ a 1 = .int .i64 deep ∧ a 2 = .int .i64 m ∧ a 3 = .ptr ⟨d, 3, σ.ct d⟩ 0 ∧ s.ob ⟨d, 3, σ.ct d⟩ = some (enc (.mk kd c s0 s1 s2 s3 n mn mx l)) ∧ -1 ≤ m ∧ m + i ≤ 400 ∧ bnds (l.drop i) deep m = bnds l deep (left - 1) ∧ s.cut d = σ ∧ s.Und (d + 1)) ?_ l.length _ _ ?_
  · rintro k a s ⟨i, m, hk, h15, h14, h1, h2, h3, o3, hm1, hm2, hq, hs, hs2⟩
    by_cases hi : i < l.length
    · have e1 : ((i : Int) < (l.length : Int)) := by omega
      have e2 : l[i]? = some l[i] := List.getElem?_eq_getElem hi
      have hm := List.getElem_mem hi
      rw [bnds_at hi] at hq
      by_cases hm0 : m ≤ 0
      · rw [if_pos hm0] at hq
        simp -implicitDefEqProofs -dsimp only [↓reduceIte, ↓W_seq, go_sem, WR_nil, evNews, Nat.reduceEqDiff, Nat.reduceAdd, Nat.reduceMul, Nat.reduceLeDiff, Nat.reduceLT, Int.cast_ofNat_Int, Int.reduceBNe, Int.reduceToNat, Int.reduceLT, Int.reduceLE, Int.reduceAdd, Int.reduceNeg, Int.reduceEq, reduceCtorEq, enc, e1, h15, h14, h1, h2, h3, hm0, ← hq, hs]
      · rw [if_neg hm0] at hq
        simp -implicitDefEqProofs -dsimp only [↓reduceIte, ↓W_seq, go_sem, WR_nil, evNews, Nat.reduceEqDiff, Nat.reduceAdd, Nat.reduceMul, Nat.reduceLeDiff, Nat.reduceLT, Int.cast_ofNat_Int, Int.reduceBNe, Int.reduceToNat, Int.reduceLT, Int.reduceLE, Int.reduceAdd, Int.reduceNeg, Int.reduceEq, reduceCtorEq, enc, e1, e2, h15, h14, h1, h2, h3, o3, hm0, y2, encs_at]
        refine (ih l[i] hm (deep - 1) m (by omega) (by omega) (by omega) (by omega) lim (d + 1) _ (by omega) hs2).wh ?_
        have hr := bnd_rng l[i] (deep - 1) m
        rw [if_pos (by omega)] at hr
        simp -implicitDefEqProofs -dsimp only [↓reduceIte, ↓W_seq, go_sem, WR_nil, evNews, Nat.reduceEqDiff, Nat.reduceAdd, Nat.reduceMul, Nat.reduceLeDiff, Nat.reduceLT, Int.cast_ofNat_Int, Int.reduceBNe, Int.reduceToNat, Int.reduceLT, Int.reduceLE, Int.reduceAdd, Int.reduceNeg, Int.reduceEq, reduceCtorEq, enc, h15, h14, h1, h2, h3]
        have hi4 : bnd l[i] (deep - 1) m + ((i : Int) + 1) ≤ 400 := by
          rcases Int.lt_or_le 0 (bnd l[i] (deep - 1) m) with q | q
          · have := bnd_sz l[i] (deep - 1) m q
            have := sz_pos l[i]
            omega
          · omega
        exact ⟨k - 1, by omega, i + 1, _, by omega, by rw [wr64 _ (by omega) (by omega)]; rfl, rfl, by rw [o3, enc], by omega, by omega, hq, hs, hs2⟩
    · have e1 : ¬ ((i : Int) < (l.length : Int)) := by omega
      rw [List.drop_eq_nil_of_le (by omega), bnds] at hq
      simp -implicitDefEqProofs -dsimp only [↓reduceIte, ↓W_seq, go_sem, WR_nil, evNews, Nat.reduceEqDiff, Nat.reduceAdd, Nat.reduceMul, Nat.reduceLeDiff, Nat.reduceLT, Int.cast_ofNat_Int, Int.reduceBNe, Int.reduceToNat, Int.reduceLT, Int.reduceLE, Int.reduceAdd, Int.reduceNeg, Int.reduceEq, reduceCtorEq, enc, e1, h15, h14, h1, h2, h3, hs, ← hq]
      refine congrArg _ ?_
      rw [if_neg h0]
      split <;> split <;> omega
  · refine ⟨0, left - 1, Nat.zero_add _, ?_⟩
    simp -implicitDefEqProofs -dsimp only [↓reduceIte, ↓W_seq, go_sem, WR_nil, evNews, Nat.reduceEqDiff, Nat.reduceAdd, Nat.reduceMul, Nat.reduceLeDiff, Nat.reduceLT, Int.cast_ofNat_Int, Int.reduceBNe, Int.reduceToNat, Int.reduceLT, Int.reduceLE, Int.reduceAdd, Int.reduceNeg, Int.reduceEq, reduceCtorEq, enc, cut_und _ _ hu, u_tick, u_mine, hun, List.drop_zero]
    omega
theorem w410 (x : Nd) (lim d : Nat) (σ : Sto) (hlim : lim ≤ d) (hu : σ.Und d) : Ret lim d 6 [.agg (enc x)] σ (.bool (decide (0 < bnd x 40 400))) σ := by
  have hun := und_succ hu
  unfold Ret
  obtain ⟨kd, c, s0, s1, s2, s3, n, mn, mx, l⟩ := x
  rw [WF_body (C := X) rfl Go.Proofs.Tryz.func6 rfl (by kernel_rfl)]; simp only [Go.Proofs.Tryz.results6]
  simp -implicitDefEqProofs -dsimp only [↓reduceIte, ↓W_seq, go_sem, WR_nil, evNews, Nat.reduceEqDiff, Nat.reduceAdd, Nat.reduceMul, Nat.reduceLeDiff, Nat.reduceLT, Int.cast_ofNat_Int, Int.reduceBNe, Int.reduceToNat, Int.reduceLT, Int.reduceLE, Int.reduceAdd, Int.reduceNeg, Int.reduceEq, reduceCtorEq, enc]
  refine (w416 (.mk kd c s0 s1 s2 s3 n mn mx l) 40 400 (by omega) (by omega) (by omega) (by omega) lim (d + 1) _ (by omega) (by simp only [u_tick, u_mine]; exact hun)).wh ?_
  simp -implicitDefEqProofs -dsimp only [↓reduceIte, ↓W_seq, go_sem, WR_nil, evNews, Nat.reduceEqDiff, Nat.reduceAdd, Nat.reduceMul, Nat.reduceLeDiff, Nat.reduceLT, Int.cast_ofNat_Int, Int.reduceBNe, Int.reduceToNat, Int.reduceLT, Int.reduceLE, Int.reduceAdd, Int.reduceNeg, Int.reduceEq, reduceCtorEq, enc, cut_und _ _ hu]
theorem w417 : ∀ (x : Nd), sz x ≤ 1000000 → ∀ (lim d : Nat) (σ : Sto), lim ≤ d → σ.Und d → Ret lim d 8 [.agg (enc x)] σ (.agg (enc x)) σ := by
  refine Nd.ind fun kd c s0 s1 s2 s3 n mn mx l ih hsz lim d σ hlim hu => ?_
  have hl := len_le l
  simp only [sz] at hsz
  have hun := und_succ hu
  unfold Ret
  rw [WF_body (C := X) rfl Go.Proofs.Tryz.func8 rfl (by kernel_rfl)]; simp only [Go.Proofs.Tryz.results8]
  simp -implicitDefEqProofs -dsimp only [↓reduceIte, ↓W_seq, go_sem, WR_nil, evNews, Nat.reduceEqDiff, Nat.reduceAdd, Nat.reduceMul, Nat.reduceLeDiff, Nat.reduceLT, Int.cast_ofNat_Int, Int.reduceBNe, Int.reduceToNat, Int.reduceLT, Int.reduceLE, Int.reduceAdd, Int.reduceNeg, Int.reduceEq, reduceCtorEq, enc, encs_len]
  refine loop_h (I := fun k a s => ∃ (i : Nat) (L : MV) (acc : List Nd), i + k = l.length ∧ a 21 = .int .i64 i ∧ a 20 = .int .i64 l.length ∧ a 1 = .ptr ⟨d, 1, σ.ct d⟩ 0 ∧ a 2 = .ptr ⟨d, 2, σ.ct d + 1⟩ 0 ∧ a 3 = .ptr ⟨d, 3, σ.ct d + 1 + 1⟩ 0 ∧ s.ob ⟨d, 1, σ.ct d⟩ = some (enc (.mk kd c s0 s1 s2 s3 n mn mx l)) ∧
    (∃ z, s.ob ⟨d, 2, σ.ct d + 1⟩ = some z ∧ z.length = 10) ∧ s.ob ⟨d, 3, σ.ct d + 1 + 1⟩ = some [.int .i64 kd, .int .u8 c, .int .u64 s0, .int .u64 s1, .int .u64 s2, .int .u64 s3, .int .i64 n, .int .i64 mn, .int .i64 mx, L] ∧ Own s d L acc ∧ acc ++ l.drop i = l ∧ s.cut d = σ ∧ s.Und (d + 1)) ?_ l.length _ _ ?_
  · rintro k a s ⟨i, L, acc, hk, h21, h20, h1, h2, h3, o1, ⟨z, o2, oz⟩, o3, hO, hc, hs, hs2⟩
    have hal : acc.length = i := by
      have := congrArg List.length hc
      simp at this; omega
    by_cases hi : i < l.length
    · have e1 : ((i : Int) < (l.length : Int)) := by omega
      have e2 : l[i]? = some l[i] := List.getElem?_eq_getElem hi
      have hm := List.getElem_mem hi
      have hy := sz_le l _ hm
      simp -implicitDefEqProofs -dsimp only [↓reduceIte, ↓W_seq, go_sem, WR_nil, evNews, Nat.reduceEqDiff, Nat.reduceAdd, Nat.reduceMul, Nat.reduceLeDiff, Nat.reduceLT, Int.cast_ofNat_Int, Int.reduceBNe, Int.reduceToNat, Int.reduceLT, Int.reduceLE, Int.reduceAdd, Int.reduceNeg, Int.reduceEq, reduceCtorEq, enc, e1, h21, h20]
      rw [D_dr (by kernel_rfl) rfl]
      simp -implicitDefEqProofs -dsimp only [↓reduceIte, ↓W_seq, go_sem, WR_nil, evNews, Nat.reduceEqDiff, Nat.reduceAdd, Nat.reduceMul, Nat.reduceLeDiff, Nat.reduceLT, Int.cast_ofNat_Int, Int.reduceBNe, Int.reduceToNat, Int.reduceLT, Int.reduceLE, Int.reduceAdd, Int.reduceNeg, Int.reduceEq, reduceCtorEq, enc, e1, e2, h21, h20, h1, h2, h3, o1, o2, o3, encs_at]
      refine (ih l[i] hm (by omega) (d + 1) (d + 1) _ (Nat.le_refl _) hs2).wh ?_
      obtain ⟨v', s', q1, q2, q3, q4, q5⟩ := app_own (P := X.P) (t := 34) (ys := [l[i]]) (tk := .no) slc_34 hO (by simp; omega) hlim hs2
      simp only [encs] at q1
      simp -implicitDefEqProofs -dsimp only [↓reduceIte, ↓W_seq, go_sem, WR_nil, evNews, Nat.reduceEqDiff, Nat.reduceAdd, Nat.reduceMul, Nat.reduceLeDiff, Nat.reduceLT, Int.cast_ofNat_Int, Int.reduceBNe, Int.reduceToNat, Int.reduceLT, Int.reduceLE, Int.reduceAdd, Int.reduceNeg, Int.reduceEq, reduceCtorEq, enc, e1, e2, h21, h20, h1, h2, h3, o1, o2, o3, encs_at, q1, own_cells q2, q5]
      refine ⟨k - 1, by omega, i + 1, v', acc ++ [l[i]], by omega, by rw [wr64 _ (by omega) (by omega)]; rfl, ⟨z, rfl, oz⟩, rfl, own_set q2 _ _, ?_, by rw [q3]; exact hs, by rw [u_mine]; exact q4⟩
      rw [List.append_assoc, List.singleton_append, ← List.drop_eq_getElem_cons hi, hc]
    · have e1 : ¬ ((i : Int) < (l.length : Int)) := by omega
      rw [List.drop_eq_nil_of_le (by omega), List.append_nil] at hc
      subst hc
      simp -implicitDefEqProofs -dsimp only [↓reduceIte, ↓W_seq, go_sem, WR_nil, evNews, Nat.reduceEqDiff, Nat.reduceAdd, Nat.reduceMul, Nat.reduceLeDiff, Nat.reduceLT, Int.cast_ofNat_Int, Int.reduceBNe, Int.reduceToNat, Int.reduceLT, Int.reduceLE, Int.reduceAdd, Int.reduceNeg, Int.reduceEq, reduceCtorEq, enc, e1, h21, h20, h2, h3, o3, o2, oz, own_frz hO]
      rw [putC_whole _ _ (by simp [oz])]
      simp -implicitDefEqProofs -dsimp only [↓reduceIte, ↓W_seq, go_sem, WR_nil, evNews, Nat.reduceEqDiff, Nat.reduceAdd, Nat.reduceMul, Nat.reduceLeDiff, Nat.reduceLT, Int.cast_ofNat_Int, Int.reduceBNe, Int.reduceToNat, Int.reduceLT, Int.reduceLE, Int.reduceAdd, Int.reduceNeg, Int.reduceEq, reduceCtorEq, enc, own_frz hO, hs]
  · refine ⟨0, .sl .nil [], [], Nat.zero_add _, ?_⟩
    simp -implicitDefEqProofs -dsimp only [↓reduceIte, ↓W_seq, go_sem, WR_nil, evNews, Nat.reduceEqDiff, Nat.reduceAdd, Nat.reduceMul, Nat.reduceLeDiff, Nat.reduceLT, Int.cast_ofNat_Int, Int.reduceBNe, Int.reduceToNat, Int.reduceLT, Int.reduceLE, Int.reduceAdd, Int.reduceNeg, Int.reduceEq, reduceCtorEq, enc, cut_und _ _ hu, u_tick, u_mine, hun]
    exact ⟨⟨_, rfl, rfl⟩, .inl ⟨rfl, rfl⟩⟩
end Go.Proofs.Tryz.E
set_option linter.unusedVariables false
set_option linter.unusedSimpArgs false
/- A Builder: what it holds; what a call leaves as it was. -/
namespace Go.Proofs.Tryz.E
open Go.Mv
set_option maxHeartbeats 4000000
set_option maxRecDepth 20000
def noNl (t : List UInt8) : Prop := ∀ x ∈ t, x ≠ 10
theorem noNl_app {a b : List UInt8} (h : noNl a) (k : noNl b) : noNl (a ++ b) := fun x hx => (List.mem_append.1 hx).elim (h x) (k x)
/-- A call comes to a text without a line feed, of so many bytes at most; the store is as it was. -/
def RetT (lim d : Nat) (f : FuncId) (args : List MV) (σ : Sto) (n : Nat) : Prop := WF X lim d f args σ fun v s => (∃ t, v = .str t ∧ noNl t ∧ t.length ≤ n) ∧ s = σ
theorem RetT.wh {lim d : Nat} {f : FuncId} {args : List MV} {σ : Sto} {n : Nat} (h : RetT lim d f args σ n) {P : MV → Sto → Prop} (hq : ∀ t, noNl t → t.length ≤ n → P (.str t) σ) : WFh X lim d f args σ (TagF P) :=
  WF.mono h fun v s e => by obtain ⟨⟨t, rfl, h1, h2⟩, rfl⟩ := e; exact hq t h1 h2
/-- What a Builder holds. -/
def BS (σ : Sto) (l : Mv.Loc) (t : List UInt8) : Prop := ∃ p tk, σ.ob l = some [p, .sl tk (bytesM t)] ∧ okA l p = true ∧ ((tk = .nil ∧ t = []) ∨ ∃ c, tk = .byt l.d c 5 ∧ t ≠ [] ∧ σ.ow l.d c = some (t.length, 1))
/-- Below a depth all but a Builder is as it was. -/
structure SB (d : Nat) (l : Mv.Loc) (σ s : Sto) : Prop where
  ob : ∀ l', l'.d < d → l' ≠ l → s.ob l' = σ.ob l'
  ow : ∀ k c, k < d → k ≠ l.d → s.ow k c = σ.ow k c
  ct : ∀ k, k < d → k ≠ l.d → s.ct k = σ.ct k
theorem SB.refl (d : Nat) (l : Mv.Loc) (σ : Sto) : SB d l σ σ := ⟨fun _ _ _ => rfl, fun _ _ _ _ => rfl, fun _ _ _ => rfl⟩
theorem SB.trans {d : Nat} {l : Mv.Loc} {a b c : Sto} (h : SB d l a b) (k : SB d l b c) : SB d l a c := ⟨fun l' h1 h2 => (k.ob l' h1 h2).trans (h.ob l' h1 h2), fun q c h1 h2 => (k.ow q c h1 h2).trans (h.ow q c h1 h2), fun q h1 h2 => (k.ct q h1 h2).trans (h.ct q h1 h2)⟩
theorem SB.le {d d' : Nat} {l : Mv.Loc} {a b : Sto} (h : SB d l a b) (hd : d' ≤ d) : SB d' l a b := ⟨fun l' h1 h2 => h.ob l' (by omega) h2, fun q c h1 h2 => h.ow q c (by omega) h2, fun q h1 h2 => h.ct q (by omega) h2⟩
theorem SB.set {d t c : Nat} {l : Mv.Loc} {a b : Sto} (h : SB d l a b) (cs : List MV) : SB d l a (b.set ⟨d, t, c⟩ cs) :=
  ⟨fun l' h1 h2 => by simp only [Sto.set]; rw [if_neg (by rintro rfl; exact Nat.lt_irrefl _ h1)]; exact h.ob l' h1 h2, h.ow, h.ct⟩
theorem SB.tick {d : Nat} {l : Mv.Loc} {a b : Sto} (h : SB d l a b) : SB d l a (b.tick d) :=
  ⟨h.ob, h.ow, fun k h1 h2 => by simp only [Sto.tick, upd]; rw [if_neg (by omega)]; exact h.ct k h1 h2⟩
theorem SB.own {d c : Nat} {l : Mv.Loc} {a b : Sto} (h : SB d l a b) (v : Option (Nat × Nat)) : SB d l a (b.own d c v) :=
  ⟨h.ob, fun k c' h1 h2 => by simp only [Sto.own]; rw [if_neg (by omega)]; exact h.ow k c' h1 h2, h.ct⟩
theorem SB.cut {d : Nat} {l : Mv.Loc} {a b : Sto} (h : SB d l a b) : SB d l a (b.cut d) :=
  ⟨fun l' h1 h2 => by simp only [Sto.cut, if_pos h1]; exact h.ob l' h1 h2, fun k c h1 h2 => by simp only [Sto.cut, if_pos h1]; exact h.ow k c h1 h2, fun k h1 h2 => by simp only [Sto.cut, if_pos h1]; exact h.ct k h1 h2⟩
theorem SB.back {d : Nat} {l : Mv.Loc} {σ s : Sto} (h : SB d l σ s) (hu : σ.Und d) (hl : d ≤ l.d) : s.cut d = σ := by
  refine Sto.ext' (fun l' => ?_) (fun k c => ?_) fun k => ?_
  · simp only [Sto.cut]
    split
    · rename_i h1; exact h.ob l' h1 (by rintro rfl; omega)
    · rw [hu.ob l' (by omega)]
  · simp only [Sto.cut]
    split
    · rename_i h1; exact h.ow k c h1 (by omega)
    · rw [hu.ow k c (by omega)]
  · simp only [Sto.cut]
    split
    · rename_i h1; exact h.ct k h1 (by omega)
    · rw [hu.ct k (by omega)]
theorem und_cut (s : Sto) (d : Nat) : (s.cut d).Und d := Und.cut s d
theorem BS.cut {s : Sto} {l : Mv.Loc} {t : List UInt8} {d : Nat} (h : BS s l t) (hl : l.d < d) : BS (s.cut d) l t := by
  obtain ⟨p, tk, h1, h2, h3⟩ := h
  refine ⟨p, tk, by simp only [Sto.cut, if_pos hl]; exact h1, h2, h3.imp id ?_⟩
  rintro ⟨c, e1, e2, e3⟩
  exact ⟨c, e1, e2, by simp only [Sto.cut, if_pos hl]; exact e3⟩
theorem BS.set {s : Sto} {l : Mv.Loc} {t : List UInt8} (h : BS s l t) {l' : Mv.Loc} (hl : l' ≠ l) (cs : List MV) : BS (s.set l' cs) l t := by
  obtain ⟨p, tk, h1, h2, h3⟩ := h
  exact ⟨p, tk, by simp only [Sto.set]; rw [if_neg (fun e => hl e.symm)]; exact h1, h2, h3⟩
theorem BS.tick {s : Sto} {l : Mv.Loc} {t : List UInt8} {d : Nat} (h : BS s l t) : BS (s.tick d) l t := h
theorem BS.own {s : Sto} {l : Mv.Loc} {t : List UInt8} {k c : Nat} {v : Option (Nat × Nat)} (h : BS s l t) (hk : k ≠ l.d) : BS (s.own k c v) l t := by
  obtain ⟨p, tk, h1, h2, h3⟩ := h
  refine ⟨p, tk, h1, h2, h3.imp id ?_⟩
  rintro ⟨c', e1, e2, e3⟩
  exact ⟨c', e1, e2, by simp only [Sto.own]; rw [if_neg (by omega)]; exact e3⟩
theorem okz_bytesM (t : List UInt8) : okz 1 (bytesM t) = true := by
  simp [okz, bytesM]
theorem bytesM_app (a b : List UInt8) : bytesM (a ++ b) = bytesM a ++ bytesM b := by simp [bytesM]
theorem bapp_BS {lim : Nat} {σ : Sto} {l : Mv.Loc} {t x : List UInt8} (h : BS σ l t) (hlim : lim ≤ l.d) (hb : t.length + x.length ≤ 140737488355328) :
    ∃ p tk v s', σ.ob l = some [p, .sl tk (bytesM t)] ∧ okA l p = true ∧ bapp lim l.d 5 σ tk (bytesM t) x = some (v, s') ∧ BS (s'.set l [.ptr l 0, v]) l (t ++ x) ∧ ∀ d, SB d l σ (s'.set l [.ptr l 0, v]) := by
  obtain ⟨p, tk, h1, h2, h3⟩ := h
  have hoA : okA l (.ptr l 0) = true := by simp [okA]
  have hst : ∀ (s' : Sto) (v : MV), s'.ob = σ.ob → (∀ k c, k ≠ l.d → s'.ow k c = σ.ow k c) → (∀ k, k ≠ l.d → s'.ct k = σ.ct k) → ∀ d, SB d l σ (s'.set l [.ptr l 0, v]) := fun s' v e1 e2 e3 d =>
    ⟨fun l' _ hl' => by simp only [Sto.set]; rw [if_neg hl', e1], fun k c _ hk => e2 k c hk, fun k _ hk => e3 k hk⟩
  unfold bapp
  by_cases hx : x = []
  · subst hx
    refine ⟨p, tk, _, _, h1, h2, by rw [if_pos rfl], ?_, hst σ _ rfl (fun _ _ _ => rfl) (fun _ _ => rfl)⟩
    rw [List.append_nil]
    exact ⟨.ptr l 0, tk, by simp [Sto.set], hoA, h3⟩
  · rcases h3 with ⟨rfl, rfl⟩ | ⟨c, rfl, h4, h5⟩
    · have hc : okz 1 (bytesM []) = true ∧ (bytesM []).length + x.length ≤ 140737488355328 := ⟨rfl, by simpa [bytesM] using hb⟩
      refine ⟨p, .nil, .sl (.byt l.d (σ.ct l.d) 5) (bytesM x), (σ.own l.d (σ.ct l.d) (some (x.length, 1))).tick l.d, h1, h2, by rw [if_neg hx, if_pos hc]; exact if_pos rfl, ?_, hst _ _ rfl (fun k c hk => by simp only [Sto.tick, Sto.own]; rw [if_neg (by omega)]) (fun k hk => by simp only [Sto.tick, Sto.own, upd]; rw [if_neg hk])⟩
      exact ⟨.ptr l 0, _, by simp [Sto.set], hoA, .inr ⟨σ.ct l.d, rfl, by simpa using hx, by simp [Sto.set, Sto.tick, Sto.own]⟩⟩
    · have hc : okz 1 (bytesM t) = true ∧ (bytesM t).length + x.length ≤ 140737488355328 := ⟨okz_bytesM t, by rw [bytesM_len]; exact hb⟩
      have hc2 : lim ≤ l.d ∧ 5 = 5 ∧ σ.ow l.d c = some ((bytesM t).length, 1) := ⟨hlim, rfl, by rw [bytesM_len]; exact h5⟩
      refine ⟨p, .byt l.d c 5, .sl (.byt l.d c 5) (bytesM t ++ bytesM x), σ.own l.d c (some ((bytesM t).length + x.length, 1)), h1, h2, by rw [if_neg hx, if_pos hc]; exact if_pos hc2, ?_, hst _ _ rfl (fun k c hk => by simp only [Sto.own]; rw [if_neg (by omega)]) (fun k hk => rfl)⟩
      exact ⟨.ptr l 0, _, by simp only [Sto.set, if_true, bytesM_app], hoA, .inr ⟨c, rfl, by simp [h4], by simp [Sto.set, Sto.own, bytesM_len]⟩⟩
theorem SB.und {d e : Nat} {l : Mv.Loc} {σ s : Sto} (h : ∀ d, SB d l σ s) (hu : σ.Und e) (hl : l.d < e) : s.Und e :=
  ⟨fun l' hl' => by rw [(h (l'.d + 1)).ob l' (Nat.lt_succ_self _) (by rintro rfl; omega)]; exact hu.ob l' hl', fun k c hk => by rw [(h (k + 1)).ow k c (Nat.lt_succ_self _) (by omega)]; exact hu.ow k c hk, fun k hk => by rw [(h (k + 1)).ct k (Nat.lt_succ_self _) (by omega)]; exact hu.ct k hk⟩
/-- WriteString. -/
theorem w501 {lim d : Nat} {σ : Sto} {l : Mv.Loc} {t x : List UInt8} (h : BS σ l t) (hlim : lim ≤ l.d) (hl : l.d ≤ d) (hB : isB l = true) (hu : σ.Und (d + 1)) (hb : t.length + x.length ≤ 140737488355328) {P : MV → Sto → Prop} (hq : ∀ s v, BS s l (t ++ x) → SB (d + 1) l σ s → s.Und (d + 1) → P v s) : WFh X lim (d + 1) 44 [.ptr l 0, .str x] σ (TagF P) := by
  obtain ⟨p, tk, v, s', h1, h2, h3, h4, h5⟩ := bapp_BS h hlim hb
  refine ⟨1, (.tup [.int .i64 x.length, .junk], s'.set l [.ptr l 0, v]), ?_, hq _ _ h4 (h5 _) (SB.und (d := d) h5 hu (by omega))⟩
  show wstrP lim (d + 1) [.ptr l 0, .str x] σ = _
  simp only [wstrP, hlim, hl, hB, and_self, if_true, h1, h2, h3, Option.map_some]
/-- WriteByte. -/
theorem w502 {lim d : Nat} {σ : Sto} {l : Mv.Loc} {t : List UInt8} {c : Int} (hc : 0 ≤ c ∧ c < 256) (h : BS σ l t) (hlim : lim ≤ l.d) (hl : l.d ≤ d) (hB : isB l = true) (hu : σ.Und (d + 1)) (hb : t.length + 1 ≤ 140737488355328) {P : MV → Sto → Prop} (hq : ∀ s v, BS s l (t ++ [UInt8.ofNat c.toNat]) → SB (d + 1) l σ s → s.Und (d + 1) → P v s) : WFh X lim (d + 1) 46 [.ptr l 0, .int .u8 c] σ (TagF P) := by
  obtain ⟨p, tk, v, s', h1, h2, h3, h4, h5⟩ := bapp_BS (x := [UInt8.ofNat c.toNat]) h hlim hb
  refine ⟨1, (.junk, s'.set l [.ptr l 0, v]), ?_, hq _ _ h4 (h5 _) (SB.und (d := d) h5 hu (by omega))⟩
  show wbyteP lim (d + 1) [.ptr l 0, .int .u8 c] σ = _
  simp only [wbyteP, hlim, hl, hB, hc.1, hc.2, and_self, if_true, h1, h2, h3, Option.map_some]
theorem bytesOf_M : ∀ t : List UInt8, bytesOf (bytesM t) = some t
  | [] => rfl
  | b :: t => by
    have := bytesOf_M t
    simp only [bytesM, List.map_cons] at this ⊢
    simp only [bytesOf, this, Option.map_some, Int.toNat_natCast]
    simp
theorem inB_M : ∀ t : List UInt8, inB (bytesM t) = true
  | [] => rfl
  | b :: t => by
    have := inB_M t
    have hb := b.toNat_lt
    simp only [bytesM, List.map_cons] at this ⊢
    simp only [inB, this, Bool.and_true, decide_eq_true_eq]
    omega
/-- String. -/
theorem w503 {lim d : Nat} {σ : Sto} {l : Mv.Loc} {t : List UInt8} (h : BS σ l t) (hlim : lim ≤ l.d) (hl : l.d ≤ d) (hb : t.length ≤ 140737488355328) {P : MV → Sto → Prop} (hq : ∀ s, SB l.d l σ s → P (.str t) s) : WFh X lim (d + 1) 32 [.ptr l 0] σ (TagF P) := by
  obtain ⟨p, tk, h1, h2, ⟨rfl, rfl⟩ | ⟨c, rfl, h4, h5⟩⟩ := h
  · refine ⟨1, (.str [], σ), ?_, hq _ (SB.refl ..)⟩
    show bstrP lim (d + 1) [.ptr l 0] σ = _
    have h1' : σ.ob l = some [p, .sl .nil []] := h1
    simp only [bstrP, hlim, hl, and_self, if_true, h1']
  · refine ⟨1, (.str t, (σ.own l.d c none).set l [p, .sl .no (bytesM t)]), ?_, hq _ ⟨fun l' h6 h7 => by simp only [Sto.set, Sto.own]; rw [if_neg h7], fun k c' h6 h7 => by simp only [Sto.set, Sto.own]; rw [if_neg (by omega)], fun k _ _ => rfl⟩⟩
    show bstrP lim (d + 1) [.ptr l 0] σ = _
    simp only [bstrP, hlim, hl, and_self, if_true, h1, bytesOf_M, Nat.le_refl, ne_eq, h4, not_false_eq_true, okz_bytesM, inB_M, bytesM_len, hb, h5, true_and]
end Go.Proofs.Tryz.E
