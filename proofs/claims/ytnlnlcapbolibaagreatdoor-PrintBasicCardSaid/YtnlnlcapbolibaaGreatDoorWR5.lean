/- Walks: what the functions compute. Walks: what the functions compute. -/
import Derived.Test.YtnlnlcapbolibaaGreatDoorB7
import Derived.Test.YtnlnlcapbolibaaGreatDoorWB1
set_option linter.unusedVariables false
set_option linter.unusedSimpArgs false
/- Any text is read as a basic pattern, or refused: the program. -/
namespace Go.Proofs.Tryz.E
open Go.Mv
set_option maxHeartbeats 4000000
set_option maxRecDepth 20000
theorem hw_step {s : List UInt8} {k : Nat} {rec : Rd → Nd × Rd} (H : HB s k rec) (K : HW s k rec) (hs : s.length ≤ 100000) : HW s (k + 1) (seqB s rec (joinN []) (s.length + 1) true []) := fun r hb hr h9 hk lim d p σ hp hlim hu ho => w205 H K r hs hr hb h9 (by omega) p lim d hp hlim σ hu ho
theorem hw_par (s : List UInt8) (hs : s.length ≤ 100000) : ∀ k, HW s k (parB s (joinN []) k)
  | 0 => fun r hb hr h9 hk => by omega
  | k + 1 => hw_step (hb_par s (by decide) k) (hw_par s hs k) hs
theorem w204 (s : List UInt8) (hs : s.length ≤ 100000) (lim d : Nat) (hlim : lim ≤ d) (σ : Sto) (hu : σ.Und d) : Ret lim d 18 [.str s] σ (parseBV (parseB (joinN []) s)) σ := by
  have hun := und_succ hu
  have G := hb_par s (e := joinN []) (by decide) 10 ⟨0, 0, false⟩ rfl (by simp) (by simp) (by simp)
  have hw := hw_par s hs 10 ⟨0, 0, false⟩ rfl (by simp) (by simp) (by simp)
  unfold Ret parseBV
  rw [parseB_eq]
  rw [WF_body (C := X) rfl Go.Proofs.Tryz.func18 rfl (by kernel_rfl)]; simp only [Go.Proofs.Tryz.results18]
  simp -implicitDefEqProofs -dsimp only [↓reduceIte, ↓W_seq, go_sem, WR_nil, evNews, Nat.reduceEqDiff, Nat.reduceAdd, Nat.reduceMul, Nat.reduceLeDiff, Nat.reduceLT, Int.cast_ofNat_Int, Int.reduceBNe, Int.reduceToNat, Int.reduceLT, Int.reduceLE, Int.reduceAdd, Int.reduceNeg, Int.reduceEq, reduceCtorEq, enc]
  rw [show [MV.str s, MV.int .i64 0, MV.int .i64 0, MV.bool false] = encB s ⟨0, 0, false⟩ from rfl]
  refine (hw lim (d + 1) ⟨d, 9, σ.ct d + 1⟩ _ (Nat.lt_succ_self d) hlim ?_ ?_).wh ?_
  · simp only [u_tick, u_mine]; exact hun
  · simp only [go_sem, if_true]
  generalize parB s (joinN []) 10 ⟨0, 0, false⟩ = x at G
  obtain ⟨y, r⟩ := x
  have g2 := G.in'
  have hsz : sz y ≤ 1000000 := by have := G.sz'; simp only at this g2; omega
  simp only at g2 ⊢
  cases hbb : r.bad
  case true =>
    have hbd : encB s r = [.str s, .int .i64 r.at', .int .i64 r.g, .bool true] := by rw [encB, hbb]
    simp -implicitDefEqProofs -dsimp only [↓reduceIte, ↓W_seq, go_sem, WR_nil, evNews, Nat.reduceEqDiff, Nat.reduceAdd, Nat.reduceMul, Nat.reduceLeDiff, Nat.reduceLT, Int.cast_ofNat_Int, Int.reduceBNe, Int.reduceToNat, Int.reduceLT, Int.reduceLE, Int.reduceAdd, Int.reduceNeg, Int.reduceEq, reduceCtorEq, enc, hbd]
    rw [D_lx [.tmp 29] (by kernel_rfl) (by kernel_rfl)]; simp -implicitDefEqProofs -dsimp only [↓reduceIte, ↓W_seq, go_sem, WR_nil, evNews, Nat.reduceEqDiff, Nat.reduceAdd, Nat.reduceMul, Nat.reduceLeDiff, Nat.reduceLT, Int.cast_ofNat_Int, Int.reduceBNe, Int.reduceToNat, Int.reduceLT, Int.reduceLE, Int.reduceAdd, Int.reduceNeg, Int.reduceEq, reduceCtorEq, enc, List.takeWhile_cons, List.dropWhile_cons, List.takeWhile_nil, List.dropWhile_nil, isTail, evNews, List.mem_cons, List.not_mem_nil, or_false, false_or, not_false_eq_true, not_true_eq_false, decide_true, decide_false, Bool.not_true, Bool.not_false, if_true, if_false, forall_eq, forall_eq_or_imp, false_imp_iff, implies_true, ne_eq, ct_lt1, ct_lt2, ct_lt3, ct_lt4, ct_lt5, Bool.true_or]
    exact ⟨rfl, cut_und _ _ hu⟩
  case false =>
    have hgood := encB_good s r hbb
    by_cases hend : r.at' < s.length
    · have e1 : (r.at' : Int) < (s.length : Int) := by omega
      simp -implicitDefEqProofs -dsimp only [↓reduceIte, ↓W_seq, go_sem, WR_nil, evNews, Nat.reduceEqDiff, Nat.reduceAdd, Nat.reduceMul, Nat.reduceLeDiff, Nat.reduceLT, Int.cast_ofNat_Int, Int.reduceBNe, Int.reduceToNat, Int.reduceLT, Int.reduceLE, Int.reduceAdd, Int.reduceNeg, Int.reduceEq, reduceCtorEq, enc, hgood, e1]
      rw [D_lx [.tmp 29] (by kernel_rfl) (by kernel_rfl)]; simp -implicitDefEqProofs -dsimp only [↓reduceIte, ↓W_seq, go_sem, WR_nil, evNews, Nat.reduceEqDiff, Nat.reduceAdd, Nat.reduceMul, Nat.reduceLeDiff, Nat.reduceLT, Int.cast_ofNat_Int, Int.reduceBNe, Int.reduceToNat, Int.reduceLT, Int.reduceLE, Int.reduceAdd, Int.reduceNeg, Int.reduceEq, reduceCtorEq, enc, List.takeWhile_cons, List.dropWhile_cons, List.takeWhile_nil, List.dropWhile_nil, isTail, evNews, List.mem_cons, List.not_mem_nil, or_false, false_or, not_false_eq_true, not_true_eq_false, decide_true, decide_false, Bool.not_true, Bool.not_false, if_true, if_false, forall_eq, forall_eq_or_imp, false_imp_iff, implies_true, ne_eq, ct_lt1, ct_lt2, ct_lt3, ct_lt4, ct_lt5, hend, Bool.or_true]
      exact ⟨rfl, cut_und _ _ hu⟩
    · have e1 : ¬ (r.at' : Int) < (s.length : Int) := by omega
      simp -implicitDefEqProofs -dsimp only [↓reduceIte, ↓W_seq, go_sem, WR_nil, evNews, Nat.reduceEqDiff, Nat.reduceAdd, Nat.reduceMul, Nat.reduceLeDiff, Nat.reduceLT, Int.cast_ofNat_Int, Int.reduceBNe, Int.reduceToNat, Int.reduceLT, Int.reduceLE, Int.reduceAdd, Int.reduceNeg, Int.reduceEq, reduceCtorEq, enc, hgood, e1]
      refine (w12 y hsz lim (d + 1) _ (by omega) ?_).wh ?_
      · simp only [u_tick, u_mine]; exact hun
      cases formedB y
      · simp -implicitDefEqProofs -dsimp only [↓reduceIte, ↓W_seq, go_sem, WR_nil, evNews, Nat.reduceEqDiff, Nat.reduceAdd, Nat.reduceMul, Nat.reduceLeDiff, Nat.reduceLT, Int.cast_ofNat_Int, Int.reduceBNe, Int.reduceToNat, Int.reduceLT, Int.reduceLE, Int.reduceAdd, Int.reduceNeg, Int.reduceEq, reduceCtorEq, enc, z0, encs, cut_und _ _ hu, hend, Bool.or_false, Bool.or_self, Bool.false_eq_true]
      · simp -implicitDefEqProofs -dsimp only [↓reduceIte, ↓W_seq, go_sem, WR_nil, evNews, Nat.reduceEqDiff, Nat.reduceAdd, Nat.reduceMul, Nat.reduceLeDiff, Nat.reduceLT, Int.cast_ofNat_Int, Int.reduceBNe, Int.reduceToNat, Int.reduceLT, Int.reduceLE, Int.reduceAdd, Int.reduceNeg, Int.reduceEq, reduceCtorEq, enc, cut_und _ _ hu, hend, Bool.or_false, Bool.or_self, Bool.false_eq_true]
theorem parseB_sz (e : Nd) (he : sz e ≤ 1) (s : List UInt8) (hs : s.length ≤ 100000) : sz (parseB e s).1 ≤ 1000000 := by
  have G := hb_par s he 10 ⟨0, 0, false⟩ rfl (by simp) (by simp) (by simp)
  rw [parseB_eq]
  generalize parB s e 10 ⟨0, 0, false⟩ = x at G
  have g2 := G.in'
  have g3 := G.sz'
  simp only at g2 g3
  split
  · simp [sz_z0]
  · split
    · simp only; omega
    · simp [sz_z0]
theorem parseB_formed (e : Nd) (s : List UInt8) (h : (parseB e s).2.2 = 0) : formedB (parseB e s).1 = true := by
  rw [parseB_eq] at h ⊢
  split
  · rename_i h1; rw [if_pos h1] at h; cases h
  · rename_i h1
    rw [if_neg h1] at h
    split
    · assumption
    · rename_i h2; rw [if_neg h2] at h; cases h
theorem wakeB_err : (parseB (joinN []) [97, 42]).2.2 = 0 := by decide +kernel
theorem wakeB_kind : (parseB (joinN []) [97, 42]).1.kind = 10 := by decide +kernel
end Go.Proofs.Tryz.E
set_option linter.unusedVariables false
set_option linter.unusedSimpArgs false
/- A basic pattern, written. -/
namespace Go.Proofs.Tryz.E
open Go.Mv
set_option maxHeartbeats 4000000
set_option maxRecDepth 20000
def basY : Sty := ⟨[92, 40], [92, 41], [92, 123], [92, 125], [46, 91, 93, 42, 94, 36, 92]⟩
theorem basY_ok : OkY basY := by
  constructor <;> exact ⟨noNl_cons (by decide) (noNl_one (by decide)), by simp [basY]⟩
theorem w531 (lim d : Nat) (σ : Sto) (hu : σ.Und d) : Ret lim d 16 [] σ (.agg (encY basY)) σ := by
  unfold Ret
  rw [WF_body (C := X) rfl Go.Proofs.Tryz.func16 rfl (by kernel_rfl)]; simp only [Go.Proofs.Tryz.results16]
  simp -implicitDefEqProofs -dsimp only [↓reduceIte, ↓W_seq, go_sem, WR_nil, evNews, Nat.reduceEqDiff, Nat.reduceAdd, Nat.reduceMul, Nat.reduceLeDiff, Nat.reduceLT, Int.cast_ofNat_Int, Int.reduceBNe, Int.reduceToNat, Int.reduceLT, Int.reduceLE, Int.reduceAdd, Int.reduceNeg, Int.reduceEq, reduceCtorEq, enc, basY, cut_und _ _ hu]
/-- What Basic tells of a tree. -/
def BasV (x : Nd) (v : MV) : Prop :=
  (formedB x = false ∧ v = printV [] 1) ∨ (formedB x = true ∧ v = printV [] 10) ∨
  ∃ t, formedB x = true ∧ v = printV t 0 ∧ noNl t ∧ t.length ≤ 300 * sz x ∧ (parseB z0 t).2.2 = 0 ∧ sameB (parseB z0 t).1 x = true
theorem w532 (x : Nd) (hx : okc x) (hsz : sz x ≤ 1000000) (lim d : Nat) (σ : Sto) (hlim : lim ≤ d) (hu : σ.Und d) : WF X lim d 7 [.agg (enc x)] σ fun v s => BasV x v ∧ s = σ := by
  have hun := und_succ hu
  obtain ⟨kd, c, s0, s1, s2, s3, n, mn, mx, l⟩ := x
  have h12 := w12 (.mk kd c s0 s1 s2 s3 n mn mx l) hsz lim (d + 1)
  rw [WF_body (C := X) rfl Go.Proofs.Tryz.func7 rfl (by kernel_rfl)]; simp only [Go.Proofs.Tryz.results7]
  simp -implicitDefEqProofs -dsimp only [↓reduceIte, ↓W_seq, go_sem, WR_nil, evNews, Nat.reduceEqDiff, Nat.reduceAdd, Nat.reduceMul, Nat.reduceLeDiff, Nat.reduceLT, Int.cast_ofNat_Int, Int.reduceBNe, Int.reduceToNat, Int.reduceLT, Int.reduceLE, Int.reduceAdd, Int.reduceNeg, Int.reduceEq, reduceCtorEq, enc]
  refine (h12 _ (by omega) (by simp only [u_tick, u_mine]; exact hun)).wh ?_
  cases hf : formedB (.mk kd c s0 s1 s2 s3 n mn mx l)
  · simp -implicitDefEqProofs -dsimp only [↓reduceIte, ↓W_seq, go_sem, WR_nil, evNews, Nat.reduceEqDiff, Nat.reduceAdd, Nat.reduceMul, Nat.reduceLeDiff, Nat.reduceLT, Int.cast_ofNat_Int, Int.reduceBNe, Int.reduceToNat, Int.reduceLT, Int.reduceLE, Int.reduceAdd, Int.reduceNeg, Int.reduceEq, reduceCtorEq, enc, hf, cut_und _ _ hu]
    exact .inl ⟨hf, rfl⟩
  · have hf' := hf
    simp only [formedB, Bool.and_eq_true, decide_eq_true_eq] at hf'
    have hc := cnt_sz _ hsz
    have hwf := wf_of _ _ _ hx hf'.2
    have hs2 : sz (.mk kd c s0 s1 s2 s3 n mn mx l) ≤ 200 := by omega
    simp -implicitDefEqProofs -dsimp only [↓reduceIte, ↓W_seq, go_sem, WR_nil, evNews, Nat.reduceEqDiff, Nat.reduceAdd, Nat.reduceMul, Nat.reduceLeDiff, Nat.reduceLT, Int.cast_ofNat_Int, Int.reduceBNe, Int.reduceToNat, Int.reduceLT, Int.reduceLE, Int.reduceAdd, Int.reduceNeg, Int.reduceEq, reduceCtorEq, enc, hf]
    rw [D_dr (by kernel_rfl) rfl]
    simp -implicitDefEqProofs -dsimp only [↓reduceIte, ↓W_seq, go_sem, WR_nil, evNews, Nat.reduceEqDiff, Nat.reduceAdd, Nat.reduceMul, Nat.reduceLeDiff, Nat.reduceLT, Int.cast_ofNat_Int, Int.reduceBNe, Int.reduceToNat, Int.reduceLT, Int.reduceLE, Int.reduceAdd, Int.reduceNeg, Int.reduceEq, reduceCtorEq, enc]
    have hu1 : ∀ cs, ((σ.set ⟨d, 1, σ.ct d⟩ cs).tick d).Und (d + 1) := fun cs => by simp only [u_tick, u_mine]; exact hun
    refine (w531 (d + 1) (d + 1) _ (hu1 _)).wh ?_
    simp -implicitDefEqProofs -dsimp only [↓reduceIte, ↓W_seq, go_sem, WR_nil, evNews, Nat.reduceEqDiff, Nat.reduceAdd, Nat.reduceMul, Nat.reduceLeDiff, Nat.reduceLT, Int.cast_ofNat_Int, Int.reduceBNe, Int.reduceToNat, Int.reduceLT, Int.reduceLE, Int.reduceAdd, Int.reduceNeg, Int.reduceEq, reduceCtorEq, enc]
    refine (w516 basY basY_ok _ hwf (by omega) (d + 1) (d + 1) _ (Nat.le_refl _) (hu1 _)).wh fun t h1 h2 => ?_
    simp -implicitDefEqProofs -dsimp only [↓reduceIte, ↓W_seq, go_sem, WR_nil, evNews, Nat.reduceEqDiff, Nat.reduceAdd, Nat.reduceMul, Nat.reduceLeDiff, Nat.reduceLT, Int.cast_ofNat_Int, Int.reduceBNe, Int.reduceToNat, Int.reduceLT, Int.reduceLE, Int.reduceAdd, Int.reduceNeg, Int.reduceEq, reduceCtorEq, enc]
    refine (w204 t (by omega) lim (d + 1) (by omega) _ (hu1 _)).wh ?_
    rw [parseB_e (joinN []) z0]
    unfold parseBV
    have hz := parseB_sz z0 (by simp [sz_z0]) t (by omega)
    generalize hP : parseB z0 t = P at hz
    obtain ⟨m, at', e⟩ := P
    simp only at hz ⊢
    have h16 := w16g m hz (.mk kd c s0 s1 s2 s3 n mn mx l) lim (d + 1)
    cases he : e != 0
    · simp -implicitDefEqProofs -dsimp only [↓reduceIte, ↓W_seq, go_sem, WR_nil, evNews, Nat.reduceEqDiff, Nat.reduceAdd, Nat.reduceMul, Nat.reduceLeDiff, Nat.reduceLT, Int.cast_ofNat_Int, Int.reduceBNe, Int.reduceToNat, Int.reduceLT, Int.reduceLE, Int.reduceAdd, Int.reduceNeg, Int.reduceEq, reduceCtorEq, enc, he]
      refine (h16 _ (by omega) (by simp only [u_tick, u_mine]; exact hun)).wh ?_
      have he' : e = 0 := by simpa using he
      subst he'
      cases hs : sameB m (.mk kd c s0 s1 s2 s3 n mn mx l)
      · simp -implicitDefEqProofs -dsimp only [↓reduceIte, ↓W_seq, go_sem, WR_nil, evNews, Nat.reduceEqDiff, Nat.reduceAdd, Nat.reduceMul, Nat.reduceLeDiff, Nat.reduceLT, Int.cast_ofNat_Int, Int.reduceBNe, Int.reduceToNat, Int.reduceLT, Int.reduceLE, Int.reduceAdd, Int.reduceNeg, Int.reduceEq, reduceCtorEq, enc, hs, he, cut_und _ _ hu]
        exact .inr (.inl ⟨hf, rfl⟩)
      · simp -implicitDefEqProofs -dsimp only [↓reduceIte, ↓W_seq, go_sem, WR_nil, evNews, Nat.reduceEqDiff, Nat.reduceAdd, Nat.reduceMul, Nat.reduceLeDiff, Nat.reduceLT, Int.cast_ofNat_Int, Int.reduceBNe, Int.reduceToNat, Int.reduceLT, Int.reduceLE, Int.reduceAdd, Int.reduceNeg, Int.reduceEq, reduceCtorEq, enc, hs, he, cut_und _ _ hu]
        exact .inr (.inr ⟨t, hf, rfl, h1, h2, by rw [hP], by rw [hP]; exact hs⟩)
    · simp -implicitDefEqProofs -dsimp only [↓reduceIte, ↓W_seq, go_sem, WR_nil, evNews, Nat.reduceEqDiff, Nat.reduceAdd, Nat.reduceMul, Nat.reduceLeDiff, Nat.reduceLT, Int.cast_ofNat_Int, Int.reduceBNe, Int.reduceToNat, Int.reduceLT, Int.reduceLE, Int.reduceAdd, Int.reduceNeg, Int.reduceEq, reduceCtorEq, enc, he, cut_und _ _ hu]
      exact .inr (.inl ⟨hf, rfl⟩)
end Go.Proofs.Tryz.E
