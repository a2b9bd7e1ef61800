/- Walks: what the functions compute. -/
import Derived.Test.YtklnfgmfcpcfcaaGreatDoorT6
set_option linter.unusedVariables false
set_option linter.unusedSimpArgs false
/- flush, group. -/
namespace Go.Proofs.Tryz.E
open Go.Mv
set_option maxHeartbeats 4000000
set_option maxRecDepth 20000
theorem CK_load {C : Cfg} {d : Nat} {ops : Array Oper} {j : Nat} {sf : List Nat} {a : Nat → MV} {σ : Sto} {dst : Option Tmp} {t : TypeId} {x : Operand} {ty : TypeId} {pos : String} {aft : Array Edge} (ho : ops[j]? = some ⟨dst, .load t x, ty, pos, aft, none⟩) (h1 : Opt (ldO C.P σ t (valO a x)) fun v => ∀ u, dst = some u → v = a u) (h2 : CK C d ops σ a sf) : CK C d ops σ a (j :: sf) :=
  (CK_cons ho rfl).2 ⟨CK1_load.2 h1, h2⟩
theorem stK_nil (P : Program) (lim d : Nat) (t : TypeId) (σ : Sto) (l : Mv.Loc) (off : Nat) (xs : List (List MV)) : stK P lim d t σ (.ptr l off) (.sl .nil xs) = (shp P t).bind fun x => (σ.ob l).bind fun cs => if x.2 = 1 ∧ off + 1 ≤ cs.length ∧ l.d < d ∧ lim ≤ l.d then some (σ.set l (putC cs [.sl .nil xs] off)) else none := by
  simp only [stK]
  generalize shp P t = x
  generalize σ.ob l = y
  cases x <;> cases y <;> rfl
/-- A part of the bytes that were gathered. -/
def flP (t : List UInt8) : List Pt := if t = [] then [] else [(-1, t)]
theorem flP_nil : flP [] = [] := rfl
theorem flP_some {t : List UInt8} (h : t ≠ []) : flP t = [(-1, t)] := if_neg h
theorem ownB_sl {s : Sto} {d : Nat} {v : MV} {t : List UInt8} (h : OwnB s d v t) : ∃ tk, v = .sl tk (bytesM t) := by
  rcases h with ⟨rfl, rfl⟩ | ⟨c, rfl, _⟩
  · exact ⟨_, rfl⟩
  · exact ⟨_, rfl⟩
theorem w667 {σ : Sto} {l : Mv.Loc} {q p : MV} {tk : Tok} {t : List UInt8} (lim d : Nat) (h1 : σ.ob l = some [q, p, .sl tk (bytesM t)]) (hu : σ.Und d) : Ret lim d 56 [.ptr l 1] σ (.int .i64 t.length) σ := by
  unfold Ret
  rw [WF_body (C := X) rfl Go.Proofs.Tryz.func56 rfl (by kernel_rfl)]; simp only [Go.Proofs.Tryz.results56]
  simp -implicitDefEqProofs -dsimp only [↓reduceIte, ↓W_seq, go_sem, WR_nil, evNews, Nat.reduceEqDiff, Nat.reduceAdd, Nat.reduceMul, Nat.reduceLeDiff, Nat.reduceLT, Int.cast_ofNat_Int, Int.reduceBNe, Int.reduceToNat, Int.reduceLT, Int.reduceLE, Int.reduceAdd, Int.reduceNeg, Int.reduceEq, reduceCtorEq, enc, h1, bytesM_len, cut_und _ _ hu]
theorem w668 {σ : Sto} {l : Mv.Loc} {q p v : MV} (lim d : Nat) (h1 : σ.ob l = some [q, p, v]) (hlim : lim ≤ l.d) (hl : l.d < d) (hu : σ.Und d) {P : MV → Sto → Prop} (hq : P (.tup []) (σ.set l [q, .nilp, .sl .nil []])) : WFh X lim d 58 [.ptr l 1] σ (TagF P) := by
  show WF X lim d 58 [.ptr l 1] σ P
  rw [WF_body (C := X) rfl Go.Proofs.Tryz.func58 rfl (by kernel_rfl)]; simp only [Go.Proofs.Tryz.results58]
  have hu2 : (σ.set l [q, .nilp, .sl .nil []]).Und d := und_set hu hl _
  have e1 : putC [q, p, v] [MV.nilp] 1 = [q, .nilp, v] := rfl
  have e2 : putC [q, MV.nilp, v] [MV.sl .nil []] 2 = [q, .nilp, .sl .nil []] := rfl
  simp -implicitDefEqProofs -dsimp only [↓reduceIte, ↓W_seq, go_sem, WR_nil, evNews, Nat.reduceEqDiff, Nat.reduceAdd, Nat.reduceMul, Nat.reduceLeDiff, Nat.reduceLT, Int.cast_ofNat_Int, Int.reduceBNe, Int.reduceToNat, Int.reduceLT, Int.reduceLE, Int.reduceAdd, Int.reduceNeg, Int.reduceEq, reduceCtorEq, enc, h1, hlim, hl, e1, e2, stK_nil]
  rw [cut_und _ _ hu2]
  exact hq
theorem w666 {lim d : Nat} {σ : Sto} {l : Mv.Loc} {acc : List Pt} {t : List UInt8} (h : CB σ l acc t) (hlim : lim ≤ l.d) (hl : l.d ≤ d) (hu : σ.Und (d + 1)) (ha : acc.length ≤ 100000) (hb : t.length ≤ 100000) {P : MV → Sto → Prop}
    (hq : ∀ s v, CB s l (acc ++ flP t) [] → SB (d + 1) l σ s → s.Und (d + 1) → P v s) : WFh X lim (d + 1) 21 [.ptr l 0] σ (TagF P) := by
  show WF X lim (d + 1) 21 [.ptr l 0] σ P
  have hC := h
  obtain ⟨q, p, v, h1, h2, h3, h4⟩ := h
  obtain ⟨tk, rfl⟩ := ownB_sl h4
  rw [WF_body (C := X) rfl Go.Proofs.Tryz.func21 rfl (by kernel_rfl)]; simp only [Go.Proofs.Tryz.results21]
  simp -implicitDefEqProofs -dsimp only [↓reduceIte, ↓W_seq, go_sem, WR_nil, evNews, Nat.reduceEqDiff, Nat.reduceAdd, Nat.reduceMul, Nat.reduceLeDiff, Nat.reduceLT, Int.cast_ofNat_Int, Int.reduceBNe, Int.reduceToNat, Int.reduceLT, Int.reduceLE, Int.reduceAdd, Int.reduceNeg, Int.reduceEq, reduceCtorEq, enc]
  refine (w667 _ _ h1 (und_succ hu)).wh ?_
  by_cases ht : t = []
  · subst ht
    simp -implicitDefEqProofs -dsimp only [↓reduceIte, ↓W_seq, go_sem, WR_nil, evNews, Nat.reduceEqDiff, Nat.reduceAdd, Nat.reduceMul, Nat.reduceLeDiff, Nat.reduceLT, Int.cast_ofNat_Int, Int.reduceBNe, Int.reduceToNat, Int.reduceLT, Int.reduceLE, Int.reduceAdd, Int.reduceNeg, Int.reduceEq, reduceCtorEq, enc]
    rw [cut_und _ _ hu]
    refine hq _ _ ?_ (SB.refl ..) hu
    rw [flP_nil, List.append_nil]
    exact hC
  · have e0 : (0 : Int) < (t.length : Int) := by have := List.length_pos_iff.2 ht; omega
    simp -implicitDefEqProofs -dsimp only [↓reduceIte, ↓W_seq, go_sem, WR_nil, evNews, Nat.reduceEqDiff, Nat.reduceAdd, Nat.reduceMul, Nat.reduceLeDiff, Nat.reduceLT, Int.cast_ofNat_Int, Int.reduceBNe, Int.reduceToNat, Int.reduceLT, Int.reduceLE, Int.reduceAdd, Int.reduceNeg, Int.reduceEq, reduceCtorEq, enc, e0]
    rw [D_hx (by kernel_rfl) (by kernel_rfl)]
    simp -implicitDefEqProofs -dsimp only [↓reduceIte, ↓W_seq, go_sem, WR_nil, evNews, Nat.reduceEqDiff, Nat.reduceAdd, Nat.reduceMul, Nat.reduceLeDiff, Nat.reduceLT, Int.cast_ofNat_Int, Int.reduceBNe, Int.reduceToNat, Int.reduceLT, Int.reduceLE, Int.reduceAdd, Int.reduceNeg, Int.reduceEq, reduceCtorEq, enc, V_move, V_nilCheck, V_fieldAddr, V_load, h1]
    rw [V_callH [4] (by kernel_rfl) (by kernel_rfl)]
    simp -implicitDefEqProofs -dsimp only [↓reduceIte, ↓W_seq, go_sem, WR_nil, evNews, Nat.reduceEqDiff, Nat.reduceAdd, Nat.reduceMul, Nat.reduceLeDiff, Nat.reduceLT, Int.cast_ofNat_Int, Int.reduceBNe, Int.reduceToNat, Int.reduceLT, Int.reduceLE, Int.reduceAdd, Int.reduceNeg, Int.reduceEq, reduceCtorEq, enc]
    refine wS1 h1 h3 h4 ht hlim (by omega) (und_succ hu) (by omega) fun s hs1 hs2 hs3 hs4 hs5 => ⟨?_, ?_⟩
    · refine CK_load rfl ?_ (CK_nil.2 trivial)
      simp -implicitDefEqProofs -dsimp only [↓reduceIte, ↓W_seq, go_sem, WR_nil, evNews, Nat.reduceEqDiff, Nat.reduceAdd, Nat.reduceMul, Nat.reduceLeDiff, Nat.reduceLT, Int.cast_ofNat_Int, Int.reduceBNe, Int.reduceToNat, Int.reduceLT, Int.reduceLE, Int.reduceAdd, Int.reduceNeg, Int.reduceEq, reduceCtorEq, enc, hs1]
      rintro u ⟨⟩
      rfl
    · simp -implicitDefEqProofs -dsimp only [↓reduceIte, ↓W_seq, go_sem, WR_nil, evNews, Nat.reduceEqDiff, Nat.reduceAdd, Nat.reduceMul, Nat.reduceLeDiff, Nat.reduceLT, Int.cast_ofNat_Int, Int.reduceBNe, Int.reduceToNat, Int.reduceLT, Int.reduceLE, Int.reduceAdd, Int.reduceNeg, Int.reduceEq, reduceCtorEq, enc, V_build, V_buildSlice]
      rw [V_append [] (by kernel_rfl)]
      obtain ⟨z, s1, s2, q', a1, a2, a3, a4, a5, a6, a7⟩ := app_keep (d := d + 1) (pt := (-1, t)) (tk := .no) (lim := lim) hs1 hs2 hlim (by omega) ha hs4
      simp -implicitDefEqProofs -dsimp only [↓reduceIte, ↓W_seq, go_sem, WR_nil, evNews, Nat.reduceEqDiff, Nat.reduceAdd, Nat.reduceMul, Nat.reduceLeDiff, Nat.reduceLT, Int.cast_ofNat_Int, Int.reduceBNe, Int.reduceToNat, Int.reduceLT, Int.reduceLE, Int.reduceAdd, Int.reduceNeg, Int.reduceEq, reduceCtorEq, enc, a1]
      refine ⟨CK_nil.2 trivial, ?_⟩
      simp -implicitDefEqProofs -dsimp only [↓reduceIte, ↓W_seq, go_sem, WR_nil, evNews, Nat.reduceEqDiff, Nat.reduceAdd, Nat.reduceMul, Nat.reduceLeDiff, Nat.reduceLT, Int.cast_ofNat_Int, Int.reduceBNe, Int.reduceToNat, Int.reduceLT, Int.reduceLE, Int.reduceAdd, Int.reduceNeg, Int.reduceEq, reduceCtorEq, enc, V_nilCheck, V_fieldAddr]
      rw [V_store [] (by kernel_rfl)]
      simp -implicitDefEqProofs -dsimp only [↓reduceIte, ↓W_seq, go_sem, WR_nil, evNews, Nat.reduceEqDiff, Nat.reduceAdd, Nat.reduceMul, Nat.reduceLeDiff, Nat.reduceLT, Int.cast_ofNat_Int, Int.reduceBNe, Int.reduceToNat, Int.reduceLT, Int.reduceLE, Int.reduceAdd, Int.reduceNeg, Int.reduceEq, reduceCtorEq, enc, a2]
      refine ⟨CK_nil.2 trivial, ?_⟩
      simp -implicitDefEqProofs -dsimp only [↓reduceIte, ↓W_seq, go_sem, WR_nil, evNews, Nat.reduceEqDiff, Nat.reduceAdd, Nat.reduceMul, Nat.reduceLeDiff, Nat.reduceLT, Int.cast_ofNat_Int, Int.reduceBNe, Int.reduceToNat, Int.reduceLT, Int.reduceLE, Int.reduceAdd, Int.reduceNeg, Int.reduceEq, reduceCtorEq, enc, V_nil]
      refine w668 _ _ a3 hlim (by omega) a6 ?_
      simp -implicitDefEqProofs -dsimp only [↓reduceIte, ↓W_seq, go_sem, WR_nil, evNews, Nat.reduceEqDiff, Nat.reduceAdd, Nat.reduceMul, Nat.reduceLeDiff, Nat.reduceLT, Int.cast_ofNat_Int, Int.reduceBNe, Int.reduceToNat, Int.reduceLT, Int.reduceLE, Int.reduceAdd, Int.reduceNeg, Int.reduceEq, reduceCtorEq, enc]
      refine hq _ _ (CB.cut ⟨q', .nilp, _, by simp [Sto.set], rfl, ?_, .inl ⟨rfl, rfl⟩⟩ (by omega)) (((hs3.le (by omega)).trans a5).set _).cut (und_cut ..)
      rw [flP_some ht]
      exact a4
theorem w665 {lim d : Nat} {σ : Sto} {l : Mv.Loc} {acc : List Pt} {t : List UInt8} {n : Int} (h : CB σ l acc t) (hlim : lim ≤ l.d) (hl : l.d ≤ d) (hu : σ.Und (d + 1)) (ha : acc.length ≤ 99999) (hb : t.length ≤ 100000) {P : MV → Sto → Prop}
    (hq : ∀ s v, CB s l (acc ++ flP t ++ [(n, [])]) [] → SB (d + 1) l σ s → s.Und (d + 1) → P v s) : WFh X lim (d + 1) 19 [.ptr l 0, .int .i64 n] σ (TagF P) := by
  show WF X lim (d + 1) 19 [.ptr l 0, .int .i64 n] σ P
  rw [WF_body (C := X) rfl Go.Proofs.Tryz.func19 rfl (by kernel_rfl)]; simp only [Go.Proofs.Tryz.results19]
  simp -implicitDefEqProofs -dsimp only [↓reduceIte, ↓W_seq, go_sem, WR_nil, evNews, Nat.reduceEqDiff, Nat.reduceAdd, Nat.reduceMul, Nat.reduceLeDiff, Nat.reduceLT, Int.cast_ofNat_Int, Int.reduceBNe, Int.reduceToNat, Int.reduceLT, Int.reduceLE, Int.reduceAdd, Int.reduceNeg, Int.reduceEq, reduceCtorEq, enc]
  have hu2 := und_succ hu
  refine w666 h hlim (by omega) hu2 (by omega) hb fun s v hs1 hs2 hs3 => ?_
  have hfl : (flP t).length ≤ 1 := by unfold flP; split <;> simp
  have hs1' := CB.tok (d := d + 1) (c := s.ct (d + 1)) (x := some (1, 2)) hs1 (by omega)
  obtain ⟨q, p, w, h1, h2, h3, h4⟩ := hs1'
  have h1' : s.ob l = some [q, p, w] := h1
  have hus := und_tok hs3 (s.ct (d + 1)) (some (1, 2))
  obtain ⟨z, s1, s2, q', a1, a2, a3, a4, a5, a6, a7⟩ := app_keep (d := d + 1) (pt := (n, [])) (tk := .own (d + 1) (s.ct (d + 1))) (lim := lim) h1 h3 hlim (by omega) (by rw [List.length_append]; omega) hus
  simp -implicitDefEqProofs -dsimp only [↓reduceIte, ↓W_seq, go_sem, WR_nil, evNews, Nat.reduceEqDiff, Nat.reduceAdd, Nat.reduceMul, Nat.reduceLeDiff, Nat.reduceLT, Int.cast_ofNat_Int, Int.reduceBNe, Int.reduceToNat, Int.reduceLT, Int.reduceLE, Int.reduceAdd, Int.reduceNeg, Int.reduceEq, reduceCtorEq, enc, h1', a1, a2]
  refine hq _ _ (CB.cut ⟨q', p, w, a3, h2, a4, a7 _ _ h4⟩ (by omega)) (SB.cut (SB.trans (SB.tick (SB.own (hs2.le (by omega)) (.inr (Nat.le_refl _)) _) (.inr (Nat.le_refl _))) a5)) (und_cut ..)
end Go.Proofs.Tryz.E
