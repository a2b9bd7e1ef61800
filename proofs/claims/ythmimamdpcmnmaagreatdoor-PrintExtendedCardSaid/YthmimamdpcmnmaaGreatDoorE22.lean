/- Walks: what the functions compute. -/
import Derived.Test.YthmimamdpcmnmaaGreatDoorE21
import Derived.Test.YthmimamdpcmnmaaGreatDoorG0
set_option linter.unusedVariables false
set_option linter.unusedSimpArgs false
/- The reader: what stands next, what is wrong. -/
namespace Go.Proofs.Tryz.E
open Go.Mv
set_option maxHeartbeats 4000000
set_option maxRecDepth 20000
def encP (s : List UInt8) (r : Rd) : List MV := [.str s, .int .i64 r.at', .int .i64 r.g, .int .i64 (if r.bad = true then (r.at' : Int) else -1)]
def pkV (o : Option UInt8) : MV := match o with
  | some c => .tup [.int .u8 c.toNat, .bool true]
  | none => .tup [.int .u8 0, .bool false]
theorem pkV_some (c : UInt8) : pkV (some c) = .tup [.int .u8 c.toNat, .bool true] := rfl
theorem pkV_none : pkV none = .tup [.int .u8 0, .bool false] := rfl
theorem w20 (s : List UInt8) (r : Rd) (hs : s.length ≤ 1000000) (p : Mv.Loc) (lim d : Nat) (hp : p.d < d) (σ : Sto) (hu : σ.Und d) (ho : σ.ob p = some (encP s r)) : Ret lim d 30 [.ptr p 0] σ (pkV (r.nx s)) σ := by
  obtain ⟨n, g, bad⟩ := r
  simp only [encP, Rd.nx] at ho ⊢
  unfold Ret
  rw [WF_body (C := X) rfl Go.Proofs.Tryz.func30 rfl (by kernel_rfl)]; simp only [Go.Proofs.Tryz.results30]
  simp -implicitDefEqProofs -dsimp only [↓reduceIte, ↓W_seq, go_sem, WR_nil, evNews, Nat.reduceEqDiff, Nat.reduceAdd, Nat.reduceMul, Nat.reduceLeDiff, Nat.reduceLT, Int.cast_ofNat_Int, Int.reduceBNe, Int.reduceToNat, Int.reduceLT, Int.reduceLE, Int.reduceAdd, Int.reduceNeg, Int.reduceEq, reduceCtorEq, enc]
  rw [D_dr (by kernel_rfl) rfl]
  cases bad
  · simp only [Bool.false_eq_true, if_false] at ho ⊢
    by_cases h : n < s.length
    · have e1 : ¬ ((s.length : Int) ≤ (n : Int)) := by omega
      have g1 : s[n]? = some s[n] := List.getElem?_eq_getElem h
      have e3 : ¬ ((0 : Int) ≤ -1) := by decide
      simp -implicitDefEqProofs -dsimp only [↓reduceIte, ↓W_seq, go_sem, WR_nil, evNews, Nat.reduceEqDiff, Nat.reduceAdd, Nat.reduceMul, Nat.reduceLeDiff, Nat.reduceLT, Int.cast_ofNat_Int, Int.reduceBNe, Int.reduceToNat, Int.reduceLT, Int.reduceLE, Int.reduceAdd, Int.reduceNeg, Int.reduceEq, reduceCtorEq, enc, ho, e1, e3]
      rw [D_dr (by kernel_rfl) rfl]
      rw [g1]
      simp -implicitDefEqProofs -dsimp only [↓reduceIte, ↓W_seq, go_sem, WR_nil, evNews, Nat.reduceEqDiff, Nat.reduceAdd, Nat.reduceMul, Nat.reduceLeDiff, Nat.reduceLT, Int.cast_ofNat_Int, Int.reduceBNe, Int.reduceToNat, Int.reduceLT, Int.reduceLE, Int.reduceAdd, Int.reduceNeg, Int.reduceEq, reduceCtorEq, enc, ho, g1, pkV_some, cut_und _ _ hu]
    · have e1 : ((s.length : Int) ≤ (n : Int)) := by omega
      have e3 : ¬ ((0 : Int) ≤ -1) := by decide
      rw [List.getElem?_eq_none (by omega)]
      simp -implicitDefEqProofs -dsimp only [↓reduceIte, ↓W_seq, go_sem, WR_nil, evNews, Nat.reduceEqDiff, Nat.reduceAdd, Nat.reduceMul, Nat.reduceLeDiff, Nat.reduceLT, Int.cast_ofNat_Int, Int.reduceBNe, Int.reduceToNat, Int.reduceLT, Int.reduceLE, Int.reduceAdd, Int.reduceNeg, Int.reduceEq, reduceCtorEq, enc, ho, e1, e3, pkV_none, cut_und _ _ hu]
  · simp only [if_true] at ho ⊢
    have e1 : ((0 : Int) ≤ (n : Int)) := by omega
    simp -implicitDefEqProofs -dsimp only [↓reduceIte, ↓W_seq, go_sem, WR_nil, evNews, Nat.reduceEqDiff, Nat.reduceAdd, Nat.reduceMul, Nat.reduceLeDiff, Nat.reduceLT, Int.cast_ofNat_Int, Int.reduceBNe, Int.reduceToNat, Int.reduceLT, Int.reduceLE, Int.reduceAdd, Int.reduceNeg, Int.reduceEq, reduceCtorEq, enc, ho, e1, pkV_none, cut_und _ _ hu]
theorem w31 (s : List UInt8) (r : Rd) (t : List UInt8) (hs : s.length ≤ 1000000) (p : Mv.Loc) (lim d : Nat) (hp : p.d < d) (σ : Sto) (hu : σ.Und d) (ho : σ.ob p = some (encP s r)) : Ret lim d 46 [.ptr p 0, .str t] σ (.bool (isS t (r.nx s))) σ := by
  have hun := und_succ hu
  unfold Ret
  rw [WF_body (C := X) rfl Go.Proofs.Tryz.func46 rfl (by kernel_rfl)]; simp only [Go.Proofs.Tryz.results46]
  simp -implicitDefEqProofs -dsimp only [↓reduceIte, ↓W_seq, go_sem, WR_nil, evNews, Nat.reduceEqDiff, Nat.reduceAdd, Nat.reduceMul, Nat.reduceLeDiff, Nat.reduceLT, Int.cast_ofNat_Int, Int.reduceBNe, Int.reduceToNat, Int.reduceLT, Int.reduceLE, Int.reduceAdd, Int.reduceNeg, Int.reduceEq, reduceCtorEq, enc]
  refine (w20 s r hs p lim (d + 1) (Nat.lt_succ_of_lt hp) _ hun ho).wh ?_
  cases r.nx s with
  | none => simp -implicitDefEqProofs -dsimp only [↓reduceIte, ↓W_seq, go_sem, WR_nil, evNews, Nat.reduceEqDiff, Nat.reduceAdd, Nat.reduceMul, Nat.reduceLeDiff, Nat.reduceLT, Int.cast_ofNat_Int, Int.reduceBNe, Int.reduceToNat, Int.reduceLT, Int.reduceLE, Int.reduceAdd, Int.reduceNeg, Int.reduceEq, reduceCtorEq, enc, pkV_none, isS_none, cut_und _ _ hu]
  | some c =>
    simp -implicitDefEqProofs -dsimp only [↓reduceIte, ↓W_seq, go_sem, WR_nil, evNews, Nat.reduceEqDiff, Nat.reduceAdd, Nat.reduceMul, Nat.reduceLeDiff, Nat.reduceLT, Int.cast_ofNat_Int, Int.reduceBNe, Int.reduceToNat, Int.reduceLT, Int.reduceLE, Int.reduceAdd, Int.reduceNeg, Int.reduceEq, reduceCtorEq, enc, pkV_some]
    refine (w41 t c lim (d + 1) _ hun).wh ?_
    simp -implicitDefEqProofs -dsimp only [↓reduceIte, ↓W_seq, go_sem, WR_nil, evNews, Nat.reduceEqDiff, Nat.reduceAdd, Nat.reduceMul, Nat.reduceLeDiff, Nat.reduceLT, Int.cast_ofNat_Int, Int.reduceBNe, Int.reduceToNat, Int.reduceLT, Int.reduceLE, Int.reduceAdd, Int.reduceNeg, Int.reduceEq, reduceCtorEq, enc, isS_some, idxB_in, cut_und _ _ hu]
theorem w21 (s : List UInt8) (r : Rd) (p : Mv.Loc) (lim d : Nat) (hp : p.d < d) (hlim : lim ≤ p.d) (σ : Sto) (hu : σ.Und d) (ho : σ.ob p = some (encP s r)) : Ret lim d 31 [.ptr p 0] σ (.agg (enc z0)) (σ.set p (encP s r.fail)) := by
  have hset := set_same ho
  obtain ⟨n, g, bad⟩ := r
  have hne := ne_my hp
  have hmy := my_ne hp
  simp only [encP, Rd.fail] at ho hset ⊢
  unfold Ret
  rw [WF_body (C := X) rfl Go.Proofs.Tryz.func31 rfl (by kernel_rfl)]; simp only [Go.Proofs.Tryz.results31]
  cases bad
  · simp only [Bool.false_eq_true, if_false, if_true] at ho ⊢
    have e3 : ((-1 : Int) < 0) := by decide
    simp -implicitDefEqProofs -dsimp only [↓reduceIte, ↓W_seq, go_sem, WR_nil, evNews, Nat.reduceEqDiff, Nat.reduceAdd, Nat.reduceMul, Nat.reduceLeDiff, Nat.reduceLT, Int.cast_ofNat_Int, Int.reduceBNe, Int.reduceToNat, Int.reduceLT, Int.reduceLE, Int.reduceAdd, Int.reduceNeg, Int.reduceEq, reduceCtorEq, enc, ho, hne, hmy, e3, hp, hlim, cut_set _ _ _ _ hp, cut_und _ _ hu, z0, encs]
  · simp only [if_true] at ho hset ⊢
    have e1 : ¬ ((n : Int) < 0) := by omega
    simp -implicitDefEqProofs -dsimp only [↓reduceIte, ↓W_seq, go_sem, WR_nil, evNews, Nat.reduceEqDiff, Nat.reduceAdd, Nat.reduceMul, Nat.reduceLeDiff, Nat.reduceLT, Int.cast_ofNat_Int, Int.reduceBNe, Int.reduceToNat, Int.reduceLT, Int.reduceLE, Int.reduceAdd, Int.reduceNeg, Int.reduceEq, reduceCtorEq, enc, ho, hne, hmy, e1, cut_und _ _ hu, z0, hset, encs]
theorem w65 (c : UInt8) (lim d : Nat) (σ : Sto) (hu : σ.Und d) : Ret lim d 94 [.int .u8 c.toNat] σ (.agg (enc (simpleS c))) σ := by
  unfold Ret
  rw [WF_body (C := X) rfl Go.Proofs.Tryz.func94 rfl (by kernel_rfl)]; simp only [Go.Proofs.Tryz.results94]
  unfold simpleS
  by_cases h1 : c = 46
  · subst h1; simp -implicitDefEqProofs -dsimp only [↓reduceIte, ↓W_seq, go_sem, WR_nil, evNews, Nat.reduceEqDiff, Nat.reduceAdd, Nat.reduceMul, Nat.reduceLeDiff, Nat.reduceLT, Int.cast_ofNat_Int, Int.reduceBNe, Int.reduceToNat, Int.reduceLT, Int.reduceLE, Int.reduceAdd, Int.reduceNeg, Int.reduceEq, reduceCtorEq, enc, show ((46 : UInt8) == 46) = true from rfl, cut_und _ _ hu, nd, encs]
  · rw [if_neg h1]
    have h1' := beq_eq_false_iff_ne.2 h1
    by_cases h2 : c = 94
    · subst h2; simp -implicitDefEqProofs -dsimp only [↓reduceIte, ↓W_seq, go_sem, WR_nil, evNews, Nat.reduceEqDiff, Nat.reduceAdd, Nat.reduceMul, Nat.reduceLeDiff, Nat.reduceLT, Int.cast_ofNat_Int, Int.reduceBNe, Int.reduceToNat, Int.reduceLT, Int.reduceLE, Int.reduceAdd, Int.reduceNeg, Int.reduceEq, reduceCtorEq, enc, show ((94 : UInt8) == 46) = false from rfl, show ((94 : UInt8) == 94) = true from rfl, cut_und _ _ hu, nd, encs]
    · rw [if_neg h2]
      have h2' := beq_eq_false_iff_ne.2 h2
      by_cases h3 : c = 36
      · subst h3; simp -implicitDefEqProofs -dsimp only [↓reduceIte, ↓W_seq, go_sem, WR_nil, evNews, Nat.reduceEqDiff, Nat.reduceAdd, Nat.reduceMul, Nat.reduceLeDiff, Nat.reduceLT, Int.cast_ofNat_Int, Int.reduceBNe, Int.reduceToNat, Int.reduceLT, Int.reduceLE, Int.reduceAdd, Int.reduceNeg, Int.reduceEq, reduceCtorEq, enc, show ((36 : UInt8) == 46) = false from rfl, show ((36 : UInt8) == 94) = false from rfl, show ((36 : UInt8) == 36) = true from rfl, cut_und _ _ hu, nd, encs]
      · rw [if_neg h3]
        have h3' := beq_eq_false_iff_ne.2 h3
        simp -implicitDefEqProofs -dsimp only [↓reduceIte, ↓W_seq, go_sem, WR_nil, evNews, Nat.reduceEqDiff, Nat.reduceAdd, Nat.reduceMul, Nat.reduceLeDiff, Nat.reduceLT, Int.cast_ofNat_Int, Int.reduceBNe, Int.reduceToNat, Int.reduceLT, Int.reduceLE, Int.reduceAdd, Int.reduceNeg, Int.reduceEq, reduceCtorEq, enc, h1', h2', h3', cut_und _ _ hu, lit, encs]
theorem w77 (s : List UInt8) (r : Rd) (hs : s.length ≤ 1000000) (hr : r.at' ≤ s.length) (hb : r.bad = false) (p : Mv.Loc) (lim d : Nat) (hp : p.d < d) (hlim : lim ≤ p.d) (σ : Sto) (hu : σ.Und d) (ho : σ.ob p = some (encP s r)) :
    Ret lim d 108 [.ptr p 0] σ (.int .i64 (numG (-1) (digsAt s r.at'))) (σ.set p (encP s (r.go (r.at' + (digsAt s r.at').length)))) := by
  have hun := und_succ hu
  have hne := ne_my hp
  have hmy := my_ne hp
  have hp1 := Nat.lt_succ_of_lt hp
  unfold Ret
  rw [WF_body (C := X) rfl Go.Proofs.Tryz.func108 rfl (by kernel_rfl)]; simp only [Go.Proofs.Tryz.results108]
  simp -implicitDefEqProofs -dsimp only [↓reduceIte, ↓W_seq, go_sem, WR_nil, evNews, Nat.reduceEqDiff, Nat.reduceAdd, Nat.reduceMul, Nat.reduceLeDiff, Nat.reduceLT, Int.cast_ofNat_Int, Int.reduceBNe, Int.reduceToNat, Int.reduceLT, Int.reduceLE, Int.reduceAdd, Int.reduceNeg, Int.reduceEq, reduceCtorEq, enc]
  refine loop_h (I := fun f a s' => ∃ (m : Nat) (v : Int), m ≤ s.length ∧ f + m = s.length ∧ a 0 = .ptr p 0 ∧ a 3 = .int .i64 v ∧ -1 ≤ v ∧ v ≤ 256 ∧ s'.ob p = some (encP s (r.go m)) ∧ s'.cut d = σ.set p (encP s (r.go m)) ∧ s'.Und (d + 1) ∧ numG v (digsAt s m) = numG (-1) (digsAt s r.at') ∧ m + (digsAt s m).length = r.at' + (digsAt s r.at').length) ?_ (s.length - r.at') _ _ ?_
  · rintro f a s' ⟨m, v, hm, hf, a0, a3, v1, v2, hop, hcut, hus, hnum, hlen⟩
    have hx := w31 s (r.go m) [48, 49, 50, 51, 52, 53, 54, 55, 56, 57] hs p lim (d + 1) hp1 s' hus hop
    have hnx : (r.go m).nx s = s[m]? := by simp [Rd.nx, Rd.go, hb]
    rw [hnx] at hx
    rw [digs_at] at hnum hlen
    simp -implicitDefEqProofs -dsimp only [↓reduceIte, ↓W_seq, go_sem, WR_nil, evNews, Nat.reduceEqDiff, Nat.reduceAdd, Nat.reduceMul, Nat.reduceLeDiff, Nat.reduceLT, Int.cast_ofNat_Int, Int.reduceBNe, Int.reduceToNat, Int.reduceLT, Int.reduceLE, Int.reduceAdd, Int.reduceNeg, Int.reduceEq, reduceCtorEq, enc, a0, ba_data]
    refine hx.wh ?_
    cases hsm : s[m]? with
    | none =>
      rw [hsm] at hnum hlen
      simp only [numG, List.length_nil, Nat.add_zero] at hnum hlen
      simp -implicitDefEqProofs -dsimp only [↓reduceIte, ↓W_seq, go_sem, WR_nil, evNews, Nat.reduceEqDiff, Nat.reduceAdd, Nat.reduceMul, Nat.reduceLeDiff, Nat.reduceLT, Int.cast_ofNat_Int, Int.reduceBNe, Int.reduceToNat, Int.reduceLT, Int.reduceLE, Int.reduceAdd, Int.reduceNeg, Int.reduceEq, reduceCtorEq, enc, isS_none, a3, hcut, ← hnum, ← hlen]
    | some b =>
      rw [hsm] at hnum hlen
      simp only at hnum hlen
      cases hd : dig b
      · rw [hd] at hnum hlen
        simp only [Bool.false_eq_true, if_false, numG, List.length_nil, Nat.add_zero] at hnum hlen
        simp -implicitDefEqProofs -dsimp only [↓reduceIte, ↓W_seq, go_sem, WR_nil, evNews, Nat.reduceEqDiff, Nat.reduceAdd, Nat.reduceMul, Nat.reduceLeDiff, Nat.reduceLT, Int.cast_ofNat_Int, Int.reduceBNe, Int.reduceToNat, Int.reduceLT, Int.reduceLE, Int.reduceAdd, Int.reduceNeg, Int.reduceEq, reduceCtorEq, enc, isS_some, dig_is, hd, a3, hcut, ← hnum, ← hlen]
      · rw [hd] at hnum hlen
        simp only [if_true, numG, List.length_cons] at hnum hlen
        have hlt : m < s.length := by
          rcases Nat.lt_or_ge m s.length with h | h
          · exact h
          · rw [List.getElem?_eq_none h] at hsm; cases hsm
        have hdig := hd
        simp only [dig, Bool.and_eq_true, decide_eq_true_eq] at hdig
        have hop2 := hop
        simp only [encP, Rd.go, hb, Bool.false_eq_true, if_false] at hop2
        have x1 := wr64 ((m : Int) + 1) (by omega) (by omega)
        have x2 := wru8 ((b.toNat : Int) - 48) (by omega) (by omega)
        have x3 := wr64 ((b.toNat : Int) - 48) (by omega) (by omega)
        have x4 := wr64 (10 * (if 0 > v then 0 else v)) (by split <;> omega) (by split <;> omega)
        have x5 := wr64 (10 * (if 0 > v then 0 else v) + ((b.toNat : Int) - 48)) (by split <;> omega) (by split <;> omega)
        simp -implicitDefEqProofs -dsimp only [↓reduceIte, ↓W_seq, go_sem, WR_nil, evNews, Nat.reduceEqDiff, Nat.reduceAdd, Nat.reduceMul, Nat.reduceLeDiff, Nat.reduceLT, Int.cast_ofNat_Int, Int.reduceBNe, Int.reduceToNat, Int.reduceLT, Int.reduceLE, Int.reduceAdd, Int.reduceNeg, Int.reduceEq, reduceCtorEq, enc, isS_some, dig_is, hd]
        rw [D_dr (by kernel_rfl) rfl]
        simp -implicitDefEqProofs -dsimp only [↓reduceIte, ↓W_seq, go_sem, WR_nil, evNews, Nat.reduceEqDiff, Nat.reduceAdd, Nat.reduceMul, Nat.reduceLeDiff, Nat.reduceLT, Int.cast_ofNat_Int, Int.reduceBNe, Int.reduceToNat, Int.reduceLT, Int.reduceLE, Int.reduceAdd, Int.reduceNeg, Int.reduceEq, reduceCtorEq, enc, a0, a3, hop2, hsm, x1, x2, x3, x4, x5, hne, hmy, hp, hlim]
        have hgo : [MV.str s, .int .i64 ((m : Int) + 1), .int .i64 r.g, .int .i64 (-1)] = encP s (r.go (m + 1)) := by simp only [encP, Rd.go, hb, Bool.false_eq_true, if_false]; rfl
        rw [hgo]
        refine ⟨f - 1, by omega, m + 1, _, by omega, by omega, rfl, ?_, ?_, rfl, ?_, ?_, hnum, by omega⟩
        · split <;> split <;> omega
        · split <;> split <;> omega
        · rw [cut_set _ _ _ _ hp, hcut, set_set]
        · rw [u_set _ _ _ _ hp1]; exact hus
  · have hgo : r.go r.at' = r := by cases r; rfl
    refine ⟨r.at', -1, hr, by omega, rfl, rfl, by omega, by omega, by rw [hgo]; exact ho, by rw [hgo, set_same ho]; exact cut_und _ _ hu, hun, rfl, rfl⟩
end Go.Proofs.Tryz.E
