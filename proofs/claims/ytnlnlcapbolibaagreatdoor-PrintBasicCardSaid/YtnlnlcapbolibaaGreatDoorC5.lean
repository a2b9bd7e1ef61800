/- Walks: what the functions compute. -/
import Derived.Test.YtnlnlcapbolibaaGreatDoorC4
set_option linter.unusedVariables false
set_option linter.unusedSimpArgs false
/- The other reader, of basic patterns: all of a pattern; any text is read, or refused. -/
namespace Go.Proofs.Tryz.E
open Go.Mv
set_option maxHeartbeats 4000000
set_option maxRecDepth 20000
def pk (x : Nd) : Prop := x.kind ≠ 8 ∧ x.kind ≠ 9
theorem pk_z0 : pk z0 := by simp [pk, z0, Nd.kind]
theorem pk_lit (c : Int) : pk (lit c) := by simp [pk, lit, Nd.kind]
theorem pk_atom (s : List UInt8) (rec : Rd → Nd × Rd) (f : Bool) (r : Rd) : pk (atomB s rec f r).1 := by
  unfold atomB
  split
  · exact pk_z0
  · split
    · unfold groupB
      split
      · exact pk_z0
      · simp only
        split
        · simp [pk, Nd.kind]
        · exact pk_z0
    · split
      · exact pk_z0
      · split
        · unfold escB
          split
          · exact pk_z0
          · split
            · simp [pk, Nd.kind]
            · split
              · exact pk_lit _
              · split
                · exact pk_lit _
                · exact pk_z0
        · split
          · split
            · exact pk_z0
            · simp [pk, inN, Nd.kind]
          · unfold signB
            split
            · simp [pk, nd, Nd.kind]
            · split
              · simp [pk, nd, Nd.kind]
              · split
                · simp [pk, nd, Nd.kind]
                · exact pk_lit _
theorem pk_rep (s : List UInt8) (y : Nd) (r : Rd) (h : pk y) : pk (repB s y r).1 := by
  unfold repB
  split
  · exact h
  · split
    · exact pk_z0
    · split
      · exact pk_z0
      · split
        · exact pk_z0
        · simp [pk, Nd.kind]
theorem pk_piece (s : List UInt8) (rec : Rd → Nd × Rd) (f : Bool) (r : Rd) : pk (pieceB s rec f r).1 := by
  unfold pieceB
  simp only
  split
  · exact pk_atom s rec f r
  · exact pk_rep s _ _ (pk_atom s rec f r)
theorem flat8 : ∀ (l : List Nd), (∀ x ∈ l, pk x) → flatL 8 l = l
  | [], _ => rfl
  | x :: l, h => by
    rw [flatL, flat8 l fun y hy => h y (List.mem_cons_of_mem _ hy), if_neg (h x (List.mem_cons_self ..)).1]
    rfl
theorem join_kind (l : List Nd) (h : ∀ x ∈ l, pk x) : (joinN l).kind ≠ 9 := by
  unfold joinN
  rw [flat8 l h]
  unfold joinF
  split
  · rename_i x; exact (h x (List.mem_cons_self ..)).2
  · simp [nd, Nd.kind]
theorem seq_kind (s : List UInt8) (rec : Rd → Nd × Rd) (e : Nd) (he : e.kind ≠ 9) : ∀ (n : Nat) (f : Bool) (l : List Nd) (r : Rd), (∀ x ∈ l, pk x) → (seqB s rec e n f l r).1.kind ≠ 9
  | 0, _, _, _, _ => by simp [seqB, z0, Nd.kind]
  | n + 1, f, l, r, h => by
    rw [seqB]
    split
    · exact join_kind l h
    · split
      · exact he
      · refine seq_kind s rec e he n false _ _ fun x hx => ?_
        rcases List.mem_append.1 hx with hx | hx
        · exact h x hx
        · rw [List.mem_singleton.1 hx]; exact pk_piece ..
theorem either_one (x : Nd) (h : x.kind ≠ 9) : eitherN [x] = x := by
  unfold eitherN
  rw [show flatL 9 [x] = [x] by simp [flatL, h]]
  rfl
section
variable {s : List UInt8} {k : Nat} {rec : Rd → Nd × Rd} (H : HB s k rec) (K : HT s k rec)
include H K
theorem v22 (r : Rd) (hs : s.length ≤ 100000) (hr : r.at' ≤ s.length) (hb : r.bad = false) (h9 : r.g ≤ 9) (hk : 10 ≤ k + 1 + r.g) (p : Mv.Loc) (lim d : Nat) (hp : p.d < d) (hlim : lim ≤ p.d) (σ : Sto) (hu : σ.Und d) (ho : σ.ob p = some (encT s r)) :
    Ret lim d 23 [.ptr p 0] σ (.agg (enc (seqB s rec z0 (s.length + 1) true [] r).1)) (σ.set p (encT s (seqB s rec z0 (s.length + 1) true [] r).2)) := by
  have hun := und_succ hu
  have hne := ne_my hp
  have hmy := my_ne hp
  have hp1 := Nat.lt_succ_of_lt hp
  have hun1 : ∀ (t c : Nat) (cs : List MV), ((σ.set ⟨d, t, c⟩ cs).tick d).Und (d + 1) := fun t c cs => by simp only [u_tick, u_mine]; exact hun
  have hob1 : ∀ (t c : Nat) (cs : List MV), ((σ.set ⟨d, t, c⟩ cs).tick d).ob p = some (encT s r) := fun t c cs => by simp only [go_sem, hne, if_false]; exact ho
  have hkd := seq_kind s rec z0 (by simp [z0, Nd.kind]) (s.length + 1) true [] r (by simp)
  have G := gs_seq H (e := z0) (by simp [sz_z0]) hk (s.length + 1) true [] r (bj_0 s r hb hr h9)
  unfold Ret
  rw [WF_body (C := X) rfl Go.Proofs.Tryz.func23 rfl (by kernel_rfl)]; simp only [Go.Proofs.Tryz.results23]
  simp -implicitDefEqProofs -dsimp only [↓reduceIte, ↓W_seq, go_sem, WR_nil, evNews, Nat.reduceEqDiff, Nat.reduceAdd, Nat.reduceMul, Nat.reduceLeDiff, Nat.reduceLT, Int.cast_ofNat_Int, Int.reduceBNe, Int.reduceToNat, Int.reduceLT, Int.reduceLE, Int.reduceAdd, Int.reduceNeg, Int.reduceEq, reduceCtorEq, enc]
  refine (v32 H K r hs hr hb h9 hk p lim (d + 1) hp1 hlim _ (hun1 ..) (hob1 ..)).wh ?_
  generalize seqB s rec z0 (s.length + 1) true [] r = x at hkd G
  have g2 := G.sz'
  have g3 := G.in'
  simp -implicitDefEqProofs -dsimp only [↓reduceIte, ↓W_seq, go_sem, WR_nil, evNews, Nat.reduceEqDiff, Nat.reduceAdd, Nat.reduceMul, Nat.reduceLeDiff, Nat.reduceLT, Int.cast_ofNat_Int, Int.reduceBNe, Int.reduceToNat, Int.reduceLT, Int.reduceLE, Int.reduceAdd, Int.reduceNeg, Int.reduceEq, reduceCtorEq, enc, hmy, encs, ba_data]
  refine loop_h (I := fun n a s' => n = 0 ∧ a 0 = .ptr p 0 ∧ a 2 = .ptr ⟨d, 2, σ.ct d⟩ 0 ∧ (a 3).arg = .sl .no (encs [x.1]) ∧ s'.ob p = some (encT s x.2) ∧ (∃ z, s'.ob ⟨d, 2, σ.ct d⟩ = some z ∧ z.length = 10) ∧ s'.cut d = σ.set p (encT s x.2) ∧ s'.Und (d + 1)) ?_ 0 _ _ ?_
  · rintro n a s' ⟨rfl, a0, a2, a3, hop, ⟨z, hz, hzl⟩, hcut, hus⟩
    have hput : ∀ x, putC z (enc x) 0 = enc x := fun x => putC_whole _ _ (by rw [hzl, enc_len])
    have hop3 := hop
    rw [encT_eq] at hop3
    simp -implicitDefEqProofs -dsimp only [↓reduceIte, ↓W_seq, go_sem, WR_nil, evNews, Nat.reduceEqDiff, Nat.reduceAdd, Nat.reduceMul, Nat.reduceLeDiff, Nat.reduceLT, Int.cast_ofNat_Int, Int.reduceBNe, Int.reduceToNat, Int.reduceLT, Int.reduceLE, Int.reduceAdd, Int.reduceNeg, Int.reduceEq, reduceCtorEq, enc, a0, hop3, a3]
    refine (w34 [x.1] (by simp [szs]; omega) lim (d + 1) _ (by omega) hus).wh ?_
    rw [either_one _ hkd]
    simp -implicitDefEqProofs -dsimp only [↓reduceIte, ↓W_seq, go_sem, WR_nil, evNews, Nat.reduceEqDiff, Nat.reduceAdd, Nat.reduceMul, Nat.reduceLeDiff, Nat.reduceLT, Int.cast_ofNat_Int, Int.reduceBNe, Int.reduceToNat, Int.reduceLT, Int.reduceLE, Int.reduceAdd, Int.reduceNeg, Int.reduceEq, reduceCtorEq, enc, a2, hmy, hz, hzl, hput, hcut, cut_set _ _ _ _ hp]
  · refine ⟨rfl, rfl, rfl, rfl, ?_, ⟨[.int .i64 0, .int .u8 0, .int .u64 0, .int .u64 0, .int .u64 0, .int .u64 0, .int .i64 0, .int .i64 0, .int .i64 0, .sl .nil []], ?_, rfl⟩, ?_, ?_⟩
    · simp only [go_sem, hne, if_true, if_false]
    · simp only [go_sem, hne, hmy, if_true, if_false]
    · simp only [go_sem, cut_set _ _ _ _ hp, cut_und _ _ hu]
    · simp only [u_tick, u_own, u_set _ _ _ _ hp1, u_mine]; exact hun
theorem ht_step (hs : s.length ≤ 100000) : HT s (k + 1) (seqB s rec z0 (s.length + 1) true []) := fun r hb hr h9 hk lim d p σ hp hlim hu ho => v22 H K r hs hr hb h9 (by omega) p lim d hp hlim σ hu ho
end
theorem ht_par (s : List UInt8) (hs : s.length ≤ 100000) : ∀ k, HT s k (parB s z0 k)
  | 0 => fun r hb hr h9 hk => by omega
  | k + 1 => ht_step (hb_par s (by simp [sz_z0]) k) (ht_par s hs k) hs
theorem v9 (s : List UInt8) (hs : s.length ≤ 100000) (lim d : Nat) (hlim : lim ≤ d) (σ : Sto) (hu : σ.Und d) : Ret lim d 10 [.str s, .bool false] σ (parseBV (parseB z0 s)) σ := by
  have hun := und_succ hu
  have G := hb_par s (e := z0) (by simp [sz_z0]) 10 ⟨0, 0, false⟩ rfl (by simp) (by simp) (by simp)
  have hw := ht_par s hs 10 ⟨0, 0, false⟩ rfl (by simp) (by simp) (by simp)
  unfold Ret parseBV
  rw [parseB_eq]
  rw [WF_body (C := X) rfl Go.Proofs.Tryz.func10 rfl (by kernel_rfl)]; simp only [Go.Proofs.Tryz.results10]
  simp -implicitDefEqProofs -dsimp only [↓reduceIte, ↓W_seq, go_sem, WR_nil, evNews, Nat.reduceEqDiff, Nat.reduceAdd, Nat.reduceMul, Nat.reduceLeDiff, Nat.reduceLT, Int.cast_ofNat_Int, Int.reduceBNe, Int.reduceToNat, Int.reduceLT, Int.reduceLE, Int.reduceAdd, Int.reduceNeg, Int.reduceEq, reduceCtorEq, enc]
  rw [show [MV.str s, MV.int .i64 0, MV.bool false, MV.int .i64 0, MV.bool false] = encT s ⟨0, 0, false⟩ from rfl]
  refine (hw lim (d + 1) ⟨d, 12, σ.ct d + 1⟩ _ (Nat.lt_succ_self d) hlim ?_ ?_).wh ?_
  · simp only [u_tick, u_mine]; exact hun
  · simp only [go_sem, if_true]
  generalize parB s z0 10 ⟨0, 0, false⟩ = x at G
  obtain ⟨y, r⟩ := x
  have g2 := G.in'
  have hsz : sz y ≤ 1000000 := by have := G.sz'; simp only at this g2; omega
  simp only at g2 ⊢
  cases hbb : r.bad
  case true =>
    have hbd : encT s r = [.str s, .int .i64 r.at', .bool false, .int .i64 r.g, .bool true] := by rw [encT_eq, hbb]
    simp -implicitDefEqProofs -dsimp only [↓reduceIte, ↓W_seq, go_sem, WR_nil, evNews, Nat.reduceEqDiff, Nat.reduceAdd, Nat.reduceMul, Nat.reduceLeDiff, Nat.reduceLT, Int.cast_ofNat_Int, Int.reduceBNe, Int.reduceToNat, Int.reduceLT, Int.reduceLE, Int.reduceAdd, Int.reduceNeg, Int.reduceEq, reduceCtorEq, enc, hbd]
    rw [D_lx [.tmp 34] (by kernel_rfl) (by kernel_rfl)]; simp -implicitDefEqProofs -dsimp only [↓reduceIte, ↓W_seq, go_sem, WR_nil, evNews, Nat.reduceEqDiff, Nat.reduceAdd, Nat.reduceMul, Nat.reduceLeDiff, Nat.reduceLT, Int.cast_ofNat_Int, Int.reduceBNe, Int.reduceToNat, Int.reduceLT, Int.reduceLE, Int.reduceAdd, Int.reduceNeg, Int.reduceEq, reduceCtorEq, enc, List.takeWhile_cons, List.dropWhile_cons, List.takeWhile_nil, List.dropWhile_nil, isTail, evNews, List.mem_cons, List.not_mem_nil, or_false, false_or, not_false_eq_true, not_true_eq_false, decide_true, decide_false, Bool.not_true, Bool.not_false, if_true, if_false, forall_eq, forall_eq_or_imp, false_imp_iff, implies_true, ne_eq, ct_lt1, ct_lt2, ct_lt3, ct_lt4, ct_lt5, Bool.true_or]
    exact ⟨rfl, cut_und _ _ hu⟩
  case false =>
    have hgood := encT_good s r hbb
    simp -implicitDefEqProofs -dsimp only [↓reduceIte, ↓W_seq, go_sem, WR_nil, evNews, Nat.reduceEqDiff, Nat.reduceAdd, Nat.reduceMul, Nat.reduceLeDiff, Nat.reduceLT, Int.cast_ofNat_Int, Int.reduceBNe, Int.reduceToNat, Int.reduceLT, Int.reduceLE, Int.reduceAdd, Int.reduceNeg, Int.reduceEq, reduceCtorEq, enc, hgood]
    refine (v23 s r ⟨d, 12, σ.ct d + 1⟩ lim (d + 1) (Nat.lt_succ_self d) _ ?_ ?_).wh ?_
    · simp only [u_tick, u_mine]; exact hun
    · simp only [go_sem, Nat.reduceEqDiff, and_false, false_and, if_false, if_true]; rw [hgood]
    by_cases hend : r.at' < s.length
    · have e1 : ¬ ((s.length : Int) ≤ (r.at' : Int)) := by omega
      have hbd : encT s r.fail = [.str s, .int .i64 r.at', .bool false, .int .i64 r.g, .bool true] := rfl
      simp -implicitDefEqProofs -dsimp only [↓reduceIte, ↓W_seq, go_sem, WR_nil, evNews, Nat.reduceEqDiff, Nat.reduceAdd, Nat.reduceMul, Nat.reduceLeDiff, Nat.reduceLT, Int.cast_ofNat_Int, Int.reduceBNe, Int.reduceToNat, Int.reduceLT, Int.reduceLE, Int.reduceAdd, Int.reduceNeg, Int.reduceEq, reduceCtorEq, enc, e1]
      refine (v24 s r ⟨d, 12, σ.ct d + 1⟩ lim (d + 1) (Nat.lt_succ_self d) hlim _ ?_ ?_).wh ?_
      · simp only [u_tick, u_mine]; exact hun
      · simp only [go_sem, Nat.reduceEqDiff, and_false, false_and, if_false, if_true]; rw [hgood]
      simp -implicitDefEqProofs -dsimp only [↓reduceIte, ↓W_seq, go_sem, WR_nil, evNews, Nat.reduceEqDiff, Nat.reduceAdd, Nat.reduceMul, Nat.reduceLeDiff, Nat.reduceLT, Int.cast_ofNat_Int, Int.reduceBNe, Int.reduceToNat, Int.reduceLT, Int.reduceLE, Int.reduceAdd, Int.reduceNeg, Int.reduceEq, reduceCtorEq, enc, hbd]
      rw [D_lx [.tmp 34] (by kernel_rfl) (by kernel_rfl)]; simp -implicitDefEqProofs -dsimp only [↓reduceIte, ↓W_seq, go_sem, WR_nil, evNews, Nat.reduceEqDiff, Nat.reduceAdd, Nat.reduceMul, Nat.reduceLeDiff, Nat.reduceLT, Int.cast_ofNat_Int, Int.reduceBNe, Int.reduceToNat, Int.reduceLT, Int.reduceLE, Int.reduceAdd, Int.reduceNeg, Int.reduceEq, reduceCtorEq, enc, List.takeWhile_cons, List.dropWhile_cons, List.takeWhile_nil, List.dropWhile_nil, isTail, evNews, List.mem_cons, List.not_mem_nil, or_false, false_or, not_false_eq_true, not_true_eq_false, decide_true, decide_false, Bool.not_true, Bool.not_false, if_true, if_false, forall_eq, forall_eq_or_imp, false_imp_iff, implies_true, ne_eq, ct_lt1, ct_lt2, ct_lt3, ct_lt4, ct_lt5, hend, Bool.or_true]
      exact ⟨rfl, cut_und _ _ hu⟩
    · have e1 : ((s.length : Int) ≤ (r.at' : Int)) := by omega
      simp -implicitDefEqProofs -dsimp only [↓reduceIte, ↓W_seq, go_sem, WR_nil, evNews, Nat.reduceEqDiff, Nat.reduceAdd, Nat.reduceMul, Nat.reduceLeDiff, Nat.reduceLT, Int.cast_ofNat_Int, Int.reduceBNe, Int.reduceToNat, Int.reduceLT, Int.reduceLE, Int.reduceAdd, Int.reduceNeg, Int.reduceEq, reduceCtorEq, enc, e1]
      refine (w25 y hsz lim (d + 1) _ (by omega) ?_).wh ?_
      · simp only [u_tick, u_mine]; exact hun
      cases formedB y
      · simp -implicitDefEqProofs -dsimp only [↓reduceIte, ↓W_seq, go_sem, WR_nil, evNews, Nat.reduceEqDiff, Nat.reduceAdd, Nat.reduceMul, Nat.reduceLeDiff, Nat.reduceLT, Int.cast_ofNat_Int, Int.reduceBNe, Int.reduceToNat, Int.reduceLT, Int.reduceLE, Int.reduceAdd, Int.reduceNeg, Int.reduceEq, reduceCtorEq, enc, z0, encs, cut_und _ _ hu, hend, Bool.or_false, Bool.or_self, Bool.false_eq_true]
      · simp -implicitDefEqProofs -dsimp only [↓reduceIte, ↓W_seq, go_sem, WR_nil, evNews, Nat.reduceEqDiff, Nat.reduceAdd, Nat.reduceMul, Nat.reduceLeDiff, Nat.reduceLT, Int.cast_ofNat_Int, Int.reduceBNe, Int.reduceToNat, Int.reduceLT, Int.reduceLE, Int.reduceAdd, Int.reduceNeg, Int.reduceEq, reduceCtorEq, enc, cut_und _ _ hu, hend, Bool.or_false, Bool.or_self, Bool.false_eq_true]
end Go.Proofs.Tryz.E
