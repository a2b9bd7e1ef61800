/- Walks: what the functions compute. -/
import Derived.Test.YtcgjdgmmnmmifaaGreatDoorS0
import Derived.Test.YtcgjdgmmnmmifaaGreatDoorT3
set_option linter.unusedVariables false
set_option linter.unusedSimpArgs false
/- Items and scripts are alike, by both sides. -/
namespace Go.Proofs.Tryz.E
open Go.Mv
set_option maxHeartbeats 4000000
set_option maxRecDepth 20000
attribute [go_sem] encM_era encM_len encM_take encM_data encI_len encI_take encI_48 encI_49 encI_data encI_era encI_take50 encIs_len
@[go_sem] theorem putC_item (x : It) : putC [.int .u8 0, .int .i64 0, .int .i64 0, .int .i64 0, .int .u8 0, .int .u64 0, .int .u64 0, .int .u64 0, .int .u64 0, .int .i64 0, .int .i64 0, .int .i64 0, .sl .nil [], .int .i64 0, .int .i64 0, .int .i64 0, .int .u8 0, .int .u64 0, .int .u64 0, .int .u64 0, .int .u64 0, .int .i64 0, .int .i64 0, .int .i64 0, .sl .nil [], .bool false, .str [], .str [], .str [], .int .i64 0, .int .i64 0, .int .i64 0, .int .u8 0, .int .u64 0, .int .u64 0, .int .u64 0, .int .u64 0, .int .i64 0, .int .i64 0, .int .i64 0, .sl .nil [], .sl .nil [], .int .i64 0, .bool false, .bool false, .str [], .str [], .int .i64 0, .bool false, .int .i64 0] (encI x) 0 = encI x := putC_whole _ _ (by rw [encI_len]; rfl)
@[go_sem] theorem bin_bne (a b : Bool) : binO X.P X.eqT .neq 4 (.bool a) (.bool b) = some (.bool (a != b)) := by
  unfold binO
  rw [und_4]
  rfl
/-- Trees of a size that is walked. -/
def szC (c : Cm) : Prop := sz c.x ≤ 1000000 ∧ sz c.y ≤ 1000000 ∧ sz c.px ≤ 1000000 ∧ c.ps.length ≤ 60
def likeI (x y : It) : Bool := x.cl == y.cl && (x.to == y.to && likeM x.c y.c)
def likeIs : List It → List It → Bool
  | [], [] => true
  | x :: l, y :: l' => likeI x y && likeIs l l'
  | _, _ => false
theorem likeIs_len : ∀ {l l' : List It}, likeIs l l' = true → l.length = l'.length
  | [], [], _ => rfl
  | x :: l, y :: l', h => by
    simp only [likeIs, Bool.and_eq_true] at h
    simp [likeIs_len h.2]
  | [], _ :: _, h => by cases h
  | _ :: _, [], h => by cases h
theorem likeIs_ne {l l' : List It} (h : ¬ l.length = l'.length) : likeIs l l' = false := by
  cases q : likeIs l l' with
  | false => rfl
  | true => exact absurd (likeIs_len q) h
theorem likeIs_at {l l' : List It} {i : Nat} (h : i < l.length) (h' : i < l'.length) : likeIs (l.drop i) (l'.drop i) = (likeI l[i] l'[i] && likeIs (l.drop (i + 1)) (l'.drop (i + 1))) := by
  rw [List.drop_eq_getElem_cons h, List.drop_eq_getElem_cons h']
  rfl
theorem w717 (x y : It) (hx : szC x.c) (lim d : Nat) (σ : Sto) (hlim : lim ≤ d) (hu : σ.Und d) : Ret lim d 17 [.agg (encI x), .agg (encI y)] σ (.bool (likeI x y)) σ := by
  have hun := und_succ hu
  obtain ⟨z1, z2, z3, z4⟩ := hx
  unfold Ret
  simp only [likeI]
  rw [WF_body (C := X) rfl Go.Proofs.Tryz.func17 rfl (by kernel_rfl)]; simp only [Go.Proofs.Tryz.results17]
  cases h1 : x.cl == y.cl
  · simp -implicitDefEqProofs -dsimp only [↓reduceIte, ↓W_seq, go_sem, enc, List.drop_zero, h1, cut_und _ _ hu, Bool.false_and]
  cases h2 : x.to == y.to
  · simp -implicitDefEqProofs -dsimp only [↓reduceIte, ↓W_seq, go_sem, enc, List.drop_zero, h1, h2, cut_und _ _ hu, Bool.false_and, Bool.true_and]
  simp -implicitDefEqProofs -dsimp only [↓reduceIte, ↓W_seq, go_sem, enc, List.drop_zero, h1, h2, Bool.true_and]
  refine (w658 x.c y.c z1 z2 z3 (by omega) lim (d + 1) _ (by omega) (by simp only [u_tick, u_mine]; exact hun)).wh ?_
  simp -implicitDefEqProofs -dsimp only [↓reduceIte, ↓W_seq, go_sem, enc, cut_und _ _ hu]
theorem w716 (l l' : List It) (hl : l.length ≤ 1000000) (hz : ∀ x ∈ l, szC x.c) (lim d : Nat) (σ : Sto) (hlim : lim ≤ d) (hu : σ.Und d) : Ret lim d 16 [.sl .no (encIs l), .sl .no (encIs l'), .fn 17] σ (.bool (likeIs l l')) σ := by
  have hun := und_succ hu
  unfold Ret
  rw [WF_body (C := X) rfl Go.Proofs.Tryz.func16 rfl (by kernel_rfl)]; simp only [Go.Proofs.Tryz.results16]
  by_cases h0 : l.length = l'.length
  case neg =>
    have q : ((l.length : Int) != (l'.length : Int)) = true := bne_ne (by omega)
    simp -implicitDefEqProofs -dsimp only [↓reduceIte, ↓W_seq, go_sem, enc, q, likeIs_ne h0, cut_und _ _ hu]
  have q : ((l.length : Int) != (l'.length : Int)) = false := by rw [h0]; exact bne_self_i _
  simp -implicitDefEqProofs -dsimp only [↓reduceIte, ↓W_seq, go_sem, enc, q]
  refine loop_h (I := fun k a s => ∃ (i : Nat), i + k = l.length ∧ a 17 = .int .i64 i ∧ a 16 = .int .i64 l.length ∧ a 15 = .sl .no (encIs l) ∧ a 1 = .sl .no (encIs l') ∧ a 2 = .fn 17 ∧ likeIs (l.drop i) (l'.drop i) = likeIs l l' ∧ s.cut d = σ ∧ s.Und (d + 1)) ?_ l.length _ _ ?_
  · rintro k a s ⟨i, hk, h17, h16, h15, h1, h2, hq, hs, hs2⟩
    by_cases hi : i < l.length
    · have e1 : ((i : Int) < (l.length : Int)) := by omega
      have hi' : i < l'.length := by omega
      have hm := List.getElem_mem hi
      have e3 := wr64 ((i : Int) + 1) (by omega) (by omega)
      rw [likeIs_at hi hi'] at hq
      simp -implicitDefEqProofs -dsimp only [↓reduceIte, ↓W_seq, go_sem, enc, e1, encIs_at hi, encIs_at hi', h17, h16, h15, h1, h2, List.drop_zero]
      refine (w717 l[i] l'[i] (hz _ hm) lim (d + 1) _ (by omega) (und_new (und_new hs2 _ _ _) _ _ _)).wh ?_
      cases hb : likeI l[i] l'[i]
      · rw [hb, Bool.false_and] at hq
        simp -implicitDefEqProofs -dsimp only [↓reduceIte, ↓W_seq, go_sem, enc, e3, h17, h16, h15, h1, h2, Bool.not_false, ← hq, hs]
        exact ⟨_, rfl, Cnd_t.2 trivial⟩
      · rw [hb, Bool.true_and] at hq
        simp -implicitDefEqProofs -dsimp only [↓reduceIte, ↓W_seq, go_sem, enc, e3, h17, h16, h15, h1, h2, Bool.not_true, Bool.false_eq_true]
        exact ⟨_, rfl, Cnd_f.2 ⟨k - 1, by omega, i + 1, by omega, by simp, hq, hs, by simp only [u_tick, u_mine]; exact hs2⟩⟩
    · have e1 : ¬ ((i : Int) < (l.length : Int)) := by omega
      rw [List.drop_eq_nil_of_le (by omega), List.drop_eq_nil_of_le (by omega), likeIs] at hq
      simp -implicitDefEqProofs -dsimp only [↓reduceIte, ↓W_seq, go_sem, enc, e1, h17, h16, hs, ← hq]
  · refine ⟨0, Nat.zero_add _, ?_⟩
    simp -implicitDefEqProofs -dsimp only [↓reduceIte, ↓W_seq, go_sem, enc, cut_und _ _ hu, u_tick, u_mine, hun, List.drop_zero]
theorem w715 (q q' : Bool) (l l' : List It) (hl : l.length ≤ 1000000) (hz : ∀ x ∈ l, szC x.c) (lim d : Nat) (σ : Sto) (hlim : lim ≤ d) (hu : σ.Und d) : Ret lim d 9 [.agg (encSc q l), .agg (encSc q' l')] σ (.bool (q == q' && likeIs l l')) σ := by
  have hun := und_succ hu
  unfold Ret encSc
  rw [WF_body (C := X) rfl Go.Proofs.Tryz.func9 rfl (by kernel_rfl)]; simp only [Go.Proofs.Tryz.results9]
  cases h1 : q == q'
  · simp -implicitDefEqProofs -dsimp only [↓reduceIte, ↓W_seq, go_sem, enc, h1, cut_und _ _ hu, Bool.false_and]
  simp -implicitDefEqProofs -dsimp only [↓reduceIte, ↓W_seq, go_sem, enc, h1, Bool.true_and]
  refine (w716 l l' hl hz lim (d + 1) _ (by omega) (by simp only [u_tick, u_mine]; exact hun)).wh ?_
  simp -implicitDefEqProofs -dsimp only [↓reduceIte, ↓W_seq, go_sem, enc, cut_und _ _ hu]
theorem w718 (q q' : Bool) (l l' : List It) (hl : l.length ≤ 1000000) (hz : ∀ x ∈ l, szC x.c) (lim d : Nat) (σ : Sto) (hlim : lim ≤ d) (hu : σ.Und d) : Ret lim d 11 [.agg (encSc q l), .agg (encSc q' l')] σ (.bool (q == q' && likeIs l l')) σ := by
  have hun := und_succ hu
  unfold Ret encSc
  rw [WF_body (C := X) rfl Go.Proofs.Tryz.func11 rfl (by kernel_rfl)]; simp only [Go.Proofs.Tryz.results11]
  cases h1 : q == q'
  · have e0 : (q != q') = true := by cases q <;> cases q' <;> first | rfl | cases h1
    simp -implicitDefEqProofs -dsimp only [↓reduceIte, ↓W_seq, go_sem, enc, e0, cut_und _ _ hu, Bool.false_and]
  have e0 : (q != q') = false := by cases q <;> cases q' <;> first | rfl | cases h1
  by_cases h0 : l.length = l'.length
  case neg =>
    have q : ((l.length : Int) != (l'.length : Int)) = true := bne_ne (by omega)
    simp -implicitDefEqProofs -dsimp only [↓reduceIte, ↓W_seq, go_sem, enc, e0, q, likeIs_ne h0, cut_und _ _ hu, Bool.true_and]
  have q0 : ((l.length : Int) != (l'.length : Int)) = false := by rw [h0]; exact bne_self_i _
  simp -implicitDefEqProofs -dsimp only [↓reduceIte, ↓W_seq, go_sem, enc, e0, q0, Bool.true_and]
  refine loop_h (I := fun k a s => ∃ (i : Nat), i + k = l.length ∧ a 25 = .int .i64 i ∧ a 24 = .int .i64 l.length ∧ a 2 = .ptr ⟨d, 2, σ.ct d⟩ 0 ∧ a 3 = .ptr ⟨d, 3, σ.ct d + 1⟩ 0 ∧ s.ob ⟨d, 2, σ.ct d⟩ = some [.bool q, .sl .no (encIs l)] ∧ s.ob ⟨d, 3, σ.ct d + 1⟩ = some [.bool q', .sl .no (encIs l')] ∧ σ.ct d + 2 ≤ s.ct d ∧ likeIs (l.drop i) (l'.drop i) = likeIs l l' ∧ s.cut d = σ ∧ s.Und (d + 1)) ?_ l.length _ _ ?_
  · rintro k a s ⟨i, hk, h25, h24, h2, h3, o2, o3, hct, hq, hs, hs2⟩
    by_cases hi : i < l.length
    · have e1 : ((i : Int) < (l.length : Int)) := by omega
      have hi' : i < l'.length := by omega
      have hm := List.getElem_mem hi
      have e3 := wr64 ((i : Int) + 1) (by omega) (by omega)
      rw [likeIs_at hi hi'] at hq
      simp -implicitDefEqProofs -dsimp only [↓reduceIte, ↓W_seq, go_sem, enc, e1, h25, h24, h2, h3]
      obtain ⟨z1, z2, z3, z4⟩ := hz _ hm
      cases b1 : (l[i].cl != l'[i].cl)
      rotate_left
      · have hb : likeI l[i] l'[i] = false := by
          have : (l[i].cl == l'[i].cl) = false := by cases h : l[i].cl <;> cases h' : l'[i].cl <;> simp [h, h'] at b1 ⊢
          rw [likeI, this, Bool.false_and]
        rw [hb, Bool.false_and] at hq
        rw [D_lx [.tmp 33, .tmp 36] (by kernel_rfl) (by kernel_rfl)]; simp -implicitDefEqProofs -dsimp only [↓reduceIte, ↓W_seq, go_sem, enc, List.takeWhile_cons, List.dropWhile_cons, List.takeWhile_nil, List.dropWhile_nil, isTail, evNews, List.mem_cons, List.not_mem_nil, or_false, false_or, not_false_eq_true, not_true_eq_false, decide_true, decide_false, Bool.not_true, Bool.not_false, if_true, if_false, forall_eq, forall_eq_or_imp, false_imp_iff, implies_true, ne_eq, ct_lt1, ct_lt2, ct_lt3, ct_lt4, ct_lt5, h25, h24, h2, h3, o2, o3, encIs_at hi, encIs_at hi', List.drop_zero, b1]
        refine ⟨by omega, ?_⟩
        simp -implicitDefEqProofs -dsimp only [↓reduceIte, ↓W_seq, go_sem, enc, ← hq, hs]
      have c1 : (l[i].cl == l'[i].cl) = true := by cases h : l[i].cl <;> cases h' : l'[i].cl <;> simp [h, h'] at b1 ⊢
      cases b2 : (l[i].to != l'[i].to)
      rotate_left
      · have hb : likeI l[i] l'[i] = false := by
          have : (l[i].to == l'[i].to) = false := by simpa using b2
          rw [likeI, this, Bool.false_and, Bool.and_false]
        rw [hb, Bool.false_and] at hq
        rw [D_lx [.tmp 33, .tmp 36] (by kernel_rfl) (by kernel_rfl)]; simp -implicitDefEqProofs -dsimp only [↓reduceIte, ↓W_seq, go_sem, enc, List.takeWhile_cons, List.dropWhile_cons, List.takeWhile_nil, List.dropWhile_nil, isTail, evNews, List.mem_cons, List.not_mem_nil, or_false, false_or, not_false_eq_true, not_true_eq_false, decide_true, decide_false, Bool.not_true, Bool.not_false, if_true, if_false, forall_eq, forall_eq_or_imp, false_imp_iff, implies_true, ne_eq, ct_lt1, ct_lt2, ct_lt3, ct_lt4, ct_lt5, h25, h24, h2, h3, o2, o3, encIs_at hi, encIs_at hi', List.drop_zero, b1, b2]
        refine ⟨by omega, ?_⟩
        simp -implicitDefEqProofs -dsimp only [↓reduceIte, ↓W_seq, go_sem, enc, ← hq, hs]
      have c2 : (l[i].to == l'[i].to) = true := by simpa using b2
      have hb : likeI l[i] l'[i] = likeM l[i].c l'[i].c := by rw [likeI, c1, c2, Bool.true_and, Bool.true_and]
      rw [hb] at hq
      rw [D_lx [.tmp 33, .tmp 36] (by kernel_rfl) (by kernel_rfl)]; simp -implicitDefEqProofs -dsimp only [↓reduceIte, ↓W_seq, go_sem, enc, List.takeWhile_cons, List.dropWhile_cons, List.takeWhile_nil, List.dropWhile_nil, isTail, evNews, List.mem_cons, List.not_mem_nil, or_false, false_or, not_false_eq_true, not_true_eq_false, decide_true, decide_false, Bool.not_true, Bool.not_false, if_true, if_false, forall_eq, forall_eq_or_imp, false_imp_iff, implies_true, ne_eq, ct_lt1, ct_lt2, ct_lt3, ct_lt4, ct_lt5, h25, h24, h2, h3, o2, o3, encIs_at hi, encIs_at hi', List.drop_zero, b1, b2]
      refine ⟨by omega, ?_⟩
      refine (w659 l[i].c l'[i].c z1 z2 z3 (by omega) lim (d + 1) _ (by omega) (by simp only [u_tick, u_mine]; exact hs2)).wh ?_
      cases hm' : likeM l[i].c l'[i].c
      · rw [hm', Bool.false_and] at hq
        simp -implicitDefEqProofs -dsimp only [↓reduceIte, ↓W_seq, go_sem, enc, ← hq, hs]
      · rw [hm', Bool.true_and] at hq
        simp -implicitDefEqProofs -dsimp only [↓reduceIte, ↓W_seq, go_sem, enc, e3, h25, h24, h2, h3]
        exact ⟨k - 1, by omega, i + 1, by omega, rfl, o2, o3, by omega, hq, hs, by simp only [u_tick, u_mine]; exact hs2⟩
    · have e1 : ¬ ((i : Int) < (l.length : Int)) := by omega
      rw [List.drop_eq_nil_of_le (by omega), List.drop_eq_nil_of_le (by omega), likeIs] at hq
      simp -implicitDefEqProofs -dsimp only [↓reduceIte, ↓W_seq, go_sem, enc, e1, h25, h24, hs, ← hq]
  · refine ⟨0, Nat.zero_add _, ?_⟩
    simp -implicitDefEqProofs -dsimp only [↓reduceIte, ↓W_seq, go_sem, enc, cut_und _ _ hu, u_tick, u_mine, hun, List.drop_zero]
end Go.Proofs.Tryz.E
