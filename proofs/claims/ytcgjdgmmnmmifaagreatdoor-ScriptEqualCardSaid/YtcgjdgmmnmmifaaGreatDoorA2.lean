/- Walks: what the functions compute. -/
import Derived.Test.YtcgjdgmmnmmifaaGreatDoorE13
set_option linter.unusedVariables false
set_option linter.unusedSimpArgs false
/- Whether two trees are alike: both sides' answers. -/
namespace Go.Proofs.Tryz.E
open Go.Mv
set_option maxHeartbeats 4000000
set_option maxRecDepth 20000
@[go_sem] theorem bin_66e' (xs ys : List MV) : binO X.P X.eqT .eql 132 (.agg xs) (.agg ys) = (eqC ([.i .i64, .i .u8] ++ u4 ++ [.i .i64, .i .i64, .i .i64]) xs ys).map fun r => .bool r := rfl
mutual
def sameB : Nd → Nd → Bool
  | .mk k c s0 s1 s2 s3 n mn mx l, .mk k' c' t0 t1 t2 t3 n' mn' mx' l' => (k == k' && (c == c' && (s0 == t0 && (s1 == t1 && (s2 == t2 && (s3 == t3 && (n == n' && (mn == mn' && mx == mx')))))))) && samesB l l'
def samesB : List Nd → List Nd → Bool
  | [], [] => true
  | x :: l, y :: l' => sameB x y && samesB l l'
  | [], _ :: _ => false
  | _ :: _, [] => false
end
theorem sames_len : ∀ {l l' : List Nd}, samesB l l' = true → l.length = l'.length
  | [], [], _ => rfl
  | x :: l, y :: l', h => by
    simp only [samesB, Bool.and_eq_true] at h
    simp [sames_len h.2]
  | [], _ :: _, h => by simp [samesB] at h
  | _ :: _, [], h => by simp [samesB] at h
theorem sames_ne {l l' : List Nd} (h : l.length ≠ l'.length) : samesB l l' = false := by
  rw [← Bool.not_eq_true]; exact fun q => h (sames_len q)
theorem sames_at {l l' : List Nd} {i : Nat} (h : i < l.length) (h' : i < l'.length) : samesB (l.drop i) (l'.drop i) = (sameB l[i] l'[i] && samesB (l.drop (i + 1)) (l'.drop (i + 1))) := by
  rw [List.drop_eq_getElem_cons h, List.drop_eq_getElem_cons h', samesB]
theorem bne_ne {x y : Int} (h : x ≠ y) : (x != y) = true := by rw [bne_iff_ne]; exact h
theorem beq_ne {x y : Int} (h : x ≠ y) : (x == y) = false := by rw [beq_eq_false_iff_ne]; exact h
theorem w10g : ∀ (x : Nd), sz x ≤ 1000000 → ∀ (y : Nd) (lim d : Nat) (σ : Sto), lim ≤ d → σ.Und d → Ret lim d 46 [.agg (enc x), .agg (enc y)] σ (.bool (sameB x y)) σ := by
  refine Nd.ind fun kd c s0 s1 s2 s3 n mn mx l ih hsz y lim d σ hlim hu => ?_
  obtain ⟨kd', c', t0, t1, t2, t3, n', mn', mx', l'⟩ := y
  have hl := len_le l
  simp only [sz] at hsz
  have hun := und_succ hu
  unfold Ret
  simp only [sameB]
  rw [WF_body (C := X) rfl Go.Proofs.Tryz.func46 rfl (by kernel_rfl)]; simp only [Go.Proofs.Tryz.results46]
  by_cases h1 : kd = kd'
  case neg => simp -implicitDefEqProofs -dsimp only [↓reduceIte, ↓W_seq, go_sem, enc, bne_ne h1, beq_ne h1, encs_len, cut_und _ _ hu, Bool.false_and]
  subst h1
  by_cases h2 : c = c'
  case neg => simp -implicitDefEqProofs -dsimp only [↓reduceIte, ↓W_seq, go_sem, enc, bne_self_i, beq_self_eq_true, bne_ne h2, beq_ne h2, encs_len, cut_und _ _ hu, Bool.false_and, Bool.true_and]
  subst h2
  by_cases h3 : s0 = t0
  case neg => simp -implicitDefEqProofs -dsimp only [↓reduceIte, ↓W_seq, go_sem, enc, bne_self_i, beq_self_eq_true, beq_ne h3, encs_len, cut_und _ _ hu, Bool.false_and, Bool.true_and, Bool.not_false]
  subst h3
  by_cases h4 : s1 = t1
  case neg => simp -implicitDefEqProofs -dsimp only [↓reduceIte, ↓W_seq, go_sem, enc, bne_self_i, beq_self_eq_true, beq_ne h4, encs_len, cut_und _ _ hu, Bool.false_and, Bool.true_and, Bool.not_false]
  subst h4
  by_cases h5 : s2 = t2
  case neg => simp -implicitDefEqProofs -dsimp only [↓reduceIte, ↓W_seq, go_sem, enc, bne_self_i, beq_self_eq_true, beq_ne h5, encs_len, cut_und _ _ hu, Bool.false_and, Bool.true_and, Bool.not_false]
  subst h5
  by_cases h6 : s3 = t3
  case neg => simp -implicitDefEqProofs -dsimp only [↓reduceIte, ↓W_seq, go_sem, enc, bne_self_i, beq_self_eq_true, beq_ne h6, encs_len, cut_und _ _ hu, Bool.false_and, Bool.true_and, Bool.not_false]
  subst h6
  by_cases h7 : n = n'
  case neg => simp -implicitDefEqProofs -dsimp only [↓reduceIte, ↓W_seq, go_sem, enc, bne_self_i, beq_self_eq_true, bne_ne h7, beq_ne h7, encs_len, cut_und _ _ hu, Bool.false_and, Bool.true_and, Bool.not_true]
  subst h7
  by_cases h8 : mn = mn'
  case neg => simp -implicitDefEqProofs -dsimp only [↓reduceIte, ↓W_seq, go_sem, enc, bne_self_i, beq_self_eq_true, bne_ne h8, beq_ne h8, encs_len, cut_und _ _ hu, Bool.false_and, Bool.true_and, Bool.not_true]
  subst h8
  by_cases h9 : mx = mx'
  case neg => simp -implicitDefEqProofs -dsimp only [↓reduceIte, ↓W_seq, go_sem, enc, bne_self_i, beq_self_eq_true, bne_ne h9, beq_ne h9, encs_len, cut_und _ _ hu, Bool.false_and, Bool.true_and, Bool.not_true]
  subst h9
  by_cases h0 : l.length = l'.length
  case neg =>
    have q : ((l.length : Int) != (l'.length : Int)) = true := bne_ne (by omega)
    simp -implicitDefEqProofs -dsimp only [↓reduceIte, ↓W_seq, go_sem, enc, bne_self_i, beq_self_eq_true, q, sames_ne h0, encs_len, cut_und _ _ hu, Bool.false_and, Bool.and_false, Bool.true_and, Bool.not_true]
  have q : ((l.length : Int) != (l'.length : Int)) = false := by rw [h0]; exact bne_self_i _
  simp -implicitDefEqProofs -dsimp only [↓reduceIte, ↓W_seq, go_sem, enc, bne_self_i, beq_self_eq_true, q, encs_len, Bool.true_and, Bool.not_true]
  refine loop_h (I := fun k a s => ∃ (i : Nat), i + k = l.length ∧ a 58 = .int .i64 i ∧ a 57 = .int .i64 l.length ∧ a 2 = .ptr ⟨d, 2, σ.ct d⟩ 0 ∧ a 3 = .ptr ⟨d, 3, σ.ct d + 1⟩ 0 ∧ s.ob ⟨d, 2, σ.ct d⟩ = some (enc (.mk kd c s0 s1 s2 s3 n mn mx l)) ∧ s.ob ⟨d, 3, σ.ct d + 1⟩ = some (enc (.mk kd c s0 s1 s2 s3 n mn mx l')) ∧ samesB (l.drop i) (l'.drop i) = samesB l l' ∧ s.cut d = σ ∧ s.Und (d + 1)) ?_ l.length _ _ ?_
  · rintro k a s ⟨i, hk, h1, h2, h3, h4, o3, o4, hq, hs, hs2⟩
    by_cases hi : i < l.length
    · have e1 : ((i : Int) < (l.length : Int)) := by omega
      have e2 : l[i]? = some l[i] := List.getElem?_eq_getElem hi
      have hi' : i < l'.length := by omega
      have e3 : l'[i]? = some l'[i] := List.getElem?_eq_getElem hi'
      have hm := List.getElem_mem hi
      have hy := sz_le l _ hm
      rw [sames_at hi hi'] at hq
      simp -implicitDefEqProofs -dsimp only [↓reduceIte, ↓W_seq, go_sem, enc, e1, h1, h2]
      rw [D_dr (by kernel_rfl) rfl]
      simp -implicitDefEqProofs -dsimp only [↓reduceIte, ↓W_seq, go_sem, enc, e1, e2, e3, h1, h2, h3, h4, o3, o4, encs_at]
      refine (ih l[i] hm (by omega) l'[i] (d + 1) (d + 1) _ (Nat.le_refl _) hs2).wh ?_
      cases hb : sameB l[i] l'[i]
      · rw [hb, Bool.false_and] at hq
        simp -implicitDefEqProofs -dsimp only [↓reduceIte, ↓W_seq, go_sem, enc, e1, e2, h1, h2, h3, h4, o3, o4, encs_at, ← hq, hs, Bool.not_false]
      · rw [hb, Bool.true_and] at hq
        simp -implicitDefEqProofs -dsimp only [↓reduceIte, ↓W_seq, go_sem, enc, e1, e2, h1, h2, h3, h4, o3, o4, encs_at, Bool.not_true, Bool.false_eq_true]
        exact ⟨k - 1, by omega, i + 1, by omega, by rw [wr64 _ (by omega) (by omega)]; rfl, hq, hs, hs2⟩
    · have e1 : ¬ ((i : Int) < (l.length : Int)) := by omega
      rw [List.drop_eq_nil_of_le (by omega), List.drop_eq_nil_of_le (by omega), samesB] at hq
      simp -implicitDefEqProofs -dsimp only [↓reduceIte, ↓W_seq, go_sem, enc, e1, h1, h2, hs, ← hq]
  · refine ⟨0, Nat.zero_add _, ?_⟩
    simp -implicitDefEqProofs -dsimp only [↓reduceIte, ↓W_seq, go_sem, enc, cut_und _ _ hu, u_tick, u_mine, hun, List.drop_zero]
theorem w28g (l l' : List Nd) (hl : l.length ≤ 1000000) (lim d : Nat) (σ : Sto) (hlim : lim ≤ d) (hu : σ.Und d) (ih : ∀ y ∈ l, ∀ (z : Nd) (lim d : Nat) (σ : Sto), lim ≤ d → σ.Und d → Ret lim d 44 [.agg (enc y), .agg (enc z)] σ (.bool (sameB y z)) σ) : Ret lim d 58 [.sl .no (encs l), .sl .no (encs l'), .fn 44] σ (.bool (samesB l l')) σ := by
  have hun := und_succ hu
  unfold Ret
  rw [WF_body (C := X) rfl Go.Proofs.Tryz.func58 rfl (by kernel_rfl)]; simp only [Go.Proofs.Tryz.results58]
  by_cases h0 : l.length = l'.length
  case neg =>
    have q : ((l.length : Int) != (l'.length : Int)) = true := bne_ne (by omega)
    simp -implicitDefEqProofs -dsimp only [↓reduceIte, ↓W_seq, go_sem, enc, q, sames_ne h0, encs_len, cut_und _ _ hu]
  have q : ((l.length : Int) != (l'.length : Int)) = false := by rw [h0]; exact bne_self_i _
  simp -implicitDefEqProofs -dsimp only [↓reduceIte, ↓W_seq, go_sem, enc, encs_len, q]
  refine loop_h (I := fun k a s => ∃ (i : Nat), i + k = l.length ∧ a 17 = .int .i64 i ∧ a 16 = .int .i64 l.length ∧ a 15 = .sl .no (encs l) ∧ a 1 = .sl .no (encs l') ∧ a 2 = .fn 44 ∧ samesB (l.drop i) (l'.drop i) = samesB l l' ∧ s.cut d = σ ∧ s.Und (d + 1)) ?_ l.length _ _ ?_
  · rintro k a s ⟨i, hk, h17, h16, h15, h1, h2, hq, hs, hs2⟩
    by_cases hi : i < l.length
    · have e1 : ((i : Int) < (l.length : Int)) := by omega
      have e2 : l[i]? = some l[i] := List.getElem?_eq_getElem hi
      have hi' : i < l'.length := by omega
      have e4 : l'[i]? = some l'[i] := List.getElem?_eq_getElem hi'
      have hm := List.getElem_mem hi
      have e3 := wr64 ((i : Int) + 1) (by omega) (by omega)
      rw [sames_at hi hi'] at hq
      simp -implicitDefEqProofs -dsimp only [↓reduceIte, ↓W_seq, go_sem, enc, e1, e2, e4, h17, h16, h15, h1, h2, encs_at]
      refine (ih l[i] hm l'[i] lim (d + 1) _ (by omega) (und_new (und_new hs2 _ _ _) _ _ _)).wh ?_
      cases hb : sameB l[i] l'[i]
      · rw [hb, Bool.false_and] at hq
        simp -implicitDefEqProofs -dsimp only [↓reduceIte, ↓W_seq, go_sem, enc, e3, h17, h16, h15, h1, h2, Bool.not_false, ← hq, hs]
        exact ⟨_, rfl, Cnd_t.2 trivial⟩
      · rw [hb, Bool.true_and] at hq
        simp -implicitDefEqProofs -dsimp only [↓reduceIte, ↓W_seq, go_sem, enc, e3, h17, h16, h15, h1, h2, Bool.not_true, Bool.false_eq_true]
        exact ⟨_, rfl, Cnd_f.2 ⟨k - 1, by omega, i + 1, by omega, by simp, hq, hs, by simp only [u_tick, u_mine]; exact hs2⟩⟩
    · have e1 : ¬ ((i : Int) < (l.length : Int)) := by omega
      rw [List.drop_eq_nil_of_le (by omega), List.drop_eq_nil_of_le (by omega), samesB] at hq
      simp -implicitDefEqProofs -dsimp only [↓reduceIte, ↓W_seq, go_sem, enc, e1, h17, h16, hs, ← hq]
  · refine ⟨0, Nat.zero_add _, ?_⟩
    simp -implicitDefEqProofs -dsimp only [↓reduceIte, ↓W_seq, go_sem, enc, cut_und _ _ hu, u_tick, u_mine, hun, List.drop_zero]
theorem w16g : ∀ (x : Nd), sz x ≤ 1000000 → ∀ (y : Nd) (lim d : Nat) (σ : Sto), lim ≤ d → σ.Und d → Ret lim d 44 [.agg (enc x), .agg (enc y)] σ (.bool (sameB x y)) σ := by
  refine Nd.ind fun kd c s0 s1 s2 s3 n mn mx l ih hsz y lim d σ hlim hu => ?_
  obtain ⟨kd', c', t0, t1, t2, t3, n', mn', mx', l'⟩ := y
  have hl := len_le l
  simp only [sz] at hsz
  have hun := und_succ hu
  unfold Ret
  simp only [sameB]
  rw [WF_body (C := X) rfl Go.Proofs.Tryz.func44 rfl (by kernel_rfl)]; simp only [Go.Proofs.Tryz.results44]
  simp -implicitDefEqProofs -dsimp only [↓reduceIte, ↓W_seq, go_sem, enc]
  rw [D_dr (by kernel_rfl) rfl]
  simp -implicitDefEqProofs -dsimp only [↓reduceIte, ↓W_seq, go_sem, enc]
  refine (w27 kd c s0 s1 s2 s3 n mn mx l (d + 1) (d + 1) _ (by simp only [u_tick, u_mine]; exact hun)).wh ?_
  simp -implicitDefEqProofs -dsimp only [↓reduceIte, ↓W_seq, go_sem, enc]
  refine (w27 kd' c' t0 t1 t2 t3 n' mn' mx' l' (d + 1) (d + 1) _ (by simp only [u_tick, u_mine]; exact hun)).wh ?_
  generalize hH : (kd == kd' && (c == c' && (s0 == t0 && (s1 == t1 && (s2 == t2 && (s3 == t3 && (n == n' && (mn == mn' && mx == mx')))))))) = hb
  cases hb
  · simp -implicitDefEqProofs -dsimp only [↓reduceIte, ↓W_seq, go_sem, enc, hH, cut_und _ _ hu, Bool.false_and]
  · simp -implicitDefEqProofs -dsimp only [↓reduceIte, ↓W_seq, go_sem, enc, hH, Bool.true_and]
    refine (w28g l l' (by omega) (d + 1) (d + 1) _ (Nat.le_refl _) (by simp only [u_tick, u_mine]; exact hun) (fun y hy => ih y hy (by have := sz_le l y hy; omega))).wh ?_
    simp -implicitDefEqProofs -dsimp only [↓reduceIte, ↓W_seq, go_sem, enc, cut_und _ _ hu]
end Go.Proofs.Tryz.E
