/- Walks: what the functions compute. Walks: what the functions compute. -/
import Derived.Test.YtnlnlcapbolibaaGreatDoorE21
import Derived.Test.YtnlnlcapbolibaaGreatDoorG0
set_option linter.unusedVariables false
set_option linter.unusedSimpArgs false
/- How many groups; whether two are alike, where they are one. -/
namespace Go.Proofs.Tryz.E
open Go.Mv
set_option maxHeartbeats 4000000
set_option maxRecDepth 20000
mutual
def grp : Nd → Int
  | .mk kd _ _ _ _ _ _ _ _ l => if kd = 6 then IntKind.i64.wrap (grps 0 l + 1) else grps 0 l
def grps : Int → List Nd → Int
  | k, [] => k
  | k, x :: l => grps (IntKind.i64.wrap (k + grp x)) l
end
theorem grps_at {l : List Nd} {i : Nat} (h : i < l.length) (m : Int) : grps m (l.drop i) = grps (IntKind.i64.wrap (m + grp l[i])) (l.drop (i + 1)) := by rw [List.drop_eq_getElem_cons h, grps]
@[go_sem] theorem bin_66e (xs ys : List MV) : binO X.P X.eqT .eql 75 (.agg xs) (.agg ys) = (eqC ([.i .i64, .i .u8] ++ u4 ++ [.i .i64, .i .i64, .i .i64]) xs ys).map fun r => .bool r := rfl
theorem w28 (l : List Nd) (hl : l.length ≤ 1000000) (lim d : Nat) (σ : Sto) (hlim : lim ≤ d) (hu : σ.Und d) (ih : ∀ y ∈ l, ∀ (lim d : Nat) (σ : Sto), lim ≤ d → σ.Und d → Ret lim d 19 [.agg (enc y), .agg (enc y)] σ (.bool true) σ) : Ret lim d 35 [.sl .no (encs l), .sl .no (encs l), .fn 19] σ (.bool true) σ := by
  have hun := und_succ hu
  unfold Ret
  rw [WF_body (C := X) rfl Go.Proofs.Tryz.func35 rfl (by kernel_rfl)]; simp only [Go.Proofs.Tryz.results35]
  simp -implicitDefEqProofs -dsimp only [↓reduceIte, ↓W_seq, go_sem, WR_nil, evNews, Nat.reduceEqDiff, Nat.reduceAdd, Nat.reduceMul, Nat.reduceLeDiff, Nat.reduceLT, Int.cast_ofNat_Int, Int.reduceBNe, Int.reduceToNat, Int.reduceLT, Int.reduceLE, Int.reduceAdd, Int.reduceNeg, Int.reduceEq, reduceCtorEq, enc, encs_len, bne_self_i]
  refine loop_h (I := fun k a s => ∃ (i : Nat), i + k = l.length ∧ a 17 = .int .i64 i ∧ a 16 = .int .i64 l.length ∧ a 15 = .sl .no (encs l) ∧ a 1 = .sl .no (encs l) ∧ a 2 = .fn 19 ∧ s.cut d = σ ∧ s.Und (d + 1)) ?_ l.length _ _ ?_
  · rintro k a s ⟨i, hk, h17, h16, h15, h1, h2, hs, hs2⟩
    by_cases hi : i < l.length
    · have e1 : ((i : Int) < (l.length : Int)) := by omega
      have e2 : l[i]? = some l[i] := List.getElem?_eq_getElem hi
      have hm := List.getElem_mem hi
      have e3 := wr64 ((i : Int) + 1) (by omega) (by omega)
      simp -implicitDefEqProofs -dsimp only [↓reduceIte, ↓W_seq, go_sem, WR_nil, evNews, Nat.reduceEqDiff, Nat.reduceAdd, Nat.reduceMul, Nat.reduceLeDiff, Nat.reduceLT, Int.cast_ofNat_Int, Int.reduceBNe, Int.reduceToNat, Int.reduceLT, Int.reduceLE, Int.reduceAdd, Int.reduceNeg, Int.reduceEq, reduceCtorEq, enc, e1, e2, h17, h16, h15, h1, h2, encs_at]
      refine (ih l[i] hm lim (d + 1) _ (by omega) (und_new (und_new hs2 _ _ _) _ _ _)).wh ?_
      simp -implicitDefEqProofs -dsimp only [↓reduceIte, ↓W_seq, go_sem, WR_nil, evNews, Nat.reduceEqDiff, Nat.reduceAdd, Nat.reduceMul, Nat.reduceLeDiff, Nat.reduceLT, Int.cast_ofNat_Int, Int.reduceBNe, Int.reduceToNat, Int.reduceLT, Int.reduceLE, Int.reduceAdd, Int.reduceNeg, Int.reduceEq, reduceCtorEq, enc, e3, h17, h16, h15, h1, h2, Bool.not_true, Bool.false_eq_true]
      exact ⟨_, rfl, Cnd_f.2 ⟨k - 1, by omega, i + 1, by omega, by simp, hs, by simp only [u_tick, u_mine]; exact hs2⟩⟩
    · have e1 : ¬ ((i : Int) < (l.length : Int)) := by omega
      simp -implicitDefEqProofs -dsimp only [↓reduceIte, ↓W_seq, go_sem, WR_nil, evNews, Nat.reduceEqDiff, Nat.reduceAdd, Nat.reduceMul, Nat.reduceLeDiff, Nat.reduceLT, Int.cast_ofNat_Int, Int.reduceBNe, Int.reduceToNat, Int.reduceLT, Int.reduceLE, Int.reduceAdd, Int.reduceNeg, Int.reduceEq, reduceCtorEq, enc, e1, h17, h16, hs]
  · refine ⟨0, Nat.zero_add _, ?_⟩
    simp -implicitDefEqProofs -dsimp only [↓reduceIte, ↓W_seq, go_sem, WR_nil, evNews, Nat.reduceEqDiff, Nat.reduceAdd, Nat.reduceMul, Nat.reduceLeDiff, Nat.reduceLT, Int.cast_ofNat_Int, Int.reduceBNe, Int.reduceToNat, Int.reduceLT, Int.reduceLE, Int.reduceAdd, Int.reduceNeg, Int.reduceEq, reduceCtorEq, enc, cut_und _ _ hu, u_tick, u_mine, hun]
theorem w16 : ∀ (x : Nd), sz x ≤ 1000000 → ∀ (lim d : Nat) (σ : Sto), lim ≤ d → σ.Und d → Ret lim d 19 [.agg (enc x), .agg (enc x)] σ (.bool true) σ := by
  refine Nd.ind fun kd c s0 s1 s2 s3 n mn mx l ih hsz lim d σ hlim hu => ?_
  have hl := len_le l
  simp only [sz] at hsz
  have hun := und_succ hu
  unfold Ret
  rw [WF_body (C := X) rfl Go.Proofs.Tryz.func19 rfl (by kernel_rfl)]; simp only [Go.Proofs.Tryz.results19]
  simp -implicitDefEqProofs -dsimp only [↓reduceIte, ↓W_seq, go_sem, WR_nil, evNews, Nat.reduceEqDiff, Nat.reduceAdd, Nat.reduceMul, Nat.reduceLeDiff, Nat.reduceLT, Int.cast_ofNat_Int, Int.reduceBNe, Int.reduceToNat, Int.reduceLT, Int.reduceLE, Int.reduceAdd, Int.reduceNeg, Int.reduceEq, reduceCtorEq, enc]
  rw [D_dr (by kernel_rfl) rfl]
  simp -implicitDefEqProofs -dsimp only [↓reduceIte, ↓W_seq, go_sem, WR_nil, evNews, Nat.reduceEqDiff, Nat.reduceAdd, Nat.reduceMul, Nat.reduceLeDiff, Nat.reduceLT, Int.cast_ofNat_Int, Int.reduceBNe, Int.reduceToNat, Int.reduceLT, Int.reduceLE, Int.reduceAdd, Int.reduceNeg, Int.reduceEq, reduceCtorEq, enc]
  refine (w27 kd c s0 s1 s2 s3 n mn mx l (d + 1) (d + 1) _ (by simp only [u_tick, u_mine]; exact hun)).wh ?_
  simp -implicitDefEqProofs -dsimp only [↓reduceIte, ↓W_seq, go_sem, WR_nil, evNews, Nat.reduceEqDiff, Nat.reduceAdd, Nat.reduceMul, Nat.reduceLeDiff, Nat.reduceLT, Int.cast_ofNat_Int, Int.reduceBNe, Int.reduceToNat, Int.reduceLT, Int.reduceLE, Int.reduceAdd, Int.reduceNeg, Int.reduceEq, reduceCtorEq, enc]
  refine (w27 kd c s0 s1 s2 s3 n mn mx l (d + 1) (d + 1) _ (by simp only [u_tick, u_mine]; exact hun)).wh ?_
  simp -implicitDefEqProofs -dsimp only [↓reduceIte, ↓W_seq, go_sem, WR_nil, evNews, Nat.reduceEqDiff, Nat.reduceAdd, Nat.reduceMul, Nat.reduceLeDiff, Nat.reduceLT, Int.cast_ofNat_Int, Int.reduceBNe, Int.reduceToNat, Int.reduceLT, Int.reduceLE, Int.reduceAdd, Int.reduceNeg, Int.reduceEq, reduceCtorEq, enc, beq_self_eq_true]
  refine (w28 l (by omega) (d + 1) (d + 1) _ (Nat.le_refl _) (by simp only [u_tick, u_mine]; exact hun) (fun y hy => ih y hy (by have := sz_le l y hy; omega))).wh ?_
  simp -implicitDefEqProofs -dsimp only [↓reduceIte, ↓W_seq, go_sem, WR_nil, evNews, Nat.reduceEqDiff, Nat.reduceAdd, Nat.reduceMul, Nat.reduceLeDiff, Nat.reduceLT, Int.cast_ofNat_Int, Int.reduceBNe, Int.reduceToNat, Int.reduceLT, Int.reduceLE, Int.reduceAdd, Int.reduceNeg, Int.reduceEq, reduceCtorEq, enc, cut_und _ _ hu]
end Go.Proofs.Tryz.E
set_option linter.unusedVariables false
set_option linter.unusedSimpArgs false
/- Trees: how many groups, how deep, how many nodes; flat lists. -/
namespace Go.Proofs.Tryz.E
open Go.Mv
set_option maxHeartbeats 4000000
set_option maxRecDepth 20000
theorem flat_app (kd : Int) : ∀ l l', flatL kd (l ++ l') = flatL kd l ++ flatL kd l'
  | [], l' => rfl
  | x :: l, l' => by simp only [List.cons_append, flatL, flat_app kd l l', List.append_assoc]
theorem flat_id {kd : Int} : ∀ l : List Nd, (∀ x ∈ l, x.kind ≠ kd) → flatL kd l = l
  | [], _ => rfl
  | x :: l, h => by
    rw [flatL, if_neg (h x (List.mem_cons_self ..)), flat_id l fun y hy => h y (List.mem_cons_of_mem _ hy)]
    rfl
theorem join_eq {l : List Nd} (h : ∀ x ∈ l, x.kind ≠ 8) : joinN l = joinF l := by
  unfold joinN
  rw [flat_id l h]
mutual
def grN : Nd → Nat
  | .mk kd _ _ _ _ _ _ _ _ l => (if kd = 6 then 1 else 0) + grsN l
def grsN : List Nd → Nat
  | [] => 0
  | x :: l => grN x + grsN l
end
theorem grsN_app : ∀ (l l' : List Nd), grsN (l ++ l') = grsN l + grsN l'
  | [], l' => by simp [grsN]
  | x :: l, l' => by simp only [List.cons_append, grsN, grsN_app l l']; omega
theorem grN_kids {x : Nd} (h : x.kind ≠ 6) : grN x = grsN x.kids := by
  cases x
  simp only [Nd.kind] at h
  simp [grN, Nd.kids, h]
theorem grsN_flat {kd : Int} (hk : kd ≠ 6) : ∀ l, grsN (flatL kd l) = grsN l
  | [] => rfl
  | x :: l => by
    simp only [flatL, grsN_app, grsN, grsN_flat hk l]
    split
    · rename_i h
      rw [grN_kids (by rw [h]; exact hk)]
    · simp [grsN]
theorem grN_nd {kd : Int} (hk : kd ≠ 6) (l : List Nd) : grN (nd kd l) = grsN l := by simp [nd, grN, hk]
theorem grN_join (l : List Nd) : grN (joinN l) = grsN l := by
  unfold joinN
  rw [← grsN_flat (kd := 8) (by decide) l]
  generalize flatL 8 l = f
  unfold joinF
  split
  · simp [grsN]
  · exact grN_nd (by decide) _
theorem grN_either (l : List Nd) : grN (eitherN l) = grsN l := by
  unfold eitherN
  rw [← grsN_flat (kd := 9) (by decide) l]
  generalize flatL 9 l = f
  unfold eitherF
  split
  · exact grN_nd (by decide) _
  · simp [grsN]
  · exact grN_nd (by decide) _

/-! ### How many, how deep -/
mutual
def depN : Nd → Nat
  | .mk _ _ _ _ _ _ _ _ _ l => depsN l + 1
def depsN : List Nd → Nat
  | [] => 0
  | x :: l => max (depN x) (depsN l)
end
theorem depsN_app : ∀ l l', depsN (l ++ l') = max (depsN l) (depsN l')
  | [], l' => by simp [depsN]
  | x :: l, l' => by simp only [List.cons_append, depsN, depsN_app l l']; omega
theorem cnts_sz : ∀ (l : List Nd), (∀ x ∈ l, cnt x = sz x) → ∀ k : Int, 0 ≤ k → k + szs l ≤ 1000000 → cnts k l = k + szs l
  | [], _, k, _, _ => by simp [cnts, szs]
  | x :: l, h, k, h0, h1 => by
    simp only [szs] at h1
    rw [cnts, h x (List.mem_cons_self ..), wr64 _ (by omega) (by omega), cnts_sz l (fun y hy => h y (List.mem_cons_of_mem _ hy)) _ (by omega) (by omega)]
    simp only [szs]
    omega
theorem cnt_sz : ∀ x : Nd, sz x ≤ 1000000 → cnt x = sz x := by
  refine Nd.ind fun kd c s0 s1 s2 s3 n mn mx l ih h => ?_
  simp only [sz] at h
  rw [cnt, cnts_sz l (fun y hy => ih y hy (by have := sz_le l y hy; omega)) 1 (by omega) (by omega), sz]
  omega
theorem depN_le : ∀ x : Nd, depN x ≤ sz x := by
  refine Nd.ind fun kd c s0 s1 s2 s3 n mn mx l ih => ?_
  have : ∀ l : List Nd, (∀ y ∈ l, depN y ≤ sz y) → depsN l ≤ szs l := by
    intro l
    induction l with
    | nil => intro _; simp [depsN]
    | cons x l hl =>
      intro h
      have h1 := h x (List.mem_cons_self ..)
      have h2 := hl fun y hy => h y (List.mem_cons_of_mem _ hy)
      simp only [depsN, szs]
      omega
  have := this l ih
  simp only [depN, sz]
  omega
theorem deps_N : ∀ (l : List Nd), (∀ x ∈ l, dep x = depN x) → ∀ k : Nat, deps k l = (max k (depsN l) : Nat)
  | [], _, k => by simp [deps, depsN]
  | x :: l, h, k => by
    have e : (if dep x > (k : Int) then dep x else (k : Int)) = ((max k (depN x) : Nat) : Int) := by
      rw [h x (List.mem_cons_self ..)]
      split <;> omega
    rw [deps, e, deps_N l (fun y hy => h y (List.mem_cons_of_mem _ hy))]
    simp only [depsN]
    omega
theorem dep_N : ∀ x : Nd, sz x ≤ 1000000 → dep x = depN x := by
  refine Nd.ind fun kd c s0 s1 s2 s3 n mn mx l ih h => ?_
  have hl := depN_le (.mk kd c s0 s1 s2 s3 n mn mx l)
  simp only [depN] at hl
  simp only [sz] at h hl
  have e := deps_N l (fun y hy => ih y hy (by have := sz_le l y hy; omega)) 0
  rw [dep]
  have e' : deps 0 l = (depsN l : Int) := by
    have := e
    simp only [Nat.zero_max] at this
    exact this
  rw [e', wr64 _ (by omega) (by omega), depN]
  omega
theorem grps_N : ∀ (l : List Nd), (∀ x ∈ l, grp x = grN x ∧ grN x ≤ sz x) → ∀ k : Nat, k + szs l ≤ 1000000 → grps k l = (k + grsN l : Nat)
  | [], _, k, _ => by simp [grps, grsN]
  | x :: l, h, k, h1 => by
    obtain ⟨a, b⟩ := h x (List.mem_cons_self ..)
    simp only [szs] at h1
    rw [grps, a, wr64 _ (by omega) (by omega), show (k : Int) + (grN x : Int) = ((k + grN x : Nat) : Int) from by omega, grps_N l (fun y hy => h y (List.mem_cons_of_mem _ hy)) _ (by omega)]
    simp only [grsN]
    omega
theorem grsN_le : ∀ (l : List Nd), (∀ x ∈ l, grN x ≤ sz x) → grsN l ≤ szs l
  | [], _ => by simp [grsN]
  | x :: l, h => by
    have := h x (List.mem_cons_self ..)
    have := grsN_le l fun y hy => h y (List.mem_cons_of_mem _ hy)
    simp only [grsN, szs]
    omega
theorem grp_N : ∀ x : Nd, sz x ≤ 1000000 → grp x = grN x ∧ grN x ≤ sz x := by
  refine Nd.ind fun kd c s0 s1 s2 s3 n mn mx l ih h => ?_
  simp only [sz] at h
  have hx : ∀ y ∈ l, grp y = grN y ∧ grN y ≤ sz y := fun y hy => ih y hy (by have := sz_le l y hy; omega)
  have h1 := grps_N l hx 0 (by omega)
  have h2 := grsN_le l fun y hy => (hx y hy).2
  have h1' : grps 0 l = (grsN l : Int) := by
    rw [Nat.zero_add] at h1
    exact h1
  simp only [grp, grN, sz, h1']
  split
  · rw [wr64 _ (by omega) (by omega)]
    exact ⟨by omega, by omega⟩
  · exact ⟨by omega, by omega⟩

end Go.Proofs.Tryz.E
