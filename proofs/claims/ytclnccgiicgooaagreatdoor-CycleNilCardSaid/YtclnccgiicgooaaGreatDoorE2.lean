/- Walks: what the functions compute. -/
import Derived.Test.YtclnccgiicgooaaGreatDoorE1
set_option linter.unusedVariables false
set_option linter.unusedSimpArgs false
/- How many nodes; how deep. -/
namespace Go.Proofs.Tryz.E
open Go.Mv
@[go_sem] theorem mm_max2 (k : IntKind) (x y : Int) : mm true [.int k x, .int k y] = some (.int k (if y > x then y else x)) := by simp [mm, mmGo]
@[go_sem] theorem mm_min2 (k : IntKind) (x y : Int) : mm false [.int k x, .int k y] = some (.int k (if y < x then y else x)) := by simp [mm, mmGo]
mutual
def cnt : Nd → Int
  | .mk _ _ _ _ _ _ _ _ _ l => cnts 1 l
def cnts : Int → List Nd → Int
  | k, [] => k
  | k, x :: l => cnts (IntKind.i64.wrap (k + cnt x)) l
end
mutual
def dep : Nd → Int
  | .mk _ _ _ _ _ _ _ _ _ l => IntKind.i64.wrap (deps 0 l + 1)
def deps : Int → List Nd → Int
  | k, [] => k
  | k, x :: l => deps (if dep x > k then dep x else k) l
end
theorem cnts_at {l : List Nd} {i : Nat} (h : i < l.length) (m : Int) : cnts m (l.drop i) = cnts (IntKind.i64.wrap (m + cnt l[i])) (l.drop (i + 1)) := by rw [List.drop_eq_getElem_cons h, cnts]
theorem deps_at {l : List Nd} {i : Nat} (h : i < l.length) (m : Int) : deps m (l.drop i) = deps (if dep l[i] > m then dep l[i] else m) (l.drop (i + 1)) := by rw [List.drop_eq_getElem_cons h, deps]
theorem und_new {σ : Sto} {d : Nat} (h : σ.Und (d + 1)) (t c : Nat) (cs : List MV) : ((σ.set ⟨d, t, c⟩ cs).tick d).Und (d + 1) := und_tick (und_set h (Nat.lt_succ_self d) _) (Nat.lt_succ_self d)
set_option maxHeartbeats 2000000
theorem w15 : ∀ (x : Nd), sz x ≤ 1000000 → ∀ (lim d : Nat) (σ : Sto), σ.Und d → Ret lim d 171 [.agg (enc x)] σ (.int .i64 (cnt x)) σ := by
  refine Nd.ind fun kind c s0 s1 s2 s3 n mn mx l ih hsz lim d σ hu => ?_
  have hl := len_le l
  simp only [sz] at hsz
  unfold Ret
  rw [WF_body (C := X) rfl Go.Proofs.Tryz.func171 rfl (by kernel_rfl)]
  simp only [go_sem, Nat.reduceLT, reduceIte, W_seq, WO_guard, Go.Proofs.Tryz.results171, enc, Nat.reduceEqDiff, Nat.reduceAdd, reduceCtorEq]
  refine loop_ind (I := fun k a s => ∃ (i : Nat) (m : Int), i + k = l.length ∧ a 9 = .int .i64 i ∧ a 8 = .int .i64 l.length ∧ a 7 = .sl .no (encs l) ∧ a 3 = .int .i64 m ∧ cnts m (l.drop i) = cnts 1 l ∧ s.cut d = σ ∧ s.Und (d + 1)) ?_ l.length _ _ ?_
  · rintro k a s ⟨i, m, hk, h9, h8, h7, h3, hc, hs, hs2⟩
    by_cases hi : i < l.length
    · have e1 : ((i : Int) < (l.length : Int)) := by omega
      have e2 : l[i]? = some l[i] := List.getElem?_eq_getElem hi
      have hm := List.getElem_mem hi
      have hy := sz_le l _ hm
      simp only [go_sem, Nat.reduceLT, reduceIte, W_seq, WO_guard, e1, e2, h9, h8, h7, h3, encs_at, Nat.reduceEqDiff, Nat.reduceAdd, reduceCtorEq]
      refine (ih l[i] hm (by omega) lim (d + 1) _ (und_new hs2 _ _ _)).wf ?_
      simp only [go_sem, Nat.reduceLT, reduceIte, W_seq, WO_guard]
      exact ⟨k - 1, by omega, i + 1, _, by omega, by rw [wr64 _ (by omega) (by omega)]; rfl, rfl, by rw [← hc, cnts_at hi], hs, und_new hs2 _ _ _⟩
    · have e1 : ¬ ((i : Int) < (l.length : Int)) := by omega
      simp only [go_sem, Nat.reduceLT, reduceIte, W_seq, WO_guard, e1, h9, h8, h7, h3, encs_at, Nat.reduceEqDiff, Nat.reduceAdd, reduceCtorEq]
      rw [List.drop_eq_nil_of_le (by omega), cnts] at hc
      exact ⟨by rw [hc, cnt], hs⟩
  · refine ⟨0, 1, Nat.zero_add _, rfl, congrArg (fun (n : Nat) => MV.int .i64 n) (encs_len l), rfl, rfl, rfl, ?_, und_new (und_succ hu) _ _ _⟩
    simp only [go_sem, Nat.reduceLT, reduceIte, W_seq, WO_guard, cut_und _ _ hu]
theorem w14 : ∀ (x : Nd), sz x ≤ 1000000 → ∀ (lim d : Nat) (σ : Sto), σ.Und d → Ret lim d 172 [.agg (enc x)] σ (.int .i64 (dep x)) σ := by
  refine Nd.ind fun kind c s0 s1 s2 s3 n mn mx l ih hsz lim d σ hu => ?_
  have hl := len_le l
  simp only [sz] at hsz
  unfold Ret
  rw [WF_body (C := X) rfl Go.Proofs.Tryz.func172 rfl (by kernel_rfl)]
  simp only [go_sem, Nat.reduceLT, reduceIte, W_seq, WO_guard, Go.Proofs.Tryz.results172, enc, Nat.reduceEqDiff, Nat.reduceAdd, reduceCtorEq]
  refine loop_ind (I := fun k a s => ∃ (i : Nat) (m : Int), i + k = l.length ∧ a 9 = .int .i64 i ∧ a 8 = .int .i64 l.length ∧ a 7 = .sl .no (encs l) ∧ a 3 = .int .i64 m ∧ deps m (l.drop i) = deps 0 l ∧ s.cut d = σ ∧ s.Und (d + 1)) ?_ l.length _ _ ?_
  · rintro k a s ⟨i, m, hk, h9, h8, h7, h3, hc, hs, hs2⟩
    by_cases hi : i < l.length
    · have e1 : ((i : Int) < (l.length : Int)) := by omega
      have e2 : l[i]? = some l[i] := List.getElem?_eq_getElem hi
      have hm := List.getElem_mem hi
      have hy := sz_le l _ hm
      simp only [go_sem, Nat.reduceLT, reduceIte, W_seq, WO_guard, e1, e2, h9, h8, h7, h3, encs_at, Nat.reduceEqDiff, Nat.reduceAdd, reduceCtorEq]
      refine (ih l[i] hm (by omega) lim (d + 1) _ (und_new hs2 _ _ _)).wf ?_
      simp only [go_sem, Nat.reduceLT, reduceIte, W_seq, WO_guard]
      exact ⟨k - 1, by omega, i + 1, _, by omega, by rw [wr64 _ (by omega) (by omega)]; rfl, rfl, by rw [← hc, deps_at hi], hs, und_new hs2 _ _ _⟩
    · have e1 : ¬ ((i : Int) < (l.length : Int)) := by omega
      simp only [go_sem, Nat.reduceLT, reduceIte, W_seq, WO_guard, e1, h9, h8, h7, h3, encs_at, Nat.reduceEqDiff, Nat.reduceAdd, reduceCtorEq]
      rw [List.drop_eq_nil_of_le (by omega), deps] at hc
      exact ⟨by rw [hc, dep], hs⟩
  · refine ⟨0, 0, Nat.zero_add _, rfl, congrArg (fun (n : Nat) => MV.int .i64 n) (encs_len l), rfl, rfl, rfl, ?_, und_new (und_succ hu) _ _ _⟩
    simp only [go_sem, Nat.reduceLT, reduceIte, W_seq, WO_guard, cut_und _ _ hu]
end Go.Proofs.Tryz.E
