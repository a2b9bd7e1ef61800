/- Walks: what the functions compute. -/
import Derived.Test.YtgdecplonaaahaaDoorE21
import Derived.Test.YtgdecplonaaahaaDoorG0
import Derived.Test.YtgdecplonaaahaaDoorJ1
set_option linter.unusedVariables false
set_option linter.unusedSimpArgs false
/- Trees: how many groups, how deep, how many nodes; flat lists. -/
namespace Go.Proofs.Tryd.E
open Go.Mv
set_option maxHeartbeats 4000000
set_option maxRecDepth 20000
theorem flat_app (kd : Int) : ∀ l l', flatL kd (l ++ l') = flatL kd l ++ flatL kd l'
  | [], l' => rfl
  | x :: l, l' => by simp only [List.cons_append, flatL, flat_app kd l l', List.append_assoc]
theorem flat_id {kd : Int} : ∀ l : List Nd, (∀ x ∈ l, x.kind ≠ kd) → flatL kd l = l
  | [], _ => rfl
  | x :: l, h => by
    rw [flatL, if_neg (h x (List.mem_cons_self ..)), flat_id l fun y hy => h y (List.mem_cons_of_mem _ hy)]
    rfl
theorem join_eq {l : List Nd} (h : ∀ x ∈ l, x.kind ≠ 8) : joinN l = joinF l := by
  unfold joinN
  rw [flat_id l h]
mutual
def grN : Nd → Nat
  | .mk kd _ _ _ _ _ _ _ _ l => (if kd = 6 then 1 else 0) + grsN l
def grsN : List Nd → Nat
  | [] => 0
  | x :: l => grN x + grsN l
end
theorem grsN_app : ∀ (l l' : List Nd), grsN (l ++ l') = grsN l + grsN l'
  | [], l' => by simp [grsN]
  | x :: l, l' => by simp only [List.cons_append, grsN, grsN_app l l']; omega
theorem grN_kids {x : Nd} (h : x.kind ≠ 6) : grN x = grsN x.kids := by
  cases x
  simp only [Nd.kind] at h
  simp [grN, Nd.kids, h]
theorem grsN_flat {kd : Int} (hk : kd ≠ 6) : ∀ l, grsN (flatL kd l) = grsN l
  | [] => rfl
  | x :: l => by
    simp only [flatL, grsN_app, grsN, grsN_flat hk l]
    split
    · rename_i h
      rw [grN_kids (by rw [h]; exact hk)]
    · simp [grsN]
theorem grN_nd {kd : Int} (hk : kd ≠ 6) (l : List Nd) : grN (nd kd l) = grsN l := by simp [nd, grN, hk]
theorem grN_join (l : List Nd) : grN (joinN l) = grsN l := by
  unfold joinN
  rw [← grsN_flat (kd := 8) (by decide) l]
  generalize flatL 8 l = f
  unfold joinF
  split
  · simp [grsN]
  · exact grN_nd (by decide) _
theorem grN_either (l : List Nd) : grN (eitherN l) = grsN l := by
  unfold eitherN
  rw [← grsN_flat (kd := 9) (by decide) l]
  generalize flatL 9 l = f
  unfold eitherF
  split
  · exact grN_nd (by decide) _
  · simp [grsN]
  · exact grN_nd (by decide) _

/-! ### How many, how deep -/
mutual
def depN : Nd → Nat
  | .mk _ _ _ _ _ _ _ _ _ l => depsN l + 1
def depsN : List Nd → Nat
  | [] => 0
  | x :: l => max (depN x) (depsN l)
end
theorem depsN_app : ∀ l l', depsN (l ++ l') = max (depsN l) (depsN l')
  | [], l' => by simp [depsN]
  | x :: l, l' => by simp only [List.cons_append, depsN, depsN_app l l']; omega
theorem cnts_sz : ∀ (l : List Nd), (∀ x ∈ l, cnt x = sz x) → ∀ k : Int, 0 ≤ k → k + szs l ≤ 1000000 → cnts k l = k + szs l
  | [], _, k, _, _ => by simp [cnts, szs]
  | x :: l, h, k, h0, h1 => by
    simp only [szs] at h1
    rw [cnts, h x (List.mem_cons_self ..), wr64 _ (by omega) (by omega), cnts_sz l (fun y hy => h y (List.mem_cons_of_mem _ hy)) _ (by omega) (by omega)]
    simp only [szs]
    omega
theorem cnt_sz : ∀ x : Nd, sz x ≤ 1000000 → cnt x = sz x := by
  refine Nd.ind fun kd c s0 s1 s2 s3 n mn mx l ih h => ?_
  simp only [sz] at h
  rw [cnt, cnts_sz l (fun y hy => ih y hy (by have := sz_le l y hy; omega)) 1 (by omega) (by omega), sz]
  omega
theorem depN_le : ∀ x : Nd, depN x ≤ sz x := by
  refine Nd.ind fun kd c s0 s1 s2 s3 n mn mx l ih => ?_
  have : ∀ l : List Nd, (∀ y ∈ l, depN y ≤ sz y) → depsN l ≤ szs l := by
    intro l
    induction l with
    | nil => intro _; simp [depsN]
    | cons x l hl =>
      intro h
      have h1 := h x (List.mem_cons_self ..)
      have h2 := hl fun y hy => h y (List.mem_cons_of_mem _ hy)
      simp only [depsN, szs]
      omega
  have := this l ih
  simp only [depN, sz]
  omega
theorem deps_N : ∀ (l : List Nd), (∀ x ∈ l, dep x = depN x) → ∀ k : Nat, deps k l = (max k (depsN l) : Nat)
  | [], _, k => by simp [deps, depsN]
  | x :: l, h, k => by
    have e : (if dep x > (k : Int) then dep x else (k : Int)) = ((max k (depN x) : Nat) : Int) := by
      rw [h x (List.mem_cons_self ..)]
      split <;> omega
    rw [deps, e, deps_N l (fun y hy => h y (List.mem_cons_of_mem _ hy))]
    simp only [depsN]
    omega
theorem dep_N : ∀ x : Nd, sz x ≤ 1000000 → dep x = depN x := by
  refine Nd.ind fun kd c s0 s1 s2 s3 n mn mx l ih h => ?_
  have hl := depN_le (.mk kd c s0 s1 s2 s3 n mn mx l)
  simp only [depN] at hl
  simp only [sz] at h hl
  have e := deps_N l (fun y hy => ih y hy (by have := sz_le l y hy; omega)) 0
  rw [dep]
  have e' : deps 0 l = (depsN l : Int) := by
    have := e
    simp only [Nat.zero_max] at this
    exact this
  rw [e', wr64 _ (by omega) (by omega), depN]
  omega
theorem grps_N : ∀ (l : List Nd), (∀ x ∈ l, grp x = grN x ∧ grN x ≤ sz x) → ∀ k : Nat, k + szs l ≤ 1000000 → grps k l = (k + grsN l : Nat)
  | [], _, k, _ => by simp [grps, grsN]
  | x :: l, h, k, h1 => by
    obtain ⟨a, b⟩ := h x (List.mem_cons_self ..)
    simp only [szs] at h1
    rw [grps, a, wr64 _ (by omega) (by omega), show (k : Int) + (grN x : Int) = ((k + grN x : Nat) : Int) from by omega, grps_N l (fun y hy => h y (List.mem_cons_of_mem _ hy)) _ (by omega)]
    simp only [grsN]
    omega
theorem grsN_le : ∀ (l : List Nd), (∀ x ∈ l, grN x ≤ sz x) → grsN l ≤ szs l
  | [], _ => by simp [grsN]
  | x :: l, h => by
    have := h x (List.mem_cons_self ..)
    have := grsN_le l fun y hy => h y (List.mem_cons_of_mem _ hy)
    simp only [grsN, szs]
    omega
theorem grp_N : ∀ x : Nd, sz x ≤ 1000000 → grp x = grN x ∧ grN x ≤ sz x := by
  refine Nd.ind fun kd c s0 s1 s2 s3 n mn mx l ih h => ?_
  simp only [sz] at h
  have hx : ∀ y ∈ l, grp y = grN y ∧ grN y ≤ sz y := fun y hy => ih y hy (by have := sz_le l y hy; omega)
  have h1 := grps_N l hx 0 (by omega)
  have h2 := grsN_le l fun y hy => (hx y hy).2
  have h1' : grps 0 l = (grsN l : Int) := by
    rw [Nat.zero_add] at h1
    exact h1
  simp only [grp, grN, sz, h1']
  split
  · rw [wr64 _ (by omega) (by omega)]
    exact ⟨by omega, by omega⟩
  · exact ⟨by omega, by omega⟩

end Go.Proofs.Tryd.E
