/- Walks: what the functions compute. -/
import Derived.Test.YtklnfgmfcpcfcaaGreatDoorE9
set_option linter.unusedVariables false
set_option linter.unusedSimpArgs false
/- Whether a node is formed: all of it. -/
namespace Go.Proofs.Tryz.E
open Go.Mv
set_option maxHeartbeats 4000000
set_option maxRecDepth 20000
theorem ownB_g {kd c s0 s1 s2 s3 n mn mx : Int} {l : List Nd} {g : Int} {e : List Bool} (h : ownB (.mk kd c s0 s1 s2 s3 n mn mx l) g e = true) (hg : 0 ≤ g) (hg9 : g ≤ 9) : 0 ≤ ownG (.mk kd c s0 s1 s2 s3 n mn mx l) g ∧ ownG (.mk kd c s0 s1 s2 s3 n mn mx l) g ≤ 9 ∧ (kd = 6 → 1 ≤ n ∧ n ≤ 9) := by
  unfold ownG
  simp only [ownB, Bool.and_eq_true] at h
  obtain ⟨h1, h2⟩ := h
  by_cases h6 : kd = 6
  · rw [if_pos h6] at h2
    simp only [Bool.and_eq_true, decide_eq_true_eq, beq_iff_eq] at h2
    simp only [Nd.kind, h1, h6, and_self, if_true]
    omega
  · simp only [Nd.kind, h6, and_false, if_false]
    exact ⟨hg, hg9, fun q => absurd q (by simp)⟩
def CkOk (r : Ck) : Prop := 0 ≤ r.2.1 ∧ r.2.1 ≤ 9 ∧ r.2.2.length = 10
theorem chks_inv (kd : Int) : ∀ (l : List Nd) (g : Int) (e : List Bool), (∀ y ∈ l, ∀ (g : Int) (e : List Bool), 0 ≤ g → g ≤ 9 → e.length = 10 → (chk y g e).1 = true → CkOk (chk y g e)) → 0 ≤ g → g ≤ 9 → e.length = 10 → (chks kd l g e).1 = true → CkOk (chks kd l g e)
  | [], g, e, _, h1, h2, h3, _ => ⟨h1, h2, h3⟩
  | y :: l, g, e, ih, h1, h2, h3, h => by
    simp only [chks] at h ⊢
    by_cases hk : y.kind = kd ∧ (kd = 8 ∨ kd = 9)
    · rw [if_pos hk] at h; cases h
    rw [if_neg hk] at h ⊢
    by_cases hc : (chk y g e).1 = true
    · rw [if_pos hc] at h ⊢
      obtain ⟨a1, a2, a3⟩ := ih y (List.mem_cons_self ..) g e h1 h2 h3 hc
      exact chks_inv kd l _ _ (fun z hz => ih z (List.mem_cons_of_mem _ hz)) a1 a2 a3 h
    · rw [if_neg hc] at h; exact absurd h hc
theorem chk_inv : ∀ (x : Nd) (g : Int) (e : List Bool), 0 ≤ g → g ≤ 9 → e.length = 10 → (chk x g e).1 = true → CkOk (chk x g e) := by
  refine Nd.ind fun kd c s0 s1 s2 s3 n mn mx l ih g e h1 h2 h3 h => ?_
  simp only [chk] at h ⊢
  by_cases ho : ownB (.mk kd c s0 s1 s2 s3 n mn mx l) g e = true
  · rw [if_pos ho] at h ⊢
    obtain ⟨b1, b2, _⟩ := ownB_g ho h1 h2
    by_cases hs : (chks kd l (ownG (.mk kd c s0 s1 s2 s3 n mn mx l) g) e).1 = true
    · rw [if_pos hs] at h ⊢
      obtain ⟨a1, a2, a3⟩ := chks_inv kd l _ e ih b1 b2 h3 hs
      refine ⟨a1, a2, ?_⟩
      simp only
      split <;> simp [a3]
    · rw [if_neg hs] at h; exact absurd h hs
  · rw [if_neg ho] at h; cases h
theorem chks_at {l : List Nd} {i : Nat} (h : i < l.length) (kd g : Int) (e : List Bool) : chks kd (l.drop i) g e = if l[i].kind = kd ∧ (kd = 8 ∨ kd = 9) then (false, g, e) else if (chk l[i] g e).1 = true then chks kd (l.drop (i + 1)) (chk l[i] g e).2.1 (chk l[i] g e).2.2 else chk l[i] g e := by
  rw [List.drop_eq_getElem_cons h, chks]
theorem encC_len (g : Int) (e : List Bool) : (encC g e).length = e.length + 1 := by simp [encC]
theorem putC_set : ∀ (cs : List MV) (v : MV) (i : Nat), i < cs.length → putC cs [v] i = cs.set i v
  | x :: cs, v, 0, _ => rfl
  | x :: cs, v, i + 1, h => by
    have := putC_set cs v i (by simpa using h)
    simp only [putC, List.length_cons, List.length_nil] at this ⊢
    rw [List.set_cons_succ, ← this]
    have e : i + 1 + (0 + 1) = (i + (0 + 1)) + 1 := by omega
    rw [e]
    simp only [List.take_succ_cons, List.drop_succ_cons, List.cons_append]
theorem putC_arr (g : Int) (e : List Bool) (b : Bool) (i : Nat) (h : i < e.length) : putC (encC g e) [.bool b] (1 + i) = encC g (e.set i b) := by
  rw [putC_set _ _ _ (by rw [encC_len]; omega), Nat.add_comm, encC, List.set_cons_succ, encC, List.map_set]
end Go.Proofs.Tryz.E
