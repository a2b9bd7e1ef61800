/- Walks: what the functions compute. -/
import Derived.Test.YtgdecplonaaahaaDoorK1
set_option linter.unusedVariables false
set_option linter.unusedSimpArgs false
/- A basic pattern in a group of its own: it is formed; the law. -/
namespace Go.Proofs.Tryd.E
open Go.Mv
set_option maxHeartbeats 4000000
set_option maxRecDepth 20000
mutual
def backB : Nd → Bool
  | .mk kd _ _ _ _ _ _ _ _ l => kd == 7 || backsB l
def backsB : List Nd → Bool
  | [] => false
  | x :: l => backB x || backsB l
end
theorem his_len (l : List Nd) : (his l).length = l.length := by rw [his_map, List.length_map]
theorem plain_hi {kd c s0 s1 s2 s3 n mn mx : Int} {l : List Nd} (h : plainB (.mk kd c s0 s1 s2 s3 n mn mx l) = true) : plainB (hi (.mk kd c s0 s1 s2 s3 n mn mx l)) = true := by
  simp only [hi, plainB, his_len] at h ⊢
  by_cases h6 : kd = 6
  · subst h6
    simpa using h
  · rw [if_neg h6]; exact h
theorem plain_hi' {kd c s0 s1 s2 s3 n mn mx : Int} {l : List Nd} : plainB (hi (.mk kd c s0 s1 s2 s3 n mn mx l)) = plainB (.mk kd c s0 s1 s2 s3 n mn mx l) := by
  simp only [hi, plainB, his_len]
  by_cases h6 : kd = 6
  · subst h6
    simp
  · rw [if_neg h6]
theorem own_hi {kd c s0 s1 s2 s3 n mn mx : Int} {l : List Nd} {g : Int} {e e' : List Bool} (h7 : kd ≠ 7) (hg : 0 ≤ g) (h8 : kd = 6 → g + 1 ≤ 8) (h : ownB (.mk kd c s0 s1 s2 s3 n mn mx l) g e = true) : ownB (hi (.mk kd c s0 s1 s2 s3 n mn mx l)) (g + 1) e' = true := by
  simp only [ownB, Bool.and_eq_true] at h ⊢
  obtain ⟨h1, h2⟩ := h
  refine ⟨by rw [plain_hi']; exact h1, ?_⟩
  simp only [hi]
  by_cases h6 : kd = 6
  · subst h6
    have := h8 rfl
    simp only [if_true, Bool.and_eq_true, decide_eq_true_eq, beq_iff_eq] at h2 ⊢
    obtain ⟨a, b⟩ := h2
    refine ⟨by omega, ?_⟩
    rw [b, wr64 _ (by omega) (by omega)]
  · rw [if_neg h6] at h2 ⊢
    rw [if_neg h7] at h2 ⊢
    simp only [his_len]
    by_cases h8 : kd = 8
    · rw [if_pos h8] at h2 ⊢; exact h2
    · rw [if_neg h8] at h2 ⊢
      by_cases h9 : kd = 9
      · rw [if_pos h9] at h2 ⊢; exact h2
      · rw [if_neg h9] at h2 ⊢
        by_cases h10 : kd = 10
        · rw [if_pos h10] at h2 ⊢
          cases l with
          | nil => exact h2
          | cons y l => simp only [his, hi_kind]; exact h2
        · rw [if_neg h10]
theorem ownG_hi {kd c s0 s1 s2 s3 n mn mx : Int} {l : List Nd} {g : Int} : ownG (hi (.mk kd c s0 s1 s2 s3 n mn mx l)) (g + 1) = ownG (.mk kd c s0 s1 s2 s3 n mn mx l) g + 1 := by
  unfold ownG
  rw [plain_hi', hi_kind]
  split <;> rfl
theorem ownG_eq {kd c s0 s1 s2 s3 n mn mx : Int} {l : List Nd} {g : Int} {e : List Bool} (h : ownB (.mk kd c s0 s1 s2 s3 n mn mx l) g e = true) : ownG (.mk kd c s0 s1 s2 s3 n mn mx l) g = g + (if kd = 6 then 1 else 0) := by
  simp only [ownB, Bool.and_eq_true] at h
  unfold ownG
  simp only [h.1, Nd.kind, true_and]
  split <;> simp
theorem chks_hi (kd : Int) : ∀ (l : List Nd), (∀ y ∈ l, backB y = false → ∀ (g : Int) (e e' : List Bool), 0 ≤ g → (chk y g e).1 = true → g + grN y ≤ 8 → (chk (hi y) (g + 1) e').1 = true ∧ (chk (hi y) (g + 1) e').2.1 = (chk y g e).2.1 + 1 ∧ (chk y g e).2.1 = g + grN y) →
    backsB l = false → ∀ (g : Int) (e e' : List Bool), 0 ≤ g → (chks kd l g e).1 = true → g + grsN l ≤ 8 → (chks kd (his l) (g + 1) e').1 = true ∧ (chks kd (his l) (g + 1) e').2.1 = (chks kd l g e).2.1 + 1 ∧ (chks kd l g e).2.1 = g + grsN l
  | [], _, _, g, e, e', _, _, _ => by simp [his, chks, grsN]
  | y :: l, ih, hb, g, e, e', hg, h, h8 => by
    simp only [backsB, Bool.or_eq_false_iff] at hb
    simp only [grsN] at h8 ⊢
    simp only [his, chks, hi_kind] at h ⊢
    split at h
    · cases h
    · rename_i h1
      rw [if_neg h1, if_neg h1]
      split at h
      · rename_i h2
        obtain ⟨q1, q2, q3⟩ := ih y (List.mem_cons_self ..) hb.1 g e e' hg h2 (by omega)
        rw [if_pos h2, if_pos q1, q2]
        rw [q3] at h ⊢
        obtain ⟨r1, r2, r3⟩ := chks_hi kd l (fun z hz => ih z (List.mem_cons_of_mem _ hz)) hb.2 _ (chk y g e).2.2 (chk (hi y) (g + 1) e').2.2 (by omega) h (by omega)
        exact ⟨r1, r2, by rw [r3]; omega⟩
      · rename_i h2
        exact absurd h h2
theorem chk_hi : ∀ (x : Nd), backB x = false → ∀ (g : Int) (e e' : List Bool), 0 ≤ g → (chk x g e).1 = true → g + grN x ≤ 8 → (chk (hi x) (g + 1) e').1 = true ∧ (chk (hi x) (g + 1) e').2.1 = (chk x g e).2.1 + 1 ∧ (chk x g e).2.1 = g + grN x := by
  refine Nd.ind fun kd c s0 s1 s2 s3 n mn mx l ih hb g e e' hg h h8 => ?_
  simp only [backB, Bool.or_eq_false_iff, beq_eq_false_iff_ne] at hb
  simp only [grN] at h8 ⊢
  rw [chk] at h
  split at h
  · rename_i ho
    have e1 := ownG_eq ho
    have g6 : kd = 6 → g + 1 ≤ 8 := fun q => by subst q; simp at h8; omega
    have ho' := own_hi (e' := e') hb.1 hg g6 ho
    have eg := ownG_hi (kd := kd) (c := c) (s0 := s0) (s1 := s1) (s2 := s2) (s3 := s3) (n := n) (mn := mn) (mx := mx) (l := l) (g := g)
    simp only at h
    split at h
    · rename_i hs
      have g0 : 0 ≤ g + (if kd = 6 then (1 : Int) else 0) := by split <;> omega
      have g8 : g + (if kd = 6 then (1 : Int) else 0) + grsN l ≤ 8 := by
        by_cases h6 : kd = 6
        · rw [if_pos h6] at h8 ⊢; omega
        · rw [if_neg h6] at h8 ⊢; omega
      rw [e1] at hs
      obtain ⟨r1, r2, r3⟩ := chks_hi kd l ih hb.2 _ e e' g0 hs g8
      have el : chk (hi (.mk kd c s0 s1 s2 s3 n mn mx l)) (g + 1) e' = (true, (chks kd (his l) (g + (if kd = 6 then (1 : Int) else 0) + 1) e').2.1, if kd = 6 then (chks kd (his l) (g + (if kd = 6 then (1 : Int) else 0) + 1) e').2.2.set (if kd = 6 then IntKind.i64.wrap (n + 1) else n).toNat true else (chks kd (his l) (g + (if kd = 6 then (1 : Int) else 0) + 1) e').2.2) := by
        rw [e1] at eg
        simp only [hi] at ho' eg ⊢
        rw [chk, if_pos ho']
        simp only
        rw [eg, if_pos r1]
      have ex : chk (.mk kd c s0 s1 s2 s3 n mn mx l) g e = (true, (chks kd l (g + (if kd = 6 then (1 : Int) else 0)) e).2.1, if kd = 6 then (chks kd l (g + (if kd = 6 then (1 : Int) else 0)) e).2.2.set n.toNat true else (chks kd l (g + (if kd = 6 then (1 : Int) else 0)) e).2.2) := by
        rw [chk, if_pos ho]
        simp only
        rw [e1, if_pos hs]
      rw [el, ex]
      refine ⟨rfl, r2, ?_⟩
      simp only
      rw [r3]
      by_cases h6 : kd = 6
      · simp only [h6, if_true]; omega
      · simp only [h6, if_false]; omega
    · rename_i hs
      exact absurd h hs
  · cases h
theorem szs_his : ∀ l : List Nd, (∀ x ∈ l, sz (hi x) = sz x ∧ depN (hi x) = depN x) → szs (his l) = szs l ∧ depsN (his l) = depsN l
  | [], _ => ⟨rfl, rfl⟩
  | x :: l, h => by
    obtain ⟨a, b⟩ := h x (List.mem_cons_self ..)
    obtain ⟨c, d⟩ := szs_his l fun y hy => h y (List.mem_cons_of_mem _ hy)
    simp only [his, szs, depsN, a, b, c, d, and_self]
theorem sz_hi : ∀ x : Nd, sz (hi x) = sz x ∧ depN (hi x) = depN x := by
  refine Nd.ind fun kd c s0 s1 s2 s3 n mn mx l ih => ?_
  obtain ⟨a, b⟩ := szs_his l ih
  simp only [hi, sz, depN, a, b, and_self]
theorem formed_hi {x : Nd} (hs : sz x ≤ 100000) (hf : formedB x = true) (hb : backB x = false) (h8 : grN x ≤ 8) (hd : dep x ≤ 9) (hc : cnt x ≤ 199) : formedB (.mk 6 0 0 0 0 0 1 0 0 [hi x]) = true := by
  obtain ⟨z1, z2⟩ := sz_hi x
  have hsz : sz (.mk 6 0 0 0 0 0 1 0 0 [hi x]) = 1 + sz x := by simp only [sz, szs, z1]; omega
  have hdp : depN (.mk 6 0 0 0 0 0 1 0 0 [hi x]) = depN x + 1 := by simp only [depN, depsN, z2]; omega
  rw [cnt_sz _ (by omega)] at hc
  rw [dep_N _ (by omega)] at hd
  unfold formedB at hf ⊢
  simp only [Bool.and_eq_true, decide_eq_true_eq] at hf ⊢
  refine ⟨⟨?_, ?_⟩, ?_⟩
  · rw [cnt_sz _ (by omega), hsz]; omega
  · rw [dep_N _ (by omega), hdp]; omega
  · obtain ⟨q1, q2, q3⟩ := chk_hi x hb 0 (List.replicate 10 false) (List.replicate 10 false) (by omega) hf.2 (by omega)
    have how : ownB (.mk 6 0 0 0 0 0 1 0 0 [hi x]) 0 (List.replicate 10 false) = true := by simp [ownB, plainB]
    have hog : ownG (.mk 6 0 0 0 0 0 1 0 0 [hi x]) 0 = 0 + 1 := by
      unfold ownG
      rw [if_pos ⟨by simp [plainB], rfl⟩]
    rw [chk, if_pos how]
    simp only
    rw [hog]
    have hch : (chks 6 [hi x] (0 + 1) (List.replicate 10 false)).1 = true := by
      simp only [chks]
      rw [if_neg (by simp)]
      rw [if_pos q1]
    rw [if_pos hch]
end Go.Proofs.Tryd.E
