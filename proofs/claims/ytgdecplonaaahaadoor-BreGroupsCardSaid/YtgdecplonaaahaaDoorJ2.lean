/- Walks: what the functions compute. -/
import Derived.Test.YtgdecplonaaahaaDoorE21
import Derived.Test.YtgdecplonaaahaaDoorG0
import Derived.Test.YtgdecplonaaahaaDoorE18
set_option linter.unusedVariables false
set_option linter.unusedSimpArgs false
/- What is read well is read alike where more follows: brackets, bounds. -/
namespace Go.Proofs.Tryd.E
open Go.Mv
set_option maxHeartbeats 4000000
set_option maxRecDepth 20000
theorem pre_app {t u p : List UInt8} (h : p.length ≤ t.length) : preS (t ++ u) p = preS t p := by
  unfold preS
  rw [List.take_append_of_le_length h]
theorem pre_app1 {t u : List UInt8} (c : UInt8) (h : t ≠ []) : preS (t ++ u) [c] = preS t [c] :=
  pre_app (List.length_pos_iff.2 h)
theorem drop_app {t u : List UInt8} {n : Nat} (h : t.drop n ≠ []) : (t ++ u).drop n = t.drop n ++ u := by
  have h2 : ¬ t.length ≤ n := fun q => h (List.drop_eq_nil_of_le q)
  exact List.drop_append_of_le_length (by omega)
theorem named_app {g : UInt8} {t : List UInt8} {x : UInt8 × Nat} (u : List UInt8) (h : namedS g t = some x) : namedS g (t ++ u) = some x := by
  match t, h with
  | a :: b :: c :: d :: e :: r, h => exact h
theorem single_app {t : List UInt8} {x : UInt8 × Nat} (u : List UInt8) (h : singleS t = some x) (h1 : t.drop x.2 ≠ []) : singleS (t ++ u) = some x := by
  match t, h with
  | [b], h =>
    rw [single_one] at h
    split at h
    · cases h
    · cases h; exact absurd rfl h1
  | b :: c :: r, h =>
    simp only [List.cons_append]
    rw [single_two] at h ⊢
    split at h
    · cases h
    · rename_i h10
      rw [if_neg h10]
      split at h
      · rename_i h46
        rw [if_pos h46]
        exact named_app u h
      · rename_i h46
        rw [if_neg h46]
        exact h
theorem sign_app {t : List UInt8} {x : UInt8 × Nat} (u : List UInt8) (h : signS t = some x) (h1 : t.drop x.2 ≠ []) : signS (t ++ u) = some x := by
  unfold signS at h ⊢
  split at h
  · cases h
  · rename_i hp
    have hl : 2 ≤ t.length := by
      have h2 : ¬ t.length ≤ x.2 := fun q => h1 (List.drop_eq_nil_of_le q)
      have := (single_le t x h).1
      omega
    rw [pre_app (p := [91, 61]) hl, pre_app (p := [91, 58]) hl, if_neg hp]
    exact single_app u h h1
theorem idx_app : ∀ (s p u : List UInt8), 0 ≤ idxS s p → idxS (s ++ u) p = idxS s p
  | [], p, u, h => by
    simp only [idxS] at h ⊢
    split at h
    · rename_i e
      subst e
      cases u <;> simp [idxS]
    · omega
  | b :: s, p, u, h => by
    simp only [List.cons_append, idxS] at h ⊢
    by_cases hp : p <+: b :: s
    · rw [if_pos hp, if_pos (by obtain ⟨w, e⟩ := hp; exact ⟨w ++ u, by rw [← List.append_assoc, e]; rfl⟩)]
    · rw [if_neg hp] at h ⊢
      have h0 : 0 ≤ idxS s p := by
        split at h <;> omega
      have hn : ¬ p <+: b :: (s ++ u) := by
        intro q
        have hle := idxS_le s p h0
        exact hp (List.prefix_of_prefix_length_le q ⟨u, rfl⟩ (by simp only [List.length_cons]; omega))
      rw [if_neg hn, idx_app s p u h0]
theorem cls_app {t : List UInt8} {x : List Int × Nat} (u : List UInt8) (h : clsS t = some x) : clsS (t ++ u) = some x := by
  unfold clsS at h ⊢
  split at h
  · cases h
  · rename_i h0
    have h0' : 0 ≤ idxS (t.drop 2) [58, 93] := by omega
    have hle := idxS_le _ _ h0'
    have hne : t.drop 2 ≠ [] := by
      intro e; rw [e] at h0'; exact absurd h0' (by decide)
    rw [drop_app hne, idx_app _ _ _ h0', if_neg h0, List.take_append_of_le_length (by omega)]
    exact h
theorem rng_app {x : UInt8 × Nat} {t : List UInt8} {y : List Int × Nat} (u : List UInt8) (h : rngS x t = some y) (hx : x.2 ≤ y.2 → t.drop (y.2 - x.2) ≠ [] ∧ t.drop (y.2 - x.2) ≠ [45]) : rngS x (t ++ u) = some y := by
  unfold rngS at h ⊢
  split at h
  · rename_i hc
    cases h
    obtain ⟨h1, h2⟩ := hx (Nat.le_refl _)
    simp only [Nat.sub_self, List.drop_zero] at h1 h2
    rw [if_pos]
    match t, hc with
    | [], _ => exact absurd rfl h1
    | [b], hc =>
      have hb : ¬ b = 45 := fun e => h2 (by rw [e])
      simp only [List.cons_append, pre_one, Bool.or_eq_true, Bool.not_eq_true', beq_eq_false_iff_ne]
      exact .inl (.inl hb)
    | b :: c :: r, hc =>
      simp only [List.cons_append, pre_one, pre_two, List.length_cons] at hc ⊢
      simp only [Bool.or_eq_true, decide_eq_true_eq] at hc ⊢
      rcases hc with hc | hc
      · exact .inl hc
      · omega
  · rename_i hc
    obtain ⟨z, hz, h⟩ := Option.bind_eq_some_iff.1 h
    simp only [Bool.or_eq_true, not_or, Bool.not_eq_true, Bool.not_eq_false', decide_eq_false_iff_not] at hc
    obtain ⟨⟨c1, c2⟩, c3⟩ := hc
    split at h
    · cases h
    · rename_i hd
      cases h
      obtain ⟨h1, h2⟩ := hx (by simp only; omega)
      have e : x.2 + 1 + z.2 - x.2 = 1 + z.2 := by omega
      simp only [e] at h1 h2
      have hne : t.drop 1 ≠ [] := fun q => h1 (by rw [← List.drop_drop, q, List.drop_nil])
      have hl : 2 ≤ t.length := by omega
      rw [if_neg (by
        rw [pre_app (p := [45]) (by simp; omega), pre_app (p := [45, 93]) hl, c1, c2]
        simp; omega)]
      rw [drop_app hne, sign_app u hz (by rw [List.drop_drop]; exact h1), Option.bind_some, ← drop_app hne]
      rw [drop_app h1, pre_app1 _ h1, drop_app hne, pre_app1 _ hne, if_neg hd]
theorem member_app {t : List UInt8} {x : List Int × Nat} (u : List UInt8) (h : memberS t = some x) (h1 : t.drop x.2 ≠ []) (h2 : t.drop x.2 ≠ [45]) : memberS (t ++ u) = some x := by
  have hl : 2 ≤ t.length := by
    have h3 : ¬ t.length ≤ x.2 := fun q => h1 (List.drop_eq_nil_of_le q)
    have := (member_le t x h).1
    omega
  unfold memberS at h ⊢
  rw [pre_app (p := [91, 58]) hl, pre_app (p := [91, 61]) hl]
  split at h
  · rename_i hc
    rw [if_pos hc]
    exact cls_app u h
  · rename_i hc
    rw [if_neg hc]
    split at h
    · rename_i hd
      rw [if_pos hd]
      obtain ⟨y, hy, e⟩ := Option.map_eq_some_iff.1 h
      rw [named_app u hy, Option.map_some, e]
    · rename_i hd
      rw [if_neg hd]
      obtain ⟨y, hy, h⟩ := Option.bind_eq_some_iff.1 h
      have hyx : y.2 ≤ x.2 := by
        unfold rngS at h
        split at h
        · cases h; exact Nat.le_refl _
        · obtain ⟨z, _, h⟩ := Option.bind_eq_some_iff.1 h
          split at h
          · cases h
          · cases h; simp only; omega
      have hd1 : (t.drop y.2).drop (x.2 - y.2) = t.drop x.2 := by rw [List.drop_drop]; congr 1; omega
      have hne : t.drop y.2 ≠ [] := fun q => h1 (by rw [← hd1, q, List.drop_nil])
      rw [sign_app u hy hne, Option.bind_some, drop_app hne]
      exact rng_app u h fun _ => by rw [hd1]; exact ⟨h1, h2⟩
theorem members_nil : ∀ (f : Nat) (acc : List Int), membersS f false acc [] = none
  | 0, _ => rfl
  | f + 1, acc => by
    rw [membersS, if_neg (by simp [preS]), member_nil]
    rfl
theorem members_dash : ∀ (f : Nat) (acc : List Int), membersS f false acc [45] = none
  | 0, _ => rfl
  | f + 1, acc => by
    rw [membersS, if_neg (by simp [preS])]
    have : memberS [45] = some (oneS 45, 1) := by
      simp [memberS, preS, signS, singleS, rngS]
    rw [this, Option.bind_some]
    simp only [List.drop_succ_cons, List.drop_zero, members_nil, Option.map_none]
theorem members_app : ∀ (f : Nat) (first : Bool) (acc : List Int) (t : List UInt8) (x : List Int × Nat) (u : List UInt8), membersS f first acc t = some x → membersS f first acc (t ++ u) = some x
  | 0, _, _, _, _, _, h => by cases h
  | f + 1, first, acc, t, x, u, h => by
    have hne : t ≠ [] := by
      rintro rfl
      rw [membersS, if_neg (by simp [preS]), member_nil] at h
      cases h
    rw [membersS] at h ⊢
    rw [pre_app1 _ hne]
    split at h
    · rename_i hc
      rw [if_pos hc]; exact h
    · rename_i hc
      rw [if_neg hc]
      obtain ⟨y, hy, h⟩ := Option.bind_eq_some_iff.1 h
      obtain ⟨z, hz, e⟩ := Option.map_eq_some_iff.1 h
      have h1 : t.drop y.2 ≠ [] := fun q => by rw [q, members_nil] at hz; cases hz
      have h2 : t.drop y.2 ≠ [45] := fun q => by rw [q, members_dash] at hz; cases hz
      rw [member_app u hy h1 h2, Option.bind_some, drop_app h1, members_app f false _ _ _ u hz, Option.map_some, e]
theorem members_fuel : ∀ (f : Nat) (first : Bool) (acc : List Int) (t : List UInt8) (x : List Int × Nat) (k : Nat), membersS f first acc t = some x → membersS (f + k) first acc t = some x
  | 0, _, _, _, _, _, h => by cases h
  | f + 1, first, acc, t, x, k, h => by
    rw [show f + 1 + k = (f + k) + 1 from by omega]
    rw [membersS] at h ⊢
    split at h
    · rename_i hc
      rw [if_pos hc]; exact h
    · rename_i hc
      rw [if_neg hc]
      obtain ⟨y, hy, h⟩ := Option.bind_eq_some_iff.1 h
      obtain ⟨z, hz, e⟩ := Option.map_eq_some_iff.1 h
      rw [hy, Option.bind_some, members_fuel f _ _ _ _ k hz, Option.map_some, e]
theorem bracket_app {t : List UInt8} {x : List Int × Nat} (u : List UInt8) (h : bracketS t = some x) : bracketS (t ++ u) = some x := by
  have hne : t ≠ [] := by
    rintro rfl
    simp [bracketS, preS, membersS, memberS, signS, singleS] at h
  unfold bracketS at h ⊢
  rw [pre_app1 _ hne, show (t ++ u).length + 1 = (t.length + 1) + u.length from by rw [List.length_append]; omega]
  split at h
  · rename_i hc
    rw [if_pos hc]
    obtain ⟨y, hy, e⟩ := Option.map_eq_some_iff.1 h
    have h1 : t.drop 1 ≠ [] := by
      intro q
      rw [q, membersS, if_neg (by simp [preS]), member_nil] at hy
      cases hy
    rw [drop_app h1, members_fuel _ _ _ _ _ _ (members_app _ _ _ _ _ u hy), Option.map_some, e]
  · rename_i hc
    rw [if_neg hc]
    obtain ⟨y, hy, e⟩ := Option.map_eq_some_iff.1 h
    rw [members_fuel _ _ _ _ _ _ (members_app _ _ _ _ _ u hy), Option.map_some, e]
end Go.Proofs.Tryd.E
