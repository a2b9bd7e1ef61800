/- Walks: what the functions compute. -/
import Derived.Test.YtgdecplonaaahaaDoorJ2
set_option linter.unusedVariables false
set_option linter.unusedSimpArgs false
/- Readers without groups: pieces; with more behind, with more ahead. -/
namespace Go.Proofs.Tryd.E
open Go.Mv
set_option maxHeartbeats 4000000
set_option maxRecDepth 20000
theorem at_app {s : List UInt8} {i : Nat} {c : UInt8} (u : List UInt8) (h : s[i]? = some c) : (s ++ u)[i]? = some c := by
  have hl : i < s.length := by
    rcases Nat.lt_or_ge i s.length with q | q
    · exact q
    · rw [List.getElem?_eq_none q] at h; cases h
  rw [List.getElem?_append_left hl, h]
theorem at_lt {s : List UInt8} {i : Nat} {c : UInt8} (h : s[i]? = some c) : i < s.length := by
  rcases Nat.lt_or_ge i s.length with q | q
  · exact q
  · rw [List.getElem?_eq_none q] at h; cases h
/-- What stands next isn't a sign of repeating, also where more follows. -/
theorem rep_app {s u : List UInt8} {i : Nat} (hu : isRep u[0]? = false) (hi : i ≤ s.length) : isRep (s ++ u)[i]? = isRep s[i]? := by
  rcases Nat.lt_or_ge i s.length with q | q
  · rw [List.getElem?_append_left q]
  · have e : i = s.length := by omega
    subst e
    rw [List.getElem?_append_right q, Nat.sub_self, hu, List.getElem?_eq_none q]
    rfl
theorem digs_app {s : List UInt8} {n : Nat} {c : UInt8} (u : List UInt8) (h : s[n + (digsAt s n).length]? = some c) : digsAt (s ++ u) n = digsAt s n := by
  have hl := at_lt h
  have hn : n ≤ s.length := by omega
  unfold digsAt at hl ⊢
  rw [List.drop_append_of_le_length hn, List.takeWhile_append, if_neg]
  intro e
  rw [e] at hl
  simp only [List.length_drop] at hl
  omega
theorem braces_app {s : List UInt8} {n : Nat} {x : Int × Int × Nat} (u : List UInt8) (h : bracesS s n = some x) : bracesS (s ++ u) n = some x ∧ n < x.2.2 ∧ x.2.2 ≤ s.length := by
  unfold bracesS at h ⊢
  simp only at h ⊢
  split at h
  · cases h
  · rename_i h1
    split at h
    · rename_i h2
      split at h
      · rename_i h3
        cases h
        rw [digs_app u h2, if_neg h1, if_pos (at_app u h2), digs_app u h3.1, if_pos ⟨at_app u h3.1, h3.2⟩]
        have := at_lt h3.1
        exact ⟨rfl, by simp only; omega, by simp only; omega⟩
      · cases h
    · rename_i h2
      split at h
      · rename_i h3
        cases h
        have := at_lt h3
        rw [digs_app u h3, if_neg h1, if_neg (by rw [at_app u h3]; simp), if_pos (at_app u h3)]
        exact ⟨rfl, by simp only; omega, by simp only; omega⟩
      · cases h
theorem bounds_app {s : List UInt8} {n : Nat} {x : Int × Int × Nat} (u : List UInt8) (hr : isRep s[n]? = true) (h : boundsS s n = some x) : boundsS (s ++ u) n = some x ∧ n < x.2.2 ∧ x.2.2 ≤ s.length := by
  cases hc : s[n]? with
  | none => rw [hc] at hr; cases hr
  | some c =>
    have hl := at_lt hc
    unfold boundsS at h ⊢
    rw [at_app u hc]
    rw [hc] at h
    split at h
    · rename_i h1
      rw [if_pos h1]
      exact braces_app u h
    · rename_i h1
      rw [if_neg h1]
      split at h
      · rename_i h2
        rw [if_pos h2]; cases h
        exact ⟨rfl, by simp only; omega, by simp only; omega⟩
      · rename_i h2
        rw [if_neg h2]
        split at h
        · rename_i h3
          rw [if_pos h3]; cases h
          exact ⟨rfl, by simp only; omega, by simp only; omega⟩
        · rename_i h3
          rw [if_neg h3]; cases h
          exact ⟨rfl, by simp only; omega, by simp only; omega⟩

/-! ### Pieces without groups -/
def esc0 (s : List UInt8) (i : Nat) : Option (Nd × Nat) := match s[i + 1]? with
  | none => none
  | some c =>
    if c = 110 then some (lit 10, i + 2) else
    if 49 ≤ c.toNat ∧ c.toNat ≤ 57 then some (.mk 7 0 0 0 0 0 (c.toNat - 48) 0 0 [], i + 2) else
    if itselfS c = true then some (lit c.toNat, i + 2) else none
def atom0 (s : List UInt8) (i : Nat) : Option (Nd × Nat) := match s[i]? with
  | none => none
  | some c =>
    if c = 40 then none else
    if c = 92 then esc0 s i else
    if c = 91 then (bracketS (s.drop (i + 1))).map fun x => (inN x.1, i + x.2) else
    if c = 10 then none else some (simpleS c, i + 1)
def rep0 (s : List UInt8) (n : Nd) (i : Nat) : Option (Nd × Nat) :=
  if isRep s[i]? = false then some (n, i) else
  if n.kind = 4 ∨ n.kind = 5 then none else
  (boundsS s i).bind fun x => if isRep s[x.2.2]? = true then none else some (.mk 10 0 0 0 0 0 0 x.1 x.2.1 [n], x.2.2)
def piece0 (s : List UInt8) (i : Nat) : Option (Nd × Nat) := (atom0 s i).bind fun x => rep0 s x.1 x.2
theorem esc0_app {s : List UInt8} {i : Nat} {x : Nd × Nat} (u : List UInt8) (h : esc0 s i = some x) : esc0 (s ++ u) i = some x ∧ i < x.2 ∧ x.2 ≤ s.length ∧ x.1.kind ≠ 8 ∧ x.1.kind ≠ 9 := by
  unfold esc0 at h ⊢
  cases hc : s[i + 1]? with
  | none => rw [hc] at h; cases h
  | some c =>
    have hl := at_lt hc
    rw [at_app u hc]
    rw [hc] at h
    simp only at h ⊢
    split at h
    · rename_i h1
      rw [if_pos h1]; cases h
      exact ⟨rfl, by simp only; omega, by simp only; omega, by simp [lit, Nd.kind], by simp [lit, Nd.kind]⟩
    · rename_i h1
      rw [if_neg h1]
      split at h
      · rename_i h2
        rw [if_pos h2]; cases h
        exact ⟨rfl, by simp only; omega, by simp only; omega, by simp [Nd.kind], by simp [Nd.kind]⟩
      · rename_i h2
        rw [if_neg h2]
        split at h
        · rename_i h3
          rw [if_pos h3]; cases h
          exact ⟨rfl, by simp only; omega, by simp only; omega, by simp [lit, Nd.kind], by simp [lit, Nd.kind]⟩
        · cases h
theorem simple_kind (c : UInt8) : (simpleS c).kind ≠ 8 ∧ (simpleS c).kind ≠ 9 := by
  unfold simpleS
  split
  · simp [nd, Nd.kind]
  · split
    · simp [nd, Nd.kind]
    · split <;> simp [nd, lit, Nd.kind]
theorem brk_le0 {t : List UInt8} {x : List Int × Nat} (h : bracketS t = some x) : 1 ≤ x.2 ∧ x.2 ≤ t.length + 1 := by
  unfold bracketS at h
  split at h
  · rename_i hp
    have hp := pre_le hp
    obtain ⟨y, hy, e⟩ := Option.map_eq_some_iff.1 h
    have := (members_le _ _ _ _ _ rfl hy).1
    rw [List.length_drop] at this
    simp only [List.length_cons, List.length_nil] at hp
    cases e
    exact ⟨by simp only; omega, by simp only; omega⟩
  · obtain ⟨y, hy, e⟩ := Option.map_eq_some_iff.1 h
    have := (members_le _ _ _ _ _ rfl hy).1
    cases e
    exact ⟨by simp only; omega, by simp only; omega⟩
theorem atom0_app {s : List UInt8} {i : Nat} {x : Nd × Nat} (u : List UInt8) (h : atom0 s i = some x) : atom0 (s ++ u) i = some x ∧ i < x.2 ∧ x.2 ≤ s.length ∧ x.1.kind ≠ 8 ∧ x.1.kind ≠ 9 := by
  unfold atom0 at h ⊢
  cases hc : s[i]? with
  | none => rw [hc] at h; cases h
  | some c =>
    have hl := at_lt hc
    rw [at_app u hc]
    rw [hc] at h
    simp only at h ⊢
    split at h
    · cases h
    · rename_i h1
      rw [if_neg h1]
      split at h
      · rename_i h2
        rw [if_pos h2]
        exact esc0_app u h
      · rename_i h2
        rw [if_neg h2]
        split at h
        · rename_i h3
          rw [if_pos h3]
          obtain ⟨y, hy, e⟩ := Option.map_eq_some_iff.1 h
          have hb := brk_le0 hy
          rw [List.length_drop] at hb
          rw [List.drop_append_of_le_length (by omega), bracket_app u hy]
          cases e
          exact ⟨rfl, by simp only; omega, by simp only; omega, by simp [inN, Nd.kind], by simp [inN, Nd.kind]⟩
        · rename_i h3
          rw [if_neg h3]
          split at h
          · cases h
          · rename_i h4
            rw [if_neg h4]; cases h
            exact ⟨rfl, by simp only; omega, by simp only; omega, simple_kind c⟩
theorem piece0_app {s : List UInt8} {i : Nat} {x : Nd × Nat} (u : List UInt8) (hu : isRep u[0]? = false) (h : piece0 s i = some x) : piece0 (s ++ u) i = some x ∧ i < x.2 ∧ x.2 ≤ s.length ∧ x.1.kind ≠ 8 ∧ x.1.kind ≠ 9 := by
  unfold piece0 at h ⊢
  obtain ⟨y, hy, h⟩ := Option.bind_eq_some_iff.1 h
  obtain ⟨a1, a2, a3, a4⟩ := atom0_app u hy
  rw [a1, Option.bind_some]
  unfold rep0 at h ⊢
  rw [rep_app hu a3]
  split at h
  · rename_i h1
    rw [if_pos h1]; cases h
    exact ⟨rfl, a2, a3, a4⟩
  · rename_i h1
    rw [if_neg h1]
    split at h
    · cases h
    · rename_i h2
      rw [if_neg h2]
      obtain ⟨z, hz, h⟩ := Option.bind_eq_some_iff.1 h
      obtain ⟨b1, b2, b3⟩ := bounds_app u (by simpa using h1) hz
      rw [b1, Option.bind_some, rep_app hu b3]
      split at h
      · cases h
      · rename_i h3
        rw [if_neg h3]; cases h
        exact ⟨rfl, by simp only; omega, b3, by simp [Nd.kind], by simp [Nd.kind]⟩

/-! ### With more ahead -/
theorem at_sh (p s : List UInt8) (i : Nat) : (p ++ s)[p.length + i]? = s[i]? := by
  rw [List.getElem?_append_right (by omega), Nat.add_sub_cancel_left]
theorem drop_sh (p s : List UInt8) (i : Nat) : (p ++ s).drop (p.length + i) = s.drop i := by
  rw [List.drop_append, List.drop_eq_nil_of_le (by omega), Nat.add_sub_cancel_left, List.nil_append]
theorem digs_sh (p s : List UInt8) (i : Nat) : digsAt (p ++ s) (p.length + i) = digsAt s i := by
  unfold digsAt
  rw [drop_sh]
def shift {α : Type} (k : Nat) (x : α × Nat) : α × Nat := (x.1, k + x.2)
theorem braces_sh (p s : List UInt8) (i : Nat) : bracesS (p ++ s) (p.length + i) = (bracesS s i).map fun x => (x.1, x.2.1, p.length + x.2.2) := by
  unfold bracesS
  simp only [Nat.add_assoc, digs_sh, at_sh]
  split
  · rfl
  · split
    · split
      · rfl
      · rfl
    · split
      · rfl
      · rfl
theorem bounds_sh (p s : List UInt8) (i : Nat) : boundsS (p ++ s) (p.length + i) = (boundsS s i).map fun x => (x.1, x.2.1, p.length + x.2.2) := by
  unfold boundsS
  simp only [Nat.add_assoc, at_sh]
  split
  · exact braces_sh p s i
  · split
    · rfl
    · split <;> rfl
theorem atom0_sh (p s : List UInt8) (i : Nat) : atom0 (p ++ s) (p.length + i) = (atom0 s i).map (shift p.length) := by
  unfold atom0
  rw [at_sh]
  cases s[i]? with
  | none => rfl
  | some c =>
    simp only
    split
    · rfl
    · split
      · unfold esc0
        rw [Nat.add_assoc, at_sh]
        cases s[i + 1]? with
        | none => rfl
        | some b =>
          simp only
          split
          · rfl
          · split
            · rfl
            · split <;> rfl
      · split
        · rw [Nat.add_assoc, drop_sh]
          cases bracketS (s.drop (i + 1)) with
          | none => rfl
          | some x => simp only [Option.map_some, shift, Nat.add_assoc]
        · split <;> rfl
theorem piece0_sh (p s : List UInt8) (i : Nat) : piece0 (p ++ s) (p.length + i) = (piece0 s i).map (shift p.length) := by
  unfold piece0
  rw [atom0_sh]
  cases atom0 s i with
  | none => rfl
  | some x =>
    simp only [Option.map_some, Option.bind_some, shift]
    unfold rep0
    rw [at_sh, bounds_sh]
    split
    · rfl
    · split
      · rfl
      · cases boundsS s x.2 with
        | none => rfl
        | some y =>
          simp only [Option.map_some, Option.bind_some, at_sh]
          split <;> rfl
end Go.Proofs.Tryd.E
