/- Walks: what the functions compute. -/
import Derived.Test.YtibjgennjjhfdaaJ3
import Derived.Test.YtibjgennjjhfdaaE29
set_option linter.unusedVariables false
set_option linter.unusedSimpArgs false
/- Readings without groups, as lists of pieces. -/
namespace Go.Proofs.Try.E
open Go.Mv
set_option maxHeartbeats 4000000
set_option maxRecDepth 20000
mutual
def grN : Nd → Nat
  | .mk kd _ _ _ _ _ _ _ _ l => (if kd = 6 then 1 else 0) + grsN l
def grsN : List Nd → Nat
  | [] => 0
  | x :: l => grN x + grsN l
end
theorem grsN_app : ∀ (l l' : List Nd), grsN (l ++ l') = grsN l + grsN l'
  | [], l' => by simp [grsN]
  | x :: l, l' => by simp only [List.cons_append, grsN, grsN_app l l']; omega
theorem grN_kids {x : Nd} (h : x.kind ≠ 6) : grN x = grsN x.kids := by
  cases x
  simp only [Nd.kind] at h
  simp [grN, Nd.kids, h]
theorem grsN_flat {kd : Int} (hk : kd ≠ 6) : ∀ l, grsN (flatL kd l) = grsN l
  | [] => rfl
  | x :: l => by
    simp only [flatL, grsN_app, grsN, grsN_flat hk l]
    split
    · rename_i h
      rw [grN_kids (by rw [h]; exact hk)]
    · simp [grsN]
theorem grN_nd {kd : Int} (hk : kd ≠ 6) (l : List Nd) : grN (nd kd l) = grsN l := by simp [nd, grN, hk]
theorem grN_join (l : List Nd) : grN (joinN l) = grsN l := by
  unfold joinN
  rw [← grsN_flat (kd := 8) (by decide) l]
  generalize flatL 8 l = f
  unfold joinF
  split
  · simp [grsN]
  · exact grN_nd (by decide) _
theorem grN_either (l : List Nd) : grN (eitherN l) = grsN l := by
  unfold eitherN
  rw [← grsN_flat (kd := 9) (by decide) l]
  generalize flatL 9 l = f
  unfold eitherF
  split
  · exact grN_nd (by decide) _
  · simp [grsN]
  · exact grN_nd (by decide) _

section
variable {s : List UInt8} {rec : Rd → Nd × Rd}
theorem nx_at {i g : Nat} : (Rd.mk i g false).nx s = s[i]? := by simp [Rd.nx]
theorem nx_go {i g n : Nat} : ((Rd.mk i g false).go n).nx s = s[n]? := by simp [Rd.nx, Rd.go]
theorem esc_of (s : List UInt8) (i g : Nat) : escS s ⟨i, g, false⟩ = match esc0 s i with | some x => (x.1, ⟨x.2, g, false⟩) | none => (z0, ⟨i, g, true⟩) := by
  unfold escS esc0
  simp only
  cases s[i + 1]? with
  | none => rfl
  | some c =>
    simp only
    split
    · rfl
    · split
      · rfl
      · split <;> rfl
theorem atom_of {i g : Nat} (h : s[i]? ≠ some 40) : atomS s rec ⟨i, g, false⟩ = match atom0 s i with | some x => (x.1, ⟨x.2, g, false⟩) | none => (z0, ⟨i, g, true⟩) := by
  unfold atomS atom0
  simp only
  cases hc : s[i]? with
  | none => rfl
  | some c =>
    have h40 : ¬ c = 40 := fun e => h (by rw [hc, e])
    simp only
    rw [if_neg h40, if_neg h40]
    split
    · exact esc_of s i g
    · split
      · cases bracketS (s.drop (i + 1)) with
        | none => rfl
        | some x => rfl
      · split <;> rfl
theorem rep_of (v : Nd) (i g : Nat) : repS s v ⟨i, g, false⟩ = match rep0 s v i with | some x => (x.1, ⟨x.2, g, false⟩) | none => repS s v ⟨i, g, false⟩ := by
  unfold repS rep0
  rw [nx_at]
  split
  · rfl
  · split
    · rfl
    · simp only
      cases boundsS s i with
      | none => rfl
      | some y =>
        simp only [Option.bind_some]
        rw [nx_go]
        split <;> rfl
theorem rep_none {v : Nd} {i g : Nat} (h : rep0 s v i = none) : (repS s v ⟨i, g, false⟩).2.bad = true := by
  unfold repS
  unfold rep0 at h
  rw [nx_at]
  split
  · rename_i h1
    rw [if_pos h1] at h; cases h
  · rename_i h1
    rw [if_neg h1] at h
    split
    · rfl
    · rename_i h2
      rw [if_neg h2] at h
      simp only
      cases hb : boundsS s i with
      | none => rfl
      | some y =>
        rw [hb, Option.bind_some] at h
        simp only
        rw [nx_go]
        split at h
        · rename_i h3
          rw [if_pos h3]; rfl
        · cases h
theorem rep_bad0 {v : Nd} {r : Rd} (h : r.bad = true) : repS s v r = (v, r) := by
  unfold repS
  rw [if_pos]
  simp [Rd.nx, h, isRep]
theorem piece_of {i g j : Nat} {v : Nd} (h : piece0 s i = some (v, j)) : pieceS s rec ⟨i, g, false⟩ = (v, ⟨j, g, false⟩) := by
  unfold piece0 at h
  obtain ⟨y, hy, h⟩ := Option.bind_eq_some_iff.1 h
  have h40 : s[i]? ≠ some 40 := by
    intro e
    simp [atom0, e] at hy
  unfold pieceS
  rw [atom_of h40, hy]
  simp only
  rw [rep_of, h]
theorem grN_rep {v : Nd} {r : Rd} (h : (repS s v r).2.bad = false) : grN (repS s v r).1 = grN v := by
  unfold repS at h ⊢
  split
  · rfl
  · rename_i h1
    rw [if_neg h1] at h
    split
    · rename_i h2
      rw [if_pos h2] at h; cases h
    · rename_i h2
      rw [if_neg h2] at h
      revert h
      cases boundsS s r.at' with
      | none => intro h; cases h
      | some x =>
        simp only
        split
        · intro h; cases h
        · intro _; simp [grN, grsN]
theorem piece_to {i g : Nat} (hb : (pieceS s rec ⟨i, g, false⟩).2.bad = false) (hg : grN (pieceS s rec ⟨i, g, false⟩).1 = 0) : ∃ v j, piece0 s i = some (v, j) := by
  unfold pieceS at hb hg
  simp only at hb hg
  rw [grN_rep hb] at hg
  by_cases h40 : s[i]? = some 40
  · exfalso
    have e : atomS s rec ⟨i, g, false⟩ = groupS s rec ⟨i, g, false⟩ := by
      unfold atomS
      simp only [h40, if_true]
    rw [e] at hb hg
    unfold groupS at hb hg
    split at hb
    · rw [rep_bad0 rfl] at hb; cases hb
    · rename_i h9
      rw [if_neg h9] at hg
      simp only at hb hg
      split at hb
      · rename_i h41
        rw [if_pos h41] at hg
        simp [grN] at hg
      · rw [rep_bad0 rfl] at hb; cases hb
  · unfold piece0
    rw [atom_of h40] at hb
    cases ha : atom0 s i with
    | none =>
      rw [ha] at hb
      simp only at hb
      rw [rep_bad0 rfl] at hb; cases hb
    | some x =>
      rw [ha] at hb
      simp only at hb
      rw [Option.bind_some]
      cases hr : rep0 s x.1 x.2 with
      | none => rw [rep_none hr] at hb; cases hb
      | some y => exact ⟨y.1, y.2, rfl⟩
end

/-- Pieces, from a place up to a stop. -/
inductive Br (s : List UInt8) : Nat → List Nd → Nat → Prop
  | nil {i : Nat} : stopS s[i]? = true → Br s i [] i
  | cons {i j k : Nat} {v : Nd} {l : List Nd} : stopS s[i]? = false → piece0 s i = some (v, j) → Br s j l k → Br s i (v :: l) k
/-- Branches, from a place up to the end. -/
inductive Wh (s : List UInt8) : Nat → List (List Nd) → Nat → Prop
  | one {i j : Nat} {l : List Nd} : Br s i l j → l ≠ [] → isRep s[i]? = false → s[j]? ≠ some 124 → Wh s i [l] j
  | more {i j k : Nat} {l : List Nd} {L : List (List Nd)} : Br s i l j → l ≠ [] → isRep s[i]? = false → s[j]? = some 124 → Wh s (j + 1) L k → Wh s i (l :: L) k

section
variable {s : List UInt8} {rec : Rd → Nd × Rd}
theorem piece0_le {i : Nat} {x : Nd × Nat} (h : piece0 s i = some x) : i < x.2 ∧ x.2 ≤ s.length ∧ x.1.kind ≠ 8 ∧ x.1.kind ≠ 9 := (piece0_app [] rfl h).2
theorem Br.le {i k : Nat} {l : List Nd} (h : Br s i l k) : i ≤ k ∧ (i ≤ s.length → k ≤ s.length) := by
  induction h with
  | nil _ => exact ⟨Nat.le_refl _, id⟩
  | cons _ h _ ih =>
    have := piece0_le h
    simp only at this
    exact ⟨by omega, fun _ => ih.2 (by omega)⟩
theorem Br.stop {i k : Nat} {l : List Nd} (h : Br s i l k) : stopS s[k]? = true := by
  induction h with
  | nil h => exact h
  | cons _ _ _ ih => exact ih
theorem Br.kinds {i k : Nat} {l : List Nd} (h : Br s i l k) : ∀ v ∈ l, v.kind ≠ 8 ∧ v.kind ≠ 9 := by
  induction h with
  | nil _ => intro v hv; cases hv
  | cons _ h _ ih =>
    intro v hv
    rcases List.mem_cons.1 hv with rfl | hv
    · exact (piece0_le h).2.2
    · exact ih v hv
theorem branch_bad : ∀ (n : Nat) (l : List Nd) (r : Rd), r.bad = true → (branchS s rec n l r).2.bad = true
  | 0, _, _, h => h
  | n + 1, l, r, h => by
    rw [branchS, if_pos (by simp [Rd.nx, h, stopS])]
    split
    · rfl
    · exact h
theorem stop_good {r : Rd} (h : ¬ stopS (r.nx s) = true) : r.bad = false ∧ r.at' < s.length := by
  have hrb : r.bad = false := by
    cases hr : r.bad with
    | false => rfl
    | true => exact absurd (by simp [Rd.nx, hr, stopS]) h
  refine ⟨hrb, ?_⟩
  rcases Nat.lt_or_ge r.at' s.length with q | q
  · exact q
  · exact absurd (by simp [Rd.nx, hrb, stopS, List.getElem?_eq_none q]) h
variable {k : Nat} (H : HR s k rec) (hk : 10 ≤ k + 1)
include H hk
theorem branch_list : ∀ (n : Nat) (l : List Nd) (r : Rd), s.length + 1 ≤ n + r.at' → r.at' ≤ s.length → r.g ≤ 9 → (branchS s rec n l r).2.bad = false → ∃ l', (branchS s rec n l r).1 = joinN (l ++ l')
  | 0, _, _, h, h2, _, _ => by omega
  | n + 1, l, r, h, h2, h9, hb => by
    rw [branchS] at hb ⊢
    split at hb
    · rename_i h1
      rw [if_pos h1]
      split at hb
      · cases hb
      · rename_i h3
        rw [if_neg h3]
        exact ⟨[], by simp⟩
    · rename_i h1
      rw [if_neg h1]
      split at hb
      · cases hb
      · rename_i h3
        rw [if_neg h3]
        simp only at hb ⊢
        obtain ⟨hrb, hlt⟩ := stop_good h1
        have hxb : (pieceS s rec r).2.bad = false := by
          cases hx : (pieceS s rec r).2.bad with
          | false => rfl
          | true => rw [branch_bad _ _ _ hx] at hb; cases hb
        have G := gd_piece H hlt hrb h9 (by omega)
        have q1 := (G.good hxb).1
        obtain ⟨l', e⟩ := branch_list n (l ++ [(pieceS s rec r).1]) (pieceS s rec r).2 (by omega) G.in' G.g9 hb
        exact ⟨(pieceS s rec r).1 :: l', by rw [e]; simp⟩
theorem branch_to : ∀ (n : Nat) (l : List Nd) (i g : Nat), s.length + 1 ≤ n + i → i ≤ s.length → g ≤ 9 → (branchS s rec n l ⟨i, g, false⟩).2.bad = false → grN (branchS s rec n l ⟨i, g, false⟩).1 = 0 →
    ∃ l' j, Br s i l' j ∧ l ++ l' ≠ [] ∧ (l = [] → isRep s[i]? = false) ∧ branchS s rec n l ⟨i, g, false⟩ = (joinN (l ++ l'), ⟨j, g, false⟩)
  | 0, _, _, _, h, h2, _, _, _ => by omega
  | n + 1, l, i, g, h, h2, h9, hb, hg => by
    rw [branchS] at hb hg ⊢
    rw [nx_at] at hb hg ⊢
    split at hb
    · rename_i h1
      rw [if_pos h1]
      split at hb
      · cases hb
      · rename_i h3
        rw [if_neg h3]
        exact ⟨[], i, .nil h1, by simpa using h3, fun q => absurd q h3, by rw [List.append_nil]⟩
    · rename_i h1
      rw [if_neg h1] at hg ⊢
      split at hb
      · cases hb
      · rename_i h3
        rw [if_neg h3] at hg ⊢
        simp only at hb hg ⊢
        obtain ⟨hrb, hlt⟩ := stop_good (s := s) (r := ⟨i, g, false⟩) (by rw [nx_at]; exact h1)
        have hxb : (pieceS s rec ⟨i, g, false⟩).2.bad = false := by
          cases hx : (pieceS s rec ⟨i, g, false⟩).2.bad with
          | false => rfl
          | true => rw [branch_bad _ _ _ hx] at hb; cases hb
        have G := gd_piece H hlt hrb h9 (by simp only; omega)
        have q1 := (G.good hxb).1
        obtain ⟨l0, e⟩ := branch_list H hk n (l ++ [(pieceS s rec ⟨i, g, false⟩).1]) (pieceS s rec ⟨i, g, false⟩).2 (by simp only at q1; omega) G.in' G.g9 hb
        have hg2 := hg
        rw [e, grN_join, grsN_app, grsN_app] at hg2
        simp only [grsN] at hg2
        obtain ⟨v, j, hp⟩ := piece_to hxb (by omega)
        have hpo := piece_of (rec := rec) (g := g) hp
        rw [hpo] at hb hg ⊢
        have hle := piece0_le hp
        simp only at hb hg hle ⊢
        obtain ⟨l', j', hbr, hne, _, e2⟩ := branch_to n (l ++ [v]) j g (by omega) (by omega) h9 hb hg
        refine ⟨v :: l', j', .cons (by simpa using h1) hp hbr, by simp, fun q => ?_, by rw [e2]; simp⟩
        cases hr : isRep s[i]? with
        | false => rfl
        | true => exact absurd ⟨q, hr⟩ h3
omit H hk in
theorem more_bad : ∀ (n : Nat) (l : List Nd) (r : Rd), r.bad = true → (moreS s rec n l r).2.bad = true
  | 0, _, _, h => h
  | n + 1, l, r, h => by
    rw [moreS, if_neg (by simp [Rd.nx, h])]
    exact h
theorem more_list : ∀ (n : Nat) (l : List Nd) (r : Rd), s.length + 1 ≤ n + r.at' → r.at' ≤ s.length → r.g ≤ 9 → (moreS s rec n l r).2.bad = false → ∃ l', (moreS s rec n l r).1 = eitherN (l ++ l')
  | 0, _, _, h, h2, _, _ => by omega
  | n + 1, l, r, h, h2, h9, hb => by
    rw [moreS] at hb ⊢
    split at hb
    · rename_i h1
      rw [if_pos h1]
      simp only at hb ⊢
      obtain ⟨hrb, _, hlt⟩ := nx_some h1
      have hxb : (branchS s rec (s.length + 1) [] (r.go (r.at' + 1))).2.bad = false := by
        cases hx : (branchS s rec (s.length + 1) [] (r.go (r.at' + 1))).2.bad with
        | false => rfl
        | true => rw [more_bad _ _ _ hx] at hb; cases hb
      have G := gd_br0 H (r := r.go (r.at' + 1)) (by simp only [Rd.go]; omega) hrb h9 (by omega)
      have q1 := (G.good hxb).1
      simp only [Rd.go] at q1
      obtain ⟨l', e⟩ := more_list n (l ++ [(branchS s rec (s.length + 1) [] (r.go (r.at' + 1))).1]) (branchS s rec (s.length + 1) [] (r.go (r.at' + 1))).2 (by simp only [Rd.go]; omega) G.in' G.g9 hb
      exact ⟨(branchS s rec (s.length + 1) [] (r.go (r.at' + 1))).1 :: l', by rw [e]; simp⟩
    · rename_i h1
      rw [if_neg h1]
      exact ⟨[], by simp⟩
theorem more_to : ∀ (n : Nat) (l : List Nd) (i g : Nat), s.length + 1 ≤ n + i → i ≤ s.length → g ≤ 9 → (moreS s rec n l ⟨i, g, false⟩).2.bad = false → grN (moreS s rec n l ⟨i, g, false⟩).1 = 0 →
    (s[i]? ≠ some 124 ∧ moreS s rec n l ⟨i, g, false⟩ = (eitherN l, ⟨i, g, false⟩)) ∨ (s[i]? = some 124 ∧ ∃ L j, Wh s (i + 1) L j ∧ moreS s rec n l ⟨i, g, false⟩ = (eitherN (l ++ L.map joinN), ⟨j, g, false⟩))
  | 0, _, _, _, h, h2, _, _, _ => by omega
  | n + 1, l, i, g, h, h2, h9, hb, hg => by
    rw [moreS] at hb hg ⊢
    rw [nx_at] at hb hg ⊢
    split at hb
    · rename_i h1
      rw [if_pos h1] at hg ⊢
      simp only [Rd.go] at hb hg ⊢
      have hlt := at_lt h1
      have hxb : (branchS s rec (s.length + 1) [] ⟨i + 1, g, false⟩).2.bad = false := by
        cases hx : (branchS s rec (s.length + 1) [] ⟨i + 1, g, false⟩).2.bad with
        | false => rfl
        | true => rw [more_bad _ _ _ hx] at hb; cases hb
      have G := gd_br0 H (r := ⟨i + 1, g, false⟩) (by simp only; omega) rfl h9 (by simp only; omega)
      have q1 := (G.good hxb).1
      simp only at q1
      obtain ⟨l0, e⟩ := more_list H hk n (l ++ [(branchS s rec (s.length + 1) [] ⟨i + 1, g, false⟩).1]) (branchS s rec (s.length + 1) [] ⟨i + 1, g, false⟩).2 (by omega) G.in' G.g9 hb
      have hg2 := hg
      rw [e, grN_either, grsN_app, grsN_app] at hg2
      simp only [grsN] at hg2
      obtain ⟨l1, j, hbr, hne, hrep, e2⟩ := branch_to H hk (s.length + 1) [] (i + 1) g (by omega) (by omega) h9 hxb (by omega)
      have hle := hbr.le
      rw [e2] at hb hg ⊢
      simp only [List.nil_append] at hb hg hne ⊢
      refine .inr ⟨h1, ?_⟩
      have h12 := (G.good hxb).1
      rw [e2] at h12
      simp only at h12
      rcases more_to n (l ++ [joinN l1]) j g (by omega) (hle.2 (by omega)) h9 hb hg with ⟨b1, b2⟩ | ⟨b1, L, j2, b2, b3⟩
      · exact ⟨[l1], j, .one hbr hne (hrep rfl) b1, by rw [b2]; simp⟩
      · exact ⟨l1 :: L, j2, .more hbr hne (hrep rfl) b1 b2, by rw [b3]; simp⟩
    · rename_i h1
      rw [if_neg h1]
      exact .inl ⟨h1, rfl⟩
theorem whole_to {i g : Nat} (h2 : i ≤ s.length) (h9 : g ≤ 9) (hb : (wholeS s rec ⟨i, g, false⟩).2.bad = false) (hg : grN (wholeS s rec ⟨i, g, false⟩).1 = 0) :
    ∃ L j, Wh s i L j ∧ wholeS s rec ⟨i, g, false⟩ = (eitherN (L.map joinN), ⟨j, g, false⟩) := by
  unfold wholeS at hb hg ⊢
  simp only at hb hg ⊢
  have hxb : (branchS s rec (s.length + 1) [] ⟨i, g, false⟩).2.bad = false := by
    cases hx : (branchS s rec (s.length + 1) [] ⟨i, g, false⟩).2.bad with
    | false => rfl
    | true => rw [more_bad _ _ _ hx] at hb; cases hb
  have G := gd_br0 H (r := ⟨i, g, false⟩) h2 rfl h9 (by simp only; omega)
  obtain ⟨l0, e⟩ := more_list H hk (s.length + 1) [(branchS s rec (s.length + 1) [] ⟨i, g, false⟩).1] (branchS s rec (s.length + 1) [] ⟨i, g, false⟩).2 (by omega) G.in' G.g9 hb
  have hg2 := hg
  rw [e, grN_either, grsN_app] at hg2
  simp only [grsN] at hg2
  obtain ⟨l1, j, hbr, hne, hrep, e2⟩ := branch_to H hk (s.length + 1) [] i g (by omega) h2 h9 hxb (by omega)
  rw [e2] at hb hg ⊢
  simp only [List.nil_append] at hb hg hne ⊢
  rcases more_to H hk (s.length + 1) [joinN l1] j g (by omega) (hbr.le.2 h2) h9 hb hg with ⟨b1, b2⟩ | ⟨b1, L, j2, b2, b3⟩
  · exact ⟨[l1], j, .one hbr hne (hrep rfl) b1, by rw [b2]; rfl⟩
  · exact ⟨l1 :: L, j2, .more hbr hne (hrep rfl) b1 b2, by rw [b3]; rfl⟩
end

/-! ### Back: such lists are readings -/
section
variable {s : List UInt8} {rec : Rd → Nd × Rd}
theorem br_of {i j : Nat} {l : List Nd} (h : Br s i l j) : ∀ (n g : Nat) (l0 : List Nd), s.length + 1 ≤ n + i → i ≤ s.length → l0 ++ l ≠ [] → (l0 = [] → isRep s[i]? = false) → branchS s rec n l0 ⟨i, g, false⟩ = (joinN (l0 ++ l), ⟨j, g, false⟩) := by
  induction h with
  | nil h1 =>
    intro n g l0 hn hi hne _
    obtain ⟨n, rfl⟩ : ∃ m, n = m + 1 := ⟨n - 1, by omega⟩
    rw [List.append_nil] at hne ⊢
    rw [branchS, nx_at, if_pos h1, if_neg hne]
  | cons h1 h2 h3 ih =>
    intro n g l0 hn hi hne hr
    have hle := piece0_le h2
    simp only at hle
    obtain ⟨n, rfl⟩ : ∃ m, n = m + 1 := ⟨n - 1, by omega⟩
    rw [branchS, nx_at, if_neg (by rw [h1]; decide), if_neg (by rintro ⟨q1, q2⟩; rw [hr q1] at q2; cases q2), piece_of h2]
    simp only
    rw [ih n g (l0 ++ [_]) (by omega) (by omega) (by simp) (fun q => by simp at q), List.append_assoc]
    rfl
theorem more_of {i j : Nat} {L : List (List Nd)} (h : Wh s i L j) : ∀ (n g : Nat) (l0 : List Nd), s.length + 1 ≤ n + i → i ≤ s.length →
    (let x := branchS s rec (s.length + 1) [] ⟨i, g, false⟩; moreS s rec n (l0 ++ [x.1]) x.2) = (eitherN (l0 ++ L.map joinN), ⟨j, g, false⟩) := by
  induction h with
  | one h1 h2 h3 h4 =>
    intro n g l0 hn hi
    have hle := h1.le
    simp only
    rw [br_of h1 _ g [] (by omega) hi (by simpa using h2) (fun _ => h3)]
    have hlt : s.length + 1 ≤ n + _ := Nat.le_trans hn (Nat.add_le_add_left hle.1 n)
    obtain ⟨n, rfl⟩ : ∃ m, n = m + 1 := ⟨n - 1, by have := hle.2 hi; omega⟩
    simp only [List.nil_append]
    rw [moreS, nx_at, if_neg h4]
    rfl
  | @more i j k l L h1 h2 h3 h4 h5 ih =>
    intro n g l0 hn hi
    have hle := h1.le
    have hjl := at_lt h4
    simp only
    rw [br_of h1 _ g [] (by omega) hi (by simpa using h2) (fun _ => h3)]
    obtain ⟨n, rfl⟩ : ∃ m, n = m + 1 := ⟨n - 1, by omega⟩
    simp only [List.nil_append]
    rw [moreS, nx_at, if_pos h4]
    have := ih n g (l0 ++ [joinN l]) (by omega) (by omega)
    simp only [Rd.go] at this ⊢
    rw [this, List.append_assoc]
    rfl
theorem whole_of {i j g : Nat} {L : List (List Nd)} (h : Wh s i L j) (hi : i ≤ s.length) : wholeS s rec ⟨i, g, false⟩ = (eitherN (L.map joinN), ⟨j, g, false⟩) :=
  more_of h (s.length + 1) g [] (by omega) hi
end

/-! ### With more behind, with more ahead -/
theorem stop_app {s u : List UInt8} {i : Nat} (hi : i < s.length) : (s ++ u)[i]? = s[i]? := List.getElem?_append_left hi
theorem lt_of_stop {s : List UInt8} {i : Nat} (h : stopS s[i]? = false) : i < s.length := by
  rcases Nat.lt_or_ge i s.length with q | q
  · exact q
  · rw [List.getElem?_eq_none q] at h; cases h
/-- Pieces up to the end, and pieces of a text behind. -/
theorem br_join {s t : List UInt8} (ht : isRep t[0]? = false) {i j k : Nat} {l l' : List Nd} (h : Br s i l j) (hj : j = s.length) (h' : Br (s ++ t) s.length l' k) : Br (s ++ t) i (l ++ l') k := by
  induction h with
  | nil _ => subst hj; exact h'
  | cons h1 h2 _ ih => exact .cons (by rw [stop_app (lt_of_stop h1)]; exact h1) (piece0_app t ht h2).1 (ih hj)
theorem br_sh (p : List UInt8) {s : List UInt8} {i j : Nat} {l : List Nd} (h : Br s i l j) : Br (p ++ s) (p.length + i) l (p.length + j) := by
  induction h with
  | nil h => exact .nil (by rw [at_sh]; exact h)
  | cons h1 h2 _ ih => exact .cons (by rw [at_sh]; exact h1) (by rw [piece0_sh, h2]; rfl) ih
theorem wh_sh (p : List UInt8) {s : List UInt8} {i j : Nat} {L : List (List Nd)} (h : Wh s i L j) : Wh (p ++ s) (p.length + i) L (p.length + j) := by
  induction h with
  | one h1 h2 h3 h4 => exact .one (br_sh p h1) h2 (by rw [at_sh]; exact h3) (by rw [at_sh]; exact h4)
  | more h1 h2 h3 h4 _ ih => exact .more (br_sh p h1) h2 (by rw [at_sh]; exact h3) (by rw [at_sh]; exact h4) ih
theorem br_app124 {a u : List UInt8} (hu : isRep u[0]? = false) {i j : Nat} {l : List Nd} (h : Br a i l j) (hj : j < a.length) : Br (a ++ u) i l j := by
  induction h with
  | nil h => exact .nil (by rw [stop_app hj]; exact h)
  | cons h1 h2 _ ih => exact .cons (by rw [stop_app (lt_of_stop h1)]; exact h1) (piece0_app u hu h2).1 (ih hj)
/-- Branches up to the end, a sign between, and branches of a text behind. -/
theorem wh_either {a b : List UInt8} {i k j : Nat} {L L' : List (List Nd)} (h : Wh a i L j) (hj : j = a.length) (hi : i ≤ a.length) (h' : Wh (a ++ 124 :: b) (a.length + 1) L' k) : Wh (a ++ 124 :: b) i (L ++ L') k := by
  have h124 : (a ++ 124 :: b)[a.length]? = some 124 := by rw [List.getElem?_append_right (Nat.le_refl _), Nat.sub_self]; rfl
  have hst : Br (a ++ 124 :: b) a.length [] a.length := .nil (by rw [h124]; rfl)
  induction h with
  | one h1 h2 h3 h4 =>
    refine .more (l := _) (j := a.length) ?_ h2 (by rw [rep_app rfl hi]; exact h3) h124 h'
    have := br_join (t := 124 :: b) rfl h1 hj hst
    rwa [List.append_nil] at this
  | more h1 h2 h3 h4 _ ih =>
    have hlt := at_lt h4
    refine .more (j := _) ?_ h2 (by rw [rep_app rfl hi]; exact h3) (by rw [stop_app hlt]; exact h4) (ih hj (by omega))
    exact br_app124 rfl h1 hlt
end Go.Proofs.Try.E
