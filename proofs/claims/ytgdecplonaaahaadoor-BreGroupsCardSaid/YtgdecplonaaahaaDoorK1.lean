/- Walks: what the functions compute. -/
import Derived.Test.YtgdecplonaaahaaDoorB1
import Derived.Test.YtgdecplonaaahaaDoorG1
import Derived.Test.YtgdecplonaaahaaDoorJ3
set_option linter.unusedVariables false
set_option linter.unusedSimpArgs false
/- A basic pattern in a group of its own: what is read at one place, with two signs ahead and two behind. -/
namespace Go.Proofs.Tryd.E
open Go.Mv
set_option maxHeartbeats 4000000
set_option maxRecDepth 20000
mutual
def hi : Nd → Nd
  | .mk kd c s0 s1 s2 s3 n mn mx l => .mk kd c s0 s1 s2 s3 (if kd = 6 then IntKind.i64.wrap (n + 1) else n) mn mx (his l)
def his : List Nd → List Nd
  | [] => []
  | x :: l => hi x :: his l
end
theorem his_map : ∀ l, his l = l.map hi
  | [] => rfl
  | x :: l => by rw [his, his_map l]; rfl
theorem hi_kind (x : Nd) : (hi x).kind = x.kind := by cases x; rfl
theorem hi_kids (x : Nd) : (hi x).kids = x.kids.map hi := by cases x; simp [hi, Nd.kids, his_map]
theorem hi_nd {k : Int} (h : k ≠ 6) (l : List Nd) : hi (nd k l) = nd k (l.map hi) := by simp [nd, hi, h, his_map]
theorem flat_hi (kd : Int) : ∀ l, flatL kd (l.map hi) = (flatL kd l).map hi
  | [] => rfl
  | x :: l => by
    simp only [List.map_cons, flatL, List.map_append, flat_hi kd l, hi_kind, hi_kids]
    split <;> rfl
theorem hi_join (l : List Nd) : hi (joinN l) = joinN (l.map hi) := by
  unfold joinN
  rw [flat_hi]
  generalize flatL 8 l = f
  match f with
  | [] => exact hi_nd (by decide) _
  | [x] => rfl
  | x :: y :: f => exact hi_nd (by decide) _

/-- A text between the signs of a group. -/
def wOf (s : List UInt8) : List UInt8 := 92 :: 40 :: (s ++ [92, 41])
theorem w_len (s : List UInt8) : (wOf s).length = s.length + 4 := by simp [wOf]
theorem w_ix (s : List UInt8) (i : Nat) : (wOf s)[2 + i]? = (s ++ [92, 41])[i]? := by
  rw [wOf, Nat.add_comm, List.getElem?_cons_succ, List.getElem?_cons_succ]
theorem w_drop (s : List UInt8) (i : Nat) : (wOf s).drop (2 + i) = (s ++ [92, 41]).drop i := by
  rw [wOf, Nat.add_comm, List.drop_succ_cons, List.drop_succ_cons]
section
variable {s : List UInt8}
theorem w_at {i : Nat} {c : UInt8} (h : s[i]? = some c) : (wOf s)[2 + i]? = some c := by
  rw [w_ix, at_app _ h]
theorem w_lt {i : Nat} (h : i < s.length) : (wOf s)[2 + i]? = s[i]? := by
  rw [w_ix, List.getElem?_append_left h]
theorem w_end : (wOf s)[2 + s.length]? = some 92 ∧ (wOf s)[2 + (s.length + 1)]? = some 41 ∧ s[s.length]? = none := by
  refine ⟨?_, ?_, List.getElem?_eq_none (Nat.le_refl _)⟩
  · rw [w_ix, List.getElem?_append_right (Nat.le_refl _), Nat.sub_self]; rfl
  · rw [w_ix, List.getElem?_append_right (by omega), show s.length + 1 - s.length = 1 from by omega]; rfl
theorem nx_at' {i g : Nat} {t : List UInt8} : (Rd.mk i g false).nx t = t[i]? := by simp [Rd.nx]
/-- An escape, at a place: alike. -/
theorem w_has {i g g' : Nat} {c : UInt8} (hi : i ≤ s.length) (h1 : c ≠ 41) (h2 : c ≠ 92) : hasE (wOf s) ⟨2 + i, g', false⟩ c = hasE s ⟨i, g, false⟩ c := by
  unfold hasE
  rw [nx_at', nx_at']
  simp only [Nat.add_assoc]
  rcases Nat.lt_or_ge (i + 1) s.length with q | q
  · rw [w_lt (by omega), w_lt q]
  · rcases (by omega : i = s.length ∨ i + 1 = s.length) with e | e
    · subst e
      obtain ⟨e1, e2, e3⟩ := w_end (s := s)
      rw [e1, e2, e3]
      have : (some (41 : UInt8) == some c) = false := by rw [beq_eq_false_iff_ne]; exact fun q => h1 (Option.some.inj q).symm
      simp [this]
    · obtain ⟨e1, e2, e3⟩ := w_end (s := s)
      rw [e, e1, e3]
      have : (some (92 : UInt8) == some c) = false := by rw [beq_eq_false_iff_ne]; exact fun q => h2 (Option.some.inj q).symm
      rw [this]
      simp
theorem w_over {i g g' : Nat} (hi : i ≤ s.length) : overB (wOf s) ⟨2 + i, g', false⟩ = overB s ⟨i, g, false⟩ := by
  unfold overB hasE
  rw [nx_at', nx_at']
  simp only [Nat.add_assoc]
  obtain ⟨e1, e2, e3⟩ := w_end (s := s)
  rcases Nat.lt_or_ge (i + 1) s.length with q | q
  · rw [w_lt (by omega), w_lt q]
  · rcases (by omega : i = s.length ∨ i + 1 = s.length) with e | e
    · subst e
      rw [e1, e2, e3]
      rfl
    · rw [e, e1, e3, w_lt (by omega)]
      simp
theorem w_42 {i g g' : Nat} (hi : i ≤ s.length) : ((Rd.mk (2 + i) g' false).nx (wOf s) = some 42) ↔ ((Rd.mk i g false).nx s = some 42) := by
  rw [nx_at', nx_at']
  rcases Nat.lt_or_ge i s.length with q | q
  · rw [w_lt q]
  · have e : i = s.length := by omega
    subst e
    obtain ⟨e1, e2, e3⟩ := w_end (s := s)
    rw [e1, e3]
    simp
theorem w_rep {i g g' : Nat} (hi : i ≤ s.length) : isRepB (wOf s) ⟨2 + i, g', false⟩ = isRepB s ⟨i, g, false⟩ := by
  unfold isRepB
  rw [w_has (g := g) hi (by decide) (by decide)]
  have := w_42 (g := g) (g' := g') hi
  congr 1
  rw [Bool.eq_iff_iff, beq_iff_eq, beq_iff_eq]
  exact this
theorem w_ends {i : Nat} (hi : i < s.length) : endsB (wOf s) (2 + i) = endsB s i := by
  unfold endsB
  simp only [Nat.add_assoc]
  obtain ⟨e1, e2, e3⟩ := w_end (s := s)
  rcases Nat.lt_or_ge (i + 2) s.length with q | q
  · rw [w_lt (by omega), w_lt q]
  · rcases (by omega : i + 1 = s.length ∨ i + 2 = s.length) with e | e
    · rw [e, e1, e3, show i + 2 = s.length + 1 from by omega, e2]
      rfl
    · rw [w_lt (by omega), e, e1, e3]
      simp
theorem w_digs {n : Nat} {c : UInt8} (h : s[n + (digsAt s n).length]? = some c) : digsAt (wOf s) (2 + n) = digsAt s n := by
  have := digs_app [92, 41] h
  rw [← this]
  unfold digsAt
  rw [w_drop]
theorem w_close {q : Nat} (h : closeB s q = true) : closeB (wOf s) (2 + q) = true := by
  simp only [closeB, Bool.and_eq_true, beq_iff_eq] at h ⊢
  exact ⟨w_at h.1, by rw [Nat.add_assoc]; exact w_at h.2⟩
theorem close_at {q : Nat} (h : closeB s q = true) : s[q]? = some 92 := by
  simp only [closeB, Bool.and_eq_true, beq_iff_eq] at h
  exact h.1
theorem w_braces {n : Nat} {x : Int × Int × Nat} (h : bracesB s n = some x) : bracesB (wOf s) (2 + n) = some (x.1, x.2.1, 2 + x.2.2) := by
  unfold bracesB at h ⊢
  simp only at h ⊢
  split at h
  · cases h
  · rename_i h1
    split at h
    · rename_i h2
      split at h
      · rename_i h3
        cases h
        have d1 := w_digs h2
        have d2 := w_digs (close_at h3.1)
        simp only [Nat.add_assoc] at d1 d2 h1 h2 h3 ⊢
        rw [d1, if_neg h1, if_pos (w_at h2), d2, if_pos ⟨w_close h3.1, h3.2⟩]
      · cases h
    · rename_i h2
      split at h
      · rename_i h3
        cases h
        have d1 := w_digs (close_at h3)
        simp only [Nat.add_assoc] at d1 h1 h3 ⊢
        rw [d1, if_neg h1, if_neg (by rw [w_at (close_at h3)]; decide), if_pos (w_close h3)]
      · cases h
theorem w_times {i g g' : Nat} {x : Int × Int × Nat} (hi : i ≤ s.length) (h : timesB s ⟨i, g, false⟩ = some x) : timesB (wOf s) ⟨2 + i, g', false⟩ = some (x.1, x.2.1, 2 + x.2.2) := by
  unfold timesB at h ⊢
  split at h
  · rename_i h1
    rw [if_pos ((w_42 hi).2 h1)]
    cases h
    simp only [Nat.add_assoc]
  · rename_i h1
    rw [if_neg fun q => h1 ((w_42 hi).1 q)]
    exact w_braces h
theorem w_bracket {i : Nat} {x : List Int × Nat} (hi : i < s.length) (h : bracketS (s.drop (i + 1)) = some x) : bracketS ((wOf s).drop (2 + i + 1)) = some x := by
  rw [Nat.add_assoc, w_drop, List.drop_append_of_le_length (by omega)]
  exact bracket_app _ h

/-- What is read within the signs, for what is read alone. -/
def Im (g : Nat) (x x' : Nd × Rd) : Prop := x' = (hi x.1, ⟨2 + x.2.at', g + grN x.1 + 1, false⟩) ∧ x.2.g = g + grN x.1
def RH (s : List UInt8) (k : Nat) (rec rec' : Rd → Nd × Rd) : Prop := ∀ i g, i ≤ s.length → g ≤ 9 → 10 ≤ k + g → (rec ⟨i, g, false⟩).2.bad = false → g + grN (rec ⟨i, g, false⟩).1 ≤ 8 → Im g (rec ⟨i, g, false⟩) (rec' ⟨2 + i, g + 1, false⟩)
theorem im_leaf {g j : Nat} {x : Nd} (h : hi x = x) (h2 : grN x = 0) : Im g (x, ⟨j, g, false⟩) (x, ⟨2 + j, g + 1, false⟩) := by
  unfold Im
  simp only [h, h2, Nat.add_zero, and_self]
theorem im_esc {i g : Nat} (h : (escB s ⟨i, g, false⟩).2.bad = false) : Im g (escB s ⟨i, g, false⟩) (escB (wOf s) ⟨2 + i, g + 1, false⟩) := by
  unfold escB at h ⊢
  simp only [Nat.add_assoc] at h ⊢
  cases hc : s[i + 1]? with
  | none => rw [hc] at h; cases h
  | some c =>
    rw [hc] at h
    rw [w_at hc]
    simp only at h ⊢
    split at h
    · rename_i h1
      rw [if_pos h1, if_pos h1]
      exact im_leaf (by simp [hi, his]) (by simp [grN, grsN])
    · rename_i h1
      rw [if_neg h1, if_neg h1]
      split at h
      · rename_i h2
        rw [if_pos h2, if_pos h2]
        exact im_leaf (by simp [lit, hi, his]) (by simp [lit, grN, grsN])
      · rename_i h2
        rw [if_neg h2, if_neg h2]
        split at h
        · rename_i h3
          rw [if_pos h3, if_pos h3]
          exact im_leaf (by simp [lit, hi, his]) (by simp [lit, grN, grsN])
        · cases h
theorem im_sign (first : Bool) (i : Nat) (c : UInt8) : hi (signB s first i c) = signB s first i c ∧ grN (signB s first i c) = 0 := by
  unfold signB
  split
  · simp [nd, hi, his, grN, grsN]
  · split
    · simp [nd, hi, his, grN, grsN]
    · split
      · simp [nd, hi, his, grN, grsN]
      · simp [lit, hi, his, grN, grsN]
variable {rec rec' : Rd → Nd × Rd} {k : Nat} (R : RH s k rec rec') (H : HB s k rec)
include R H
theorem im_group {i g : Nat} (hil : i + 2 ≤ s.length) (hg : g ≤ 9) (hk : 10 ≤ k + 1 + g) (h : (groupB s rec ⟨i, g, false⟩).2.bad = false) (h8 : g + grN (groupB s rec ⟨i, g, false⟩).1 ≤ 8) : Im g (groupB s rec ⟨i, g, false⟩) (groupB (wOf s) rec' ⟨2 + i, g + 1, false⟩) := by
  unfold groupB at h h8 ⊢
  simp only at h h8 ⊢
  split at h
  · cases h
  · rename_i h9
    rw [if_neg h9] at h8 ⊢
    have G := H ⟨i + 2, g + 1, false⟩ rfl (by simp only; omega) (by simp only; omega) (by simp only; omega)
    have hR := R (i + 2) (g + 1) hil (by omega) (by omega)
    generalize rec ⟨i + 2, g + 1, false⟩ = x at h h8 hR G
    split at h
    · rename_i h41
      rw [if_pos h41] at h8 ⊢
      have hxb := (hasE_lt h41).1
      simp only [grN, grsN, if_true] at h8
      obtain ⟨q1, q2⟩ := hR hxb (by omega)
      rw [if_neg (by omega)]
      have e1 : 2 + i + 2 = 2 + (i + 2) := by omega
      rw [e1, q1]
      have hle := (hasE_lt h41).2
      obtain ⟨h5, h6⟩ := hasE_iff.1 h41
      have hn : x.2.nx s = s[x.2.at']? := by simp [Rd.nx, hxb]
      rw [hn] at h5
      have hw : hasE (wOf s) ⟨2 + x.2.at', g + 1 + grN x.1 + 1, false⟩ 41 = true := by
        rw [hasE_iff, nx_at']
        exact ⟨w_at h5, by simp only [Nat.add_assoc]; exact w_at h6⟩
      simp only
      rw [if_pos hw]
      unfold Im
      simp only [hi, his, grN, grsN, if_true, Rd.go]
      refine ⟨?_, by rw [q2]; omega⟩
      have e2 : IntKind.i64.wrap (((g + 1 : Nat) : Int) + 1) = ((g + 1 + 1 : Nat) : Int) := by rw [wr64 _ (by omega) (by omega)]; omega
      rw [e2]
      have e3 : 2 + x.2.at' + 2 = 2 + (x.2.at' + 2) := by omega
      have e4 : g + 1 + grN x.1 + 1 = g + (1 + (grN x.1 + 0)) + 1 := by omega
      rw [e3, e4]
    · cases h
theorem im_atom {first : Bool} {i g : Nat} (hil : i ≤ s.length) (hg : g ≤ 9) (hk : 10 ≤ k + 1 + g) (h : (atomB s rec first ⟨i, g, false⟩).2.bad = false) (h8 : g + grN (atomB s rec first ⟨i, g, false⟩).1 ≤ 8) : Im g (atomB s rec first ⟨i, g, false⟩) (atomB (wOf s) rec' first ⟨2 + i, g + 1, false⟩) := by
  unfold atomB at h h8 ⊢
  simp only at h h8 ⊢
  cases hc : s[i]? with
  | none => rw [hc] at h; cases h
  | some c =>
    have hlt := at_lt hc
    rw [hc] at h h8
    rw [w_at hc]
    simp only at h h8 ⊢
    rw [w_has (g := g) hil (by decide) (by decide)]
    split at h
    · rename_i h1
      rw [if_pos h1] at h8 ⊢
      rw [if_pos h1]
      exact im_group R H (hasE_lt h1).2 hg hk h h8
    · rename_i h1
      rw [if_neg h1] at h8 ⊢
      rw [if_neg h1]
      split at h
      · cases h
      · rename_i h2
        rw [if_neg h2, if_neg h2]
        split at h
        · rename_i h3
          rw [if_pos h3, if_pos h3]
          exact im_esc h
        · rename_i h3
          rw [if_neg h3, if_neg h3]
          split at h
          · rename_i h4
            rw [if_pos h4, if_pos h4]
            cases hb : bracketS (s.drop (i + 1)) with
            | none => rw [hb] at h; cases h
            | some x =>
              rw [w_bracket hlt hb]
              simp only [Rd.go, Nat.add_assoc]
              exact im_leaf (by simp [inN, hi, his]) (by simp [inN, grN, grsN])
          · rename_i h4
            rw [if_neg h4, if_neg h4]
            have e : signB (wOf s) first (2 + i) c = signB s first i c := by
              unfold signB
              rw [w_ends hlt]
            rw [e]
            simp only [Rd.go, Nat.add_assoc]
            exact im_leaf (im_sign first i c).1 (im_sign first i c).2
end

/-! ### Pieces, sequences, all of it -/
section
variable {s : List UInt8}
theorem repB_bad {t : List UInt8} {v : Nd} {r : Rd} (h : r.bad = true) : repB t v r = (v, r) := by
  unfold repB
  rw [if_pos]
  simp [isRepB, hasE, Rd.nx, h]
theorem rep_at {t : List UInt8} {v : Nd} {r : Rd} {y : Int × Int × Nat} (h1 : ¬ isRepB t r = false) (h2 : ¬ (v.kind = 4 ∨ v.kind = 5)) (ht : timesB t r = some y) (h3 : isRepB t (r.go y.2.2) = false) : repB t v r = (.mk 10 0 0 0 0 0 0 y.1 y.2.1 [v], r.go y.2.2) := by
  unfold repB
  rw [if_neg h1, if_neg h2, ht]
  simp only [h3, Bool.false_eq_true, if_false]
/-- What is said of a piece's reading, from its atom on. -/
theorem im_rep {g : Nat} {x x' : Nd × Rd} (hx : Im g x x') (hil : x.2.at' ≤ s.length) (hb : (repB s x.1 x.2).2.bad = false) : Im g (repB s x.1 x.2) (repB (wOf s) x'.1 x'.2) ∧ grN (repB s x.1 x.2).1 = grN x.1 := by
  obtain ⟨v, r⟩ := x
  obtain ⟨rfl, q⟩ := hx
  simp only at hil hb q ⊢
  have hrb : r.bad = false := by
    cases h : r.bad with
    | false => rfl
    | true => rw [repB_bad h] at hb; simp only at hb; rw [h] at hb; cases hb
  obtain ⟨i, g', b⟩ := r
  simp only at hil q hrb
  subst hrb
  subst q
  show Im g (repB s v ⟨i, g + grN v, false⟩) (repB (wOf s) (hi v) ⟨2 + i, g + grN v + 1, false⟩) ∧ _
  have hw := w_rep (s := s) (i := i) (g := g + grN v) (g' := g + grN v + 1) hil
  by_cases h1 : isRepB s ⟨i, g + grN v, false⟩ = false
  · have e1 : repB s v ⟨i, g + grN v, false⟩ = (v, ⟨i, g + grN v, false⟩) := if_pos h1
    have e2 : repB (wOf s) (hi v) ⟨2 + i, g + grN v + 1, false⟩ = (hi v, ⟨2 + i, g + grN v + 1, false⟩) := if_pos (hw.trans h1)
    rw [e1, e2]
    exact ⟨⟨rfl, rfl⟩, rfl⟩
  · have h2 : ¬ (v.kind = 4 ∨ v.kind = 5) := by
      intro q
      unfold repB at hb
      rw [if_neg h1, if_pos q] at hb
      cases hb
    cases ht : timesB s ⟨i, g + grN v, false⟩ with
    | none =>
      unfold repB at hb
      rw [if_neg h1, if_neg h2, ht] at hb
      cases hb
    | some y =>
      have hlt := (repB_some (s := s) (r := ⟨i, g + grN v, false⟩) (by simpa using h1)).2
      have hy := timB_go s _ hlt y ht
      have h3 : isRepB s ((Rd.mk i (g + grN v) false).go y.2.2) = false := by
        cases h : isRepB s ((Rd.mk i (g + grN v) false).go y.2.2) with
        | false => rfl
        | true =>
          unfold repB at hb
          rw [if_neg h1, if_neg h2, ht] at hb
          simp only [h, if_true] at hb
          cases hb
      have h3' : isRepB (wOf s) ((Rd.mk (2 + i) (g + grN v + 1) false).go (2 + y.2.2)) = false := by
        have := w_rep (s := s) (i := y.2.2) (g := g + grN v) (g' := g + grN v + 1) hy.2
        exact this.trans h3
      have e1 := rep_at h1 h2 ht h3
      have e2 := rep_at (t := wOf s) (v := hi v) (r := ⟨2 + i, g + grN v + 1, false⟩) (by rw [hw]; exact h1) (by rw [hi_kind]; exact h2) (w_times hil ht) h3'
      rw [e1, e2]
      refine ⟨⟨?_, ?_⟩, ?_⟩
      · simp [hi, his, grN, grsN, Rd.go]
      · simp [grN, grsN, Rd.go]
      · simp [grN, grsN]
theorem grN_repB {v : Nd} {r : Rd} (h : (repB s v r).2.bad = false) : grN (repB s v r).1 = grN v := by
  unfold repB at h ⊢
  split
  · rfl
  · rename_i h1
    rw [if_neg h1] at h
    split
    · rename_i h2
      rw [if_pos h2] at h; cases h
    · rename_i h2
      rw [if_neg h2] at h
      revert h
      cases timesB s r with
      | none => intro h; cases h
      | some x =>
        simp only
        split
        · intro h; cases h
        · intro _; simp [grN, grsN]
variable {rec rec' : Rd → Nd × Rd} {k : Nat} (R : RH s k rec rec') (H : HB s k rec)
include R H
theorem im_piece {first : Bool} {i g : Nat} (hil : i < s.length) (hg : g ≤ 9) (hk : 10 ≤ k + 1 + g) (h : (pieceB s rec first ⟨i, g, false⟩).2.bad = false) (h8 : g + grN (pieceB s rec first ⟨i, g, false⟩).1 ≤ 8) : Im g (pieceB s rec first ⟨i, g, false⟩) (pieceB (wOf s) rec' first ⟨2 + i, g + 1, false⟩) := by
  have G := gd_atomB H (first := first) (r := ⟨i, g, false⟩) hil rfl hg hk
  have hA := im_atom R H (first := first) (i := i) (g := g) (by omega) hg hk
  unfold pieceB at h h8 ⊢
  simp only at h h8 ⊢
  generalize atomB s rec first ⟨i, g, false⟩ = x at h h8 G hA
  generalize atomB (wOf s) rec' first ⟨2 + i, g + 1, false⟩ = x' at hA
  have hxb : x.2.bad = false := by
    cases hx : x.2.bad with
    | false => rfl
    | true =>
      split at h
      · rw [hx] at h; cases h
      · rw [repB_bad hx] at h; simp only at h; rw [hx] at h; cases h
  have hin := G.in'
  have h42 : (x.1.kind = 4 ∧ x.2.nx s = some 42) ↔ (hi x.1).kind = 4 ∧ (Rd.mk (2 + x.2.at') (g + grN x.1 + 1) false).nx (wOf s) = some 42 := by
    rw [hi_kind, w_42 (g := x.2.g) hin]
    have : x.2 = ⟨x.2.at', x.2.g, false⟩ := by rw [← hxb]
    rw [← this]
  by_cases hc : x.1.kind = 4 ∧ x.2.nx s = some 42
  · rw [if_pos hc] at h h8
    have I := hA h h8
    obtain ⟨v, r⟩ := x
    obtain ⟨rfl, q⟩ := I
    rw [if_pos hc, if_pos (h42.1 hc)]
    exact ⟨rfl, q⟩
  · rw [if_neg hc] at h h8
    have hgr : grN (repB s x.1 x.2).1 = grN x.1 := grN_repB h
    have I := hA hxb (by rw [hgr] at h8; exact h8)
    have hI := I
    obtain ⟨rfl, q⟩ := I
    rw [if_neg hc, if_neg fun q => hc (h42.2 q)]
    exact (im_rep hI hin h).1
end

theorem seq_bad {s : List UInt8} {rec : Rd → Nd × Rd} {e : Nd} : ∀ (n : Nat) (first : Bool) (l : List Nd) (r : Rd), r.bad = true → (seqB s rec e n first l r).2.bad = true
  | 0, _, _, _, h => h
  | n + 1, first, l, r, h => by
    rw [seqB, if_pos (by simp [overB, Rd.nx, h])]
    exact h
theorem rd_eta {r : Rd} (h : r.bad = false) : r = ⟨r.at', r.g, false⟩ := by
  cases r; simp only at h; rw [h]
theorem over_lt {s : List UInt8} {r : Rd} (h : ¬ overB s r = true) : r.bad = false ∧ r.at' < s.length := by
  cases hc : r.nx s with
  | none => simp [overB, hc] at h
  | some c => exact ⟨(nx_some hc).1, (nx_some hc).2.2⟩
section
variable {s : List UInt8} {rec rec' : Rd → Nd × Rd} {k : Nat} (H : HB s k rec)
include H
theorem seq_list {e : Nd} : ∀ (n : Nat) (first : Bool) (l : List Nd) (r : Rd), s.length + 1 ≤ n + r.at' → r.at' ≤ s.length → r.g ≤ 9 → 10 ≤ k + 1 + r.g → (seqB s rec e n first l r).2.bad = false → ∃ l', (seqB s rec e n first l r).1 = joinN (l ++ l')
  | 0, _, _, _, h, h2, _, _, _ => by omega
  | n + 1, first, l, r, h, h2, h9, hk, hb => by
    rw [seqB] at hb ⊢
    split at hb
    · rename_i h1
      rw [if_pos h1]
      exact ⟨[], by simp⟩
    · rename_i h1
      rw [if_neg h1]
      split at hb
      · cases hb
      · rename_i h3
        rw [if_neg h3]
        simp only at hb ⊢
        obtain ⟨hrb, hlt⟩ := over_lt h1
        have hxb : (pieceB s rec first r).2.bad = false := by
          cases hx : (pieceB s rec first r).2.bad with
          | false => rfl
          | true => rw [seq_bad _ _ _ _ hx] at hb; cases hb
        have G := gd_pieceB H (first := first) hlt hrb h9 hk
        have q1 := (G.good hxb).1
        have q2 := G.gm
        obtain ⟨l', e'⟩ := seq_list n false (l ++ [(pieceB s rec first r).1]) (pieceB s rec first r).2 (by omega) G.in' G.g9 (by omega) hb
        exact ⟨(pieceB s rec first r).1 :: l', by rw [e']; simp⟩
theorem im_seq (R : RH s k rec rec') {e e' : Nd} : ∀ (n n' : Nat) (first : Bool) (l : List Nd) (i g : Nat), s.length + 1 ≤ n + i → s.length + 1 ≤ n' + i → i ≤ s.length → g ≤ 9 → 10 ≤ k + 1 + g →
    (seqB s rec e n first l ⟨i, g, false⟩).2.bad = false → g + grN (seqB s rec e n first l ⟨i, g, false⟩).1 ≤ 8 + grsN l →
    ∃ j m, seqB s rec e n first l ⟨i, g, false⟩ = ((seqB s rec e n first l ⟨i, g, false⟩).1, ⟨j, m, false⟩) ∧ m + grsN l = g + grN (seqB s rec e n first l ⟨i, g, false⟩).1 ∧
      seqB (wOf s) rec' e' n' first (l.map hi) ⟨2 + i, g + 1, false⟩ = (hi (seqB s rec e n first l ⟨i, g, false⟩).1, ⟨2 + j, m + 1, false⟩)
  | 0, _, _, _, _, _, h, _, h2, _, _, _, _ => by omega
  | n + 1, 0, _, _, _, _, _, h, h2, _, _, _, _ => by omega
  | n + 1, n' + 1, first, l, i, g, h, h', h2, h9, hk, hb, h8 => by
    rw [seqB] at hb h8 ⊢
    rw [seqB, w_over (g := g) h2, w_has (g := g) h2 (by decide) (by decide)]
    split at hb
    · rename_i h1
      rw [if_pos h1] at h8
      rw [if_pos h1, if_pos h1]
      exact ⟨i, g, rfl, by simp only [grN_join], by rw [hi_join]⟩
    · rename_i h1
      rw [if_neg h1] at h8
      rw [if_neg h1, if_neg h1]
      split at hb
      · cases hb
      · rename_i h3
        rw [if_neg h3] at h8
        rw [if_neg h3, if_neg h3]
        simp only at hb h8 ⊢
        obtain ⟨_, hlt⟩ := over_lt h1
        simp only at hlt
        have hxb : (pieceB s rec first ⟨i, g, false⟩).2.bad = false := by
          cases hx : (pieceB s rec first ⟨i, g, false⟩).2.bad with
          | false => rfl
          | true => rw [seq_bad _ _ _ _ hx] at hb; cases hb
        have G := gd_pieceB H (first := first) (r := ⟨i, g, false⟩) hlt rfl h9 hk
        have q1 := (G.good hxb).1
        have q2 := G.gm
        have q3 := G.in'
        have q4 := G.g9
        simp only at q1 q2
        obtain ⟨l', el⟩ := seq_list H n false (l ++ [(pieceB s rec first ⟨i, g, false⟩).1]) (pieceB s rec first ⟨i, g, false⟩).2 (by omega) q3 q4 (by omega) hb
        have h8' := h8
        rw [el, grN_join, grsN_app, grsN_app] at h8'
        simp only [grsN] at h8'
        obtain ⟨I1, I2⟩ := im_piece R H (first := first) hlt h9 hk hxb (by omega)
        rw [I1]
        have ex : (pieceB s rec first ⟨i, g, false⟩).2 = ⟨(pieceB s rec first ⟨i, g, false⟩).2.at', g + grN (pieceB s rec first ⟨i, g, false⟩).1, false⟩ := by
          rw [← I2]; exact rd_eta hxb
        generalize pieceB s rec first ⟨i, g, false⟩ = x at hb h8 q1 q2 q3 q4 ex I2
        rw [ex] at hb h8 ⊢
        have IH := im_seq R (e := e) (e' := e') n n' false (l ++ [x.1]) x.2.at' (g + grN x.1) (by omega) (by omega) q3 (by omega) (by omega) hb (by rw [grsN_app]; simp only [grsN]; omega)
        obtain ⟨j, m, r1, r2, r3⟩ := IH
        rw [grsN_app] at r2
        simp only [grsN] at r2
        refine ⟨j, m, r1, by omega, ?_⟩
        rw [List.map_append] at r3
        exact r3
end
theorem im_par (s : List UInt8) {e : Nd} (he : sz e ≤ 1) : ∀ k, RH s (k + 1) (parB s e (k + 1)) (parB (wOf s) e k)
  | 0 => fun i g hi h9 hk hb h8 => by omega
  | m + 1 => fun i g hi h9 hk hb h8 => by
    have R := im_par s he m
    have H := hb_par s he (m + 1)
    obtain ⟨j, q, r1, r2, r3⟩ := im_seq H R (e := e) (e' := e) (s.length + 1) ((wOf s).length + 1) true [] i g (by omega) (by rw [w_len]; omega) hi h9 (by omega) hb (by simp only [grsN]; exact h8)
    simp only [grsN, Nat.add_zero] at r2
    show Im g (seqB s (parB s e (m + 1)) e (s.length + 1) true [] ⟨i, g, false⟩) (seqB (wOf s) (parB (wOf s) e m) e ((wOf s).length + 1) true [] ⟨2 + i, g + 1, false⟩)
    have r3' : seqB (wOf s) (parB (wOf s) e m) e ((wOf s).length + 1) true [] ⟨2 + i, g + 1, false⟩ = _ := r3
    rw [r3']
    generalize seqB s (parB s e (m + 1)) e (s.length + 1) true [] ⟨i, g, false⟩ = x at r1 r2
    obtain ⟨v, r⟩ := x
    simp only [Prod.mk.injEq, true_and] at r1
    subst r1
    simp only at r2
    subst r2
    exact ⟨rfl, rfl⟩
/-- All of a text, in a group of its own. -/
theorem par_group {s : List UInt8} {e : Nd} (he : sz e ≤ 1) (hb : (parB s e 10 ⟨0, 0, false⟩).2.bad = false) (hend : (parB s e 10 ⟨0, 0, false⟩).2.at' = s.length) (h8 : grN (parB s e 10 ⟨0, 0, false⟩).1 ≤ 8) :
    ∃ m, parB (wOf s) e 10 ⟨0, 0, false⟩ = (.mk 6 0 0 0 0 0 1 0 0 [hi (parB s e 10 ⟨0, 0, false⟩).1], ⟨(wOf s).length, m, false⟩) := by
  obtain ⟨I1, I2⟩ := im_par s he 9 0 0 (by omega) (by omega) (by omega) hb (show 0 + grN (parB s e 10 ⟨0, 0, false⟩).1 ≤ 8 by omega)
  simp only [Nat.zero_add, Nat.add_zero] at I1 I2
  generalize parB s e 10 ⟨0, 0, false⟩ = x at hend h8 I1 I2
  show ∃ m, seqB (wOf s) (parB (wOf s) e 9) e ((wOf s).length + 1) true [] ⟨0, 0, false⟩ = _
  generalize parB (wOf s) e 9 = rec at I1
  have w0 : (wOf s)[0]? = some 92 := rfl
  have w1 : (wOf s)[1]? = some 40 := rfl
  obtain ⟨e1, e2, e3⟩ := w_end (s := s)
  have hgrp : groupB (wOf s) rec ⟨0, 0, false⟩ = (.mk 6 0 0 0 0 0 1 0 0 [hi x.1], ⟨(wOf s).length, grN x.1 + 1, false⟩) := by
    unfold groupB
    rw [if_neg (by simp)]
    simp only [Nat.zero_add]
    rw [I1]
    have hw : hasE (wOf s) ⟨2 + x.2.at', grN x.1 + 1, false⟩ 41 = true := by
      rw [hasE_iff, nx_at', hend]
      exact ⟨e1, by simp only [Nat.add_assoc]; exact e2⟩
    rw [if_pos hw]
    simp only [Rd.go, hend, w_len]
    rw [show 2 + s.length + 2 = s.length + 4 from by omega]
    rfl
  have hnone : (wOf s)[(wOf s).length]? = none := List.getElem?_eq_none (Nat.le_refl _)
  have hpc : pieceB (wOf s) rec true ⟨0, 0, false⟩ = (.mk 6 0 0 0 0 0 1 0 0 [hi x.1], ⟨(wOf s).length, grN x.1 + 1, false⟩) := by
    unfold pieceB
    have ha : atomB (wOf s) rec true ⟨0, 0, false⟩ = groupB (wOf s) rec ⟨0, 0, false⟩ := by
      unfold atomB
      simp only [w0]
      rw [if_pos]
      simp [hasE, nx_at', w0, w1]
    simp only [ha, hgrp]
    rw [if_neg (by simp [Nd.kind])]
    unfold repB
    rw [if_pos]
    simp [isRepB, hasE, nx_at', hnone]
  refine ⟨grN x.1 + 1, ?_⟩
  rw [seqB, if_neg (by simp [overB, hasE, nx_at', w0, w1]), if_neg (by simp [hasE, nx_at', w0, w1])]
  simp only [hpc, List.nil_append]
  rw [w_len, seqB, if_pos (by rw [← w_len]; simp [overB, nx_at', hnone])]
  simp [joinN, flatL, joinF, Nd.kind]
end Go.Proofs.Tryd.E
