/- Walks: what the functions compute. -/
import Derived.Test.YtgdecplonaaahaaDoorB0
import Derived.Test.YtgdecplonaaahaaDoorG0
set_option linter.unusedVariables false
set_option linter.unusedSimpArgs false
/- Basic patterns: what is read goes on. -/
namespace Go.Proofs.Tryd.E
open Go.Mv
set_option maxHeartbeats 4000000
set_option maxRecDepth 20000
theorem hasE_iff {s : List UInt8} {r : Rd} {c : UInt8} : hasE s r c = true ↔ r.nx s = some 92 ∧ s[r.at' + 1]? = some c := by
  simp [hasE]
theorem hasE_lt {s : List UInt8} {r : Rd} {c : UInt8} (h : hasE s r c = true) : r.bad = false ∧ r.at' + 2 ≤ s.length := by
  obtain ⟨h1, h2⟩ := hasE_iff.1 h
  obtain ⟨b1, b2, b3⟩ := nx_some h1
  have := (List.getElem?_eq_some_iff.1 h2).1
  exact ⟨b1, by omega⟩
theorem hasE_bad {s : List UInt8} {r : Rd} {c : UInt8} (h : r.bad = true) : hasE s r c = false := by simp [hasE, Rd.nx, h]
/-- What is read goes on, and is not too great. -/
structure Gs (s : List UInt8) (r : Rd) (x : Nd × Rd) : Prop where
  le : r.at' ≤ x.2.at'
  in' : x.2.at' ≤ s.length
  gm : r.g ≤ x.2.g
  g9 : x.2.g ≤ 9
  sz' : sz x.1 ≤ 8 * (x.2.at' - r.at') + 3
def HB (s : List UInt8) (k : Nat) (rec : Rd → Nd × Rd) : Prop := ∀ r : Rd, r.bad = false → r.at' ≤ s.length → r.g ≤ 9 → 10 ≤ k + r.g → Gs s r (rec r)
theorem gd_groupB {s : List UInt8} {k : Nat} {rec : Rd → Nd × Rd} (H : HB s k rec) {r : Rd} (hr : r.at' + 2 ≤ s.length) (hb : r.bad = false) (h9 : r.g ≤ 9) (hk : 10 ≤ k + 1 + r.g) : Gd s 2 1 r (groupB s rec r) := by
  unfold groupB
  by_cases hg : r.g = 9
  · rw [if_pos hg]; exact gd_fail (by omega) h9
  · rw [if_neg hg]
    have G := H ⟨r.at' + 2, r.g + 1, r.bad⟩ hb (by simp only; omega) (by simp only; omega) (by simp only; omega)
    generalize rec ⟨r.at' + 2, r.g + 1, r.bad⟩ = x at G
    have g1 := G.le
    have g2 := G.in'
    have g3 := G.gm
    have g4 := G.g9
    have g5 := G.sz'
    simp only at g1 g3 g5 ⊢
    split
    · rename_i hh
      obtain ⟨b1, b3⟩ := hasE_lt hh
      exact ⟨by simp only [Rd.go]; omega, by simp only [Rd.go]; omega, by simp only [Rd.go]; omega, g4, fun _ => ⟨by simp only [Rd.go]; omega, by simp only [Rd.go, sz_one]; omega⟩, fun q => by simp only [Rd.go] at q; rw [b1] at q; cases q⟩
    · exact ⟨by simp only [Rd.fail]; omega, g2, by simp only [Rd.fail]; omega, g4, fun q => by simp [Rd.fail] at q, fun _ => by simp only [sz_z0]; omega⟩
theorem gd_escB {s : List UInt8} {r : Rd} (hr : r.at' < s.length) (hb : r.bad = false) (h9 : r.g ≤ 9) : Gd s 2 1 r (escB s r) := by
  unfold escB
  by_cases hl : r.at' + 1 < s.length
  · rw [List.getElem?_eq_getElem hl]
    simp only
    have go : ∀ x : Nd, sz x = 1 → Gd s 2 1 r (x, r.go (r.at' + 2)) := fun x hx => ⟨by simp only [Rd.go]; omega, by simp only [Rd.go]; omega, Nat.le_refl _, h9, fun _ => ⟨by simp only [Rd.go]; omega, by simp only [Rd.go, hx]; omega⟩, fun q => by simp only [Rd.go] at q; rw [hb] at q; cases q⟩
    split
    · exact go _ rfl
    · split
      · exact go _ rfl
      · split
        · exact go _ rfl
        · exact gd_fail (by omega) h9
  · rw [List.getElem?_eq_none (by omega)]
    exact gd_fail (by omega) h9
theorem gd_atomB {s : List UInt8} {k : Nat} {rec : Rd → Nd × Rd} (H : HB s k rec) {first : Bool} {r : Rd} (hr : r.at' < s.length) (hb : r.bad = false) (h9 : r.g ≤ 9) (hk : 10 ≤ k + 1 + r.g) : Gd s 2 1 r (atomB s rec first r) := by
  unfold atomB
  rw [List.getElem?_eq_getElem hr]
  simp only
  have go : ∀ (x : Nd) (n : Nat), sz x = 1 → r.at' < n → n ≤ s.length → Gd s 2 1 r (x, r.go n) := fun x n hx h1 h2 => ⟨by simp only [Rd.go]; omega, by simp only [Rd.go]; omega, Nat.le_refl _, h9, fun _ => ⟨by simp only [Rd.go]; omega, by simp only [Rd.go, hx]; omega⟩, fun q => by simp only [Rd.go] at q; rw [hb] at q; cases q⟩
  split
  · rename_i hh; exact gd_groupB H (hasE_lt hh).2 hb h9 hk
  · split
    · exact gd_fail (by omega) h9
    · split
      · exact gd_escB hr hb h9
      · split
        · cases hbr : bracketS (s.drop (r.at' + 1)) with
          | none => exact gd_fail (by omega) h9
          | some x =>
            have := bracket_le _ _ hbr
            rw [List.length_drop] at this
            exact go _ _ rfl (by omega) (by omega)
        · refine go _ _ ?_ (by omega) (by omega)
          unfold signB
          split
          · rfl
          · split
            · rfl
            · split <;> rfl
theorem closeB_lt {s : List UInt8} {q : Nat} (h : closeB s q = true) : q + 2 ≤ s.length := by
  simp only [closeB, Bool.and_eq_true, beq_iff_eq] at h
  have := (List.getElem?_eq_some_iff.1 h.2).1
  omega
theorem braB_go (s : List UInt8) (n : Nat) (y : Int × Int × Nat) (h : bracesB s n = some y) : n < y.2.2 ∧ y.2.2 ≤ s.length := by
  unfold bracesB at h
  simp only at h
  split at h
  · cases h
  · split at h
    · split at h
      · rename_i hc
        cases h
        have := closeB_lt hc.1
        exact ⟨by simp only; omega, by simp only; omega⟩
      · cases h
    · split at h
      · rename_i hc
        cases h
        have := closeB_lt hc
        exact ⟨by simp only; omega, by simp only; omega⟩
      · cases h
theorem timB_go (s : List UInt8) (r : Rd) (h : r.at' < s.length) (y : Int × Int × Nat) (hy : timesB s r = some y) : r.at' < y.2.2 ∧ y.2.2 ≤ s.length := by
  unfold timesB at hy
  split at hy
  · cases hy; exact ⟨by simp only; omega, by simp only; omega⟩
  · exact braB_go s _ y hy
theorem repB_some {s : List UInt8} {r : Rd} (h : isRepB s r = true) : r.bad = false ∧ r.at' < s.length := by
  simp only [isRepB, Bool.or_eq_true, beq_iff_eq] at h
  rcases h with h | h
  · exact ⟨(nx_some h).1, (nx_some h).2.2⟩
  · have := hasE_lt h; exact ⟨this.1, by omega⟩
theorem gd_repB {s : List UInt8} {r : Rd} {x : Nd × Rd} (G : Gd s 2 1 r x) : Gd s 2 1 r (repB s x.1 x.2) := by
  have g1 := G.le
  have g2 := G.in'
  have g3 := G.gm
  have g4 := G.g9
  have bad1 : ∀ n, r.at' ≤ n → n ≤ s.length → Gd s 2 1 r (z0, (x.2.go n).fail) := fun n h1 h2 => ⟨by simp only [Rd.fail, Rd.go]; omega, by simp only [Rd.fail, Rd.go]; omega, by simp only [Rd.fail, Rd.go]; omega, g4, fun q => by simp [Rd.fail] at q, fun _ => by simp only [sz_z0]; omega⟩
  have bad2 : Gd s 2 1 r (z0, x.2.fail) := by
    have := bad1 x.2.at' g1 g2
    exact this
  unfold repB
  split
  · exact G
  · rename_i hrep
    obtain ⟨b1, b3⟩ := repB_some (s := s) (r := x.2) (by simpa using hrep)
    obtain ⟨g5, g6⟩ := G.good b1
    split
    · exact bad2
    · cases hbd : timesB s x.2 with
      | none => exact bad2
      | some y =>
        have hy := timB_go s _ b3 y hbd
        simp only
        split
        · exact bad1 _ (by omega) hy.2
        · exact ⟨by simp only [Rd.go]; omega, by simp only [Rd.go]; omega, by simp only [Rd.go]; omega, g4, fun _ => ⟨by simp only [Rd.go]; omega, by simp only [Rd.go, sz_one]; omega⟩, fun q => by simp only [Rd.go] at q; rw [b1] at q; cases q⟩
theorem gd_pieceB {s : List UInt8} {k : Nat} {rec : Rd → Nd × Rd} (H : HB s k rec) {first : Bool} {r : Rd} (hr : r.at' < s.length) (hb : r.bad = false) (h9 : r.g ≤ 9) (hk : 10 ≤ k + 1 + r.g) : Gd s 2 1 r (pieceB s rec first r) := by
  have G := gd_atomB H (first := first) hr hb h9 hk
  unfold pieceB
  simp only
  split
  · exact G
  · exact gd_repB G
/-- Where a sequence is. -/
structure BJ (s : List UInt8) (r : Rd) (n : Nat) (first : Bool) (l : List Nd) (r2 : Rd) : Prop where
  n1 : 1 ≤ n
  le : r.at' ≤ r2.at'
  in' : r2.at' ≤ s.length
  gm : r.g ≤ r2.g
  g9 : r2.g ≤ 9
  fst : first = true → l = []
  good : r2.bad = false → s.length - r2.at' < n ∧ szs l + 2 * l.length ≤ 8 * (r2.at' - r.at')
  bad' : r2.bad = true → szs l ≤ 8 * (r2.at' - r.at') + 1
theorem bj_step {s : List UInt8} {k : Nat} {rec : Rd → Nd × Rd} (H : HB s k rec) {r r2 : Rd} {n : Nat} {first : Bool} {l : List Nd} (hk : 10 ≤ k + 1 + r.g) (b : BJ s r (n + 1) first l r2) (hs : overB s r2 = false) :
    r2.bad = false ∧ r2.at' < s.length ∧ Gd s 2 1 r2 (pieceB s rec first r2) ∧ BJ s r n false (l ++ [(pieceB s rec first r2).1]) (pieceB s rec first r2).2 := by
  obtain ⟨c, hc⟩ : ∃ c, r2.nx s = some c := by
    cases h : r2.nx s with
    | none => simp [overB, h] at hs
    | some c => exact ⟨c, rfl⟩
  obtain ⟨b1, b2, b3⟩ := nx_some hc
  have G := gd_pieceB H (first := first) b3 b1 b.g9 (by have := b.gm; omega)
  refine ⟨b1, b3, G, ?_⟩
  generalize pieceB s rec first r2 = x at G
  have g1 := G.le
  have g2 := G.in'
  have g3 := G.gm
  have g4 := G.g9
  have b4 := b.le
  have b5 := b.gm
  obtain ⟨b6, b7⟩ := b.good b1
  refine ⟨by omega, by omega, g2, by omega, g4, fun q => (nomatch q), fun q => ?_, fun q => ?_⟩
  · obtain ⟨g5, g6⟩ := G.good q
    rw [szs_snoc, List.length_append]
    simp only [List.length_cons, List.length_nil]
    omega
  · have := G.bad' q
    rw [szs_snoc]
    omega
theorem gs_seq {s : List UInt8} {k : Nat} {rec : Rd → Nd × Rd} (H : HB s k rec) {e : Nd} (he : sz e ≤ 1) {r : Rd} (hk : 10 ≤ k + 1 + r.g) : ∀ (n : Nat) (first : Bool) (l : List Nd) (r2 : Rd), BJ s r n first l r2 → Gs s r (seqB s rec e n first l r2)
  | 0, _, l, r2, b => by have := b.n1; omega
  | n + 1, first, l, r2, b => by
    have b4 := b.le
    have b3 := b.in'
    have b5 := b.gm
    have b9 := b.g9
    rw [seqB]
    split
    · have hj := sz_join l
      refine ⟨b4, b3, b5, b9, ?_⟩
      simp only
      cases hb : r2.bad with
      | false => obtain ⟨g5, g6⟩ := b.good hb; omega
      | true => have := b.bad' hb; omega
    · rename_i hst
      split
      · exact ⟨b4, b3, b5, b9, by simp only; omega⟩
      · have := bj_step H hk b (by simpa using hst)
        exact gs_seq H he hk n false _ _ this.2.2.2
theorem bj_0 (s : List UInt8) (r : Rd) (hb : r.bad = false) (hr : r.at' ≤ s.length) (h9 : r.g ≤ 9) : BJ s r (s.length + 1) true [] r :=
  ⟨by omega, Nat.le_refl _, hr, Nat.le_refl _, h9, fun _ => rfl, fun _ => ⟨by omega, by simp [szs]⟩, fun q => by rw [hb] at q; cases q⟩
theorem hb_par (s : List UInt8) {e : Nd} (he : sz e ≤ 1) : ∀ k, HB s k (parB s e k)
  | 0 => fun r hb hr h9 hk => by omega
  | k + 1 => fun r hb hr h9 hk => gs_seq (hb_par s he k) he (by omega) _ _ _ _ (bj_0 s r hb hr h9)
/-- The node of a bad beginning is told by no good pattern. -/
theorem par_e (s : List UInt8) (e e' : Nd) : ∀ k r, (parB s e k r).2 = (parB s e' k r).2 ∧ ((parB s e k r).2.bad = false → (parB s e k r).1 = (parB s e' k r).1)
  | 0, r => ⟨rfl, fun _ => rfl⟩
  | k + 1, r => by
    have ih := par_e s e e' k
    have hrec : ∀ r, groupB s (parB s e k) r = groupB s (parB s e' k) r := fun r => by
      unfold groupB
      obtain ⟨i1, i2⟩ := ih ⟨r.at' + 2, r.g + 1, r.bad⟩
      simp only [← i1]
      split
      · rfl
      · split
        · rename_i hh
          rw [i2 (hasE_lt hh).1]
        · rfl
    have hp : ∀ f r, pieceB s (parB s e k) f r = pieceB s (parB s e' k) f r := fun f r => by
      have ha : atomB s (parB s e k) f r = atomB s (parB s e' k) f r := by unfold atomB; rw [hrec]
      unfold pieceB; rw [ha]
    have hs : ∀ n f l r, (seqB s (parB s e k) e n f l r).2 = (seqB s (parB s e' k) e' n f l r).2 ∧ ((seqB s (parB s e k) e n f l r).2.bad = false → (seqB s (parB s e k) e n f l r).1 = (seqB s (parB s e' k) e' n f l r).1) := fun n => by
      induction n with
      | zero => exact fun _ _ _ => ⟨rfl, fun _ => rfl⟩
      | succ n ihn =>
        intro f l r
        rw [seqB, seqB]
        split
        · exact ⟨rfl, fun _ => rfl⟩
        · split
          · exact ⟨rfl, fun q => by simp [Rd.fail] at q⟩
          · simp only [hp]
            exact ihn ..
    exact hs ..
/-- A basic pattern's node, the place of what is wrong, and the error's number. -/
def parseB (e : Nd) (s : List UInt8) : Nd × Int × Int :=
  let x := parB s e 10 ⟨0, 0, false⟩
  if (x.2.bad || decide (x.2.at' < s.length)) = true then (z0, x.2.at', 10) else if formedB x.1 = true then (x.1, 0, 0) else (z0, s.length, 10)
theorem parseB_eq (e : Nd) (s : List UInt8) : parseB e s = if ((parB s e 10 ⟨0, 0, false⟩).2.bad || decide ((parB s e 10 ⟨0, 0, false⟩).2.at' < s.length)) = true then (z0, ((parB s e 10 ⟨0, 0, false⟩).2.at' : Int), 10) else if formedB (parB s e 10 ⟨0, 0, false⟩).1 = true then ((parB s e 10 ⟨0, 0, false⟩).1, 0, 0) else (z0, (s.length : Int), 10) := rfl
theorem parseB_e (e e' : Nd) (s : List UInt8) : parseB e s = parseB e' s := by
  obtain ⟨h1, h2⟩ := par_e s e e' 10 ⟨0, 0, false⟩
  rw [parseB_eq, parseB_eq, ← h1]
  cases hb : (parB s e 10 ⟨0, 0, false⟩).2.bad
  · rw [h2 hb]
  · simp
def parseBV (x : Nd × Int × Int) : MV := .tup [.agg (enc x.1), .int .i64 x.2.1, .int .i64 x.2.2]
end Go.Proofs.Tryd.E
