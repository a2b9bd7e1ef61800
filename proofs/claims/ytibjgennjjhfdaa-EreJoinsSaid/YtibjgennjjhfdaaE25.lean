/- Walks: what the functions compute. -/
import Derived.Test.YtibjgennjjhfdaaE24
set_option linter.unusedVariables false
set_option linter.unusedSimpArgs false
/- The reader: groups, atoms, repeats. -/
namespace Go.Proofs.Try.E
open Go.Mv
set_option maxHeartbeats 4000000
set_option maxRecDepth 20000
/-- What a reader of patterns does, from a number of groups on. -/
def HR (s : List UInt8) (k : Nat) (rec : Rd → Nd × Rd) : Prop := ∀ r : Rd, r.bad = false → r.at' ≤ s.length → r.g ≤ 9 → 10 ≤ k + r.g → Gd s 0 3 r (rec r) ∧
  ∀ (lim d : Nat) (p : Mv.Loc) (σ : Sto), p.d < d → lim ≤ p.d → σ.Und d → σ.ob p = some (encP s r) → Ret lim d 19 [.ptr p 0] σ (.agg (enc (rec r).1)) (σ.set p (encP s (rec r).2))
theorem gd_group {s : List UInt8} {k : Nat} {rec : Rd → Nd × Rd} (H : HR s k rec) {r : Rd} (hr : r.at' < s.length) (hb : r.bad = false) (h9 : r.g ≤ 9) (hk : 10 ≤ k + 1 + r.g) : Gd s 2 1 r (groupS s rec r) := by
  unfold groupS
  by_cases hg : r.g = 9
  · rw [if_pos hg]; exact gd_fail (by omega) h9
  · rw [if_neg hg]
    obtain ⟨G, _⟩ := H ⟨r.at' + 1, r.g + 1, r.bad⟩ hb (by simp only; omega) (by simp only; omega) (by simp only; omega)
    generalize rec ⟨r.at' + 1, r.g + 1, r.bad⟩ = x at G
    have g1 := G.le
    have g2 := G.in'
    have g3 := G.gm
    have g4 := G.g9
    simp only at g1 g3 ⊢
    split
    · rename_i hnx
      obtain ⟨b1, b2, b3⟩ := nx_some hnx
      have g5 := (G.good b1).2
      simp only at g5
      exact ⟨by simp only [Rd.go]; omega, by simp only [Rd.go]; omega, by simp only [Rd.go]; omega, g4, fun _ => ⟨by simp only [Rd.go]; omega, by simp only [Rd.go, sz_one]; omega⟩, fun q => by simp only [Rd.go] at q; rw [b1] at q; cases q⟩
    · exact ⟨by simp only [Rd.fail]; omega, g2, by simp only [Rd.fail]; omega, g4, fun q => by simp [Rd.fail] at q, fun _ => by simp only [sz_z0]; omega⟩
theorem gd_esc {s : List UInt8} {r : Rd} (hr : r.at' < s.length) (hb : r.bad = false) (h9 : r.g ≤ 9) : Gd s 2 1 r (escS s r) := by
  unfold escS
  by_cases hl : r.at' + 1 < s.length
  · rw [List.getElem?_eq_getElem hl]
    simp only
    have go : ∀ x : Nd, sz x = 1 → Gd s 2 1 r (x, r.go (r.at' + 2)) := fun x hx => ⟨by simp only [Rd.go]; omega, by simp only [Rd.go]; omega, Nat.le_refl _, h9, fun _ => ⟨by simp only [Rd.go]; omega, by simp only [Rd.go, hx]; omega⟩, fun q => by simp only [Rd.go] at q; rw [hb] at q; cases q⟩
    split
    · exact go _ rfl
    · split
      · exact go _ rfl
      · split
        · exact go _ rfl
        · exact gd_fail (by omega) h9
  · rw [List.getElem?_eq_none (by omega)]
    exact gd_fail (by omega) h9
theorem gd_atom {s : List UInt8} {k : Nat} {rec : Rd → Nd × Rd} (H : HR s k rec) {r : Rd} (hr : r.at' < s.length) (hb : r.bad = false) (h9 : r.g ≤ 9) (hk : 10 ≤ k + 1 + r.g) : Gd s 2 1 r (atomS s rec r) := by
  unfold atomS
  rw [List.getElem?_eq_getElem hr]
  simp only
  have go : ∀ (x : Nd) (n : Nat), sz x = 1 → r.at' < n → n ≤ s.length → Gd s 2 1 r (x, r.go n) := fun x n hx h1 h2 => ⟨by simp only [Rd.go]; omega, by simp only [Rd.go]; omega, Nat.le_refl _, h9, fun _ => ⟨by simp only [Rd.go]; omega, by simp only [Rd.go, hx]; omega⟩, fun q => by simp only [Rd.go] at q; rw [hb] at q; cases q⟩
  split
  · exact gd_group H hr hb h9 hk
  · split
    · exact gd_esc hr hb h9
    · split
      · cases hbr : bracketS (s.drop (r.at' + 1)) with
        | none => exact gd_fail (by omega) h9
        | some x =>
          have := bracket_le _ _ hbr
          rw [List.length_drop] at this
          exact go _ _ rfl (by omega) (by omega)
      · split
        · exact gd_fail (by omega) h9
        · refine go _ _ ?_ (by omega) (by omega)
          unfold simpleS
          split
          · rfl
          · split
            · rfl
            · split <;> rfl
theorem gd_piece {s : List UInt8} {k : Nat} {rec : Rd → Nd × Rd} (H : HR s k rec) {r : Rd} (hr : r.at' < s.length) (hb : r.bad = false) (h9 : r.g ≤ 9) (hk : 10 ≤ k + 1 + r.g) : Gd s 2 1 r (pieceS s rec r) := by
  have G := gd_atom H hr hb h9 hk
  unfold pieceS
  simp only
  generalize atomS s rec r = x at G
  have g1 := G.le
  have g2 := G.in'
  have g3 := G.gm
  have g4 := G.g9
  have bad1 : ∀ n, r.at' ≤ n → n ≤ s.length → Gd s 2 1 r (z0, (x.2.go n).fail) := fun n h1 h2 => ⟨by simp only [Rd.fail, Rd.go]; omega, by simp only [Rd.fail, Rd.go]; omega, by simp only [Rd.fail, Rd.go]; omega, g4, fun q => by simp [Rd.fail] at q, fun _ => by simp only [sz_z0]; omega⟩
  have bad2 : Gd s 2 1 r (z0, x.2.fail) := by
    have := bad1 x.2.at' g1 g2
    exact this
  unfold repS
  split
  · exact G
  · rename_i hrep
    have hnx : ∃ c, x.2.nx s = some c := by
      cases h : x.2.nx s with
      | none => rw [h] at hrep; exact absurd rfl hrep
      | some c => exact ⟨c, rfl⟩
    obtain ⟨c, hc⟩ := hnx
    obtain ⟨b1, b2, b3⟩ := nx_some hc
    obtain ⟨g5, g6⟩ := G.good b1
    split
    · exact bad2
    · cases hbd : boundsS s x.2.at' with
      | none => exact bad2
      | some y =>
        have hy := bnd_go s _ b3 y hbd
        simp only
        split
        · exact bad1 _ (by omega) hy.2
        · exact ⟨by simp only [Rd.go]; omega, by simp only [Rd.go]; omega, by simp only [Rd.go]; omega, g4, fun _ => ⟨by simp only [Rd.go]; omega, by simp only [Rd.go, sz_one]; omega⟩, fun q => by simp only [Rd.go] at q; rw [b1] at q; cases q⟩
end Go.Proofs.Try.E
