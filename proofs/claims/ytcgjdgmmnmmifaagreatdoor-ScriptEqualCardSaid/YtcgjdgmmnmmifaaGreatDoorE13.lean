/- Walks: what the functions compute. -/
import Derived.Test.YtcgjdgmmnmmifaaGreatDoorE12
set_option linter.unusedVariables false
set_option linter.unusedSimpArgs false
/- The same node, as the other side has it; alike. -/
namespace Go.Proofs.Tryz.E
open Go.Mv
set_option maxHeartbeats 4000000
set_option maxRecDepth 20000
@[go_sem] theorem bslF_eq (P : Program) (t : TypeId) (n : Nat) (ps : List (Nat × MV)) : bslF P t n ps = (slc P t).bind fun x => if ps.length = n ∧ n * x.2.1 ≤ 65536 ∧ 0 < x.2.1 then (sliceParts x.2.1 0 ps).map fun xs => .sl .no xs else none := by
  unfold bslF
  cases slc P t <;> rfl
@[go_sem] theorem bin_32n (xs ys : List MV) : binO X.P X.eqT .neq 60 (.agg xs) (.agg ys) = (eqC u4 xs ys).map fun r => .bool !r := rfl
theorem own_cells {s : Sto} {d : Nat} {v : MV} {acc : List Nd} (h : Own s d v acc) : v.cells = some [v] := by
  rcases h with ⟨rfl, rfl⟩ | ⟨c, rfl, _, _⟩ <;> rfl
theorem own_frz {s σ : Sto} {d d' : Nat} {v : MV} {acc : List Nd} (h : Own s d v acc) : v.frz σ d' = some (.sl .no (encs acc)) := by
  rcases h with ⟨rfl, rfl⟩ | ⟨c, rfl, _, _⟩ <;> rfl
theorem own_set {s : Sto} {d : Nat} {v : MV} {acc : List Nd} (h : Own s d v acc) (l : Mv.Loc) (cs : List MV) : Own (s.set l cs) d v acc := own_mono h (fun _ _ => rfl) (Nat.le_refl _)
theorem bne_self_i (x : Int) : (x != x) = false := by simp
theorem w10 : ∀ (x : Nd), sz x ≤ 1000000 → ∀ (lim d : Nat) (σ : Sto), lim ≤ d → σ.Und d → Ret lim d 46 [.agg (enc x), .agg (enc x)] σ (.bool true) σ := by
  refine Nd.ind fun kd c s0 s1 s2 s3 n mn mx l ih hsz lim d σ hlim hu => ?_
  have hl := len_le l
  simp only [sz] at hsz
  have hun := und_succ hu
  unfold Ret
  rw [WF_body (C := X) rfl Go.Proofs.Tryz.func46 rfl (by kernel_rfl)]; simp only [Go.Proofs.Tryz.results46]
  simp -implicitDefEqProofs -dsimp only [↓reduceIte, ↓W_seq, go_sem, enc, bne_self_i, encs_len]
  refine loop_h (I := fun k a s => ∃ (i : Nat), i + k = l.length ∧ a 58 = .int .i64 i ∧ a 57 = .int .i64 l.length ∧ a 2 = .ptr ⟨d, 2, σ.ct d⟩ 0 ∧ a 3 = .ptr ⟨d, 3, σ.ct d + 1⟩ 0 ∧ s.ob ⟨d, 2, σ.ct d⟩ = some (enc (.mk kd c s0 s1 s2 s3 n mn mx l)) ∧ s.ob ⟨d, 3, σ.ct d + 1⟩ = some (enc (.mk kd c s0 s1 s2 s3 n mn mx l)) ∧ s.cut d = σ ∧ s.Und (d + 1)) ?_ l.length _ _ ?_
  · rintro k a s ⟨i, hk, h1, h2, h3, h4, o3, o4, hs, hs2⟩
    by_cases hi : i < l.length
    · have e1 : ((i : Int) < (l.length : Int)) := by omega
      have e2 : l[i]? = some l[i] := List.getElem?_eq_getElem hi
      have hm := List.getElem_mem hi
      have hy := sz_le l _ hm
      simp -implicitDefEqProofs -dsimp only [↓reduceIte, ↓W_seq, go_sem, enc, e1, h1, h2]
      rw [D_dr (by kernel_rfl) rfl]
      simp -implicitDefEqProofs -dsimp only [↓reduceIte, ↓W_seq, go_sem, enc, e1, e2, h1, h2, h3, h4, o3, o4, encs_at]
      refine (ih l[i] hm (by omega) (d + 1) (d + 1) _ (Nat.le_refl _) hs2).wh ?_
      simp -implicitDefEqProofs -dsimp only [↓reduceIte, ↓W_seq, go_sem, enc, e1, e2, h1, h2, h3, h4, o3, o4, encs_at]
      exact ⟨k - 1, by omega, i + 1, by omega, by rw [wr64 _ (by omega) (by omega)]; rfl, hs, hs2⟩
    · have e1 : ¬ ((i : Int) < (l.length : Int)) := by omega
      simp -implicitDefEqProofs -dsimp only [↓reduceIte, ↓W_seq, go_sem, enc, e1, h1, h2, hs]
  · refine ⟨0, Nat.zero_add _, ?_⟩
    simp -implicitDefEqProofs -dsimp only [↓reduceIte, ↓W_seq, go_sem, enc, cut_und _ _ hu, u_tick, u_mine, hun]
end Go.Proofs.Tryz.E
