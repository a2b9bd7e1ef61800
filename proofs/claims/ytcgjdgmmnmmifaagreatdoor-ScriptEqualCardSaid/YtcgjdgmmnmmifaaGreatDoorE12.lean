/- Walks: what the functions compute. -/
import Derived.Test.YtcgjdgmmnmmifaaGreatDoorE11
set_option linter.unusedVariables false
set_option linter.unusedSimpArgs false
/- Whether a node is formed: the other side's walk. -/
namespace Go.Proofs.Tryz.E
open Go.Mv
set_option maxHeartbeats 4000000
set_option maxRecDepth 20000
def encE (e : List Bool) : List MV := e.map MV.bool
theorem encE_len (e : List Bool) : (encE e).length = e.length := by simp [encE]
theorem encE_take (e : List Bool) (h : e.length = 10) : (encE e).take 10 = encE e := by rw [← h, ← encE_len]; simp
theorem encE_era (e : List Bool) : (encE e).map MV.era = encE e := by simp [encE, MV.era]
theorem encE_data (e : List Bool) : (encE e).all MV.data = true := by simp [encE, MV.data]
theorem encE_frz (σ : Sto) (d : Nat) (e : List Bool) : (encE e).mapM (MV.frz σ d) = some (encE e) := by
  induction e with
  | nil => rfl
  | cons b e ih =>
    rw [show encE (b :: e) = .bool b :: encE e from rfl, mapM_cons', ih]
    rfl
theorem encE_put (cs : List MV) (e : List Bool) (h : cs.length = e.length) : putC cs (encE e) 0 = encE e := putC_whole _ _ (by rw [encE_len, h])
theorem encE_set (e : List Bool) (b : Bool) (i : Nat) (h : i < e.length) : putC (encE e) [.bool b] i = encE (e.set i b) := by
  rw [putC_set _ _ _ (by rw [encE_len]; omega), encE, encE, List.map_set]
theorem encE_at (e : List Bool) (i : Nat) (h : i < e.length) : (encE e)[i]? = some (.bool (e.getD i false)) := by simp [encE, h]
attribute [go_sem] encE_len encE_era encE_data encE_frz
structure P37 (x : Nd) (d c0 : Nat) (σ : Sto) (g : Int) (e : List Bool) (a : Nat → MV) (s : Sto) : Prop where
  a1 : a 1 = .int .i64 g
  a3 : a 3 = .ptr ⟨d, 3, c0⟩ 0
  a5 : a 5 = .ptr ⟨d, 5, c0 + 1⟩ 0
  a7 : a 7 = .ptr ⟨d, 7, c0 + 1 + 1⟩ 0
  o3 : s.ob ⟨d, 3, c0⟩ = some (enc x)
  o5 : s.ob ⟨d, 5, c0 + 1⟩ = some (encE e)
  o7 : ∃ z, s.ob ⟨d, 7, c0 + 1 + 1⟩ = some z ∧ z.length = 10
  cut : s.cut d = σ
  und : s.Und (d + 1)
  ct : c0 + 3 ≤ s.ct d
  le : e.length = 10
/-- An answer: what was found so far, and no. -/
def Ans (σ : Sto) (r : Ck) (v : MV) (s : Sto) : Prop := v = .tup [.int .i64 r.2.1, .agg (encE r.2.2), .bool r.1] ∧ s = σ
theorem chks_len (kd : Int) : ∀ (l : List Nd) (g : Int) (e : List Bool), (∀ y ∈ l, ∀ (g : Int) (e : List Bool), (chk y g e).2.2.length = e.length) → (chks kd l g e).2.2.length = e.length
  | [], g, e, _ => rfl
  | y :: l, g, e, ih => by
    simp only [chks]
    split
    · rfl
    split
    · rw [chks_len kd l _ _ fun z hz => ih z (List.mem_cons_of_mem _ hz)]
      exact ih y (List.mem_cons_self ..) g e
    · exact ih y (List.mem_cons_self ..) g e
theorem chk_len : ∀ (x : Nd) (g : Int) (e : List Bool), (chk x g e).2.2.length = e.length := by
  refine Nd.ind fun kd c s0 s1 s2 s3 n mn mx l ih g e => ?_
  have hc := fun g e => chks_len kd l g e ih
  simp only [chk]
  split
  · split
    · simp only
      split <;> simp [hc]
    · exact hc _ _
  · rfl
end Go.Proofs.Tryz.E
