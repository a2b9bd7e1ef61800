/- Walks: what the functions compute. -/
import Derived.Test.YtklnfgmfcpcfcaaGreatDoorE7
import Derived.Test.YtklnfgmfcpcfcaaGreatDoorP0
set_option linter.unusedVariables false
set_option linter.unusedSimpArgs false
/- Whether a node is formed: its parts. -/
namespace Go.Proofs.Tryz.E
open Go.Mv
set_option maxHeartbeats 4000000
set_option maxRecDepth 20000
def needH : Nd → List MV
  | .mk kd c s0 s1 s2 s3 n mn mx l => [.int .i64 kd, .int .u8 (if kd = 1 then c else 0), .int .u64 (if kd = 3 then s0 else 0), .int .u64 (if kd = 3 then s1 else 0), .int .u64 (if kd = 3 then s2 else 0), .int .u64 (if kd = 3 then s3 else 0),
    .int .i64 (if kd = 6 ∨ kd = 7 then n else 0), .int .i64 (if kd = 10 then mn else 0), .int .i64 (if kd = 10 then mx else 0)]
def needK (kd : Int) : Int := if kd = 6 ∨ kd = 10 then 1 else if kd = 8 ∨ kd = 9 then -1 else 0
@[go_sem] theorem bin_66n (xs ys : List MV) : binO X.P X.eqT .neq 131 (.agg xs) (.agg ys) = (eqC ([.i .i64, .i .u8] ++ u4 ++ [.i .i64, .i .i64, .i .i64]) xs ys).map fun r => .bool !r := rfl
theorem w27 (kd c s0 s1 s2 s3 n mn mx : Int) (l : List Nd) (lim d : Nat) (σ : Sto) (hu : σ.Und d) : Ret lim d 81 [.agg (enc (.mk kd c s0 s1 s2 s3 n mn mx l))] σ (.agg [.int .i64 kd, .int .u8 c, .int .u64 s0, .int .u64 s1, .int .u64 s2, .int .u64 s3, .int .i64 n, .int .i64 mn, .int .i64 mx]) σ := by
  unfold Ret
  rw [WF_body (C := X) rfl Go.Proofs.Tryz.func81 rfl (by kernel_rfl)]; simp only [Go.Proofs.Tryz.results81]
  simp -implicitDefEqProofs -dsimp only [↓reduceIte, ↓W_seq, go_sem, WR_nil, evNews, Nat.reduceEqDiff, Nat.reduceAdd, Nat.reduceMul, Nat.reduceLeDiff, Nat.reduceLT, Int.cast_ofNat_Int, Int.reduceBNe, Int.reduceToNat, Int.reduceLT, Int.reduceLE, Int.reduceAdd, Int.reduceNeg, Int.reduceEq, reduceCtorEq, enc, cut_und _ _ hu]
def encC (g : Int) (e : List Bool) : List MV := .int .i64 g :: e.map MV.bool
/-- A store below, seen from a call's frame. -/
theorem ne_my {p : Mv.Loc} {d : Nat} (h : p.d < d) (t c : Nat) : (p = ⟨d, t, c⟩) = False := by
  simp only [eq_iff_iff, iff_false]; rintro rfl; exact Nat.lt_irrefl _ h
theorem my_ne {p : Mv.Loc} {d : Nat} (h : p.d < d) (t c : Nat) : ((⟨d, t, c⟩ : Mv.Loc) = p) = False := by
  simp only [eq_iff_iff, iff_false]; rintro rfl; exact Nat.lt_irrefl _ h
theorem u_tick (σ : Sto) (d : Nat) : (σ.tick d).Und (d + 1) ↔ σ.Und (d + 1) :=
  ⟨fun h => ⟨h.ob, h.ow, fun d' hl => by have := h.ct d' hl; simp only [Sto.tick, upd] at this; rwa [if_neg (by omega)] at this⟩, fun h => und_tick h (Nat.lt_succ_self d)⟩
theorem u_set (σ : Sto) (d : Nat) (l : Mv.Loc) (cs : List MV) (hl : l.d < d) : (σ.set l cs).Und d ↔ σ.Und d :=
  ⟨fun h => ⟨fun l' hl' => by have := h.ob l' hl'; simp only [Sto.set] at this; rwa [if_neg (by rintro rfl; omega)] at this, h.ow, h.ct⟩, fun h => und_set h hl cs⟩
theorem u_mine (σ : Sto) (d t c : Nat) (cs : List MV) : (σ.set ⟨d, t, c⟩ cs).Und (d + 1) ↔ σ.Und (d + 1) := u_set σ _ _ cs (Nat.lt_succ_self d)
theorem u_own (σ : Sto) (d c : Nat) (x : Option (Nat × Nat)) : (σ.own d c x).Und (d + 1) ↔ σ.Und (d + 1) :=
  ⟨fun h => ⟨h.ob, fun d' c' hl => by have := h.ow d' c' hl; simp only [Sto.own] at this; rwa [if_neg (by omega)] at this, h.ct⟩, fun h => und_own h (Nat.lt_succ_self d) _ _⟩
theorem arrA (g : Int) (e : List Bool) (i : Nat) (h : i < e.length) : (encC g e)[i + 1]? = some (.bool (e.getD i false)) := by
  simp [encC, h]
end Go.Proofs.Tryz.E
