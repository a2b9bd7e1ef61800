/- Walks: what the functions compute. -/
import Derived.Test.YtcgjdgmmnmmifaaGreatDoorE7
import Derived.Test.YtcgjdgmmnmmifaaGreatDoorP0
set_option linter.unusedVariables false
set_option linter.unusedSimpArgs false
/- Whether a node is formed: its parts. -/
namespace Go.Proofs.Tryz.E
open Go.Mv
set_option maxHeartbeats 4000000
set_option maxRecDepth 20000
theorem w50 (kd c s0 s1 s2 s3 n mn mx : Int) (l : List Nd) (lim d : Nat) (σ : Sto) (hu : σ.Und d) : Ret lim d 163 [.agg (enc (.mk kd c s0 s1 s2 s3 n mn mx l))] σ (.bool (boundsB mn mx)) σ := by
  unfold Ret
  rw [WF_body (C := X) rfl Go.Proofs.Tryz.func163 rfl (by kernel_rfl)]; simp only [Go.Proofs.Tryz.results163]
  simp -implicitDefEqProofs -dsimp only [↓reduceIte, ↓W_seq, go_sem, enc]
  unfold boundsB
  cases decide (0 ≤ mn) <;> cases decide (mn ≤ 255) <;> cases (mx == -1) <;> cases decide (mn ≤ mx) <;> cases decide (mx ≤ 255) <;> simp only [go_sem, cut_und _ _ hu, Bool.or_false, Bool.or_true, Bool.false_or, Bool.true_or, Bool.and_false, Bool.false_and, Bool.not_true, Bool.not_false, Bool.true_beq, Bool.false_beq]
theorem w61 (a b c k : Int) (lim d : Nat) (σ : Sto) (hu : σ.Und d) (tk : Tok) : Ret lim d 174 [.sl tk [[.int .i64 a], [.int .i64 b], [.int .i64 c]], .int .i64 k] σ (.int .i64 (if (k == a) = true then 0 else if (k == b) = true then 1 else if (k == c) = true then 2 else -1)) σ := by
  have x1 := wr64 1 (by decide) (by decide)
  have x2 := wr64 2 (by decide) (by decide)
  have x3 := wr64 3 (by decide) (by decide)
  unfold Ret
  rw [WF_body (C := X) rfl Go.Proofs.Tryz.func174 rfl (by kernel_rfl)]; simp only [Go.Proofs.Tryz.results174]
  simp -implicitDefEqProofs -dsimp only [↓reduceIte, ↓W_seq, go_sem, enc]
  rw [WL_h]
  simp -implicitDefEqProofs -dsimp only [↓reduceIte, ↓W_seq, go_sem, enc, x1, cut_und _ _ (und_succ hu), cut_und _ _ hu]
  cases (k == a)
  · simp -implicitDefEqProofs -dsimp only [↓reduceIte, ↓W_seq, go_sem, enc]
    rw [WL_h]
    simp -implicitDefEqProofs -dsimp only [↓reduceIte, ↓W_seq, go_sem, enc, x2]
    cases (k == b)
    · simp -implicitDefEqProofs -dsimp only [↓reduceIte, ↓W_seq, go_sem, enc]
      rw [WL_h]
      simp -implicitDefEqProofs -dsimp only [↓reduceIte, ↓W_seq, go_sem, enc, x3]
      cases (k == c)
      · simp -implicitDefEqProofs -dsimp only [↓reduceIte, ↓W_seq, go_sem, enc]
        rw [WL_h]
        simp -implicitDefEqProofs -dsimp only [↓reduceIte, ↓W_seq, go_sem, enc, cut_und _ _ hu]
      · simp -implicitDefEqProofs -dsimp only [↓reduceIte, ↓W_seq, go_sem, enc, cut_und _ _ hu]
    · simp -implicitDefEqProofs -dsimp only [↓reduceIte, ↓W_seq, go_sem, enc, cut_und _ _ hu]
  · simp -implicitDefEqProofs -dsimp only [↓reduceIte, ↓W_seq, go_sem, enc, cut_und _ _ hu]
theorem w51 (a b c k : Int) (lim d : Nat) (σ : Sto) (hu : σ.Und d) (tk : Tok) : Ret lim d 164 [.sl tk [[.int .i64 a], [.int .i64 b], [.int .i64 c]], .int .i64 k] σ (.bool (k == a || k == b || k == c)) σ := by
  unfold Ret
  rw [WF_body (C := X) rfl Go.Proofs.Tryz.func164 rfl (by kernel_rfl)]; simp only [Go.Proofs.Tryz.results164]
  simp -implicitDefEqProofs -dsimp only [↓reduceIte, ↓W_seq, go_sem, enc]
  refine (w61 a b c k lim (d + 1) σ (und_succ hu) _).wh ?_
  simp -implicitDefEqProofs -dsimp only [↓reduceIte, ↓W_seq, go_sem, enc, cut_und _ _ hu]
  cases (k == a) <;> cases (k == b) <;> cases (k == c) <;> rfl
def needH : Nd → List MV
  | .mk kd c s0 s1 s2 s3 n mn mx l => [.int .i64 kd, .int .u8 (if kd = 1 then c else 0), .int .u64 (if kd = 3 then s0 else 0), .int .u64 (if kd = 3 then s1 else 0), .int .u64 (if kd = 3 then s2 else 0), .int .u64 (if kd = 3 then s3 else 0),
    .int .i64 (if kd = 6 ∨ kd = 7 then n else 0), .int .i64 (if kd = 10 then mn else 0), .int .i64 (if kd = 10 then mx else 0)]
def needK (kd : Int) : Int := if kd = 6 ∨ kd = 10 then 1 else if kd = 8 ∨ kd = 9 then -1 else 0
theorem w49 (kd c s0 s1 s2 s3 n mn mx : Int) (l : List Nd) (lim d : Nat) (σ : Sto) (hu : σ.Und d) : Ret lim d 162 [.agg (enc (.mk kd c s0 s1 s2 s3 n mn mx l))] σ (.tup [.agg (needH (.mk kd c s0 s1 s2 s3 n mn mx l)), .int .i64 (needK kd)]) σ := by
  unfold Ret
  rw [WF_body (C := X) rfl Go.Proofs.Tryz.func162 rfl (by kernel_rfl)]; simp only [Go.Proofs.Tryz.results162]
  by_cases h1 : kd = 1
  · subst h1; simp -implicitDefEqProofs -dsimp only [↓reduceIte, ↓W_seq, go_sem, enc, cut_und _ _ hu, needH, needK, if_true, if_false, or_false, false_or, or_self]
  by_cases h3 : kd = 3
  · subst h3; simp -implicitDefEqProofs -dsimp only [↓reduceIte, ↓W_seq, go_sem, enc, cut_und _ _ hu, needH, needK, if_true, if_false, or_false, false_or, or_self]
  by_cases h6 : kd = 6
  · subst h6; simp -implicitDefEqProofs -dsimp only [↓reduceIte, ↓W_seq, go_sem, enc, cut_und _ _ hu, needH, needK, if_true, if_false, or_false, false_or, or_self, true_or, or_true]
  by_cases h7 : kd = 7
  · subst h7; simp -implicitDefEqProofs -dsimp only [↓reduceIte, ↓W_seq, go_sem, enc, cut_und _ _ hu, needH, needK, if_true, if_false, or_false, false_or, or_self, true_or, or_true]
  by_cases h8 : kd = 8
  · subst h8; simp -implicitDefEqProofs -dsimp only [↓reduceIte, ↓W_seq, go_sem, enc, cut_und _ _ hu, needH, needK, if_true, if_false, or_false, false_or, or_self, true_or, or_true]
  by_cases h9 : kd = 9
  · subst h9; simp -implicitDefEqProofs -dsimp only [↓reduceIte, ↓W_seq, go_sem, enc, cut_und _ _ hu, needH, needK, if_true, if_false, or_false, false_or, or_self, true_or, or_true]
  by_cases h10 : kd = 10
  · subst h10; simp -implicitDefEqProofs -dsimp only [↓reduceIte, ↓W_seq, go_sem, enc, cut_und _ _ hu, needH, needK, if_true, if_false, or_false, false_or, or_self, true_or, or_true]
    rw [D_lx [.tmp 39] (by kernel_rfl) (by kernel_rfl)]; simp -implicitDefEqProofs -dsimp only [↓reduceIte, ↓W_seq, go_sem, enc, List.takeWhile_cons, List.dropWhile_cons, List.takeWhile_nil, List.dropWhile_nil, isTail, evNews, List.mem_cons, List.not_mem_nil, or_false, false_or, not_false_eq_true, not_true_eq_false, decide_true, decide_false, Bool.not_true, Bool.not_false, if_true, if_false, forall_eq, forall_eq_or_imp, false_imp_iff, implies_true, ne_eq, ct_lt1, ct_lt2, ct_lt3, ct_lt4, ct_lt5, cut_und _ _ hu]
    simp only [needH, needK, Int.reduceEq, or_self, or_true, if_true, if_false]
  simp -implicitDefEqProofs -dsimp only [↓reduceIte, ↓W_seq, go_sem, enc, cut_und _ _ hu, needH, needK, if_true, if_false, or_false, false_or, or_self, true_or, or_true, h1, h3, h6, h7, h8, h9, h10, beq_eq_false_iff_ne, ne_eq, not_false_eq_true, (beq_eq_false_iff_ne.2 h1 : (kd == 1) = false), (beq_eq_false_iff_ne.2 h3 : (kd == 3) = false), (beq_eq_false_iff_ne.2 h6 : (kd == 6) = false), (beq_eq_false_iff_ne.2 h7 : (kd == 7) = false), (beq_eq_false_iff_ne.2 h8 : (kd == 8) = false), (beq_eq_false_iff_ne.2 h9 : (kd == 9) = false), (beq_eq_false_iff_ne.2 h10 : (kd == 10) = false)]
@[go_sem] theorem bin_66n (xs ys : List MV) : binO X.P X.eqT .neq 132 (.agg xs) (.agg ys) = (eqC ([.i .i64, .i .u8] ++ u4 ++ [.i .i64, .i .i64, .i .i64]) xs ys).map fun r => .bool !r := rfl
theorem w27 (kd c s0 s1 s2 s3 n mn mx : Int) (l : List Nd) (lim d : Nat) (σ : Sto) (hu : σ.Und d) : Ret lim d 57 [.agg (enc (.mk kd c s0 s1 s2 s3 n mn mx l))] σ (.agg [.int .i64 kd, .int .u8 c, .int .u64 s0, .int .u64 s1, .int .u64 s2, .int .u64 s3, .int .i64 n, .int .i64 mn, .int .i64 mx]) σ := by
  unfold Ret
  rw [WF_body (C := X) rfl Go.Proofs.Tryz.func57 rfl (by kernel_rfl)]; simp only [Go.Proofs.Tryz.results57]
  simp -implicitDefEqProofs -dsimp only [↓reduceIte, ↓W_seq, go_sem, enc, cut_und _ _ hu]
def encC (g : Int) (e : List Bool) : List MV := .int .i64 g :: e.map MV.bool
/-- A store below, seen from a call's frame. -/
theorem ne_my {p : Mv.Loc} {d : Nat} (h : p.d < d) (t c : Nat) : (p = ⟨d, t, c⟩) = False := by
  simp only [eq_iff_iff, iff_false]; rintro rfl; exact Nat.lt_irrefl _ h
theorem my_ne {p : Mv.Loc} {d : Nat} (h : p.d < d) (t c : Nat) : ((⟨d, t, c⟩ : Mv.Loc) = p) = False := by
  simp only [eq_iff_iff, iff_false]; rintro rfl; exact Nat.lt_irrefl _ h
theorem u_tick (σ : Sto) (d : Nat) : (σ.tick d).Und (d + 1) ↔ σ.Und (d + 1) :=
  ⟨fun h => ⟨h.ob, h.ow, fun d' hl => by have := h.ct d' hl; simp only [Sto.tick, upd] at this; rwa [if_neg (by omega)] at this⟩, fun h => und_tick h (Nat.lt_succ_self d)⟩
theorem u_set (σ : Sto) (d : Nat) (l : Mv.Loc) (cs : List MV) (hl : l.d < d) : (σ.set l cs).Und d ↔ σ.Und d :=
  ⟨fun h => ⟨fun l' hl' => by have := h.ob l' hl'; simp only [Sto.set] at this; rwa [if_neg (by rintro rfl; omega)] at this, h.ow, h.ct⟩, fun h => und_set h hl cs⟩
theorem u_mine (σ : Sto) (d t c : Nat) (cs : List MV) : (σ.set ⟨d, t, c⟩ cs).Und (d + 1) ↔ σ.Und (d + 1) := u_set σ _ _ cs (Nat.lt_succ_self d)
theorem u_own (σ : Sto) (d c : Nat) (x : Option (Nat × Nat)) : (σ.own d c x).Und (d + 1) ↔ σ.Und (d + 1) :=
  ⟨fun h => ⟨h.ob, fun d' c' hl => by have := h.ow d' c' hl; simp only [Sto.own] at this; rwa [if_neg (by omega)] at this, h.ct⟩, fun h => und_own h (Nat.lt_succ_self d) _ _⟩
theorem arrA (g : Int) (e : List Bool) (i : Nat) (h : i < e.length) : (encC g e)[i + 1]? = some (.bool (e.getD i false)) := by
  simp [encC, h]
end Go.Proofs.Tryz.E
