/- Walks: what the functions compute. Walks: what the functions compute. -/
import Derived.Test.YthmgjkngkhdjjaaGreatDoorE12
set_option linter.unusedVariables false
set_option linter.unusedSimpArgs false
/- The same node, as the other side has it; alike. -/
namespace Go.Proofs.Tryz.E
open Go.Mv
set_option maxHeartbeats 4000000
set_option maxRecDepth 20000
@[go_sem] theorem bslF_eq (P : Program) (t : TypeId) (n : Nat) (ps : List (Nat × MV)) : bslF P t n ps = (slc P t).bind fun x => if ps.length = n ∧ n * x.2.1 ≤ 65536 ∧ 0 < x.2.1 then (sliceParts x.2.1 0 ps).map fun xs => .sl .no xs else none := by
 unfold bslF
 cases slc P t <;> rfl
@[go_sem] theorem bin_32n (xs ys : List MV) : binO X.P X.eqT .neq 24 (.agg xs) (.agg ys) = (eqC u4 xs ys).map fun r => .bool !r := rfl
theorem own_cells {s : Sto} {d : Nat} {v : MV} {acc : List Nd} (h : Own s d v acc) : v.cells = some [v] := by
 rcases h with ⟨rfl, rfl⟩ | ⟨c, rfl, _, _⟩ <;> rfl
theorem own_frz {s σ : Sto} {d d' : Nat} {v : MV} {acc : List Nd} (h : Own s d v acc) : v.frz σ d' = some (.sl .no (encs acc)) := by
 rcases h with ⟨rfl, rfl⟩ | ⟨c, rfl, _, _⟩ <;> rfl
theorem own_set {s : Sto} {d : Nat} {v : MV} {acc : List Nd} (h : Own s d v acc) (l : Mv.Loc) (cs : List MV) : Own (s.set l cs) d v acc := own_mono h (fun _ _ => rfl) (Nat.le_refl _)
theorem bne_self_i (x : Int) : (x != x) = false := by simp
theorem w10 : ∀ (x : Nd), sz x ≤ 1000000 → ∀ (lim d : Nat) (σ : Sto), lim ≤ d → σ.Und d → Ret lim d 17 [.agg (enc x), .agg (enc x)] σ (.bool true) σ := by
 refine Nd.ind fun kd c s0 s1 s2 s3 n mn mx l ih hsz lim d σ hlim hu => ?_
 have hl := len_le l
 simp only [sz] at hsz
 have hun := und_succ hu
 unfold Ret
 rw [WF_body (C := X) rfl func17 rfl (by kernel_rfl)]; simp only [results17]
 simp -implicitDefEqProofs -dsimp only [go_sem, enc, bne_self_i, encs_len]
 refine loop_h (I := fun k a s => ∃ (i : Nat), i + k = l.length ∧ a 58 = .int .i64 i ∧ a 57 = .int .i64 l.length ∧ a 2 = .ptr ⟨d, 2, σ.ct d⟩ 0 ∧ a 3 = .ptr ⟨d, 3, σ.ct d + 1⟩ 0 ∧ s.ob ⟨d, 2, σ.ct d⟩ = some (enc (.mk kd c s0 s1 s2 s3 n mn mx l)) ∧ s.ob ⟨d, 3, σ.ct d + 1⟩ = some (enc (.mk kd c s0 s1 s2 s3 n mn mx l)) ∧ s.cut d = σ ∧ s.Und (d + 1)) ?_ l.length _ _ ?_
 ·rintro k a s ⟨i, hk, h1, h2, h3, h4, o3, o4, hs, hs2⟩
  by_cases hi : i < l.length
  ·have e1 : ((i : Int) < (l.length : Int)) := by omega
   have e2 : l[i]? = some l[i] := List.getElem?_eq_getElem hi
   have hm := List.getElem_mem hi
   have hy := sz_le l _ hm
   simp -implicitDefEqProofs -dsimp only [go_sem, e1, h1, h2]
   rw [D_dr (by kernel_rfl) rfl]
   simp -implicitDefEqProofs -dsimp only [go_sem, enc, e2, h3, h4, o3, o4, encs_at]
   refine (ih l[i] hm (by omega) (d + 1) (d + 1) _ (Nat.le_refl _) hs2).wh ?_
   simp -implicitDefEqProofs -dsimp only [go_sem, enc, h1, h2, h3, h4, o3, o4]
   exact ⟨k - 1, by omega, i + 1, by omega, by rw [wr64 _ (by omega) (by omega)]; rfl, hs, hs2⟩
  ·have e1 : ¬ ((i : Int) < (l.length : Int)) := by omega
   simp -implicitDefEqProofs -dsimp only [go_sem, e1, h1, h2, hs]
 ·refine ⟨0, Nat.zero_add _, ?_⟩
  simp -implicitDefEqProofs -dsimp only [go_sem, enc, cut_und _ _ hu, u_tick, u_mine, hun]
@[go_sem] theorem bitI_or (x y : Int) : bitI .or .u64 x y = some (.int .u64 (or64 x y)) := rfl
@[go_sem] theorem un_not (x : Int) : unO .xor (.int .u64 x) = some (.int .u64 (not64 x)) := rfl
@[go_sem] theorem shl_bit (c : Nat) : shiftI .shl .u64 1 (c : Int) = some (.int .u64 (bit64 c)) := by
 simp only [shiftI, bit64]
 rw [if_neg (by omega)]
 rfl
theorem encS_len (s : List Int) : (encS s).length = s.length := by simp [encS]
theorem encS_at (s : List Int) (i : Nat) (h : i < s.length) : (encS s)[i]? = some (.int .u64 (s.getD i 0)) := by simp [encS, h]
theorem encS_set (s : List Int) (i : Nat) (v : Int) (h : i < s.length) : putC (encS s) [.int .u64 v] i = encS (s.set i v) := by
 rw [putC_set _ _ _ (by rw [encS_len]; exact h), encS, encS, List.map_set]
theorem encS_put (cs : List MV) (s : List Int) (h : cs.length = s.length) : putC cs (encS s) 0 = encS s := putC_whole _ _ (by rw [encS_len, h])
theorem encS_take (s : List Int) (h : s.length = 4) : (encS s).take 4 = encS s := by rw [← h, ← encS_len]; simp
theorem encS_era (s : List Int) : (encS s).map MV.era = encS s := by simp [encS, MV.era]
theorem encS_frz (σ : Sto) (d : Nat) (s : List Int) : (encS s).mapM (MV.frz σ d) = some (encS s) := by
 induction s with
 | nil => rfl
 | cons b e ih =>
  rw [show encS (b :: e) = .int .u64 b :: encS e from rfl, mapM_cons', ih]
  rfl
attribute [go_sem] encS_len encS_era encS_frz
theorem tdiv64 (c : Nat) : (c : Int).tdiv 64 = ((c / 64 : Nat) : Int) := by rw [Int.tdiv_eq_ediv_of_nonneg (by omega)]; omega
theorem tmod64 (c : Nat) : (c : Int).tmod 64 = ((c % 64 : Nat) : Int) := by rw [Int.tmod_eq_emod_of_nonneg (by omega)]; omega
theorem wru (x : Int) (h : 0 ≤ x) (h2 : x < 256) : IntKind.u64.wrap x = x := by
 have : IntKind.u64.wrap x = x % 18446744073709551616 := by
  simp only [IntKind.wrap, IntKind.bits, IntKind.signed]
  simp
 rw [this]
 omega
theorem ln4 {s : List Int} (h : s.length = 4) : ∃ a b c d, s = [a, b, c, d] := by
 match s, h with
 | [a, b, c, d], _ => exact ⟨a, b, c, d, rfl⟩
theorem w78 (s : List Int) (hs : s.length = 4) (a b : Nat) (ha : a < 256) (hb : b < 256) (lim d : Nat) (σ : Sto) (hu : σ.Und d) : Ret lim d 162 [.agg (encS s), .int .u8 a, .int .u8 b] σ (.agg (encS (withS s a b))) σ := by
 have hun := und_succ hu
 have xa := wr64 a (by omega) (by omega)
 have xb := wr64 b (by omega) (by omega)
 unfold Ret
 rw [WF_body (C := X) rfl func162 rfl (by kernel_rfl)]; simp only [results162]
 simp -implicitDefEqProofs -dsimp only [go_sem, xa]
 refine loop_h (I := fun k m s' => ∃ (c : Nat) (t : List Int), c + k = b + 1 + (a - (b + 1)) ∧ c ≤ 256 ∧ (k = 0 ∨ c + k = b + 1) ∧ m 7 = .int .i64 c ∧ m 2 = .int .u8 b ∧ m 3 = .ptr ⟨d, 3, σ.ct d⟩ 0 ∧ m 6 = .ptr ⟨d, 6, σ.ct d + 1⟩ 0 ∧ s'.ob ⟨d, 3, σ.ct d⟩ = some (encS t) ∧ t.length = 4 ∧ s'.ob ⟨d, 6, σ.ct d + 1⟩ = some [.int .u64 0, .int .u64 0, .int .u64 0, .int .u64 0] ∧
  withN t c k = withS s a b ∧ s'.cut d = σ) ?_ (b + 1 - a) _ _ ?_
 ·rintro k m s' ⟨c, t, hk, hc, hk2, h7, h2, h3, h6, o3, ht, o6, hw, hcut⟩
  have e64 := tdiv64 c
  have m64 := tmod64 c
  have w4 := wr64 ((c : Int) + 1) (by omega) (by omega)
  have w1 := wr64 ((c / 64 : Nat) : Int) (by omega) (by omega)
  have w2 := wr64 ((c % 64 : Nat) : Int) (by omega) (by omega)
  have w3 := wru ((c % 64 : Nat) : Int) (by omega) (by omega)
  cases k with
  | zero =>
   have e1 : ¬ ((c : Int) ≤ (b : Int)) := by omega
   rw [withN] at hw
   simp -implicitDefEqProofs -dsimp only [go_sem, h7, h2, h3, h6, o3, o6, xb, e1, ht, encS_take t ht]
   rw [encS_put _ _ (by rw [ht]; rfl), encS_len, encS_take t ht, encS_frz, hw]
   exact ⟨by rw [← hw]; omega, _, rfl, rfl, hcut⟩
  | succ k =>
   have e1 : ((c : Int) ≤ (b : Int)) := by omega
   have hlt : c / 64 < t.length := by omega
   have hi4 : ((c / 64 : Nat) : Int) < 4 := by omega
   have hat := encS_at t (c / 64) hlt
   simp -implicitDefEqProofs -dsimp only [go_sem, h7, h2, h3, h6, o3, o6, xb, e1, ht, e64, m64, w1, w3, w4, Nat.mul_one, hat, hi4]
   refine ⟨by omega, k, Nat.lt_succ_self k, c + 1, setB t c, by omega, by omega, by omega, rfl, ?_, by simp [setB, ht], ?_, hcut⟩
   ·rw [encS_set _ _ _ hlt]; rfl
   ·rw [← hw, withN]
 ·refine ⟨a, s, by omega, by omega, by omega, rfl, rfl, rfl, rfl, ?_, hs, ?_, rfl, ?_⟩
  ·simp -implicitDefEqProofs -dsimp only [go_sem]
  ·simp -implicitDefEqProofs -dsimp only [go_sem]
  ·simp -implicitDefEqProofs -dsimp only [go_sem, cut_und _ _ hu]
theorem w84 (s : List Int) (hs : s.length = 4) (a b : Nat) (ha : a < 256) (hb : b < 256) (lim d : Nat) (σ : Sto) (hu : σ.Und d) : Ret lim d 155 [.agg (encS s), .int .u8 a, .int .u8 b] σ (.agg (encS (withS s a b))) σ := by
 have hun := und_succ hu
 have xa := wr64 a (by omega) (by omega)
 have xb := wr64 b (by omega) (by omega)
 unfold Ret
 rw [WF_body (C := X) rfl func155 rfl (by kernel_rfl)]; simp only [results155]
 simp -implicitDefEqProofs -dsimp only [go_sem, xa]
 refine loop_h (I := fun k m s' => ∃ (c : Nat) (t : List Int), c + k = b + 1 + (a - (b + 1)) ∧ c ≤ 256 ∧ (k = 0 ∨ c + k = b + 1) ∧ m 7 = .int .i64 c ∧ m 2 = .int .u8 b ∧ m 3 = .ptr ⟨d, 3, σ.ct d⟩ 0 ∧ m 6 = .ptr ⟨d, 6, σ.ct d + 1⟩ 0 ∧ s'.ob ⟨d, 3, σ.ct d⟩ = some (encS t) ∧ t.length = 4 ∧ s'.ob ⟨d, 6, σ.ct d + 1⟩ = some [.int .u64 0, .int .u64 0, .int .u64 0, .int .u64 0] ∧
  withN t c k = withS s a b ∧ s'.cut d = σ) ?_ (b + 1 - a) _ _ ?_
 ·rintro k m s' ⟨c, t, hk, hc, hk2, h7, h2, h3, h6, o3, ht, o6, hw, hcut⟩
  have e64 := tdiv64 c
  have m64 := tmod64 c
  have w4 := wr64 ((c : Int) + 1) (by omega) (by omega)
  have w1 := wr64 ((c / 64 : Nat) : Int) (by omega) (by omega)
  have w2 := wr64 ((c % 64 : Nat) : Int) (by omega) (by omega)
  have w3 := wru ((c % 64 : Nat) : Int) (by omega) (by omega)
  cases k with
  | zero =>
   have e1 : ¬ ((c : Int) ≤ (b : Int)) := by omega
   rw [withN] at hw
   simp -implicitDefEqProofs -dsimp only [go_sem, h7, h2, h3, h6, o3, o6, xb, e1, ht, encS_take t ht]
   rw [encS_put _ _ (by rw [ht]; rfl), encS_len, encS_take t ht, encS_frz, hw]
   exact ⟨by rw [← hw]; omega, _, rfl, rfl, hcut⟩
  | succ k =>
   have e1 : ((c : Int) ≤ (b : Int)) := by omega
   have hlt : c / 64 < t.length := by omega
   have hi4 : ((c / 64 : Nat) : Int) < 4 := by omega
   have hat := encS_at t (c / 64) hlt
   simp -implicitDefEqProofs -dsimp only [go_sem, h7, h2, h3, h6, o3, o6, xb, e1, ht, e64, m64, w1, w3, w4, Nat.mul_one, hat, hi4]
   refine ⟨by omega, k, Nat.lt_succ_self k, c + 1, setB t c, by omega, by omega, by omega, rfl, ?_, by simp [setB, ht], ?_, hcut⟩
   ·rw [encS_set _ _ _ hlt]; rfl
   ·rw [← hw, withN]
 ·refine ⟨a, s, by omega, by omega, by omega, rfl, rfl, rfl, rfl, ?_, hs, ?_, rfl, ?_⟩
  ·simp -implicitDefEqProofs -dsimp only [go_sem]
  ·simp -implicitDefEqProofs -dsimp only [go_sem]
  ·simp -implicitDefEqProofs -dsimp only [go_sem, cut_und _ _ hu]
theorem w70 (s t : List Int) (hs : s.length = 4) (ht : t.length = 4) (lim d : Nat) (σ : Sto) (hu : σ.Und d) : Ret lim d 150 [.agg (encS s), .agg (encS t)] σ (.agg (encS (orS s t))) σ := by
 have x1 := wr64 1 (by decide) (by decide)
 have x2 := wr64 2 (by decide) (by decide)
 have x3 := wr64 3 (by decide) (by decide)
 have x4 := wr64 4 (by decide) (by decide)
 obtain ⟨s0, s1, s2, s3, rfl⟩ := ln4 hs
 obtain ⟨t0, t1, t2, t3, rfl⟩ := ln4 ht
 simp only [encS, List.map_cons, List.map_nil, orS, List.zipWith_cons_cons, List.zipWith_nil_left]
 unfold Ret
 rw [WF_body (C := X) rfl func150 rfl (by kernel_rfl)]; simp only [results150]
 simp -implicitDefEqProofs -dsimp only [go_sem]
 rw [WL_h]
 simp -implicitDefEqProofs -dsimp only [go_sem]
 rw [D_dr (by kernel_rfl) rfl]
 simp -implicitDefEqProofs -dsimp only [go_sem, x1]
 rw [WL_h]
 simp -implicitDefEqProofs -dsimp only [go_sem]
 rw [D_dr (by kernel_rfl) rfl]
 simp -implicitDefEqProofs -dsimp only [go_sem, x2]
 rw [WL_h]
 simp -implicitDefEqProofs -dsimp only [go_sem]
 rw [D_dr (by kernel_rfl) rfl]
 simp -implicitDefEqProofs -dsimp only [go_sem, x3]
 rw [WL_h]
 simp -implicitDefEqProofs -dsimp only [go_sem]
 rw [D_dr (by kernel_rfl) rfl]
 simp -implicitDefEqProofs -dsimp only [go_sem, x4]
 rw [WL_h]
 simp -implicitDefEqProofs -dsimp only [go_sem, cut_und _ _ hu]
theorem w75 (s t : List Int) (hs : s.length = 4) (ht : t.length = 4) (lim d : Nat) (σ : Sto) (hu : σ.Und d) : Ret lim d 139 [.agg (encS s), .agg (encS t)] σ (.agg (encS (orS s t))) σ := by
 have x1 := wr64 1 (by decide) (by decide)
 have x2 := wr64 2 (by decide) (by decide)
 have x3 := wr64 3 (by decide) (by decide)
 have x4 := wr64 4 (by decide) (by decide)
 obtain ⟨s0, s1, s2, s3, rfl⟩ := ln4 hs
 obtain ⟨t0, t1, t2, t3, rfl⟩ := ln4 ht
 simp only [encS, List.map_cons, List.map_nil, orS, List.zipWith_cons_cons, List.zipWith_nil_left]
 unfold Ret
 rw [WF_body (C := X) rfl func139 rfl (by kernel_rfl)]; simp only [results139]
 simp -implicitDefEqProofs -dsimp only [go_sem]
 rw [WL_h]
 simp -implicitDefEqProofs -dsimp only [go_sem]
 rw [D_dr (by kernel_rfl) rfl]
 simp -implicitDefEqProofs -dsimp only [go_sem, x1]
 rw [WL_h]
 simp -implicitDefEqProofs -dsimp only [go_sem]
 rw [D_dr (by kernel_rfl) rfl]
 simp -implicitDefEqProofs -dsimp only [go_sem, x2]
 rw [WL_h]
 simp -implicitDefEqProofs -dsimp only [go_sem]
 rw [D_dr (by kernel_rfl) rfl]
 simp -implicitDefEqProofs -dsimp only [go_sem, x3]
 rw [WL_h]
 simp -implicitDefEqProofs -dsimp only [go_sem]
 rw [D_dr (by kernel_rfl) rfl]
 simp -implicitDefEqProofs -dsimp only [go_sem, x4]
 rw [WL_h]
 simp -implicitDefEqProofs -dsimp only [go_sem, cut_und _ _ hu]
theorem w76 (s : List Int) (hs : s.length = 4) (lim d : Nat) (σ : Sto) (hu : σ.Und d) : Ret lim d 103 [.agg (encS s)] σ (.agg (encS (notS s))) σ := by
 obtain ⟨s0, s1, s2, s3, rfl⟩ := ln4 hs
 simp only [encS, List.map_cons, List.map_nil, notS]
 unfold Ret
 rw [WF_body (C := X) rfl func103 rfl (by kernel_rfl)]; simp only [results103]
 simp -implicitDefEqProofs -dsimp only [go_sem, cut_und _ _ hu]
theorem w71 (s : List Int) (hs : s.length = 4) (lim d : Nat) (σ : Sto) (hu : σ.Und d) : Ret lim d 151 [.agg (encS s)] σ (.agg (encS (notS s))) σ := by
 have x1 := wr64 1 (by decide) (by decide)
 have x2 := wr64 2 (by decide) (by decide)
 have x3 := wr64 3 (by decide) (by decide)
 have x4 := wr64 4 (by decide) (by decide)
 obtain ⟨s0, s1, s2, s3, rfl⟩ := ln4 hs
 simp only [encS, List.map_cons, List.map_nil, notS]
 unfold Ret
 rw [WF_body (C := X) rfl func151 rfl (by kernel_rfl)]; simp only [results151]
 simp -implicitDefEqProofs -dsimp only [go_sem]
 rw [WL_h]
 simp -implicitDefEqProofs -dsimp only [go_sem, x1]
 rw [WL_h]
 simp -implicitDefEqProofs -dsimp only [go_sem, x2]
 rw [WL_h]
 simp -implicitDefEqProofs -dsimp only [go_sem, x3]
 rw [WL_h]
 simp -implicitDefEqProofs -dsimp only [go_sem, x4]
 rw [WL_h]
 simp -implicitDefEqProofs -dsimp only [go_sem, cut_und _ _ hu]
end Go.Proofs.Tryz.E
