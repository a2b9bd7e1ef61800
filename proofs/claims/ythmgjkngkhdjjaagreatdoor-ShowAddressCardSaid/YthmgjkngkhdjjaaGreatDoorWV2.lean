/- Walks: what the functions compute. Walks: what the functions compute. -/
import Derived.Test.YthmgjkngkhdjjaaGreatDoorWN5
import Derived.Test.YthmgjkngkhdjjaaGreatDoorG0
import Derived.Test.YthmgjkngkhdjjaaGreatDoorWV0
import Derived.Test.YthmgjkngkhdjjaaGreatDoorWA0
set_option linter.unusedVariables false
set_option linter.unusedSimpArgs false
/- Words, bit by bit; sets: how many bytes, whether a byte is among them; what is written of a byte. -/
namespace Go.Proofs.Tryz.E
open Go.Mv
set_option maxHeartbeats 4000000
set_option maxRecDepth 20000
@[go_sem] theorem cvt_byQ (tk : Tok) (n : Int) : cvtO X.P 86 9 (.sl tk [[.int .u8 n]]) = some (.str [UInt8.ofNat n.toNat]) := by
 have h1 : X.P.underlying 86 = some (.slice 5) := by kernel_rfl
 have h2 : X.P.underlying 9 = some .string := by kernel_rfl
 have h3 : X.P.underlying 5 = some (.int .u8) := by kernel_rfl
 simp only [cvtO, h1, h2, h3, bytesOf, Option.map_some]
@[go_sem] theorem bitI_andu (x y : Int) : bitI .and .u64 x y = some (.int .u64 (IntKind.u64.wrap (BitVec.ofInt 64 x &&& BitVec.ofInt 64 y).toNat)) := rfl
@[go_sem] theorem bitI_andi (x y : Int) : bitI .and .i64 x y = some (.int .i64 (IntKind.i64.wrap (BitVec.ofInt 64 x &&& BitVec.ofInt 64 y).toNat)) := rfl
theorem shr_o (k : IntKind) (x y : Int) (h : 0 ≤ y) : shiftI .shr k x y = some (.int k (x.fdiv (2 ^ (min y.toNat k.bits)))) := by
 simp only [shiftI]
 rw [if_neg (by omega)]
def RetI (lim d : Nat) (f : FuncId) (args : List MV) (σ : Sto) : Prop := WF X lim d f args σ fun v s => (∃ y, v = .int .i64 y) ∧ s = σ
theorem RetI.wh {lim d : Nat} {f : FuncId} {args : List MV} {σ : Sto} (h : RetI lim d f args σ) {P : MV → Sto → Prop} (hq : ∀ y, P (.int .i64 y) σ) : WFh X lim d f args σ (TagF P) :=
 WF.mono h fun v s e => by obtain ⟨⟨t, rfl⟩, rfl⟩ := e; exact hq t
theorem fdivN (x k : Nat) : ((x : Int)).fdiv (2 ^ k) = ((x / 2 ^ k : Nat) : Int) := by
 rw [Int.fdiv_eq_ediv_of_nonneg _ (by exact Int.le_of_lt (Int.pow_pos (by decide)))]
 simp
theorem and1 (y : Nat) (hy : y < 2 ^ 64) : (BitVec.ofInt 64 (y : Int) &&& BitVec.ofInt 64 1).toNat = y % 2 := by
 rw [BitVec.toNat_and, BitVec.toNat_ofInt, BitVec.toNat_ofInt]
 rw [show ((1 : Int) % ((2 ^ 64 : Nat) : Int)).toNat = 1 from rfl, show ((y : Int) % ((2 ^ 64 : Nat) : Int)).toNat = y by omega]
 exact Nat.and_one_is_mod y
def bitB (x : Int) (k : Nat) : Bool := IntKind.u64.wrap ((BitVec.ofInt 64 (x.fdiv (2 ^ (min ((k : Nat) : Int).toNat 64))) &&& BitVec.ofInt 64 1).toNat : Int) == 1
theorem bitB_e (x : Nat) (hx : x < 2 ^ 64) (k : Nat) (hk : k < 64) : bitB (x : Int) k = x.testBit k := by
 unfold bitB
 have hd : x / 2 ^ k < 2 ^ 64 := Nat.lt_of_le_of_lt (Nat.div_le_self ..) hx
 rw [show min ((k : Nat) : Int).toNat 64 = k by simp; omega, fdivN, and1 _ hd, Nat.testBit_eq_decide_div_mod_eq]
 have h2 : x / 2 ^ k % 2 < 2 := Nat.mod_lt _ (by decide)
 generalize x / 2 ^ k % 2 = z at h2
 match z, h2 with
 | 0, _ => decide +kernel
 | 1, _ => decide +kernel
theorem zero_of (x : Nat) (hx : x < 2 ^ 64) (h : ∀ k, k < 64 → bitB (x : Int) k = false) : x = 0 := by
 refine Nat.eq_of_testBit_eq fun k => ?_
 rw [Nat.zero_testBit]
 rcases Nat.lt_or_ge k 64 with hk | hk
 ·rw [← bitB_e x hx k hk]; exact h k hk
 ·exact Nat.testBit_lt_two_pow (Nat.lt_of_lt_of_le hx (Nat.pow_le_pow_right (by decide) hk))
def hasB (S : List Int) (c : Nat) : Bool := bitB (S[c / 64]?.getD 0) (c % 64)
def okW (S : List Int) : Prop := S.length = 4 ∧ ∀ x ∈ S, 0 ≤ x ∧ x < 18446744073709551616
theorem word_zero {S : List Int} (h : okW S) (hb : ∀ c, c < 256 → hasB S c = false) (i : Nat) (hi : i < 4) : S[i]?.getD 0 = 0 := by
 have hl : i < S.length := by rw [h.1]; exact hi
 obtain ⟨h1, h2⟩ := h.2 S[i] (List.getElem_mem hl)
 have := zero_of S[i].toNat (by omega) fun k hk => by
  have := hb (64 * i + k) (by omega)
  unfold hasB at this
  rw [show (64 * i + k) / 64 = i by omega, show (64 * i + k) % 64 = k by omega, List.getElem?_eq_getElem hl] at this
  rw [show ((S[i].toNat : Nat) : Int) = S[i] by omega]
  exact this
 rw [List.getElem?_eq_getElem hl]
 simp only [Option.getD_some]
 omega
theorem set_zero {S : List Int} (h : okW S) (hb : ∀ c, c < 256 → hasB S c = false) : S = [0, 0, 0, 0] := by
 have h0 := word_zero h hb 0 (by decide)
 have h1 := word_zero h hb 1 (by decide)
 have h2 := word_zero h hb 2 (by decide)
 have h3 := word_zero h hb 3 (by decide)
 obtain ⟨a, b, c, d, rfl⟩ := ln4 h.1
 simp at h0 h1 h2 h3
 subst h0 h1 h2 h3
 rfl
theorem wrap_u (x : Int) (h0 : 0 ≤ x) (h : x < 18446744073709551616) : IntKind.u64.wrap x = x := by
 simp [IntKind.wrap, IntKind.bits, IntKind.signed]
 omega
theorem not64_ok (x : Int) (h0 : 0 ≤ x) (h : x < 18446744073709551616) : (0 ≤ not64 x ∧ not64 x < 18446744073709551616) ∧ (not64 x = 0 → x = 18446744073709551615) := by
 have hn := (BitVec.ofInt 64 18446744073709551615 ^^^ BitVec.ofInt 64 x).isLt
 unfold not64
 rw [wrap_u _ (by omega) (by omega)]
 refine ⟨⟨by omega, by omega⟩, fun e => ?_⟩
 have e1 : (BitVec.ofInt 64 18446744073709551615 ^^^ BitVec.ofInt 64 x) = 0#64 := BitVec.eq_of_toNat_eq (by simpa using e)
 have e2 : BitVec.ofInt 64 x = BitVec.ofInt 64 18446744073709551615 := by
  have := congrArg (BitVec.ofInt 64 18446744073709551615 ^^^ ·) e1
  simp only [← BitVec.xor_assoc, BitVec.xor_self, BitVec.zero_xor, BitVec.xor_zero] at this
  exact this
 have e3 := congrArg BitVec.toNat e2
 rw [BitVec.toNat_ofInt, BitVec.toNat_ofInt] at e3
 omega
theorem okW_not {S : List Int} (h : okW S) : okW (notS S) := by
 refine ⟨by rw [notS_len]; exact h.1, fun x hx => ?_⟩
 obtain ⟨y, hy, rfl⟩ := List.mem_map.1 hx
 exact (not64_ok y (h.2 y hy).1 (h.2 y hy).2).1
theorem set_full {S : List Int} (h : okW S) (hb : ∀ c, c < 256 → hasB (notS S) c = false) : S = [18446744073709551615, 18446744073709551615, 18446744073709551615, 18446744073709551615] := by
 have hz := set_zero (okW_not h) hb
 obtain ⟨h1, h2⟩ := h
 obtain ⟨a, b, c, d, rfl⟩ := ln4 h1
 simp only [notS, List.map_cons, List.map_nil, List.cons.injEq, and_true] at hz
 obtain ⟨z1, z2, z3, z4⟩ := hz
 have f := fun x hx z => (not64_ok x (h2 x hx).1 (h2 x hx).2).2 z
 rw [f a (by simp) z1, f b (by simp) z2, f c (by simp) z3, f d (by simp) z4]
theorem w524 (x : Int) (lim d : Nat) (σ : Sto) (hu : σ.Und d) : RetI lim d 121 [.int .u64 x] σ := by
 have s1 := fun z => shr_o .u64 z 1 (by decide)
 have s2 := fun z => shr_o .u64 z 2 (by decide)
 have s3 := fun z => shr_o .u64 z 4 (by decide)
 have s4 := fun z => shr_o .u64 z 8 (by decide)
 have s5 := fun z => shr_o .u64 z 16 (by decide)
 have s6 := fun z => shr_o .u64 z 32 (by decide)
 unfold RetI
 rw [WF_body (C := X) rfl func121 rfl (by kernel_rfl)]; simp only [results121]
 simp -implicitDefEqProofs -dsimp only [go_sem, s1, s2, s3, s4, s5, s6, cut_und _ _ hu]
 exact ⟨_, rfl⟩
theorem w524z (lim d : Nat) (σ : Sto) (hu : σ.Und d) : Ret lim d 121 [.int .u64 0] σ (.int .i64 0) σ := by
 have s1 := fun z => shr_o .u64 z 1 (by decide)
 have s2 := fun z => shr_o .u64 z 2 (by decide)
 have s3 := fun z => shr_o .u64 z 4 (by decide)
 have s4 := fun z => shr_o .u64 z 8 (by decide)
 have s5 := fun z => shr_o .u64 z 16 (by decide)
 have s6 := fun z => shr_o .u64 z 32 (by decide)
 unfold Ret
 rw [WF_body (C := X) rfl func121 rfl (by kernel_rfl)]; simp only [results121]
 simp -implicitDefEqProofs -dsimp only [go_sem, s1, s2, s3, s4, s5, s6, cut_und _ _ hu]
 first | done | rfl | kernel_rfl
theorem w524o (lim d : Nat) (σ : Sto) (hu : σ.Und d) : Ret lim d 121 [.int .u64 18446744073709551615] σ (.int .i64 64) σ := by
 have s1 := fun z => shr_o .u64 z 1 (by decide)
 have s2 := fun z => shr_o .u64 z 2 (by decide)
 have s3 := fun z => shr_o .u64 z 4 (by decide)
 have s4 := fun z => shr_o .u64 z 8 (by decide)
 have s5 := fun z => shr_o .u64 z 16 (by decide)
 have s6 := fun z => shr_o .u64 z 32 (by decide)
 unfold Ret
 rw [WF_body (C := X) rfl func121 rfl (by kernel_rfl)]; simp only [results121]
 simp -implicitDefEqProofs -dsimp only [go_sem, s1, s2, s3, s4, s5, s6, cut_und _ _ hu]
 first | done | rfl | kernel_rfl
theorem w525 (s : List Int) (hs : s.length = 4) (c : Nat) (hc : c < 256) (lim d : Nat) (σ : Sto) (hu : σ.Und d) : Ret lim d 122 [.agg (encS s), .int .u8 c] σ (.bool (hasB s c)) σ := by
 have hun := und_succ hu
 have e64 := tdiv64 c
 have m64 := tmod64 c
 have w1 := wru8 ((c / 64 : Nat) : Int) (by omega) (by omega)
 have w2 := wru8 ((c % 64 : Nat) : Int) (by omega) (by omega)
 have hlt : c / 64 < s.length := by omega
 have hi4 : ((c / 64 : Nat) : Int) < 4 := by omega
 have hat := encS_at s (c / 64) hlt
 have s1 := fun z => shr_o .u64 z ((c % 64 : Nat) : Int) (by omega)
 unfold Ret hasB bitB
 rw [WF_body (C := X) rfl func122 rfl (by kernel_rfl)]; simp only [results122]
 simp -implicitDefEqProofs -dsimp only [go_sem, e64, m64, w1, Nat.mul_one, hat, hi4, s1, cut_und _ _ hu]
 rfl
theorem w521 (s : List Int) (hs : s.length = 4) (lim d : Nat) (σ : Sto) (hu : σ.Und d) : RetI lim d 101 [.agg (encS s)] σ := by
 have hun := und_succ hu
 have x1 := wr64 1 (by decide) (by decide)
 have x2 := wr64 2 (by decide) (by decide)
 have x3 := wr64 3 (by decide) (by decide)
 have x4 := wr64 4 (by decide) (by decide)
 unfold RetI
 rw [WF_body (C := X) rfl func101 rfl (by kernel_rfl)]; simp only [results101]
 obtain ⟨s0, s1, s2, s3, rfl⟩ := ln4 hs
 simp only [encS, List.map_cons, List.map_nil]
 have h0 := fun x σ hσ => w524 x lim (d + 1) σ hσ
 simp -implicitDefEqProofs -dsimp only [go_sem]
 rw [WL_h]
 simp -implicitDefEqProofs -dsimp only [go_sem]
 refine (h0 _ _ (by simp only [u_tick, u_mine]; exact hun)).wh fun y1 => ?_
 simp -implicitDefEqProofs -dsimp only [go_sem, x1]
 rw [WL_h]
 simp -implicitDefEqProofs -dsimp only [go_sem]
 refine (h0 _ _ (by simp only [u_tick, u_mine]; exact hun)).wh fun y2 => ?_
 simp -implicitDefEqProofs -dsimp only [go_sem, x2]
 rw [WL_h]
 simp -implicitDefEqProofs -dsimp only [go_sem]
 refine (h0 _ _ (by simp only [u_tick, u_mine]; exact hun)).wh fun y3 => ?_
 simp -implicitDefEqProofs -dsimp only [go_sem, x3]
 rw [WL_h]
 simp -implicitDefEqProofs -dsimp only [go_sem]
 refine (h0 _ _ (by simp only [u_tick, u_mine]; exact hun)).wh fun y4 => ?_
 simp -implicitDefEqProofs -dsimp only [go_sem, x4]
 rw [WL_h]
 simp -implicitDefEqProofs -dsimp only [go_sem, cut_und _ _ hu]
 exact ⟨_, rfl⟩
theorem w521c (x n : Int) (hx : ∀ (lim d : Nat) (σ : Sto), σ.Und d → Ret lim d 121 [.int .u64 x] σ (.int .i64 n) σ) (h0n : 0 ≤ n) (hn : n ≤ 64) (lim d : Nat) (σ : Sto) (hu : σ.Und d) : Ret lim d 101 [.agg (encS [x, x, x, x])] σ (.int .i64 (n + n + n + n)) σ := by
 have hun := und_succ hu
 have z1 := wr64 n (by omega) (by omega)
 have z2 := wr64 (n + n) (by omega) (by omega)
 have z3 := wr64 (n + n + n) (by omega) (by omega)
 have z4 := wr64 (n + n + n + n) (by omega) (by omega)
 have x1 := wr64 1 (by decide) (by decide)
 have x2 := wr64 2 (by decide) (by decide)
 have x3 := wr64 3 (by decide) (by decide)
 have x4 := wr64 4 (by decide) (by decide)
 unfold Ret
 rw [WF_body (C := X) rfl func101 rfl (by kernel_rfl)]; simp only [results101]
 simp only [encS, List.map_cons, List.map_nil]
 have h0 := fun σ hσ => hx lim (d + 1) σ hσ
 simp -implicitDefEqProofs -dsimp only [go_sem]
 rw [WL_h]
 simp -implicitDefEqProofs -dsimp only [go_sem]
 refine (h0 _ (by simp only [u_tick, u_mine]; exact hun)).wh ?_
 simp -implicitDefEqProofs -dsimp only [go_sem, x1, Int.zero_add, z1]
 rw [WL_h]
 simp -implicitDefEqProofs -dsimp only [go_sem]
 refine (h0 _ (by simp only [u_tick, u_mine]; exact hun)).wh ?_
 simp -implicitDefEqProofs -dsimp only [go_sem, x2, z2]
 rw [WL_h]
 simp -implicitDefEqProofs -dsimp only [go_sem]
 refine (h0 _ (by simp only [u_tick, u_mine]; exact hun)).wh ?_
 simp -implicitDefEqProofs -dsimp only [go_sem, x3, z3]
 rw [WL_h]
 simp -implicitDefEqProofs -dsimp only [go_sem]
 refine (h0 _ (by simp only [u_tick, u_mine]; exact hun)).wh ?_
 simp -implicitDefEqProofs -dsimp only [go_sem, x4, z4]
 rw [WL_h]
 simp -implicitDefEqProofs -dsimp only [go_sem, cut_und _ _ hu]
theorem w521k {S : List Int} (hS : okW S) (lim d : Nat) (σ : Sto) (hu : σ.Und d) : WF X lim d 101 [.agg (encS S)] σ fun v s => (∃ y, v = .int .i64 y ∧ (y = 0 → ∃ c, c < 256 ∧ hasB (notS S) c = true) ∧ (y ≠ 0 → ∃ c, c < 256 ∧ hasB S c = true)) ∧ s = σ := by
 have hz : ∀ T : List Int, okW T → (∃ c, c < 256 ∧ hasB T c = true) ∨ T = [0, 0, 0, 0] := fun T hT => by
  by_cases h : ∃ c, c < 256 ∧ hasB T c = true
  ·exact .inl h
  ·exact .inr (set_zero hT fun c hc => by
    cases e : hasB T c
    ·rfl
    ·exact absurd ⟨c, hc, e⟩ h)
 rcases hz S hS with h1 | rfl
 ·rcases hz (notS S) (okW_not hS) with h2 | h2
  ·refine WF.mono (w521 S hS.1 lim d σ hu) fun v s e => ?_
   obtain ⟨⟨y, rfl⟩, rfl⟩ := e
   exact ⟨⟨y, rfl, fun _ => h2, fun _ => h1⟩, rfl⟩
  ·have hf := set_full hS fun c hc => by
    rw [h2]
    unfold hasB
    have : ([0, 0, 0, 0] : List Int)[c / 64]?.getD 0 = 0 := by
     have hc : c / 64 < 4 := by omega
     match c / 64, hc with
     | 0, _ => rfl
     | 1, _ => rfl
     | 2, _ => rfl
     | 3, _ => rfl
    rw [this]
    have := bitB_e 0 (by decide) (c % 64) (Nat.mod_lt _ (by decide))
    rw [Nat.zero_testBit] at this
    exact this
   subst hf
   refine WF.mono (w521c _ 64 w524o (by decide) (by decide) lim d σ hu) fun v s e => ?_
   obtain ⟨rfl, rfl⟩ := e
   exact ⟨⟨_, rfl, fun e => absurd e (by decide), fun _ => h1⟩, rfl⟩
 ·refine WF.mono (w521c 0 0 w524z (by decide) (by decide) lim d σ hu) fun v s e => ?_
  obtain ⟨rfl, rfl⟩ := e
  exact ⟨⟨_, rfl, fun _ => ⟨0, by decide, by decide +kernel⟩, fun e => absurd rfl e⟩, rfl⟩
def wrt (c : Nat) : List UInt8 := if c = 10 then [92, 110] else if c = 91 ∨ c = 93 ∨ c = 45 ∨ c = 94 ∨ c = 92 then [91, 46, UInt8.ofNat c, 46, 93] else [UInt8.ofNat c]
theorem byte_ten {c : Nat} (hc : c < 256) (h : c ≠ 10) : UInt8.ofNat c ≠ 10 := by
 intro e
 have := congrArg UInt8.toNat e
 simp at this
 omega
theorem byte_of_ne {c z : Nat} (hc : c < 256) (hz : z < 256) (h : c ≠ z) : UInt8.ofNat c ≠ UInt8.ofNat z := by
 intro e
 have := congrArg UInt8.toNat e
 simp at this
 omega
theorem wrt_un (c : Nat) (hc : c < 256) : Un (wrt c) := by
 unfold wrt
 split
 ·exact .pl _ (by decide) (by decide) (by decide) (.pl _ (by decide) (by decide) (by decide) .nil)
 ·rename_i h
  have h10 := byte_ten hc h
  split
  ·exact .sp _ h10 .nil
  ·rename_i h2
   simp only [not_or] at h2
   exact .pl _ (byte_of_ne hc (z := 91) (by decide) h2.1) (byte_of_ne hc (z := 93) (by decide) h2.2.1) h10 .nil
theorem w526 (c : Nat) (hc : c < 256) (lim d : Nat) (σ : Sto) (hu : σ.Und d) : Ret lim d 123 [.int .u8 c] σ (.str (wrt c)) σ := by
 have hun := und_succ hu
 unfold Ret
 rw [WF_body (C := X) rfl func123 rfl (by kernel_rfl)]; simp only [results123]
 have hb : ∀ z : Nat, ((c : Int) == (z : Int)) = decide (c = z) := fun z => by rw [Bool.eq_iff_iff]; simp; omega
 have b10 := hb 10
 have b91 := hb 91
 have b93 := hb 93
 have b45 := hb 45
 have b94 := hb 94
 have b92 := hb 92
 simp only [Int.cast_ofNat_Int] at b10 b91 b93 b45 b94 b92
 unfold wrt
 by_cases e0 : c = 10
 ·simp -implicitDefEqProofs -dsimp only [go_sem, e0, cut_und _ _ hu]
 by_cases e1 : c = 91
 ·simp -implicitDefEqProofs -dsimp only [go_sem, e1, true_or, Option.map_some, List.length_cons, List.length_nil, cut_und _ _ hu]
 by_cases e2 : c = 93
 ·simp -implicitDefEqProofs -dsimp only [go_sem, e2, true_or, or_true, Option.map_some, List.length_cons, List.length_nil, cut_und _ _ hu]
 by_cases e3 : c = 45
 ·simp -implicitDefEqProofs -dsimp only [go_sem, e3, true_or, or_true, Option.map_some, List.length_cons, List.length_nil, cut_und _ _ hu]
 by_cases e4 : c = 94
 ·simp -implicitDefEqProofs -dsimp only [go_sem, e4, true_or, or_true, Option.map_some, List.length_cons, List.length_nil, cut_und _ _ hu]
 by_cases e5 : c = 92
 ·simp -implicitDefEqProofs -dsimp only [go_sem, e5, or_true, Option.map_some, List.length_cons, List.length_nil, cut_und _ _ hu]
 simp -implicitDefEqProofs -dsimp only [go_sem, b10, e0, b91, e1, b93, e2, b45, e3, b94, e4, b92, e5, decide_false, false_or, Option.map_some, Int.toNat_natCast, List.length_cons, List.length_nil, cut_und _ _ hu]
def cw : Nat → Nat
 | 0 => 0
 | c + 1 => cw c + (wrt c).length
theorem cw_all : cw 256 = 277 := by kernel_rfl
theorem wrt_pos (c : Nat) : 1 ≤ (wrt c).length := by
 unfold wrt
 split
 ·decide
 ·split <;> simp
theorem wrt_le (c : Nat) : (wrt c).length ≤ 5 := by
 unfold wrt
 split
 ·decide
 ·split <;> simp
theorem WF.whm {lim d : Nat} {f : FuncId} {args : List MV} {σ : Sto} {Q P : MV → Sto → Prop} (h : WF X lim d f args σ Q) (hq : ∀ v s, Q v s → P v s) : WFh X lim d f args σ (TagF P) := WF.mono h hq
theorem un_dash {t : List UInt8} (h : Un t) : Un (45 :: t) := .pl _ (by decide) (by decide) (by decide) h
theorem wrt_ne {c : Nat} (hc : c < 256) : wrt c ≠ [] ∧ wrt c ≠ [94] := by
 have := wrt_pos c
 refine ⟨fun e => by rw [e] at this; exact absurd this (by decide), fun e => ?_⟩
 unfold wrt at e
 split at e
 ·exact absurd e (by decide)
 ·split at e
  ·simp at e
  ·rename_i h
   simp only [not_or] at h
   rw [List.cons.injEq] at e
   exact byte_of_ne hc (z := 94) (by decide) h.2.2.2.1 e.1
structure Rn (S : List Int) (c : Nat) (t : List UInt8) : Prop where
 un : Un t
 ne : t ≠ [94]
 no : t = [] → ∀ c', c' < c → hasB S c' = false
theorem Rn.add {S : List Int} {c c' : Nat} {t x : List UInt8} (h : Rn S c t) (hx : Un x) (h1 : x ≠ []) (h2 : x ≠ [94]) : Rn S c' (t ++ x) :=
 ⟨h.un.app hx, fun e => by
  cases t with
  | nil => exact h2 e
  | cons y t =>
   rw [List.cons_append, List.cons.injEq] at e
   exact h1 (List.append_eq_nil_iff.1 e.2).2, fun e => absurd (List.append_eq_nil_iff.1 e).2 h1⟩
theorem Rn.wr {S : List Int} {c c' d : Nat} {t : List UInt8} (h : Rn S c t) (hd : d < 256) : Rn S c' (t ++ wrt d) := h.add (wrt_un d hd) (wrt_ne hd).1 (wrt_ne hd).2
theorem Rn.da {S : List Int} {c c' d : Nat} {t : List UInt8} (h : Rn S c t) (hd : d < 256) : Rn S c' (t ++ 45 :: wrt d) := h.add (un_dash (wrt_un d hd)) (by simp) (fun e => by simp at e)
theorem Rn.sk {S : List Int} {c : Nat} {t : List UInt8} (h : Rn S c t) (hb : hasB S c = false) : Rn S (c + 1) t := ⟨h.un, h.ne, fun e c' hc => by
 rcases Nat.lt_or_ge c' c with q | q
 ·exact h.no e c' q
 ·rw [show c' = c by omega]; exact hb⟩
def RetU (lim d : Nat) (f : FuncId) (args : List MV) (σ : Sto) (n : Nat) : Prop := WF X lim d f args σ fun v s => (∃ t, v = .str t ∧ Un t ∧ t ≠ [] ∧ t ≠ [94] ∧ t.length ≤ n) ∧ s = σ
theorem RetU.wh {lim d : Nat} {f : FuncId} {args : List MV} {σ : Sto} {n : Nat} (h : RetU lim d f args σ n) {P : MV → Sto → Prop} (hq : ∀ t, Un t → t ≠ [] → t ≠ [94] → t.length ≤ n → P (.str t) σ) : WFh X lim d f args σ (TagF P) :=
 WF.mono h fun v s e => by obtain ⟨⟨t, rfl, h1, h2, h3, h4⟩, rfl⟩ := e; exact hq t h1 h2 h3 h4
def RetP (lim d : Nat) (f : FuncId) (args : List MV) (σ : Sto) (n : Nat) : Prop := WF X lim d f args σ fun v s => (∃ t m, v = .str t ∧ Pc t m ∧ m ≤ n) ∧ s = σ
theorem RetP.wh {lim d : Nat} {f : FuncId} {args : List MV} {σ : Sto} {n : Nat} (h : RetP lim d f args σ n) {P : MV → Sto → Prop} (hq : ∀ t m, Pc t m → m ≤ n → t.length ≤ m → P (.str t) σ) : WFh X lim d f args σ (TagF P) :=
 WF.mono h fun v s e => by obtain ⟨⟨t, m, rfl, h1, h2⟩, rfl⟩ := e; exact hq t m h1 h2 h1.len
theorem cw_le {a b : Nat} (h : a ≤ b) : cw a ≤ cw b := by
 induction b with
 | zero => rw [Nat.le_zero.1 h]; exact Nat.le_refl _
 | succ b ih =>
  rcases Nat.lt_or_ge b a with h1 | h1
  ·rw [show a = b + 1 by omega]; exact Nat.le_refl _
  ·have := ih h1
   simp only [cw]
   omega
structure RunI (σ : Sto) (d : Nat) (S : List Int) (c : Nat) (m : Nat → MV) (s' : Sto) : Prop where
 h3 : m 3 = .ptr (BL d (σ.ct d + 1)) 0
 h1 : m 1 = .ptr ⟨d, 1, σ.ct d⟩ 0
 o1 : s'.ob ⟨d, 1, σ.ct d⟩ = some (encS S)
 sb : SB d (BL d (σ.ct d + 1)) σ s'
 un : s'.Und (d + 1)
 bs : ∃ t, BS s' (BL d (σ.ct d + 1)) t ∧ Rn S c t ∧ t.length ≤ cw c
theorem BL_ne (d c : Nat) : (⟨d, 1, c⟩ : Mv.Loc) ≠ BL d (c + 1) := fun e => by have := congrArg Mv.Loc.c e; simp [BL] at this
theorem w522 (S : List Int) (hS : S.length = 4) (hne : ∃ c, c < 256 ∧ hasB S c = true) (lim d : Nat) (σ : Sto) (hlim : lim ≤ d) (hu : σ.Und d) : RetU lim d 102 [.agg (encS S)] σ 277 := by
 have hun := und_succ hu
 have hH := fun c hc σ hσ => w525 S hS c hc lim (d + 1) σ hσ
 have hW := fun c hc σ hσ => w526 c hc lim (d + 1) σ hσ
 have hiB : isB (BL d (σ.ct d + 1)) = true := by simp [isB, BL]
 have h255 := cw_le (show 256 ≤ 256 by omega)
 have hall := cw_all
 unfold RetU
 rw [WF_body (C := X) rfl func102 rfl (by kernel_rfl)]; simp only [results102]
 simp -implicitDefEqProofs -dsimp only [go_sem]
 refine loop_h (I := fun k m s' => ∃ c : Nat, c + k = 256 ∧ m 4 = .int .i64 c ∧ RunI σ d S c m s') ?_ 256 _ _ ?_
 ·rintro k m s' ⟨c, hk, h4, h3, h1, o1, sb, un, t, bs, nl, tl⟩
  cases k with
  | zero =>
   have e1 : ¬ ((c : Int) < 256) := by omega
   simp -implicitDefEqProofs -dsimp only [go_sem, h4, h3, e1]
   refine w503 bs (by simp only [BL]; exact hlim) (by simp only [BL]; omega) (by have := cw_le (show c ≤ 256 by omega); omega) fun s hs => ?_
   have hcw := cw_le (show c ≤ 256 by omega)
   simp -implicitDefEqProofs -dsimp only [go_sem]
   refine ⟨⟨t, rfl, nl.un, fun e => ?_, nl.ne, by omega⟩, (sb.trans hs).back hu (Nat.le_refl _)⟩
   obtain ⟨z, hz, hz2⟩ := hne
   rw [nl.no e z (by omega)] at hz2
   exact absurd hz2 Bool.false_ne_true
  | succ k =>
   have e1 : ((c : Int) < 256) := by omega
   have hc : c < 256 := by omega
   have hu8 := wru8 (c : Int) (by omega) (by omega)
   have x1 : IntKind.i64.wrap ((c : Int) + 1) = ((c + 1 : Nat) : Int) := by rw [wr64 _ (by omega) (by omega)]; omega
   simp -implicitDefEqProofs -dsimp only [go_sem, h4, h1, o1, e1, hu8, hS, encS_take S hS]
   refine (hH c hc _ un).wh ?_
   cases hb : hasB S c
   ·simp -implicitDefEqProofs -dsimp only [go_sem, h4, x1]
    exact ⟨k, by omega, c + 1, by omega, rfl, h3, h1, o1, sb, un, t, bs, nl.sk hb, Nat.le_trans tl (cw_le (by omega))⟩
   ·simp -implicitDefEqProofs -dsimp only [go_sem, h4]
    refine loop_h (I := fun k m s' => ∃ c' : Nat, c ≤ c' ∧ c' + k = 255 ∧ m 4 = .int .i64 c' ∧ m 5 = .int .i64 c ∧ RunI σ d S c m s') ?_ (255 - c) _ _ ?_
    ·rintro k' m s' ⟨c', hcc, hk', h4, h5, h3, h1, o1, sb, un, t, bs, nl, tl⟩
     have hx3 : IntKind.i64.wrap ((c' : Int) + 1) = ((c' + 1 : Nat) : Int) := by rw [wr64 _ (by omega) (by omega)]; omega
     have x3 := hx3
     have hu9' : IntKind.u8.wrap (c' : Int) = c' := wru8 _ (by omega) (by omega)
     have hwc := wrt_le c
     have hwc' := wrt_le c'
     have hwl : 1 + (wrt c').length ≤ 9223372036854775807 := by omega
     have hcb := cw_le (show c ≤ 256 by omega)
     by_cases hlt : c' < 255
     ·have e2 : ((c' : Int) < 255) := by omega
      have hu9 : IntKind.u8.wrap ((c' + 1 : Nat) : Int) = ((c' + 1 : Nat) : Int) := wru8 _ (by omega) (by omega)
      have x2 : IntKind.i64.wrap ((c' : Int) + 1) = ((c' + 1 : Nat) : Int) := by rw [wr64 _ (by omega) (by omega)]; omega
      simp -implicitDefEqProofs -dsimp only [go_sem, h4, h1, o1, e2, x2, hu9, hS, encS_take S hS]
      refine (hH (c' + 1) (by omega) _ un).wh ?_
      cases hasB S (c' + 1)
      ·simp -implicitDefEqProofs -dsimp only [go_sem, h5, hu8]
       refine (hW c hc _ un).wh ?_
       simp -implicitDefEqProofs -dsimp only [go_sem, h3]
       refine w501 bs (by simp only [BL]; exact hlim) (by simp only [BL]; omega) hiB un (by omega) fun s1 v1 bs1 sb1 un1 => ?_
       have nl1 : ∀ z, Rn S z (t ++ wrt c) := fun z => nl.wr hc
       have o11 : s1.ob ⟨d, 1, σ.ct d⟩ = some (encS S) := by rw [sb1.ob _ (Nat.lt_succ_self d) (BL_ne d _)]; exact o1
       by_cases z0 : c' = c
       ·have s0 : IntKind.i64.wrap ((c' : Int) - (c : Int)) = 0 := by rw [wr64 _ (by omega) (by omega)]; omega
        simp -implicitDefEqProofs -dsimp only [go_sem, h4, h5, s0, x3, beq_self_eq_true]
        exact ⟨255 - c', by omega, c' + 1, by omega, rfl, h3, h1, o11, sb.trans (sb1.le (Nat.le_succ d)), un1, _, bs1, nl1 _, by rw [List.length_append, z0]; simp only [cw]; omega⟩
       by_cases z1 : c' = c + 1
       ·have s0 : IntKind.i64.wrap ((c' : Int) - (c : Int)) = 1 := by rw [wr64 _ (by omega) (by omega)]; omega
        simp -implicitDefEqProofs -dsimp only [go_sem, h4, h5, s0, hu9', beq_self_eq_true, Int.reduceBEq]
        refine (hW c' (by omega) _ un1).wh ?_
        simp -implicitDefEqProofs -dsimp only [go_sem, h3]
        refine w501 bs1 (by simp only [BL]; exact hlim) (by simp only [BL]; omega) hiB un1 (by rw [List.length_append]; omega) fun s2 v2 bs2 sb2 un2 => ?_
        have o12 : s2.ob ⟨d, 1, σ.ct d⟩ = some (encS S) := by rw [sb2.ob _ (Nat.lt_succ_self d) (BL_ne d _)]; exact o11
        simp -implicitDefEqProofs -dsimp only [go_sem, h4, x3]
        exact ⟨255 - c', by omega, c' + 1, by omega, rfl, h3, h1, o12, (sb.trans (sb1.le (Nat.le_succ d))).trans (sb2.le (Nat.le_succ d)), un2, _, bs2, (nl1 c).wr (by omega), by rw [List.length_append, List.length_append, z1]; simp only [cw]; omega⟩
       ·have s0 : IntKind.i64.wrap ((c' : Int) - (c : Int)) = ((c' - c : Nat) : Int) := by rw [wr64 _ (by omega) (by omega)]; omega
        have b0 : (((c' - c : Nat) : Int) == 0) = false := by rw [beq_eq_false_iff_ne]; omega
        have b1 : (((c' - c : Nat) : Int) == 1) = false := by rw [beq_eq_false_iff_ne]; omega
        simp -implicitDefEqProofs -dsimp only [go_sem, h4, h5, s0, hu9', b0, b1]
        refine (hW c' (by omega) _ un1).wh ?_
        simp -implicitDefEqProofs -dsimp only [go_sem, h3, List.length_cons, List.length_nil, List.singleton_append, hwl]
        refine w501 bs1 (by simp only [BL]; exact hlim) (by simp only [BL]; omega) hiB un1 (by simp only [List.length_append, List.length_cons]; omega) fun s2 v2 bs2 sb2 un2 => ?_
        have o12 : s2.ob ⟨d, 1, σ.ct d⟩ = some (encS S) := by rw [sb2.ob _ (Nat.lt_succ_self d) (BL_ne d _)]; exact o11
        have hc2 : cw (c + 1 + 1) ≤ cw c' := cw_le (by omega)
        have hp := wrt_pos (c + 1)
        simp only [cw] at hc2
        simp -implicitDefEqProofs -dsimp only [go_sem, h4, x3]
        exact ⟨255 - c', by omega, c' + 1, by omega, rfl, h3, h1, o12, (sb.trans (sb1.le (Nat.le_succ d))).trans (sb2.le (Nat.le_succ d)), un2, _, bs2, (nl1 c).da (by omega), by simp only [List.length_append, cw, List.length_cons]; omega⟩
      ·simp -implicitDefEqProofs -dsimp only [go_sem, h5, h4, x2]
       exact ⟨k' - 1, by omega, c' + 1, by omega, by omega, rfl, h3, h1, o1, sb, un, t, bs, nl, tl⟩
     ·have e2 : ¬ ((c' : Int) < 255) := by omega
      simp -implicitDefEqProofs -dsimp only [go_sem, h4, e2, h5, hu8]
      refine (hW c hc _ un).wh ?_
      simp -implicitDefEqProofs -dsimp only [go_sem, h3]
      refine w501 bs (by simp only [BL]; exact hlim) (by simp only [BL]; omega) hiB un (by omega) fun s1 v1 bs1 sb1 un1 => ?_
      have nl1 : ∀ z, Rn S z (t ++ wrt c) := fun z => nl.wr hc
      have o11 : s1.ob ⟨d, 1, σ.ct d⟩ = some (encS S) := by rw [sb1.ob _ (Nat.lt_succ_self d) (BL_ne d _)]; exact o1
      by_cases z0 : c' = c
      ·have s0 : IntKind.i64.wrap ((c' : Int) - (c : Int)) = 0 := by rw [wr64 _ (by omega) (by omega)]; omega
       simp -implicitDefEqProofs -dsimp only [go_sem, h4, h5, s0, x3, beq_self_eq_true]
       exact ⟨255 - c', by omega, c' + 1, by omega, rfl, h3, h1, o11, sb.trans (sb1.le (Nat.le_succ d)), un1, _, bs1, nl1 _, by rw [List.length_append, z0]; simp only [cw]; omega⟩
      by_cases z1 : c' = c + 1
      ·have s0 : IntKind.i64.wrap ((c' : Int) - (c : Int)) = 1 := by rw [wr64 _ (by omega) (by omega)]; omega
       simp -implicitDefEqProofs -dsimp only [go_sem, h4, h5, s0, hu9', beq_self_eq_true, Int.reduceBEq]
       refine (hW c' (by omega) _ un1).wh ?_
       simp -implicitDefEqProofs -dsimp only [go_sem, h3]
       refine w501 bs1 (by simp only [BL]; exact hlim) (by simp only [BL]; omega) hiB un1 (by rw [List.length_append]; omega) fun s2 v2 bs2 sb2 un2 => ?_
       have o12 : s2.ob ⟨d, 1, σ.ct d⟩ = some (encS S) := by rw [sb2.ob _ (Nat.lt_succ_self d) (BL_ne d _)]; exact o11
       simp -implicitDefEqProofs -dsimp only [go_sem, h4, x3]
       exact ⟨255 - c', by omega, c' + 1, by omega, rfl, h3, h1, o12, (sb.trans (sb1.le (Nat.le_succ d))).trans (sb2.le (Nat.le_succ d)), un2, _, bs2, (nl1 c).wr (by omega), by rw [List.length_append, List.length_append, z1]; simp only [cw]; omega⟩
      ·have s0 : IntKind.i64.wrap ((c' : Int) - (c : Int)) = ((c' - c : Nat) : Int) := by rw [wr64 _ (by omega) (by omega)]; omega
       have b0 : (((c' - c : Nat) : Int) == 0) = false := by rw [beq_eq_false_iff_ne]; omega
       have b1 : (((c' - c : Nat) : Int) == 1) = false := by rw [beq_eq_false_iff_ne]; omega
       simp -implicitDefEqProofs -dsimp only [go_sem, h4, h5, s0, hu9', b0, b1]
       refine (hW c' (by omega) _ un1).wh ?_
       simp -implicitDefEqProofs -dsimp only [go_sem, h3, List.length_cons, List.length_nil, List.singleton_append, hwl]
       refine w501 bs1 (by simp only [BL]; exact hlim) (by simp only [BL]; omega) hiB un1 (by simp only [List.length_append, List.length_cons]; omega) fun s2 v2 bs2 sb2 un2 => ?_
       have o12 : s2.ob ⟨d, 1, σ.ct d⟩ = some (encS S) := by rw [sb2.ob _ (Nat.lt_succ_self d) (BL_ne d _)]; exact o11
       have hc2 : cw (c + 1 + 1) ≤ cw c' := cw_le (by omega)
       have hp := wrt_pos (c + 1)
       simp only [cw] at hc2
       simp -implicitDefEqProofs -dsimp only [go_sem, h4, x3]
       exact ⟨255 - c', by omega, c' + 1, by omega, rfl, h3, h1, o12, (sb.trans (sb1.le (Nat.le_succ d))).trans (sb2.le (Nat.le_succ d)), un2, _, bs2, (nl1 c).da (by omega), by simp only [List.length_append, cw, List.length_cons]; omega⟩
    ·exact ⟨c, by omega, by omega, h4, rfl, h3, h1, o1, sb, un, t, bs, nl, tl⟩
 ·refine ⟨0, rfl, rfl, rfl, rfl, ?_, ((SB.refl d _ σ).set _).set _ |>.tick.tick, ?_, [], ⟨.nilp, .nil, ?_, rfl, .inl ⟨rfl, rfl⟩⟩, ⟨.nil, by simp, fun _ c' hc => absurd hc (Nat.not_lt_zero _)⟩, Nat.zero_le _⟩
  ·simp -implicitDefEqProofs -dsimp only [go_sem]
  ·simp only [u_tick, u_mine]; exact hun
  ·simp [Sto.set, Sto.tick, BL, bytesM]
theorem w520 (S : List Int) (hW : okW S) (lim d : Nat) (σ : Sto) (hlim : lim ≤ d) (hu : σ.Und d) : RetP lim d 78 [.agg (encS S)] σ 280 := by
 have hun := und_succ hu
 have hS := hW.1
 have hN := fun σ hσ => w76 S hS lim (d + 1) σ hσ
 have hR := fun h σ hσ => w522 S hS h lim (d + 1) σ (by omega) hσ
 have hR2 := fun h σ hσ => w522 (notS S) (by rw [notS_len]; exact hS) h lim (d + 1) σ (by omega) hσ
 have hu' : ((σ.set ⟨d, 1, σ.ct d⟩ (encS S)).tick d).Und (d + 1) := by simp only [u_tick, u_mine]; exact hun
 unfold RetP
 rw [WF_body (C := X) rfl func78 rfl (by kernel_rfl)]; simp only [results78]
 simp -implicitDefEqProofs -dsimp only [go_sem, hS, encS_take S hS]
 refine WF.whm (w521k hW lim (d + 1) _ hu') fun v s hv => ?_
 obtain ⟨⟨y, rfl, hy0, hy1⟩, rfl⟩ := hv
 cases hy : y == 0
 ·simp -implicitDefEqProofs -dsimp only [go_sem, hy, hS, encS_take S hS]
  refine (hR (hy1 (by simpa using hy)) _ hu').wh fun t h1 h2 h3 h4 => ?_
  have g1 : t.length + 1 ≤ 9223372036854775807 := by omega
  have g2 : 1 + t.length ≤ 9223372036854775807 := by omega
  simp -implicitDefEqProofs -dsimp only [go_sem, cut_und _ _ hu, List.length_cons, List.length_nil, g2]
  exact ⟨by omega, _, _, rfl, Pc.brk h1 h2 h3, by omega⟩
 ·simp -implicitDefEqProofs -dsimp only [go_sem, hy, hS, encS_take S hS]
  refine (hN _ hu').wh ?_
  simp -implicitDefEqProofs -dsimp only [go_sem]
  refine (hR2 (hy0 (by simpa using hy)) _ hu').wh fun t h1 h2 h3 h4 => ?_
  have g1 : t.length + 2 ≤ 9223372036854775807 := by omega
  have g2 : 2 + t.length ≤ 9223372036854775807 := by omega
  simp -implicitDefEqProofs -dsimp only [go_sem, cut_und _ _ hu, List.length_cons, List.length_nil, g2]
  exact ⟨by omega, _, _, rfl, Pc.brk (u := 94 :: t) (.pl _ (by decide) (by decide) (by decide) h1) (by simp) (fun e => h2 (by simpa using e)), by simp only [List.length_cons]; omega⟩
end Go.Proofs.Tryz.E
