/- Walks: what the functions compute. Walks: what the functions compute. Walks: what the functions compute. -/
import Derived.Test.YthmimamdpcmnmaaGreatDoorE35
import Derived.Test.YthmimamdpcmnmaaGreatDoorWE29
import Derived.Test.YthmimamdpcmnmaaGreatDoorWQ5
set_option linter.unusedVariables false
set_option linter.unusedSimpArgs false
/- The other reader: all of a pattern; any text is read, or refused. -/
namespace Go.Proofs.Tryz.E
open Go.Mv
set_option maxHeartbeats 4000000
set_option maxRecDepth 20000
section
variable {s : List UInt8} {k : Nat} {rec : Rd → Nd × Rd} (H : HR s k rec) (K : HQ s k rec)
include H K
theorem w22 (r : Rd) (hs : s.length ≤ 100000) (hr : r.at' ≤ s.length) (hb : r.bad = false) (h9 : r.g ≤ 9) (hk : 10 ≤ k + 1 + r.g) (p : Mv.Loc) (lim d : Nat) (hp : p.d < d) (hlim : lim ≤ p.d) (σ : Sto) (hu : σ.Und d) (ho : σ.ob p = some (encQ s r)) :
    Ret lim d 21 [.ptr p 0] σ (.agg (enc (wholeS s rec r).1)) (σ.set p (encQ s (wholeS s rec r).2)) := by
  have hun := und_succ hu
  have hne := ne_my hp
  have hmy := my_ne hp
  have hp1 := Nat.lt_succ_of_lt hp
  have hlim2 : lim ≤ d := by omega
  have hun1 : ∀ (t c : Nat) (cs : List MV), ((σ.set ⟨d, t, c⟩ cs).tick d).Und (d + 1) := fun t c cs => by simp only [u_tick, u_mine]; exact hun
  have hob1 : ∀ (t c : Nat) (cs : List MV), ((σ.set ⟨d, t, c⟩ cs).tick d).ob p = some (encQ s r) := fun t c cs => by simp only [go_sem, hne, if_false]; exact ho
  have hwi := wi_0 H hr hb h9 hk
  unfold Ret
  rw [WF_body (C := X) rfl Go.Proofs.Tryz.func21 rfl (by kernel_rfl)]; simp only [Go.Proofs.Tryz.results21]
  unfold wholeS
  simp -implicitDefEqProofs -dsimp only [↓reduceIte, ↓W_seq, go_sem, WR_nil, evNews, Nat.reduceEqDiff, Nat.reduceAdd, Nat.reduceMul, Nat.reduceLeDiff, Nat.reduceLT, Int.cast_ofNat_Int, Int.reduceBNe, Int.reduceToNat, Int.reduceLT, Int.reduceLE, Int.reduceAdd, Int.reduceNeg, Int.reduceEq, reduceCtorEq, enc]
  refine (w32 H K r hs hr hb h9 hk p lim (d + 1) hp1 hlim _ (hun1 ..) (hob1 ..)).wh ?_
  generalize branchS s rec (s.length + 1) [] r = x at hwi
  simp only
  simp -implicitDefEqProofs -dsimp only [↓reduceIte, ↓W_seq, go_sem, WR_nil, evNews, Nat.reduceEqDiff, Nat.reduceAdd, Nat.reduceMul, Nat.reduceLeDiff, Nat.reduceLT, Int.cast_ofNat_Int, Int.reduceBNe, Int.reduceToNat, Int.reduceLT, Int.reduceLE, Int.reduceAdd, Int.reduceNeg, Int.reduceEq, reduceCtorEq, enc, hmy, encs]
  refine loop_h (I := fun n a s' => ∃ (l : List Nd) (r2 : Rd), WI s r n l r2 ∧ moreS s rec n l r2 = moreS s rec (s.length + 1) [x.1] x.2 ∧ a 0 = .ptr p 0 ∧ a 2 = .ptr ⟨d, 2, σ.ct d⟩ 0 ∧ Own s' d (a 3) l ∧ s'.ob p = some (encQ s r2) ∧ (∃ z, s'.ob ⟨d, 2, σ.ct d⟩ = some z ∧ z.length = 10) ∧ s'.cut d = σ.set p (encQ s r2) ∧ s'.Und (d + 1)) ?_ (s.length + 1) _ _ ?_
  · rintro n a s' ⟨l, r2, b, hT, a0, a2, hO, hop, ⟨z, hz, hzl⟩, hcut, hus⟩
    obtain ⟨n, rfl⟩ : ∃ m, n = m + 1 := ⟨n - 1, by have := b.n1; omega⟩
    have b3 := b.in'
    rw [moreS] at hT
    have hput : ∀ x, putC z (enc x) 0 = enc x := fun x => putC_whole _ _ (by rw [hzl, enc_len])
    have hsl : szs l ≤ 1000000 := by
      cases hbb : r2.bad with
      | false => have := (b.good hbb).2; omega
      | true => have := (b.bad' hbb); omega
    have hop3 := hop
    rw [encQ_eq] at hop3
    simp -implicitDefEqProofs -dsimp only [↓reduceIte, ↓W_seq, go_sem, WR_nil, evNews, Nat.reduceEqDiff, Nat.reduceAdd, Nat.reduceMul, Nat.reduceLeDiff, Nat.reduceLT, Int.cast_ofNat_Int, Int.reduceBNe, Int.reduceToNat, Int.reduceLT, Int.reduceLE, Int.reduceAdd, Int.reduceNeg, Int.reduceEq, reduceCtorEq, enc, a0, hop3, ba_data]
    refine (h1 s r2 124 (by omega) b3 p lim (d + 1) hp1 s' hus hop).wh ?_
    cases h124 : r2.nx s == some 124
    · have h124' : ¬ r2.nx s = some 124 := by rw [beq_eq_false_iff_ne] at h124; exact h124
      rw [if_neg h124'] at hT
      rw [← hT]
      simp -implicitDefEqProofs -dsimp only [↓reduceIte, ↓W_seq, go_sem, WR_nil, evNews, Nat.reduceEqDiff, Nat.reduceAdd, Nat.reduceMul, Nat.reduceLeDiff, Nat.reduceLT, Int.cast_ofNat_Int, Int.reduceBNe, Int.reduceToNat, Int.reduceLT, Int.reduceLE, Int.reduceAdd, Int.reduceNeg, Int.reduceEq, reduceCtorEq, enc, own_arg hO]
      refine (w34 l hsl lim (d + 1) _ (by omega) hus).wh ?_
      simp -implicitDefEqProofs -dsimp only [↓reduceIte, ↓W_seq, go_sem, WR_nil, evNews, Nat.reduceEqDiff, Nat.reduceAdd, Nat.reduceMul, Nat.reduceLeDiff, Nat.reduceLT, Int.cast_ofNat_Int, Int.reduceBNe, Int.reduceToNat, Int.reduceLT, Int.reduceLE, Int.reduceAdd, Int.reduceNeg, Int.reduceEq, reduceCtorEq, enc, a2, hmy, hz, hzl, hput, hcut, cut_set _ _ _ _ hp]
    · have h124' := isS_nx h124
      rw [if_pos h124'] at hT
      obtain ⟨b1, b4, bi⟩ := wi_step H hk b h124'
      have x1 := wr64 ((r2.at' : Int) + 1) (by omega) (by omega)
      have hgo1 : [MV.str s, .int .i64 ((r2.at' : Int) + 1), .bool true, .int .i64 r2.g, .bool false] = encQ s (r2.go (r2.at' + 1)) := by rw [encQ_go s r2 _ b1]; rfl
      have hop2 := hop
      rw [encQ_good s r2 b1] at hop2
      simp -implicitDefEqProofs -dsimp only [↓reduceIte, ↓W_seq, go_sem, WR_nil, evNews, Nat.reduceEqDiff, Nat.reduceAdd, Nat.reduceMul, Nat.reduceLeDiff, Nat.reduceLT, Int.cast_ofNat_Int, Int.reduceBNe, Int.reduceToNat, Int.reduceLT, Int.reduceLE, Int.reduceAdd, Int.reduceNeg, Int.reduceEq, reduceCtorEq, enc, a0, hop2, x1, hp, hlim, hgo1]
      refine (w32 H K (r2.go (r2.at' + 1)) hs (by simp only [Rd.go]; omega) b1 b.g9 (by have := b.gm; simp only [Rd.go]; omega) p lim (d + 1) hp1 hlim _ (by rw [u_set _ _ _ _ hp1]; exact hus) (by simp only [go_sem, if_true])).wh ?_
      generalize branchS s rec (s.length + 1) [] (r2.go (r2.at' + 1)) = y at bi hT
      have hxz : szs (l ++ [y.1]) ≤ 1000000 := by
        have h1 := bi.in'
        cases hbb : y.2.bad with
        | false => have := (bi.good hbb).2; omega
        | true => have := (bi.bad' hbb); omega
      have hxl := len_le (l ++ [y.1])
      obtain ⟨v', s2, q1, q2, q3, q4, q5⟩ := app_own (P := X.P) (t := 25) (ys := [y.1]) (tk := .own d (s'.ct d)) slc_25 (own_tok (own_set hO p (encQ s y.2)) (some (1, 10))) (by simp at hxl ⊢; omega) hlim2 (und_tok (by rw [u_set _ _ _ _ hp1]; exact hus) _ _)
      simp only [encs, ct_set] at q1
      simp -implicitDefEqProofs -dsimp only [↓reduceIte, ↓W_seq, go_sem, WR_nil, evNews, Nat.reduceEqDiff, Nat.reduceAdd, Nat.reduceMul, Nat.reduceLeDiff, Nat.reduceLT, Int.cast_ofNat_Int, Int.reduceBNe, Int.reduceToNat, Int.reduceLT, Int.reduceLE, Int.reduceAdd, Int.reduceNeg, Int.reduceEq, reduceCtorEq, enc, q1, a0]
      refine ⟨n, Nat.lt_succ_self n, l ++ [y.1], y.2, bi, hT, a2, q2, ?_, ⟨z, ?_, hzl⟩, ?_, q4⟩
      · rw [q5]; simp only [go_sem, if_true]
      · rw [q5]; simp only [go_sem, hmy, if_false, hz]
      · rw [q3]; simp only [go_sem, cut_set _ _ _ _ hp, hcut]
  · refine ⟨[x.1], x.2, hwi, rfl, rfl, rfl, .inr ⟨σ.ct d + 1, rfl, ?_, ?_⟩, ?_, ⟨_, by simp only [go_sem, hmy, if_false, if_true]; rfl, rfl⟩, ?_, ?_⟩
    · simp only [go_sem, if_true, and_self]; first | done | rfl
    · simp only [go_sem]; first | done | omega
    · simp only [go_sem, hne, if_false, if_true]
    · simp only [go_sem, cut_set _ _ _ _ hp, cut_und _ _ hu]
    · simp only [u_tick, u_own, u_set _ _ _ _ hp1, u_mine]; exact hun
theorem hq_step (hs : s.length ≤ 100000) : HQ s (k + 1) (wholeS s rec) := fun r hb hr h9 hk lim d p σ hp hlim hu ho => w22 H K r hs hr hb h9 (by omega) p lim d hp hlim σ hu ho
end
theorem hq_par (s : List UInt8) (hs : s.length ≤ 100000) : ∀ k, HQ s k (parS s k)
  | 0 => fun r hb hr h9 hk => by omega
  | k + 1 => hq_step (hr_par s hs k) (hq_par s hs k) hs
theorem w9 (s : List UInt8) (hs : s.length ≤ 100000) (lim d : Nat) (hlim : lim ≤ d) (σ : Sto) (hu : σ.Und d) : Ret lim d 9 [.str s, .bool true] σ (parseV s) σ := by
  have hun := und_succ hu
  obtain ⟨G, -⟩ := hr_par s hs 10 ⟨0, 0, false⟩ rfl (by simp) (by simp) (by simp)
  have hw := hq_par s hs 10 ⟨0, 0, false⟩ rfl (by simp) (by simp) (by simp)
  unfold Ret parseV
  rw [parse_eq]
  rw [WF_body (C := X) rfl Go.Proofs.Tryz.func9 rfl (by kernel_rfl)]; simp only [Go.Proofs.Tryz.results9]
  simp -implicitDefEqProofs -dsimp only [↓reduceIte, ↓W_seq, go_sem, WR_nil, evNews, Nat.reduceEqDiff, Nat.reduceAdd, Nat.reduceMul, Nat.reduceLeDiff, Nat.reduceLT, Int.cast_ofNat_Int, Int.reduceBNe, Int.reduceToNat, Int.reduceLT, Int.reduceLE, Int.reduceAdd, Int.reduceNeg, Int.reduceEq, reduceCtorEq, enc]
  rw [show [MV.str s, MV.int .i64 0, MV.bool true, MV.int .i64 0, MV.bool false] = encQ s ⟨0, 0, false⟩ from rfl]
  refine (hw lim (d + 1) ⟨d, 12, σ.ct d + 1⟩ _ (Nat.lt_succ_self d) hlim ?_ ?_).wh ?_
  · simp only [u_tick, u_mine]; exact hun
  · simp only [go_sem, if_true]
  generalize parS s 10 ⟨0, 0, false⟩ = x at G
  obtain ⟨y, r⟩ := x
  have g2 := G.in'
  have hsz : sz y ≤ 1000000 := by
    cases hbb : r.bad with
    | false => have := (G.good hbb).2; simp only at this g2; omega
    | true => have := G.bad' hbb; simp only at this g2; omega
  simp only at g2 ⊢
  cases hbb : r.bad
  case true =>
    have hbd : encQ s r = [.str s, .int .i64 r.at', .bool true, .int .i64 r.g, .bool true] := by rw [encQ_eq, hbb]
    simp -implicitDefEqProofs -dsimp only [↓reduceIte, ↓W_seq, go_sem, WR_nil, evNews, Nat.reduceEqDiff, Nat.reduceAdd, Nat.reduceMul, Nat.reduceLeDiff, Nat.reduceLT, Int.cast_ofNat_Int, Int.reduceBNe, Int.reduceToNat, Int.reduceLT, Int.reduceLE, Int.reduceAdd, Int.reduceNeg, Int.reduceEq, reduceCtorEq, enc, hbd]
    rw [D_lx [.tmp 34] (by kernel_rfl) (by kernel_rfl)]; simp -implicitDefEqProofs -dsimp only [↓reduceIte, ↓W_seq, go_sem, WR_nil, evNews, Nat.reduceEqDiff, Nat.reduceAdd, Nat.reduceMul, Nat.reduceLeDiff, Nat.reduceLT, Int.cast_ofNat_Int, Int.reduceBNe, Int.reduceToNat, Int.reduceLT, Int.reduceLE, Int.reduceAdd, Int.reduceNeg, Int.reduceEq, reduceCtorEq, enc, List.takeWhile_cons, List.dropWhile_cons, List.takeWhile_nil, List.dropWhile_nil, isTail, evNews, List.mem_cons, List.not_mem_nil, or_false, false_or, not_false_eq_true, not_true_eq_false, decide_true, decide_false, Bool.not_true, Bool.not_false, if_true, if_false, forall_eq, forall_eq_or_imp, false_imp_iff, implies_true, ne_eq, ct_lt1, ct_lt2, ct_lt3, ct_lt4, ct_lt5]
    exact ⟨rfl, cut_und _ _ hu⟩
  case false =>
    have hgood := encQ_good s r hbb
    simp -implicitDefEqProofs -dsimp only [↓reduceIte, ↓W_seq, go_sem, WR_nil, evNews, Nat.reduceEqDiff, Nat.reduceAdd, Nat.reduceMul, Nat.reduceLeDiff, Nat.reduceLT, Int.cast_ofNat_Int, Int.reduceBNe, Int.reduceToNat, Int.reduceLT, Int.reduceLE, Int.reduceAdd, Int.reduceNeg, Int.reduceEq, reduceCtorEq, enc, hgood]
    refine (w23 s r ⟨d, 12, σ.ct d + 1⟩ lim (d + 1) (Nat.lt_succ_self d) _ ?_ ?_).wh ?_
    · simp only [u_tick, u_mine]; exact hun
    · simp only [go_sem, Nat.reduceEqDiff, and_false, false_and, if_false, if_true]; rw [hgood]
    by_cases hend : r.at' < s.length
    · have e1 : ¬ ((s.length : Int) ≤ (r.at' : Int)) := by omega
      have hnx : (r.nx s).isSome = true := by simp [Rd.nx, hbb, hend]
      have hbd : encQ s r.fail = [.str s, .int .i64 r.at', .bool true, .int .i64 r.g, .bool true] := rfl
      simp -implicitDefEqProofs -dsimp only [↓reduceIte, ↓W_seq, go_sem, WR_nil, evNews, Nat.reduceEqDiff, Nat.reduceAdd, Nat.reduceMul, Nat.reduceLeDiff, Nat.reduceLT, Int.cast_ofNat_Int, Int.reduceBNe, Int.reduceToNat, Int.reduceLT, Int.reduceLE, Int.reduceAdd, Int.reduceNeg, Int.reduceEq, reduceCtorEq, enc, e1]
      refine (w24 s r ⟨d, 12, σ.ct d + 1⟩ lim (d + 1) (Nat.lt_succ_self d) hlim _ ?_ ?_).wh ?_
      · simp only [u_tick, u_mine]; exact hun
      · simp only [go_sem, Nat.reduceEqDiff, and_false, false_and, if_false, if_true]; rw [hgood]
      simp -implicitDefEqProofs -dsimp only [↓reduceIte, ↓W_seq, go_sem, WR_nil, evNews, Nat.reduceEqDiff, Nat.reduceAdd, Nat.reduceMul, Nat.reduceLeDiff, Nat.reduceLT, Int.cast_ofNat_Int, Int.reduceBNe, Int.reduceToNat, Int.reduceLT, Int.reduceLE, Int.reduceAdd, Int.reduceNeg, Int.reduceEq, reduceCtorEq, enc, hbd]
      rw [D_lx [.tmp 34] (by kernel_rfl) (by kernel_rfl)]; simp -implicitDefEqProofs -dsimp only [↓reduceIte, ↓W_seq, go_sem, WR_nil, evNews, Nat.reduceEqDiff, Nat.reduceAdd, Nat.reduceMul, Nat.reduceLeDiff, Nat.reduceLT, Int.cast_ofNat_Int, Int.reduceBNe, Int.reduceToNat, Int.reduceLT, Int.reduceLE, Int.reduceAdd, Int.reduceNeg, Int.reduceEq, reduceCtorEq, enc, List.takeWhile_cons, List.dropWhile_cons, List.takeWhile_nil, List.dropWhile_nil, isTail, evNews, List.mem_cons, List.not_mem_nil, or_false, false_or, not_false_eq_true, not_true_eq_false, decide_true, decide_false, Bool.not_true, Bool.not_false, if_true, if_false, forall_eq, forall_eq_or_imp, false_imp_iff, implies_true, ne_eq, ct_lt1, ct_lt2, ct_lt3, ct_lt4, ct_lt5, hnx]
      exact ⟨rfl, cut_und _ _ hu⟩
    · have e1 : ((s.length : Int) ≤ (r.at' : Int)) := by omega
      have hnx : (r.nx s).isSome = false := by
        have : r.nx s = none := by simp [Rd.nx, hbb]; omega
        rw [this]; rfl
      simp -implicitDefEqProofs -dsimp only [↓reduceIte, ↓W_seq, go_sem, WR_nil, evNews, Nat.reduceEqDiff, Nat.reduceAdd, Nat.reduceMul, Nat.reduceLeDiff, Nat.reduceLT, Int.cast_ofNat_Int, Int.reduceBNe, Int.reduceToNat, Int.reduceLT, Int.reduceLE, Int.reduceAdd, Int.reduceNeg, Int.reduceEq, reduceCtorEq, enc, e1]
      refine (w25 y hsz lim (d + 1) _ (by omega) ?_).wh ?_
      · simp only [u_tick, u_mine]; exact hun
      cases formedB y
      · simp -implicitDefEqProofs -dsimp only [↓reduceIte, ↓W_seq, go_sem, WR_nil, evNews, Nat.reduceEqDiff, Nat.reduceAdd, Nat.reduceMul, Nat.reduceLeDiff, Nat.reduceLT, Int.cast_ofNat_Int, Int.reduceBNe, Int.reduceToNat, Int.reduceLT, Int.reduceLE, Int.reduceAdd, Int.reduceNeg, Int.reduceEq, reduceCtorEq, enc, z0, encs, cut_und _ _ hu, hnx]
      · simp -implicitDefEqProofs -dsimp only [↓reduceIte, ↓W_seq, go_sem, WR_nil, evNews, Nat.reduceEqDiff, Nat.reduceAdd, Nat.reduceMul, Nat.reduceLeDiff, Nat.reduceLT, Int.cast_ofNat_Int, Int.reduceBNe, Int.reduceToNat, Int.reduceLT, Int.reduceLE, Int.reduceAdd, Int.reduceNeg, Int.reduceEq, reduceCtorEq, enc, cut_und _ _ hu, hnx]
end Go.Proofs.Tryz.E
set_option linter.unusedVariables false
set_option linter.unusedSimpArgs false
/- What is read of a text: its size; awake. -/
namespace Go.Proofs.Tryz.E
open Go.Mv
set_option maxHeartbeats 4000000
set_option maxRecDepth 20000
theorem parse_sz (s : List UInt8) (hs : s.length ≤ 100000) : sz (parseS s).1 ≤ 1000000 := by
  obtain ⟨G, -⟩ := hr_par s hs 10 ⟨0, 0, false⟩ rfl (by simp) (by simp) (by simp)
  rw [parse_eq]
  generalize parS s 10 ⟨0, 0, false⟩ = x at G
  have g2 := G.in'
  have hsz : sz x.1 ≤ 1000000 := by
    cases hbb : x.2.bad with
    | false => have := (G.good hbb).2; simp only at this g2; omega
    | true => have := G.bad' hbb; simp only at this g2; omega
  split
  · simp [sz_z0]
  · split
    · exact hsz
    · simp [sz_z0]
theorem parse_formed (s : List UInt8) (h : (parseS s).2.2 = 0) : formedB (parseS s).1 = true := by
  rw [parse_eq] at h ⊢
  split
  · rename_i h1; rw [if_pos h1] at h; cases h
  · rename_i h1
    rw [if_neg h1] at h
    split
    · assumption
    · rename_i h2; rw [if_neg h2] at h; cases h
theorem wake_err : (parseS [97, 124, 98]).2.2 = 0 := by decide +kernel
theorem wake_kind : (parseS [97, 124, 98]).1.kind = 9 := by decide +kernel
theorem parse_sz8 (s : List UInt8) (hs : s.length ≤ 100000) : sz (parseS s).1 ≤ 8 * s.length + 3 := by
  obtain ⟨G, -⟩ := hr_par s hs 10 ⟨0, 0, false⟩ rfl (by simp) (by simp) (by simp)
  rw [parse_eq]
  generalize parS s 10 ⟨0, 0, false⟩ = x at G
  have g2 := G.in'
  have hsz : sz x.1 ≤ 8 * s.length + 3 := by
    cases hbb : x.2.bad with
    | false => have := (G.good hbb).2; simp only at this g2; omega
    | true => have := G.bad' hbb; simp only at this g2; omega
  split
  · simp [sz_z0]
  · split
    · exact hsz
    · simp [sz_z0]
@[go_sem] theorem cvt_by (tk : Tok) (n : Int) : cvtO X.P 64 9 (.sl tk [[.int .u8 n]]) = some (.str [UInt8.ofNat n.toNat]) := by
  have h1 : X.P.underlying 64 = some (.slice 5) := by kernel_rfl
  have h2 : X.P.underlying 9 = some .string := by kernel_rfl
  have h3 : X.P.underlying 5 = some (.int .u8) := by kernel_rfl
  simp only [cvtO, h1, h2, h3, bytesOf, Option.map_some]
end Go.Proofs.Tryz.E
set_option linter.unusedVariables false
set_option linter.unusedSimpArgs false
/- An extended pattern, written. -/
namespace Go.Proofs.Tryz.E
open Go.Mv
set_option maxHeartbeats 4000000
set_option maxRecDepth 20000
def extY : Sty := ⟨[40], [41], [123], [125], [46, 91, 93, 40, 41, 42, 43, 63, 123, 125, 124, 94, 36, 92]⟩
theorem extY_ok : OkY extY := by
  constructor <;> exact ⟨noNl_one (by decide), by simp [extY]⟩
theorem w515 (lim d : Nat) (σ : Sto) (hu : σ.Und d) : Ret lim d 14 [] σ (.agg (encY extY)) σ := by
  unfold Ret
  rw [WF_body (C := X) rfl Go.Proofs.Tryz.func14 rfl (by kernel_rfl)]; simp only [Go.Proofs.Tryz.results14]
  simp -implicitDefEqProofs -dsimp only [↓reduceIte, ↓W_seq, go_sem, WR_nil, evNews, Nat.reduceEqDiff, Nat.reduceAdd, Nat.reduceMul, Nat.reduceLeDiff, Nat.reduceLT, Int.cast_ofNat_Int, Int.reduceBNe, Int.reduceToNat, Int.reduceLT, Int.reduceLE, Int.reduceAdd, Int.reduceNeg, Int.reduceEq, reduceCtorEq, enc, extY, cut_und _ _ hu]
/-- What Extended tells of a tree. -/
def ExtV (x : Nd) (v : MV) : Prop :=
  (formedB x = false ∧ v = printV [] 1) ∨ (formedB x = true ∧ v = printV [] 10) ∨
  ∃ t, formedB x = true ∧ v = printV t 0 ∧ noNl t ∧ t.length ≤ 300 * sz x ∧ (parseS t).2.2 = 0 ∧ sameB (parseS t).1 x = true
theorem w514 (x : Nd) (hx : okc x) (hsz : sz x ≤ 1000000) (lim d : Nat) (σ : Sto) (hlim : lim ≤ d) (hu : σ.Und d) : WF X lim d 6 [.agg (enc x)] σ fun v s => ExtV x v ∧ s = σ := by
  have hun := und_succ hu
  obtain ⟨kd, c, s0, s1, s2, s3, n, mn, mx, l⟩ := x
  have h12 := w12 (.mk kd c s0 s1 s2 s3 n mn mx l) hsz lim (d + 1)
  rw [WF_body (C := X) rfl Go.Proofs.Tryz.func6 rfl (by kernel_rfl)]; simp only [Go.Proofs.Tryz.results6]
  simp -implicitDefEqProofs -dsimp only [↓reduceIte, ↓W_seq, go_sem, WR_nil, evNews, Nat.reduceEqDiff, Nat.reduceAdd, Nat.reduceMul, Nat.reduceLeDiff, Nat.reduceLT, Int.cast_ofNat_Int, Int.reduceBNe, Int.reduceToNat, Int.reduceLT, Int.reduceLE, Int.reduceAdd, Int.reduceNeg, Int.reduceEq, reduceCtorEq, enc]
  refine (h12 _ (by omega) (by simp only [u_tick, u_mine]; exact hun)).wh ?_
  cases hf : formedB (.mk kd c s0 s1 s2 s3 n mn mx l)
  · simp -implicitDefEqProofs -dsimp only [↓reduceIte, ↓W_seq, go_sem, WR_nil, evNews, Nat.reduceEqDiff, Nat.reduceAdd, Nat.reduceMul, Nat.reduceLeDiff, Nat.reduceLT, Int.cast_ofNat_Int, Int.reduceBNe, Int.reduceToNat, Int.reduceLT, Int.reduceLE, Int.reduceAdd, Int.reduceNeg, Int.reduceEq, reduceCtorEq, enc, hf, cut_und _ _ hu]
    exact .inl ⟨hf, rfl⟩
  · have hf' := hf
    simp only [formedB, Bool.and_eq_true, decide_eq_true_eq] at hf'
    have hc := cnt_sz _ hsz
    have hwf := wf_of _ _ _ hx hf'.2
    have hs2 : sz (.mk kd c s0 s1 s2 s3 n mn mx l) ≤ 200 := by omega
    simp -implicitDefEqProofs -dsimp only [↓reduceIte, ↓W_seq, go_sem, WR_nil, evNews, Nat.reduceEqDiff, Nat.reduceAdd, Nat.reduceMul, Nat.reduceLeDiff, Nat.reduceLT, Int.cast_ofNat_Int, Int.reduceBNe, Int.reduceToNat, Int.reduceLT, Int.reduceLE, Int.reduceAdd, Int.reduceNeg, Int.reduceEq, reduceCtorEq, enc, hf]
    rw [D_dr (by kernel_rfl) rfl]
    simp -implicitDefEqProofs -dsimp only [↓reduceIte, ↓W_seq, go_sem, WR_nil, evNews, Nat.reduceEqDiff, Nat.reduceAdd, Nat.reduceMul, Nat.reduceLeDiff, Nat.reduceLT, Int.cast_ofNat_Int, Int.reduceBNe, Int.reduceToNat, Int.reduceLT, Int.reduceLE, Int.reduceAdd, Int.reduceNeg, Int.reduceEq, reduceCtorEq, enc]
    have hu1 : ∀ cs, ((σ.set ⟨d, 1, σ.ct d⟩ cs).tick d).Und (d + 1) := fun cs => by simp only [u_tick, u_mine]; exact hun
    refine (w515 (d + 1) (d + 1) _ (hu1 _)).wh ?_
    simp -implicitDefEqProofs -dsimp only [↓reduceIte, ↓W_seq, go_sem, WR_nil, evNews, Nat.reduceEqDiff, Nat.reduceAdd, Nat.reduceMul, Nat.reduceLeDiff, Nat.reduceLT, Int.cast_ofNat_Int, Int.reduceBNe, Int.reduceToNat, Int.reduceLT, Int.reduceLE, Int.reduceAdd, Int.reduceNeg, Int.reduceEq, reduceCtorEq, enc]
    refine (w516 extY extY_ok _ hwf (by omega) (d + 1) (d + 1) _ (Nat.le_refl _) (hu1 _)).wh fun t h1 h2 => ?_
    simp -implicitDefEqProofs -dsimp only [↓reduceIte, ↓W_seq, go_sem, WR_nil, evNews, Nat.reduceEqDiff, Nat.reduceAdd, Nat.reduceMul, Nat.reduceLeDiff, Nat.reduceLT, Int.cast_ofNat_Int, Int.reduceBNe, Int.reduceToNat, Int.reduceLT, Int.reduceLE, Int.reduceAdd, Int.reduceNeg, Int.reduceEq, reduceCtorEq, enc]
    refine (w8 t (by omega) lim (d + 1) (by omega) _ (hu1 _)).wh ?_
    unfold parseV
    have hz := parse_sz t (by omega)
    generalize hP : parseS t = P at hz
    obtain ⟨m, at', e⟩ := P
    simp only at hz ⊢
    have h16 := w16g m hz (.mk kd c s0 s1 s2 s3 n mn mx l) lim (d + 1)
    cases he : e != 0
    · simp -implicitDefEqProofs -dsimp only [↓reduceIte, ↓W_seq, go_sem, WR_nil, evNews, Nat.reduceEqDiff, Nat.reduceAdd, Nat.reduceMul, Nat.reduceLeDiff, Nat.reduceLT, Int.cast_ofNat_Int, Int.reduceBNe, Int.reduceToNat, Int.reduceLT, Int.reduceLE, Int.reduceAdd, Int.reduceNeg, Int.reduceEq, reduceCtorEq, enc, he]
      refine (h16 _ (by omega) (by simp only [u_tick, u_mine]; exact hun)).wh ?_
      have he' : e = 0 := by simpa using he
      subst he'
      cases hs : sameB m (.mk kd c s0 s1 s2 s3 n mn mx l)
      · simp -implicitDefEqProofs -dsimp only [↓reduceIte, ↓W_seq, go_sem, WR_nil, evNews, Nat.reduceEqDiff, Nat.reduceAdd, Nat.reduceMul, Nat.reduceLeDiff, Nat.reduceLT, Int.cast_ofNat_Int, Int.reduceBNe, Int.reduceToNat, Int.reduceLT, Int.reduceLE, Int.reduceAdd, Int.reduceNeg, Int.reduceEq, reduceCtorEq, enc, hs, he, cut_und _ _ hu]
        exact .inr (.inl ⟨hf, rfl⟩)
      · simp -implicitDefEqProofs -dsimp only [↓reduceIte, ↓W_seq, go_sem, WR_nil, evNews, Nat.reduceEqDiff, Nat.reduceAdd, Nat.reduceMul, Nat.reduceLeDiff, Nat.reduceLT, Int.cast_ofNat_Int, Int.reduceBNe, Int.reduceToNat, Int.reduceLT, Int.reduceLE, Int.reduceAdd, Int.reduceNeg, Int.reduceEq, reduceCtorEq, enc, hs, he, cut_und _ _ hu]
        exact .inr (.inr ⟨t, hf, rfl, h1, h2, by rw [hP], by rw [hP]; exact hs⟩)
    · simp -implicitDefEqProofs -dsimp only [↓reduceIte, ↓W_seq, go_sem, WR_nil, evNews, Nat.reduceEqDiff, Nat.reduceAdd, Nat.reduceMul, Nat.reduceLeDiff, Nat.reduceLT, Int.cast_ofNat_Int, Int.reduceBNe, Int.reduceToNat, Int.reduceLT, Int.reduceLE, Int.reduceAdd, Int.reduceNeg, Int.reduceEq, reduceCtorEq, enc, he, cut_und _ _ hu]
      exact .inr (.inl ⟨hf, rfl⟩)
end Go.Proofs.Tryz.E
