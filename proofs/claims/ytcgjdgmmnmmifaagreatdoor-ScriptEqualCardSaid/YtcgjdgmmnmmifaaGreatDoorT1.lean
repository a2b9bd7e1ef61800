/- Walks: what the functions compute. -/
import Derived.Test.YtcgjdgmmnmmifaaGreatDoorT0
import Derived.Test.YtcgjdgmmnmmifaaGreatDoorA4
set_option linter.unusedVariables false
set_option linter.unusedSimpArgs false
/- Parts: the same as the package has them; alike. -/
namespace Go.Proofs.Tryz.E
open Go.Mv
set_option maxHeartbeats 4000000
set_option maxRecDepth 20000
theorem encPs_len (l : List Pt) : (encPs l).length = l.length := by simp [encPs]
theorem encPs_nil (l : List Pt) : encPs l = [] ↔ l = [] := by simp [encPs]
theorem encPs_okz (l : List Pt) : okz 2 (encPs l) = true := by
  simp only [okz, encPs, List.all_map, List.all_eq_true]
  intro p _
  rfl
theorem encPs_at {l : List Pt} {i : Nat} (h : i < l.length) : (encPs l)[i]? = some (encPt l[i]) := by
  rw [encPs, List.getElem?_map, List.getElem?_eq_getElem h]; rfl
theorem encPs_app (l l' : List Pt) : encPs (l ++ l') = encPs l ++ encPs l' := by simp [encPs]
/-- Parts that are being gathered. -/
def OwnP (s : Sto) (d : Nat) (v : MV) (acc : List Pt) : Prop := (v = .sl .nil [] ∧ acc = []) ∨ ∃ c, v = .sl (.own d c) (encPs acc) ∧ s.ow d c = some (acc.length, 2) ∧ c < s.ct d
theorem ownP_mono {s s' : Sto} {d : Nat} {v : MV} {acc : List Pt} (h : OwnP s d v acc) (e : ∀ c, c < s.ct d → s'.ow d c = s.ow d c) (k : s.ct d ≤ s'.ct d) : OwnP s' d v acc := by
  rcases h with h | ⟨c, h1, h2, h3⟩
  · exact .inl h
  · exact .inr ⟨c, h1, by rw [e c h3]; exact h2, Nat.lt_of_lt_of_le h3 k⟩
theorem ownP_tok {s : Sto} {d : Nat} {v : MV} {acc : List Pt} (h : OwnP s d v acc) (x : Option (Nat × Nat)) : OwnP ((s.own d (s.ct d) x).tick d) d v acc :=
  ownP_mono h (fun c hc => by simp only [Sto.tick, Sto.own]; rw [if_neg (by omega)]) (by simp [Sto.tick, Sto.own, upd])
theorem ownP_frz {s σ : Sto} {d d' : Nat} {v : MV} {acc : List Pt} (h : OwnP s d v acc) : v.frz σ d' = some (.sl .no (encPs acc)) := by
  rcases h with ⟨rfl, rfl⟩ | ⟨c, rfl, _, _⟩ <;> rfl
theorem ownP_res {s σ : Sto} {d d' : Nat} {v : MV} {acc : List Pt} (h : OwnP s d v acc) : v.res σ d' = some (.sl .no (encPs acc)) := by
  rcases h with ⟨rfl, rfl⟩ | ⟨c, rfl, _, _⟩ <;> rfl
theorem app_ownP {P : Program} {t e : TypeId} (ht : slc P t = some (e, 2, 24)) {s : Sto} {lim d : Nat} {v : MV} {acc : List Pt} {p : Pt} {tk : Tok} (h : OwnP s d v acc) (hl : acc.length ≤ 100000) (hlim : lim ≤ d) (hu : s.Und (d + 1)) :
    ∃ v' s', appO P lim d t s v (.sl tk [encPt p]) = some (v', s') ∧ OwnP s' d v' (acc ++ [p]) ∧ s'.cut d = s.cut d ∧ s'.Und (d + 1) ∧ s'.ob = s.ob := by
  have hd : [encPt p].mapM datas = some [encPt p] := rfl
  rcases h with ⟨rfl, rfl⟩ | ⟨c, rfl, ho, hlt⟩
  · refine ⟨.sl (.own d (s.ct d)) [encPt p], (s.own d (s.ct d) (some (1, 2))).tick d, ?_, .inr ⟨s.ct d, rfl, ?_, ?_⟩, ?_, und_tick (und_own hu (Nat.lt_succ_self d) _ _) (Nat.lt_succ_self d), rfl⟩
    · simp only [appO, ht]
      rw [if_neg (by simp), if_pos (by refine ⟨rfl, rfl, by decide, by decide, by simp⟩), hd]
      simp only [if_true]
      rfl
    · simp [Sto.tick, Sto.own]
    · simp [Sto.tick, Sto.own, upd]
    · simp only [cut_tick, cut_own]
  · refine ⟨.sl (.own d c) (encPs (acc ++ [p])), s.own d c (some (acc.length + 1, 2)), ?_, .inr ⟨c, rfl, ?_, hlt⟩, by rw [cut_own], und_own hu (Nat.lt_succ_self d) _ _, rfl⟩
    · simp only [appO, ht]
      rw [if_neg (by simp), if_pos (by refine ⟨encPs_okz acc, rfl, by decide, by decide, by rw [encPs_len]; simp; omega⟩), hd]
      simp only [encPs_len]
      rw [if_pos ⟨hlim, ho⟩, encPs_app]
      rfl
    · simp [Sto.own]
theorem slc_parts : slc X.P 41 = some (99, 2, 24) := by kernel_rfl
theorem w657 (ps : List Pt) (hl : ps.length ≤ 60) (lim d : Nat) (σ : Sto) (hlim : lim ≤ d) (hu : σ.Und d) : Ret lim d 35 [.sl .no (encPs ps)] σ (.sl .no (encPs ps)) σ := by
  have hun := und_succ hu
  unfold Ret
  rw [WF_body (C := X) rfl Go.Proofs.Tryz.func35 rfl (by kernel_rfl)]; simp only [Go.Proofs.Tryz.results35]
  simp -implicitDefEqProofs -dsimp only [↓reduceIte, ↓W_seq, go_sem, enc, encPs_len]
  refine loop_h (I := fun k a s => ∃ (i : Nat) (v : MV) (acc : List Pt), i + k = ps.length ∧ a 7 = .int .i64 i ∧ a 6 = .int .i64 ps.length ∧ a 0 = .sl .no (encPs ps) ∧ a 3 = v ∧ OwnP s d v acc ∧ acc ++ ps.drop i = ps ∧ s.cut d = σ ∧ s.Und (d + 1)) ?_ ps.length _ _ ?_
  · rintro k a s ⟨i, v, acc, hk, h7, h6, h0, h3, hO, hc, hs, hs2⟩
    have hal : acc.length = i := by
      have := congrArg List.length hc
      simp at this; omega
    by_cases hi : i < ps.length
    · have e1 : ((i : Int) < (ps.length : Int)) := by omega
      have y7 := wr64 ((i : Int) + 1) (by omega) (by omega)
      obtain ⟨v', s', q1, q2, q3, q4, q5⟩ := app_ownP (P := X.P) (t := 41) (p := ps[i]) (tk := .own d (s.ct d)) (lim := lim) slc_parts (ownP_tok hO (some (1, 2))) (by omega) hlim (und_tok hs2 _ _)
      unfold encPt at q1
      simp -implicitDefEqProofs -dsimp only [↓reduceIte, ↓W_seq, go_sem, enc, e1, h7, h6, h0, h3, encPs_at hi, encPt, q1]
      refine ⟨k - 1, by omega, i + 1, v', acc ++ [ps[i]], by omega, by rw [y7]; rfl, rfl, q2, ?_, ?_, q4⟩
      · rw [List.append_assoc, List.singleton_append, ← List.drop_eq_getElem_cons hi, hc]
      · rw [q3, cut_tick, cut_own, hs]
    · have e1 : ¬ ((i : Int) < (ps.length : Int)) := by omega
      rw [List.drop_eq_nil_of_le (by omega), List.append_nil] at hc
      subst hc
      simp -implicitDefEqProofs -dsimp only [↓reduceIte, ↓W_seq, go_sem, enc, e1, h7, h6, h0, h3, ownP_frz hO, ownP_res hO, hs]
  · refine ⟨0, .sl .nil [], [], Nat.zero_add _, ?_⟩
    simp -implicitDefEqProofs -dsimp only [↓reduceIte, ↓W_seq, go_sem, enc, cut_und _ _ hu, hun]
    exact .inl ⟨rfl, rfl⟩
@[go_sem] theorem bin_pt5 (a b : Int) (s t : List UInt8) : binO X.P X.eqT .neq 99 (.agg [.int .i64 a, .str s]) (.agg [.int .i64 b, .str t]) = some (.bool (!(a == b && (s == t && true)))) := rfl
@[go_sem] theorem bin_pt3 (a b : Int) (s t : List UInt8) : binO X.P X.eqT .neq 93 (.agg [.int .i64 a, .str s]) (.agg [.int .i64 b, .str t]) = some (.bool (!(a == b && (s == t && true)))) := rfl
theorem pt_eq (p q : Pt) : (p.1 == q.1 && p.2 == q.2) = decide (p = q) := by
  obtain ⟨a, s⟩ := p
  obtain ⟨b, t⟩ := q
  rw [Bool.eq_iff_iff]
  simp
theorem w661 (xs ys : List Pt) (hl : xs.length ≤ 1000000) (lim d : Nat) (σ : Sto) (hu : σ.Und d) : Ret lim d 32 [.sl .no (encPs xs), .sl .no (encPs ys)] σ (.bool (decide (xs = ys))) σ := by
  unfold Ret
  rw [WF_body (C := X) rfl Go.Proofs.Tryz.func32 rfl (by kernel_rfl)]; simp only [Go.Proofs.Tryz.results32]
  by_cases hlen : xs.length = ys.length
  rotate_left
  · have e0 : ((xs.length : Int) != (ys.length : Int)) = true := by rw [bne_iff_ne]; omega
    have e1 : decide (xs = ys) = false := decide_eq_false fun e => hlen (by rw [e])
    simp -implicitDefEqProofs -dsimp only [↓reduceIte, ↓W_seq, go_sem, enc, encPs_len, e0, e1, cut_und _ _ hu]
  have e0 : ((xs.length : Int) != (ys.length : Int)) = false := by rw [bne_eq_false_iff_eq]; omega
  simp -implicitDefEqProofs -dsimp only [↓reduceIte, ↓W_seq, go_sem, enc, encPs_len, e0]
  refine loop_h (I := fun k a s => ∃ (i : Nat), i + k = xs.length ∧ a 13 = .int .i64 i ∧ a 12 = .int .i64 xs.length ∧ a 0 = .sl .no (encPs xs) ∧ a 1 = .sl .no (encPs ys) ∧ xs.take i = ys.take i ∧ s = σ) ?_ xs.length _ _ ?_
  · rintro k a s ⟨i, hk, h13, h12, h0, h1, ht, rfl⟩
    by_cases hi : i < xs.length
    · have e1 : ((i : Int) < (xs.length : Int)) := by omega
      have y7 := wr64 ((i : Int) + 1) (by omega) (by omega)
      have hiy : i < ys.length := by omega
      simp -implicitDefEqProofs -dsimp only [↓reduceIte, ↓W_seq, go_sem, enc, e1, h13, h12, h0, h1]
      rw [D_dr (by kernel_rfl) rfl]
      have pe := pt_eq xs[i] ys[i]
      by_cases hq : xs[i] = ys[i]
      · rw [decide_eq_true hq] at pe
        simp -implicitDefEqProofs -dsimp only [↓reduceIte, ↓W_seq, go_sem, enc, e1, h13, h12, h0, h1, encPs_at hi, encPs_at hiy, encPt, pe, y7]
        refine ⟨k - 1, by omega, i + 1, by omega, rfl, ?_⟩
        rw [List.take_succ_eq_append_getElem hi, List.take_succ_eq_append_getElem hiy, ht, hq]
      · rw [decide_eq_false hq] at pe
        have e2 : decide (xs = ys) = false := decide_eq_false fun e => hq (by subst e; rfl)
        simp -implicitDefEqProofs -dsimp only [↓reduceIte, ↓W_seq, go_sem, enc, e1, h13, h12, h0, h1, encPs_at hi, encPs_at hiy, encPt, pe, e2, cut_und _ _ hu]
    · have e1 : ¬ ((i : Int) < (xs.length : Int)) := by omega
      have e2 : decide (xs = ys) = true := decide_eq_true (by rw [List.take_of_length_le (by omega), List.take_of_length_le (by omega)] at ht; exact ht)
      simp -implicitDefEqProofs -dsimp only [↓reduceIte, ↓W_seq, go_sem, enc, e1, e2, h13, h12, h0, h1, cut_und _ _ hu]
  · refine ⟨0, Nat.zero_add _, ?_⟩
    simp -implicitDefEqProofs -dsimp only [↓reduceIte, ↓W_seq, go_sem, enc, List.take_zero]
theorem w660 (xs ys : List Pt) (hl : xs.length ≤ 1000000) (lim d : Nat) (σ : Sto) (hu : σ.Und d) : Ret lim d 38 [.sl .no (encPs xs), .sl .no (encPs ys)] σ (.bool (decide (xs = ys))) σ := by
  unfold Ret
  rw [WF_body (C := X) rfl Go.Proofs.Tryz.func38 rfl (by kernel_rfl)]; simp only [Go.Proofs.Tryz.results38]
  by_cases hlen : xs.length = ys.length
  rotate_left
  · have e0 : ((xs.length : Int) != (ys.length : Int)) = true := by rw [bne_iff_ne]; omega
    have e1 : decide (xs = ys) = false := decide_eq_false fun e => hlen (by rw [e])
    simp -implicitDefEqProofs -dsimp only [↓reduceIte, ↓W_seq, go_sem, enc, encPs_len, e0, e1, cut_und _ _ hu]
  have e0 : ((xs.length : Int) != (ys.length : Int)) = false := by rw [bne_eq_false_iff_eq]; omega
  simp -implicitDefEqProofs -dsimp only [↓reduceIte, ↓W_seq, go_sem, enc, encPs_len, e0]
  refine loop_h (I := fun k a s => ∃ (i : Nat), i + k = xs.length ∧ a 13 = .int .i64 i ∧ a 12 = .int .i64 xs.length ∧ a 0 = .sl .no (encPs xs) ∧ a 1 = .sl .no (encPs ys) ∧ xs.take i = ys.take i ∧ s = σ) ?_ xs.length _ _ ?_
  · rintro k a s ⟨i, hk, h13, h12, h0, h1, ht, rfl⟩
    by_cases hi : i < xs.length
    · have e1 : ((i : Int) < (xs.length : Int)) := by omega
      have y7 := wr64 ((i : Int) + 1) (by omega) (by omega)
      have hiy : i < ys.length := by omega
      simp -implicitDefEqProofs -dsimp only [↓reduceIte, ↓W_seq, go_sem, enc, e1, h13, h12, h0, h1]
      rw [D_dr (by kernel_rfl) rfl]
      have pe := pt_eq xs[i] ys[i]
      by_cases hq : xs[i] = ys[i]
      · rw [decide_eq_true hq] at pe
        simp -implicitDefEqProofs -dsimp only [↓reduceIte, ↓W_seq, go_sem, enc, e1, h13, h12, h0, h1, encPs_at hi, encPs_at hiy, encPt, pe, y7]
        refine ⟨k - 1, by omega, i + 1, by omega, rfl, ?_⟩
        rw [List.take_succ_eq_append_getElem hi, List.take_succ_eq_append_getElem hiy, ht, hq]
      · rw [decide_eq_false hq] at pe
        have e2 : decide (xs = ys) = false := decide_eq_false fun e => hq (by subst e; rfl)
        simp -implicitDefEqProofs -dsimp only [↓reduceIte, ↓W_seq, go_sem, enc, e1, h13, h12, h0, h1, encPs_at hi, encPs_at hiy, encPt, pe, e2, cut_und _ _ hu]
    · have e1 : ¬ ((i : Int) < (xs.length : Int)) := by omega
      have e2 : decide (xs = ys) = true := decide_eq_true (by rw [List.take_of_length_le (by omega), List.take_of_length_le (by omega)] at ht; exact ht)
      simp -implicitDefEqProofs -dsimp only [↓reduceIte, ↓W_seq, go_sem, enc, e1, e2, h13, h12, h0, h1, cut_und _ _ hu]
  · refine ⟨0, Nat.zero_add _, ?_⟩
    simp -implicitDefEqProofs -dsimp only [↓reduceIte, ↓W_seq, go_sem, enc, List.take_zero]
end Go.Proofs.Tryz.E
