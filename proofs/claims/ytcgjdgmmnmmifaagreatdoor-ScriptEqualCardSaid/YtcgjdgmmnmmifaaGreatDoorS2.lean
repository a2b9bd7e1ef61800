/- Walks: what the functions compute. -/
import Derived.Test.YtcgjdgmmnmmifaaGreatDoorS1
set_option linter.unusedVariables false
set_option linter.unusedSimpArgs false
/- A script as the package has it; whether it is of a size that is looked at. -/
namespace Go.Proofs.Tryz.E
open Go.Mv
set_option maxHeartbeats 4000000
set_option maxRecDepth 20000
theorem whmS {lim d : Nat} {f : FuncId} {args : List MV} {σ : Sto} {Q P : MV → Sto → Prop} (h : WF X lim d f args σ Q) (hq : ∀ v s, Q v s → P v s) : WFh X lim d f args σ (TagF P) := WF.mono h hq
theorem w713 (q : Bool) (l : List It) (lim d : Nat) (σ : Sto) (hlim : lim ≤ d) (hu : σ.Und d) : WF X lim d 8 [.agg (encSc q l)] σ fun v s' => (∃ f : Bool, v = .bool f ∧ (f = true → l.length ≤ 60 ∧ ∀ x ∈ l, szC x.c)) ∧ s' = σ := by
  have hun := und_succ hu
  unfold encSc
  rw [WF_body (C := X) rfl Go.Proofs.Tryz.func8 rfl (by kernel_rfl)]; simp only [Go.Proofs.Tryz.results8]
  simp -implicitDefEqProofs -dsimp only [↓reduceIte, ↓W_seq, go_sem, enc]
  refine loop_h (I := fun k a s => ∃ (i : Nat), i + k = l.length ∧ i ≤ 60 ∧ a 7 = .int .i64 i ∧ a 6 = .int .i64 l.length ∧ a 1 = .ptr ⟨d, 1, σ.ct d⟩ 0 ∧ s.ob ⟨d, 1, σ.ct d⟩ = some [.bool q, .sl .no (encIs l)] ∧ (∀ x ∈ l.take i, szC x.c) ∧ s.cut d = σ ∧ s.Und (d + 1)) ?_ l.length _ _ ?_
  · rintro k a s ⟨i, hk, hi60, h7, h6, h1, o1, hz, hs, hs2⟩
    by_cases hi : i < l.length
    · have e1 : ((i : Int) < (l.length : Int)) := by omega
      have y7 := wr64 ((i : Int) + 1) (by omega) (by omega)
      by_cases h60 : 60 ≤ i
      · have e2 : ((60 : Int) ≤ (i : Int)) := by omega
        simp -implicitDefEqProofs -dsimp only [↓reduceIte, ↓W_seq, go_sem, enc, e1, e2, h7, h6, h1, o1, hs]
        exact ⟨false, rfl, fun q => by cases q⟩
      · have e2 : ¬ ((60 : Int) ≤ (i : Int)) := by omega
        simp -implicitDefEqProofs -dsimp only [↓reduceIte, ↓W_seq, go_sem, enc, e1, e2, h7, h6, h1, o1, encIs_at hi, List.drop_zero]
        refine whmS (w655 l[i].c lim (d + 1) _ (by omega) hs2) fun v s' he => ?_
        obtain ⟨⟨f, rfl, hf⟩, rfl⟩ := he
        cases f
        · simp -implicitDefEqProofs -dsimp only [↓reduceIte, ↓W_seq, go_sem, enc, hs]
          exact ⟨false, rfl, fun q => by cases q⟩
        · obtain ⟨f1, f2, f3, f4⟩ := hf rfl
          simp -implicitDefEqProofs -dsimp only [↓reduceIte, ↓W_seq, go_sem, enc, y7, h7, h6, h1]
          refine ⟨k - 1, by omega, i + 1, by omega, by omega, rfl, o1, fun x hx => ?_, hs, hs2⟩
          rw [List.take_succ_eq_append_getElem hi] at hx
          rcases List.mem_append.1 hx with hx | hx
          · exact hz x hx
          · simp only [List.mem_cons, List.not_mem_nil, or_false] at hx
            subst hx
            exact ⟨few_sz f1, few_sz f2, few_sz f3, f4⟩
    · have e1 : ¬ ((i : Int) < (l.length : Int)) := by omega
      simp -implicitDefEqProofs -dsimp only [↓reduceIte, ↓W_seq, go_sem, enc, e1, h7, h6, h1, o1, hs]
      exact ⟨true, rfl, fun _ => ⟨by omega, by rw [List.take_of_length_le (by omega)] at hz; exact hz⟩⟩
  · refine ⟨0, Nat.zero_add _, ?_⟩
    simp -implicitDefEqProofs -dsimp only [↓reduceIte, ↓W_seq, go_sem, enc, cut_und _ _ hu, u_tick, u_mine, hun, List.take_zero]
    exact fun x hx => by cases hx
/-- Items that are being gathered. -/
def OwnI (s : Sto) (d : Nat) (v : MV) (acc : List It) : Prop := (v = .sl .nil [] ∧ acc = []) ∨ ∃ c, v = .sl (.own d c) (encIs acc) ∧ s.ow d c = some (acc.length, 50) ∧ c < s.ct d
theorem ownI_mono {s s' : Sto} {d : Nat} {v : MV} {acc : List It} (h : OwnI s d v acc) (e : ∀ c, c < s.ct d → s'.ow d c = s.ow d c) (k : s.ct d ≤ s'.ct d) : OwnI s' d v acc := by
  rcases h with h | ⟨c, h1, h2, h3⟩
  · exact .inl h
  · exact .inr ⟨c, h1, by rw [e c h3]; exact h2, Nat.lt_of_lt_of_le h3 k⟩
theorem ownI_frz {s σ : Sto} {d d' : Nat} {v : MV} {acc : List It} (h : OwnI s d v acc) : v.frz σ d' = some (.sl .no (encIs acc)) := by
  rcases h with ⟨rfl, rfl⟩ | ⟨c, rfl, _, _⟩ <;> rfl
theorem ownI_cells {s : Sto} {d : Nat} {v : MV} {acc : List It} (h : OwnI s d v acc) : v.cells = some [v] := by
  rcases h with ⟨rfl, rfl⟩ | ⟨c, rfl, _, _⟩ <;> rfl
theorem app_ownI {P : Program} {t e : TypeId} (ht : slc P t = some (e, 50, 496)) {s : Sto} {lim d : Nat} {v : MV} {acc : List It} {x : It} {tk : Tok} (h : OwnI s d v acc) (hl : acc.length ≤ 100000) (hlim : lim ≤ d) (hu : s.Und (d + 1)) :
    ∃ v' s', appO P lim d t s v (.sl tk [encI x]) = some (v', s') ∧ OwnI s' d v' (acc ++ [x]) ∧ s'.cut d = s.cut d ∧ s'.Und (d + 1) ∧ s'.ob = s.ob ∧ s.ct d ≤ s'.ct d := by
  have hd : [encI x].mapM datas = some [encI x] := by simp [encI_datas]
  have hz : okz 50 [encI x] = true := by simp [okz, encI_len]
  rcases h with ⟨rfl, rfl⟩ | ⟨c, rfl, ho, hlt⟩
  · refine ⟨.sl (.own d (s.ct d)) [encI x], (s.own d (s.ct d) (some (1, 50))).tick d, ?_, .inr ⟨s.ct d, rfl, ?_, ?_⟩, ?_, und_tick (und_own hu (Nat.lt_succ_self d) _ _) (Nat.lt_succ_self d), rfl, by simp [Sto.tick, Sto.own, upd]⟩
    · simp only [appO, ht]
      rw [if_neg (by simp), if_pos (by refine ⟨rfl, hz, by decide, by decide, by simp⟩), hd]
      simp only [if_true]
      rfl
    · simp [Sto.tick, Sto.own]
    · simp [Sto.tick, Sto.own, upd]
    · simp only [cut_tick, cut_own]
  · refine ⟨.sl (.own d c) (encIs (acc ++ [x])), s.own d c (some (acc.length + 1, 50)), ?_, .inr ⟨c, rfl, ?_, hlt⟩, by rw [cut_own], und_own hu (Nat.lt_succ_self d) _ _, rfl, Nat.le_refl _⟩
    · simp only [appO, ht]
      rw [if_neg (by simp), if_pos (by refine ⟨encIs_okz acc, hz, by decide, by decide, by rw [encIs_len]; simp; omega⟩), hd]
      simp only [encIs_len]
      rw [if_pos ⟨hlim, ho⟩, encIs_app]
      rfl
    · simp [Sto.own]
theorem slc_items : slc X.P 23 = some (45, 50, 496) := by kernel_rfl
@[go_sem] theorem putC_i0 (c : Cm) : putC [.int .u8 0, .int .i64 0, .int .i64 0, .int .i64 0, .int .u8 0, .int .u64 0, .int .u64 0, .int .u64 0, .int .u64 0, .int .i64 0, .int .i64 0, .int .i64 0, .sl .nil [], .int .i64 0, .int .i64 0, .int .i64 0, .int .u8 0, .int .u64 0, .int .u64 0, .int .u64 0, .int .u64 0, .int .i64 0, .int .i64 0, .int .i64 0, .sl .nil [], .bool false, .str [], .str [], .str [], .int .i64 0, .int .i64 0, .int .i64 0, .int .u8 0, .int .u64 0, .int .u64 0, .int .u64 0, .int .u64 0, .int .i64 0, .int .i64 0, .int .i64 0, .sl .nil [], .sl .nil [], .int .i64 0, .bool false, .bool false, .str [], .str [], .int .i64 0, .bool false, .int .i64 0] (encM c) 0 = encI ⟨c, false, 0⟩ := by
  unfold putC encI
  rw [encM_len]
  rfl
@[go_sem] theorem putC_i48 (x : It) (b : Bool) : putC (encI x) [.bool b] 48 = encI ⟨x.c, b, x.to⟩ := by
  obtain ⟨⟨nm, k, v, ⟨x0, x1, x2, x3, x4, x5, x6, x7, x8, x9⟩, m, u, ⟨y0, y1, y2, y3, y4, y5, y6, y7, y8, y9⟩, b', lab, txt, fil, pk, pv, ⟨z0, z1, z2, z3, z4, z5, z6, z7, z8, z9⟩, ps, nth, all, prt, frm, tto, pos⟩, cl, to⟩ := x
  rfl
@[go_sem] theorem putC_i49 (x : It) (n : Int) : putC (encI x) [.int .i64 n] 49 = encI ⟨x.c, x.cl, n⟩ := by
  obtain ⟨⟨nm, k, v, ⟨x0, x1, x2, x3, x4, x5, x6, x7, x8, x9⟩, m, u, ⟨y0, y1, y2, y3, y4, y5, y6, y7, y8, y9⟩, b', lab, txt, fil, pk, pv, ⟨z0, z1, z2, z3, z4, z5, z6, z7, z8, z9⟩, ps, nth, all, prt, frm, tto, pos⟩, cl, to⟩ := x
  rfl
theorem w714 (q : Bool) (l : List It) (hl : l.length ≤ 60) (hz : ∀ x ∈ l, szC x.c) (lim d : Nat) (σ : Sto) (hlim : lim ≤ d) (hu : σ.Und d) : Ret lim d 10 [.agg (encSc q l)] σ (.agg (encSc q l)) σ := by
  have hun := und_succ hu
  unfold Ret encSc
  rw [WF_body (C := X) rfl Go.Proofs.Tryz.func10 rfl (by kernel_rfl)]; simp only [Go.Proofs.Tryz.results10]
  simp -implicitDefEqProofs -dsimp only [↓reduceIte, ↓W_seq, go_sem, enc]
  refine loop_h (I := fun k a s => ∃ (i : Nat) (v : MV) (acc : List It), i + k = l.length ∧ a 12 = .int .i64 i ∧ a 11 = .int .i64 l.length ∧ a 1 = .ptr ⟨d, 1, σ.ct d⟩ 0 ∧ a 2 = .ptr ⟨d, 2, σ.ct d + 1⟩ 0 ∧ a 3 = .ptr ⟨d, 3, σ.ct d + 2⟩ 0 ∧ s.ob ⟨d, 1, σ.ct d⟩ = some [.bool q, .sl .no (encIs l)] ∧ s.ob ⟨d, 2, σ.ct d + 1⟩ = some [.bool false, .sl .nil []] ∧
    s.ob ⟨d, 3, σ.ct d + 2⟩ = some [.bool q, v] ∧ OwnI s d v acc ∧ acc ++ l.drop i = l ∧ σ.ct d + 3 ≤ s.ct d ∧ s.cut d = σ ∧ s.Und (d + 1)) ?_ l.length _ _ ?_
  · rintro k a s ⟨i, v, acc, hk, h12, h11, h1, h2, h3, o1, o2, o3, hO, hc, hct, hs, hs2⟩
    have hal : acc.length = i := by
      have := congrArg List.length hc
      simp at this; omega
    by_cases hi : i < l.length
    · have e1 : ((i : Int) < (l.length : Int)) := by omega
      have y7 := wr64 ((i : Int) + 1) (by omega) (by omega)
      obtain ⟨z1, z2, z3, z4⟩ := hz _ (List.getElem_mem hi)
      simp -implicitDefEqProofs -dsimp only [↓reduceIte, ↓W_seq, go_sem, enc, e1, h12, h11, h1, h2, h3, o1, encIs_at hi, List.drop_zero]
      rw [D_dr (by kernel_rfl) rfl]
      simp -implicitDefEqProofs -dsimp only [↓reduceIte, ↓W_seq, go_sem, enc, h12, h11, h1, h2, h3, o3, List.drop_zero]
      refine (w656 l[i].c z1 z2 z3 z4 (d + 1) (d + 1) _ (Nat.le_refl _) (by simp only [u_tick, u_mine]; exact hs2)).wh ?_
      have hs3 : ((s.set ⟨d, 5, s.ct d⟩ (encI l[i])).tick d).Und (d + 1) := by simp only [u_tick, u_mine]; exact hs2
      have hO' : OwnI ((s.set ⟨d, 5, s.ct d⟩ (encI l[i])).tick d) d v acc := ownI_mono hO (fun _ _ => rfl) (by simp [Sto.tick, Sto.set, upd])
      obtain ⟨v', s', q1, q2, q3, q4, q5, q6⟩ := app_ownI (P := X.P) (t := 23) (x := ⟨l[i].c, l[i].cl, l[i].to⟩) (tk := .no) (lim := lim) slc_items hO' (by omega) hlim hs3
      have hob : ∀ t c, t ≠ 5 → s'.ob ⟨d, t, c⟩ = s.ob ⟨d, t, c⟩ := fun t c ht => by
        rw [q5]
        simp only [Sto.tick, Sto.set]
        rw [if_neg (by simp [ht])]
      have p1 := (hob 1 _ (by decide)).trans o1
      have p2 := (hob 2 _ (by decide)).trans o2
      have p3 := (hob 3 _ (by decide)).trans o3
      have p4 : σ.ct d + 3 ≤ s'.ct d := by
        refine Nat.le_trans hct (Nat.le_trans ?_ q6)
        simp [Sto.tick, Sto.set, upd]
      have p5 : s'.cut d = σ := by rw [q3, cut_tick, cut_mine, hs]
      simp -implicitDefEqProofs -dsimp only [↓reduceIte, ↓W_seq, go_sem, enc, h12, h11, h1, h2, h3, o3, List.drop_zero, q1, ownI_cells q2, p1, p2, p3, y7]
      refine ⟨k - 1, by omega, i + 1, v', acc ++ [l[i]], by omega, rfl, rfl, ownI_mono q2 (fun _ _ => rfl) (Nat.le_refl _), ?_, p4, p5, by simp only [u_tick, u_mine]; exact q4⟩
      rw [List.append_assoc, List.singleton_append, ← List.drop_eq_getElem_cons hi, hc]
    · have e1 : ¬ ((i : Int) < (l.length : Int)) := by omega
      rw [List.drop_eq_nil_of_le (by omega), List.append_nil] at hc
      subst hc
      simp -implicitDefEqProofs -dsimp only [↓reduceIte, ↓W_seq, go_sem, enc, e1, h12, h11, h1, h2, h3, o1, o2, o3, List.drop_zero, ownI_frz hO, ownI_cells hO, hs]
  · refine ⟨0, .sl .nil [], [], Nat.zero_add _, ?_⟩
    simp -implicitDefEqProofs -dsimp only [↓reduceIte, ↓W_seq, go_sem, enc, cut_und _ _ hu, u_tick, u_mine, hun]
    exact .inl ⟨rfl, rfl⟩
end Go.Proofs.Tryz.E
