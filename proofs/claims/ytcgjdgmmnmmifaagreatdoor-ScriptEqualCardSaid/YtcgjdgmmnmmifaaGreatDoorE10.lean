/- Walks: what the functions compute. -/
import Derived.Test.YtcgjdgmmnmmifaaGreatDoorE9
set_option linter.unusedVariables false
set_option linter.unusedSimpArgs false
/- Whether a node is formed: all of it. -/
namespace Go.Proofs.Tryz.E
open Go.Mv
set_option maxHeartbeats 4000000
set_option maxRecDepth 20000
theorem ownB_g {kd c s0 s1 s2 s3 n mn mx : Int} {l : List Nd} {g : Int} {e : List Bool} (h : ownB (.mk kd c s0 s1 s2 s3 n mn mx l) g e = true) (hg : 0 ≤ g) (hg9 : g ≤ 9) : 0 ≤ ownG (.mk kd c s0 s1 s2 s3 n mn mx l) g ∧ ownG (.mk kd c s0 s1 s2 s3 n mn mx l) g ≤ 9 ∧ (kd = 6 → 1 ≤ n ∧ n ≤ 9) := by
  unfold ownG
  simp only [ownB, Bool.and_eq_true] at h
  obtain ⟨h1, h2⟩ := h
  by_cases h6 : kd = 6
  · rw [if_pos h6] at h2
    simp only [Bool.and_eq_true, decide_eq_true_eq, beq_iff_eq] at h2
    simp only [Nd.kind, h1, h6, and_self, if_true]
    omega
  · simp only [Nd.kind, h6, and_false, if_false]
    exact ⟨hg, hg9, fun q => absurd q (by simp)⟩
def CkOk (r : Ck) : Prop := 0 ≤ r.2.1 ∧ r.2.1 ≤ 9 ∧ r.2.2.length = 10
theorem chks_inv (kd : Int) : ∀ (l : List Nd) (g : Int) (e : List Bool), (∀ y ∈ l, ∀ (g : Int) (e : List Bool), 0 ≤ g → g ≤ 9 → e.length = 10 → (chk y g e).1 = true → CkOk (chk y g e)) → 0 ≤ g → g ≤ 9 → e.length = 10 → (chks kd l g e).1 = true → CkOk (chks kd l g e)
  | [], g, e, _, h1, h2, h3, _ => ⟨h1, h2, h3⟩
  | y :: l, g, e, ih, h1, h2, h3, h => by
    simp only [chks] at h ⊢
    by_cases hk : y.kind = kd ∧ (kd = 8 ∨ kd = 9)
    · rw [if_pos hk] at h; cases h
    rw [if_neg hk] at h ⊢
    by_cases hc : (chk y g e).1 = true
    · rw [if_pos hc] at h ⊢
      obtain ⟨a1, a2, a3⟩ := ih y (List.mem_cons_self ..) g e h1 h2 h3 hc
      exact chks_inv kd l _ _ (fun z hz => ih z (List.mem_cons_of_mem _ hz)) a1 a2 a3 h
    · rw [if_neg hc] at h; exact absurd h hc
theorem chk_inv : ∀ (x : Nd) (g : Int) (e : List Bool), 0 ≤ g → g ≤ 9 → e.length = 10 → (chk x g e).1 = true → CkOk (chk x g e) := by
  refine Nd.ind fun kd c s0 s1 s2 s3 n mn mx l ih g e h1 h2 h3 h => ?_
  simp only [chk] at h ⊢
  by_cases ho : ownB (.mk kd c s0 s1 s2 s3 n mn mx l) g e = true
  · rw [if_pos ho] at h ⊢
    obtain ⟨b1, b2, _⟩ := ownB_g ho h1 h2
    by_cases hs : (chks kd l (ownG (.mk kd c s0 s1 s2 s3 n mn mx l) g) e).1 = true
    · rw [if_pos hs] at h ⊢
      obtain ⟨a1, a2, a3⟩ := chks_inv kd l _ e ih b1 b2 h3 hs
      refine ⟨a1, a2, ?_⟩
      simp only
      split <;> simp [a3]
    · rw [if_neg hs] at h; exact absurd h hs
  · rw [if_neg ho] at h; cases h
theorem chks_at {l : List Nd} {i : Nat} (h : i < l.length) (kd g : Int) (e : List Bool) : chks kd (l.drop i) g e = if l[i].kind = kd ∧ (kd = 8 ∨ kd = 9) then (false, g, e) else if (chk l[i] g e).1 = true then chks kd (l.drop (i + 1)) (chk l[i] g e).2.1 (chk l[i] g e).2.2 else chk l[i] g e := by
  rw [List.drop_eq_getElem_cons h, chks]
theorem encC_len (g : Int) (e : List Bool) : (encC g e).length = e.length + 1 := by simp [encC]
theorem putC_set : ∀ (cs : List MV) (v : MV) (i : Nat), i < cs.length → putC cs [v] i = cs.set i v
  | x :: cs, v, 0, _ => rfl
  | x :: cs, v, i + 1, h => by
    have := putC_set cs v i (by simpa using h)
    simp only [putC, List.length_cons, List.length_nil] at this ⊢
    rw [List.set_cons_succ, ← this]
    have e : i + 1 + (0 + 1) = (i + (0 + 1)) + 1 := by omega
    rw [e]
    simp only [List.take_succ_cons, List.drop_succ_cons, List.cons_append]
theorem putC_arr (g : Int) (e : List Bool) (b : Bool) (i : Nat) (h : i < e.length) : putC (encC g e) [.bool b] (1 + i) = encC g (e.set i b) := by
  rw [putC_set _ _ _ (by rw [encC_len]; omega), Nat.add_comm, encC, List.set_cons_succ, encC, List.map_set]
theorem w26 : ∀ (x : Nd), sz x ≤ 1000000 → ∀ (lim d : Nat) (σ : Sto) (p : Mv.Loc) (g : Int) (e : List Bool), σ.Und d → p.d < d → lim ≤ p.d → e.length = 10 → 0 ≤ g → g ≤ 9 → σ.ob p = some (encC g e) →
    Ret lim d 139 [.ptr p 0, .agg (enc x)] σ (.bool (chk x g e).1) (σ.set p (encC (chk x g e).2.1 (chk x g e).2.2)) := by
  refine Nd.ind fun kd c s0 s1 s2 s3 n mn mx l ih hsz lim d σ p g e hu hp hlim he hg hg9 ho => ?_
  have hl := len_le l
  simp only [sz] at hsz
  have hun := und_succ hu
  have hne := ne_my hp
  have hmy := my_ne hp
  unfold Ret
  rw [WF_body (C := X) rfl Go.Proofs.Tryz.func139 rfl (by kernel_rfl)]; simp only [Go.Proofs.Tryz.results139]
  simp -implicitDefEqProofs -dsimp only [↓reduceIte, ↓W_seq, go_sem, enc]
  refine (w38 kd c s0 s1 s2 s3 n mn mx l lim (d + 1) _ ?_ p (by omega) hlim g e he hg hg9 ?_).wh ?_
  · simp only [go_sem, u_tick, u_mine]; exact hun
  · simp only [go_sem, hne, if_false]; exact ho
  simp only [chk]
  cases hown : ownB (.mk kd c s0 s1 s2 s3 n mn mx l) g e
  · simp -implicitDefEqProofs -dsimp only [↓reduceIte, ↓W_seq, go_sem, enc, hne, hmy, cut_set _ _ _ _ hp, cut_und _ _ hu]
  obtain ⟨q1, q2, q3⟩ := ownB_g hown hg hg9
  generalize hg' : ownG (.mk kd c s0 s1 s2 s3 n mn mx l) g = g' at q1 q2
  simp -implicitDefEqProofs -dsimp only [↓reduceIte, ↓W_seq, go_sem, enc, hne, hmy]
  refine loop_h (I := fun k a s => ∃ (i : Nat) (gi : Int) (ei : List Bool), i + k = l.length ∧ a 14 = .int .i64 i ∧ a 13 = .int .i64 l.length ∧ a 12 = .sl .no (encs l) ∧ a 0 = .ptr p 0 ∧ a 3 = .ptr ⟨d, 3, σ.ct d⟩ 0 ∧ s.ob ⟨d, 3, σ.ct d⟩ = some (enc (.mk kd c s0 s1 s2 s3 n mn mx l)) ∧
    s.cut d = σ.set p (encC gi ei) ∧ s.Und (d + 1) ∧ s.ob p = some (encC gi ei) ∧ σ.ct d < s.ct d ∧ 0 ≤ gi ∧ gi ≤ 9 ∧ ei.length = 10 ∧ chks kd (l.drop i) gi ei = chks kd l g' e) ?_ l.length _ _ ?_
  · rintro k a s ⟨i, gi, ei, hk, h14, h13, h12, h0, h3, ho3, hs, hs2, hop, hct, hgi, hgi9, hei, hc⟩
    by_cases hi : i < l.length
    · have e1 : ((i : Int) < (l.length : Int)) := by omega
      have e2 : l[i]? = some l[i] := List.getElem?_eq_getElem hi
      have hm := List.getElem_mem hi
      have hy := sz_le l _ hm
      have hlt : s.ct d ≠ σ.ct d := by omega
      rw [chks_at hi] at hc
      simp -implicitDefEqProofs -dsimp only [↓reduceIte, ↓W_seq, go_sem, enc, e1, e2, h14, h13, h12, h0, h3, ho3, encs_at, hlt, hlt.symm]
      by_cases hkk : l[i].kind = kd ∧ (kd = 8 ∨ kd = 9)
      · have hB : (l[i].kind == kd && if (kd == 8) = true then true else kd == 9) = true := by
          obtain ⟨a1, a2 | a2⟩ := hkk <;> simp [a1, a2]
        rw [if_pos hkk] at hc
        simp only [hB, ← hc]
        simp -implicitDefEqProofs -dsimp only [↓reduceIte, ↓W_seq, go_sem, enc, hs]
      · have hB : (l[i].kind == kd && if (kd == 8) = true then true else kd == 9) = false := by
          simp only [Bool.and_eq_false_iff, beq_eq_false_iff_ne]
          by_cases a1 : l[i].kind = kd
          · right
            have : ¬ kd = 8 ∧ ¬ kd = 9 := ⟨fun q => hkk ⟨a1, .inl q⟩, fun q => hkk ⟨a1, .inr q⟩⟩
            simp [this]
          · exact .inl a1
        rw [if_neg hkk] at hc
        simp -implicitDefEqProofs -dsimp only [↓reduceIte, ↓W_seq, go_sem, enc, hB]
        refine (ih l[i] hm (by omega) lim (d + 1) _ p gi ei ?_ (by omega) hlim hei hgi hgi9 ?_).wh ?_
        · simp only [go_sem, u_tick, u_mine]; exact hs2
        · simp only [go_sem, hne, if_false]; exact hop
        cases hck : (chk l[i] gi ei).1
        · rw [hck] at hc
          simp only [Bool.false_eq_true, if_false] at hc
          rw [← hc]
          simp -implicitDefEqProofs -dsimp only [↓reduceIte, ↓W_seq, go_sem, enc, hB, hck, cut_set _ _ _ _ hp, hs]
        · rw [hck] at hc
          simp only [if_true] at hc
          obtain ⟨a1, a2, a3⟩ := chk_inv l[i] gi ei hgi hgi9 hei hck
          simp -implicitDefEqProofs -dsimp only [↓reduceIte, ↓W_seq, go_sem, enc, hB, h14, h13, h12, h0, h3]
          refine ⟨k - 1, by omega, i + 1, _, _, by omega, by rw [wr64 _ (by omega) (by omega)]; rfl, ?_, ?_, ?_, ?_, ?_, a1, a2, a3, hc⟩
          · simp only [go_sem, hmy, hlt.symm, if_false, ho3, enc]
          · simp only [go_sem, cut_set _ _ _ _ hp, hs]
          · simp only [go_sem, u_tick, u_mine, u_set _ _ _ _ (Nat.lt_succ_of_lt hp)]; exact hs2
          · simp only [go_sem, if_true]
          · first | omega | (simp only [go_sem]; omega)
    · have e1 : ¬ ((i : Int) < (l.length : Int)) := by omega
      rw [List.drop_eq_nil_of_le (by omega), chks] at hc
      simp -implicitDefEqProofs -dsimp only [↓reduceIte, ↓W_seq, go_sem, enc, e1, h14, h13, h12, h0, h3, ho3, encs_at, ← hc]
      by_cases h6 : kd = 6
      · subst h6
        obtain ⟨n1, n2⟩ := q3 rfl
        have n3 : 0 ≤ n := by omega
        have n4 : n < 10 := by omega
        simp -implicitDefEqProofs -dsimp only [↓reduceIte, ↓W_seq, go_sem, enc]
        rw [D_dr (by kernel_rfl) rfl]
        simp -implicitDefEqProofs -dsimp only [↓reduceIte, ↓W_seq, go_sem, enc, h0, h3, ho3, hop, encC_len, hp, hlim, n3, n4, hei]
        simp only [← hc, if_true, and_true, true_and]
        refine ⟨by omega, ?_⟩
        rw [Nat.mul_one, putC_arr _ _ _ _ (by omega), cut_set _ _ _ _ hp, hs, set_set]
      · simp -implicitDefEqProofs -dsimp only [↓reduceIte, ↓W_seq, go_sem, enc, (beq_eq_false_iff_ne.2 h6 : (kd == 6) = false)]
        simp only [h6, if_false, hs, and_self]
  · refine ⟨0, g', e, Nat.zero_add _, ?_⟩
    simp -implicitDefEqProofs -dsimp only [↓reduceIte, ↓W_seq, go_sem, enc, encs_len, hmy, hne]
    refine ⟨?_, ?_, q1, q2, he⟩
    · simp only [cut_set _ _ _ _ hp, cut_mine, cut_tick, cut_und _ _ hu]
    · simp only [go_sem, u_tick, u_mine, u_set _ _ _ _ (Nat.lt_succ_of_lt hp)]; exact hun
theorem w12 (x : Nd) (hsz : sz x ≤ 1000000) (lim d : Nat) (σ : Sto) (hlim : lim ≤ d) (hu : σ.Und d) : Ret lim d 120 [.agg (enc x)] σ (.bool (formedB x)) σ := by
  have hun := und_succ hu
  unfold Ret
  rw [WF_body (C := X) rfl Go.Proofs.Tryz.func120 rfl (by kernel_rfl)]; simp only [Go.Proofs.Tryz.results120]
  simp -implicitDefEqProofs -dsimp only [↓reduceIte, ↓W_seq, go_sem, enc]
  refine (w15 x hsz lim (d + 1) _ ?_).wh ?_
  · simp only [go_sem, u_tick, u_mine]; exact hun
  unfold formedB
  cases h1 : decide (cnt x ≤ 200)
  · simp -implicitDefEqProofs -dsimp only [↓reduceIte, ↓W_seq, go_sem, enc, h1, cut_und _ _ hu]
  simp -implicitDefEqProofs -dsimp only [↓reduceIte, ↓W_seq, go_sem, enc, h1]
  refine (w14 x hsz lim (d + 1) _ ?_).wh ?_
  · simp only [go_sem, u_tick, u_mine]; exact hun
  cases h2 : decide (dep x ≤ 10)
  · simp -implicitDefEqProofs -dsimp only [↓reduceIte, ↓W_seq, go_sem, enc, h1, h2, cut_und _ _ hu]
  simp -implicitDefEqProofs -dsimp only [↓reduceIte, ↓W_seq, go_sem, enc, h1, h2]
  refine (w26 x hsz lim (d + 1) _ ⟨d, 12, σ.ct d + 1⟩ 0 (List.replicate 10 false) ?_ (Nat.lt_succ_self d) hlim rfl (by decide) (by decide) ?_).wh ?_
  · simp only [go_sem, u_tick, u_mine]; exact hun
  · simp -implicitDefEqProofs -dsimp only [↓reduceIte, ↓W_seq, go_sem, enc]; rfl
  simp -implicitDefEqProofs -dsimp only [↓reduceIte, ↓W_seq, go_sem, enc, cut_und _ _ hu]
end Go.Proofs.Tryz.E
