/- Walks: what the functions compute. -/
import Derived.Test.YtibjgennjjhfdaaJ4
import Derived.Test.YtibjgennjjhfdaaJ1
set_option linter.unusedVariables false
set_option linter.unusedSimpArgs false
/- Two patterns without groups: with a sign between; one behind the other. -/
namespace Go.Proofs.Try.E
open Go.Mv
set_option maxHeartbeats 4000000
set_option maxRecDepth 20000
theorem flat_app (kd : Int) : ∀ l l', flatL kd (l ++ l') = flatL kd l ++ flatL kd l'
  | [], l' => rfl
  | x :: l, l' => by simp only [List.cons_append, flatL, flat_app kd l l', List.append_assoc]
theorem flat_id {kd : Int} : ∀ l : List Nd, (∀ x ∈ l, x.kind ≠ kd) → flatL kd l = l
  | [], _ => rfl
  | x :: l, h => by
    rw [flatL, if_neg (h x (List.mem_cons_self ..)), flat_id l fun y hy => h y (List.mem_cons_of_mem _ hy)]
    rfl
theorem either_eq {l : List Nd} (h : ∀ x ∈ l, x.kind ≠ 9) : eitherN l = eitherF l := by
  unfold eitherN
  rw [flat_id l h]
theorem join_eq {l : List Nd} (h : ∀ x ∈ l, x.kind ≠ 8) : joinN l = joinF l := by
  unfold joinN
  rw [flat_id l h]
theorem flat_either {l : List Nd} (h : ∀ x ∈ l, x.kind ≠ 9) (hne : l ≠ []) : flatL 9 [eitherN l] = l := by
  rw [either_eq h]
  match l, hne with
  | [x], _ => exact flat_id [x] h
  | x :: y :: l, _ =>
    rw [eitherF_ne (by simp) (by simp)]
    simp [flatL, nd, Nd.kind, Nd.kids]
theorem flat_join {l : List Nd} (h : ∀ x ∈ l, x.kind ≠ 8) (hne : l ≠ []) : flatL 8 [joinN l] = l := by
  rw [join_eq h]
  match l, hne with
  | [x], _ => exact flat_id [x] h
  | x :: y :: l, _ =>
    rw [joinF_ne (by simp)]
    simp [flatL, nd, Nd.kind, Nd.kids]
theorem either_two {l l' : List Nd} (h : ∀ x ∈ l, x.kind ≠ 9) (h' : ∀ x ∈ l', x.kind ≠ 9) (hne : l ≠ []) (hne' : l' ≠ []) : eitherN [eitherN l, eitherN l'] = eitherN (l ++ l') := by
  have e : flatL 9 [eitherN l, eitherN l'] = l ++ l' := by
    have : [eitherN l, eitherN l'] = [eitherN l] ++ [eitherN l'] := rfl
    rw [this, flat_app, flat_either h hne, flat_either h' hne']
  rw [either_eq (l := l ++ l') (fun x hx => (List.mem_append.1 hx).elim (h x) (h' x))]
  show eitherF (flatL 9 [eitherN l, eitherN l']) = _
  rw [e]
theorem join_two {l l' : List Nd} (h : ∀ x ∈ l, x.kind ≠ 8) (h' : ∀ x ∈ l', x.kind ≠ 8) (hne : l ≠ []) (hne' : l' ≠ []) : joinN [joinN l, joinN l'] = joinN (l ++ l') := by
  have e : flatL 8 [joinN l, joinN l'] = l ++ l' := by
    have : [joinN l, joinN l'] = [joinN l] ++ [joinN l'] := rfl
    rw [this, flat_app, flat_join h hne, flat_join h' hne']
  rw [join_eq (l := l ++ l') (fun x hx => (List.mem_append.1 hx).elim (h x) (h' x))]
  show joinF (flatL 8 [joinN l, joinN l']) = _
  rw [e]
theorem join_kind {l : List Nd} (h : ∀ v ∈ l, v.kind ≠ 8 ∧ v.kind ≠ 9) (hne : l ≠ []) : (joinN l).kind ≠ 9 := by
  rw [join_eq fun x hx => (h x hx).1]
  match l, hne with
  | [x], _ => exact (h x (List.mem_cons_self ..)).2
  | x :: y :: l, _ =>
    rw [joinF_ne (by simp)]
    simp [nd, Nd.kind]
theorem Wh.kinds {s : List UInt8} {i j : Nat} {L : List (List Nd)} (h : Wh s i L j) : L ≠ [] ∧ ∀ x ∈ L.map joinN, x.kind ≠ 9 := by
  induction h with
  | one h1 h2 _ _ =>
    refine ⟨by simp, fun x hx => ?_⟩
    simp only [List.map_cons, List.map_nil, List.mem_cons, List.not_mem_nil, or_false] at hx
    subst hx
    exact join_kind h1.kinds h2
  | more h1 h2 _ _ _ ih =>
    refine ⟨by simp, fun x hx => ?_⟩
    rcases List.mem_cons.1 hx with rfl | hx
    · exact join_kind h1.kinds h2
    · exact ih.2 x hx
theorem Wh.le {s : List UInt8} {i j : Nat} {L : List (List Nd)} (h : Wh s i L j) : i ≤ s.length → j ≤ s.length := by
  induction h with
  | one h1 _ _ _ => exact h1.le.2
  | more _ _ _ h4 _ ih => intro _; exact ih (at_lt h4)

/-! ### How many, how deep -/
mutual
def depN : Nd → Nat
  | .mk _ _ _ _ _ _ _ _ _ l => depsN l + 1
def depsN : List Nd → Nat
  | [] => 0
  | x :: l => max (depN x) (depsN l)
end
theorem depsN_app : ∀ l l', depsN (l ++ l') = max (depsN l) (depsN l')
  | [], l' => by simp [depsN]
  | x :: l, l' => by simp only [List.cons_append, depsN, depsN_app l l']; omega
theorem cnts_sz : ∀ (l : List Nd), (∀ x ∈ l, cnt x = sz x) → ∀ k : Int, 0 ≤ k → k + szs l ≤ 1000000 → cnts k l = k + szs l
  | [], _, k, _, _ => by simp [cnts, szs]
  | x :: l, h, k, h0, h1 => by
    simp only [szs] at h1
    rw [cnts, h x (List.mem_cons_self ..), wr64 _ (by omega) (by omega), cnts_sz l (fun y hy => h y (List.mem_cons_of_mem _ hy)) _ (by omega) (by omega)]
    simp only [szs]
    omega
theorem cnt_sz : ∀ x : Nd, sz x ≤ 1000000 → cnt x = sz x := by
  refine Nd.ind fun kd c s0 s1 s2 s3 n mn mx l ih h => ?_
  simp only [sz] at h
  rw [cnt, cnts_sz l (fun y hy => ih y hy (by have := sz_le l y hy; omega)) 1 (by omega) (by omega), sz]
  omega
theorem depN_le : ∀ x : Nd, depN x ≤ sz x := by
  refine Nd.ind fun kd c s0 s1 s2 s3 n mn mx l ih => ?_
  have : ∀ l : List Nd, (∀ y ∈ l, depN y ≤ sz y) → depsN l ≤ szs l := by
    intro l
    induction l with
    | nil => intro _; simp [depsN]
    | cons x l hl =>
      intro h
      have h1 := h x (List.mem_cons_self ..)
      have h2 := hl fun y hy => h y (List.mem_cons_of_mem _ hy)
      simp only [depsN, szs]
      omega
  have := this l ih
  simp only [depN, sz]
  omega
theorem deps_N : ∀ (l : List Nd), (∀ x ∈ l, dep x = depN x) → ∀ k : Nat, deps k l = (max k (depsN l) : Nat)
  | [], _, k => by simp [deps, depsN]
  | x :: l, h, k => by
    have e : (if dep x > (k : Int) then dep x else (k : Int)) = ((max k (depN x) : Nat) : Int) := by
      rw [h x (List.mem_cons_self ..)]
      split <;> omega
    rw [deps, e, deps_N l (fun y hy => h y (List.mem_cons_of_mem _ hy))]
    simp only [depsN]
    omega
theorem dep_N : ∀ x : Nd, sz x ≤ 1000000 → dep x = depN x := by
  refine Nd.ind fun kd c s0 s1 s2 s3 n mn mx l ih h => ?_
  have hl := depN_le (.mk kd c s0 s1 s2 s3 n mn mx l)
  simp only [depN] at hl
  simp only [sz] at h hl
  have e := deps_N l (fun y hy => ih y hy (by have := sz_le l y hy; omega)) 0
  rw [dep]
  have e' : deps 0 l = (depsN l : Int) := by
    have := e
    simp only [Nat.zero_max] at this
    exact this
  rw [e', wr64 _ (by omega) (by omega), depN]
  omega
theorem grps_N : ∀ (l : List Nd), (∀ x ∈ l, grp x = grN x ∧ grN x ≤ sz x) → ∀ k : Nat, k + szs l ≤ 1000000 → grps k l = (k + grsN l : Nat)
  | [], _, k, _ => by simp [grps, grsN]
  | x :: l, h, k, h1 => by
    obtain ⟨a, b⟩ := h x (List.mem_cons_self ..)
    simp only [szs] at h1
    rw [grps, a, wr64 _ (by omega) (by omega), show (k : Int) + (grN x : Int) = ((k + grN x : Nat) : Int) from by omega, grps_N l (fun y hy => h y (List.mem_cons_of_mem _ hy)) _ (by omega)]
    simp only [grsN]
    omega
theorem grsN_le : ∀ (l : List Nd), (∀ x ∈ l, grN x ≤ sz x) → grsN l ≤ szs l
  | [], _ => by simp [grsN]
  | x :: l, h => by
    have := h x (List.mem_cons_self ..)
    have := grsN_le l fun y hy => h y (List.mem_cons_of_mem _ hy)
    simp only [grsN, szs]
    omega
theorem grp_N : ∀ x : Nd, sz x ≤ 1000000 → grp x = grN x ∧ grN x ≤ sz x := by
  refine Nd.ind fun kd c s0 s1 s2 s3 n mn mx l ih h => ?_
  simp only [sz] at h
  have hx : ∀ y ∈ l, grp y = grN y ∧ grN y ≤ sz y := fun y hy => ih y hy (by have := sz_le l y hy; omega)
  have h1 := grps_N l hx 0 (by omega)
  have h2 := grsN_le l fun y hy => (hx y hy).2
  have h1' : grps 0 l = (grsN l : Int) := by
    rw [Nat.zero_add] at h1
    exact h1
  simp only [grp, grN, sz, h1']
  split
  · rw [wr64 _ (by omega) (by omega)]
    exact ⟨by omega, by omega⟩
  · exact ⟨by omega, by omega⟩

/-! ### Formed -/
theorem chk_nog : ∀ (x : Nd), grN x = 0 → ∀ (g : Int) (e : List Bool), (chk x g e).2 = (g, e) := by
  refine Nd.ind fun kd c s0 s1 s2 s3 n mn mx l ih h g e => ?_
  simp only [grN] at h
  have h6 : kd ≠ 6 := by intro q; simp [q] at h
  have hg : ownG (.mk kd c s0 s1 s2 s3 n mn mx l) g = g := by
    unfold ownG
    rw [if_neg]
    rintro ⟨_, q⟩
    exact h6 q
  have hl : grsN l = 0 := by omega
  have : ∀ l : List Nd, (∀ y ∈ l, grN y = 0 → ∀ (g : Int) (e : List Bool), (chk y g e).2 = (g, e)) → grsN l = 0 → ∀ g e, (chks kd l g e).2 = (g, e) := by
    intro l
    induction l with
    | nil => intro _ _ _ _; rfl
    | cons y l hl =>
      intro h1 h2 g e
      simp only [grsN] at h2
      have q := h1 y (List.mem_cons_self ..) (by omega) g e
      simp only [chks]
      split
      · rfl
      · split
        · rw [q]
          exact hl (fun z hz => h1 z (List.mem_cons_of_mem _ hz)) (by omega) g e
        · exact q
  have q := this l ih hl g e
  rw [chk]
  split
  · simp only [hg]
    split
    · exact q
    · exact q
  · simp only [hg]
theorem chks_app (kd : Int) : ∀ (l l' : List Nd) (g : Int) (e : List Bool), (chks kd l g e).1 = true → chks kd (l ++ l') g e = chks kd l' (chks kd l g e).2.1 (chks kd l g e).2.2
  | [], l', g, e, _ => rfl
  | y :: l, l', g, e, h => by
    simp only [List.cons_append, chks] at h ⊢
    split at h
    · cases h
    · rename_i h1
      rw [if_neg h1, if_neg h1]
      split at h
      · rename_i h2
        rw [if_pos h2, if_pos h2]
        exact chks_app kd l l' _ _ h
      · rename_i h2
        exact absurd h h2
theorem chks_nog (kd : Int) : ∀ (l : List Nd), grsN l = 0 → ∀ (g : Int) (e : List Bool), (chks kd l g e).2 = (g, e)
  | [], _, _, _ => rfl
  | y :: l, h, g, e => by
    simp only [grsN] at h
    have q := chk_nog y (by omega) g e
    simp only [chks]
    split
    · rfl
    · split
      · rw [q]
        exact chks_nog kd l (by omega) g e
      · exact q
theorem chks_either {l : List Nd} {g : Int} {e : List Bool} (h : ∀ x ∈ l, x.kind ≠ 9) (hne : l ≠ []) (hg : grsN l = 0) (hc : (chk (eitherN l) g e).1 = true) : chks 9 l g e = (true, g, e) := by
  have q := chks_nog 9 l hg g e
  refine Prod.ext ?_ q
  rw [either_eq h] at hc
  match l, hne with
  | [x], _ =>
    have hx := h x (List.mem_cons_self ..)
    simp only [chks]
    rw [if_neg fun q => hx q.1]
    simp only [eitherF] at hc
    rw [if_pos hc]
  | x :: y :: l, _ =>
    rw [eitherF_ne (by simp) (by simp)] at hc
    simp only [nd, chk] at hc
    split at hc
    · have hog : ownG (.mk 9 0 0 0 0 0 0 0 0 (x :: y :: l)) g = g := by
        unfold ownG
        rw [if_neg]
        rintro ⟨_, q⟩
        simp [Nd.kind] at q
      rw [hog] at hc
      split at hc
      · rename_i h2; exact h2
      · exact hc
    · cases hc
theorem sz_eith {l : List Nd} (h : ∀ x ∈ l, x.kind ≠ 9) (hne : l ≠ []) : szs l ≤ sz (eitherN l) ∧ depsN l ≤ depN (eitherN l) := by
  rw [either_eq h]
  match l, hne with
  | [x], _ => exact ⟨by simp [szs, eitherF], by simp [depsN, eitherF]⟩
  | x :: y :: l, _ =>
    rw [eitherF_ne (by simp) (by simp)]
    exact ⟨by simp only [nd, sz]; omega, by simp only [nd, depN]; omega⟩
theorem formed_either {A B : List Nd} (hA : ∀ x ∈ A, x.kind ≠ 9) (hB : ∀ x ∈ B, x.kind ≠ 9) (nA : A ≠ []) (nB : B ≠ []) (gA : grsN A = 0) (gB : grsN B = 0) (sA : sz (eitherN A) ≤ 100000) (sB : sz (eitherN B) ≤ 100000)
    (fA : formedB (eitherN A) = true) (fB : formedB (eitherN B) = true) (dA : dep (eitherN A) ≤ 9) (dB : dep (eitherN B) ≤ 9) (hc : cnt (eitherN A) + cnt (eitherN B) ≤ 199) : formedB (eitherN (A ++ B)) = true := by
  rw [cnt_sz _ (by omega), cnt_sz _ (by omega)] at hc
  rw [dep_N _ (by omega)] at dA dB
  obtain ⟨zA, eA⟩ := sz_eith hA nA
  obtain ⟨zB, eB⟩ := sz_eith hB nB
  have hlen : 2 ≤ (A ++ B).length := by
    have := List.length_pos_iff.2 nA
    have := List.length_pos_iff.2 nB
    rw [List.length_append]; omega
  have hE : eitherN (A ++ B) = nd 9 (A ++ B) := by
    rw [either_eq fun x hx => (List.mem_append.1 hx).elim (hA x) (hB x), eitherF_ne (by omega) (by omega)]
  have hsz : sz (nd 9 (A ++ B)) = 1 + (szs A + szs B) := by simp only [nd, sz, szs_app]
  have hdp : depN (nd 9 (A ++ B)) = max (depsN A) (depsN B) + 1 := by simp only [nd, depN, depsN_app]
  rw [hE]
  unfold formedB at fA fB ⊢
  simp only [Bool.and_eq_true, decide_eq_true_eq] at fA fB ⊢
  refine ⟨⟨?_, ?_⟩, ?_⟩
  · rw [cnt_sz _ (by omega), hsz]; omega
  · rw [dep_N _ (by omega), hdp]; omega
  · have cA := chks_either hA nA gA fA.2
    have cB := chks_either hB nB gB fB.2
    have cAB := chks_app 9 A B 0 (List.replicate 10 false) (by rw [cA])
    rw [cA] at cAB
    simp only [cB] at cAB
    have hog : ownG (.mk 9 0 0 0 0 0 0 0 0 (A ++ B)) 0 = 0 := by
      unfold ownG
      rw [if_neg]
      rintro ⟨_, q⟩
      simp [Nd.kind] at q
    have how : ownB (.mk 9 0 0 0 0 0 0 0 0 (A ++ B)) 0 (List.replicate 10 false) = true := by
      have : 1 < (A ++ B).length := by omega
      simp only [ownB, plainB]
      simp [this]
      rw [List.length_append] at this
      exact this
    simp only [nd, chk]
    rw [if_pos how, hog, cAB]
    rfl

/-! ### The laws -/
theorem parse_ok {s : List UInt8} (hs : s.length ≤ 100000) (he : (parseS s).2.2 = 0) (hg : grN (parseS s).1 = 0) : ∃ L, Wh s 0 L s.length ∧ (parseS s).1 = eitherN (L.map joinN) ∧ formedB (parseS s).1 = true := by
  rw [parse_eq] at he hg ⊢
  split at he
  · simp at he
  · rename_i h1
    rw [if_neg h1] at hg ⊢
    split at he
    · rename_i h2
      rw [if_pos h2] at hg ⊢
      simp only [Bool.or_eq_true, not_or, Bool.not_eq_true] at h1
      have hw := whole_to (hr_par s hs 9) (by omega) (i := 0) (g := 0) (by omega) (by omega) h1.1 hg
      obtain ⟨L, j, hw, e⟩ := hw
      have e' : parS s 10 ⟨0, 0, false⟩ = (eitherN (L.map joinN), ⟨j, 0, false⟩) := e
      rw [e'] at h1 h2 ⊢
      have hj := hw.le (by omega)
      have : j = s.length := by
        have h3 := h1.2
        rw [nx_at] at h3
        rcases Nat.lt_or_ge j s.length with q | q
        · rw [List.getElem?_eq_getElem q] at h3; cases h3
        · omega
      subst this
      exact ⟨L, hw, rfl, h2⟩
    · simp at he
theorem parse_of {s : List UInt8} {L : List (List Nd)} (h : Wh s 0 L s.length) (hf : formedB (eitherN (L.map joinN)) = true) : parseS s = (eitherN (L.map joinN), 0, 0) := by
  have e : parS s 10 ⟨0, 0, false⟩ = (eitherN (L.map joinN), ⟨s.length, 0, false⟩) := whole_of h (by omega)
  rw [parse_eq, e, if_neg, if_pos hf]
  simp [nx_at]
theorem either_law {a b : List UInt8} (ha : a.length ≤ 300) (hb : b.length ≤ 300) (e1 : (parseS a).2.2 = 0) (e2 : (parseS b).2.2 = 0) (za : sz (parseS a).1 ≤ 100000) (zb : sz (parseS b).1 ≤ 100000)
    (g1 : grN (parseS a).1 = 0) (g2 : grN (parseS b).1 = 0) (d1 : dep (parseS a).1 ≤ 9) (d2 : dep (parseS b).1 ≤ 9) (hc : cnt (parseS a).1 + cnt (parseS b).1 ≤ 199) :
    parseS (a ++ 124 :: b) = (eitherN [(parseS a).1, (parseS b).1], 0, 0) := by
  obtain ⟨L1, w1, x1, f1⟩ := parse_ok (by omega) e1 g1
  obtain ⟨L2, w2, x2, f2⟩ := parse_ok (by omega) e2 g2
  rw [x1] at za g1 d1 hc f1 ⊢
  rw [x2] at zb g2 d2 hc f2 ⊢
  obtain ⟨n1, k1⟩ := w1.kinds
  obtain ⟨n2, k2⟩ := w2.kinds
  have n1' : L1.map joinN ≠ [] := by simpa using n1
  have n2' : L2.map joinN ≠ [] := by simpa using n2
  rw [grN_either] at g1 g2
  have hf := formed_either k1 k2 n1' n2' g1 g2 za zb f1 f2 d1 d2 hc
  rw [either_two k1 k2 n1' n2', ← List.map_append]
  rw [← List.map_append] at hf
  refine parse_of ?_ hf
  have w2' := wh_sh (a ++ [124]) w2
  have e : a ++ [124] ++ b = a ++ 124 :: b := by simp
  rw [e] at w2'
  have l1 : (a ++ [124]).length = a.length + 1 := by simp
  rw [l1, Nat.add_zero] at w2'
  have l2 : (a ++ 124 :: b).length = a.length + 1 + b.length := by simp; omega
  rw [l2]
  exact wh_either w1 rfl (by omega) w2'
theorem one_branch {L : List (List Nd)} (hne : L ≠ []) (hk : ∀ x ∈ L.map joinN, x.kind ≠ 9) (h : (eitherN (L.map joinN)).kind ≠ 9) : ∃ l, L = [l] := by
  match L, hne with
  | [l], _ => exact ⟨l, rfl⟩
  | l :: l' :: L, _ =>
    rw [either_eq hk, eitherF_ne (by simp) (by simp)] at h
    exact absurd rfl h
theorem join_law {a b : List UInt8} (ha : a.length ≤ 300) (hb : b.length ≤ 301) (e1 : (parseS a).2.2 = 0) (e2 : (parseS b).2.2 = 0) (g1 : grN (parseS a).1 = 0) (g2 : grN (parseS b).1 = 0) (k1 : (parseS a).1.kind ≠ 9) (k2 : (parseS b).1.kind ≠ 9)
    (hr : isRep b[0]? = false) (hf : formedB (joinN [(parseS a).1, (parseS b).1]) = true) : parseS (a ++ b) = (joinN [(parseS a).1, (parseS b).1], 0, 0) := by
  obtain ⟨L1, w1, x1, f1⟩ := parse_ok (by omega) e1 g1
  obtain ⟨L2, w2, x2, f2⟩ := parse_ok (by omega) e2 g2
  rw [x1] at k1 hf ⊢
  rw [x2] at k2 hf ⊢
  obtain ⟨l1, rfl⟩ := one_branch w1.kinds.1 w1.kinds.2 k1
  obtain ⟨l2, rfl⟩ := one_branch w2.kinds.1 w2.kinds.2 k2
  have one : ∀ l : List Nd, (joinN l).kind ≠ 9 → eitherN ([l].map joinN) = joinN l := fun l h => by
    rw [either_eq (by intro x hx; simp at hx; subst hx; exact h)]
    rfl
  have q1 := w1.kinds.2 (joinN l1) (by simp)
  have q2 := w2.kinds.2 (joinN l2) (by simp)
  rw [one _ q1, one _ q2] at hf ⊢
  cases w1 with
  | one b1 c1 c2 c3 =>
    cases w2 with
    | one b2 c4 c5 c6 =>
      rw [join_two (fun x hx => (b1.kinds x hx).1) (fun x hx => (b2.kinds x hx).1) c1 c4] at hf ⊢
      have b2' := br_sh a b2
      rw [Nat.add_zero] at b2'
      have bb := br_join hr b1 rfl b2'
      have hne : l1 ++ l2 ≠ [] := by simp [c1]
      have hk := join_kind bb.kinds hne
      rw [← one _ hk] at hf ⊢
      refine parse_of ?_ hf
      rw [List.length_append]
      refine .one bb hne (by rw [rep_app hr (by omega)]; exact c2) ?_
      rw [List.getElem?_eq_none (by rw [List.length_append]; omega)]
      simp
    | more _ _ _ _ h => cases h
  | more _ _ _ _ h => cases h
end Go.Proofs.Try.E
