/- Walks: what the functions compute. -/
import Derived.Test.YtclnccgiicgooaaGreatDoorE3
set_option linter.unusedVariables false
set_option linter.unusedSimpArgs false
/- Flat lists; one behind the other; one of. -/
namespace Go.Proofs.Tryz.E
open Go.Mv
def Nd.kind : Nd → Int
  | .mk k _ _ _ _ _ _ _ _ _ => k
def Nd.kids : Nd → List Nd
  | .mk _ _ _ _ _ _ _ _ _ l => l
def flatL (kd : Int) : List Nd → List Nd
  | [] => []
  | x :: l => (if x.kind = kd then x.kids else [x]) ++ flatL kd l
theorem sz_kids (x : Nd) : szs x.kids + 1 = sz x := by cases x; simp [sz, Nd.kids]; omega
theorem szs_app : ∀ (l l' : List Nd), szs (l ++ l') = szs l + szs l'
  | [], _ => by simp [szs]
  | x :: l, l' => by simp [szs, szs_app l l']; omega
theorem flatL_sz (kd : Int) : ∀ l, szs (flatL kd l) ≤ szs l
  | [] => by simp [flatL]
  | x :: l => by
    have := flatL_sz kd l
    have := sz_kids x
    simp only [flatL, szs, szs_app]
    split
    · omega
    · simp only [szs]; omega
theorem encs_app : ∀ (l l' : List Nd), encs (l ++ l') = encs l ++ encs l'
  | [], _ => rfl
  | x :: l, l' => by simp [encs, encs_app l l']

/-- A list that is being made. -/
def Own (s : Sto) (d : Nat) (v : MV) (acc : List Nd) : Prop := (v = .sl .nil [] ∧ acc = []) ∨ ∃ c, v = .sl (.own d c) (encs acc) ∧ s.ow d c = some (acc.length, 10) ∧ c < s.ct d
theorem app_own {P : Program} {t e : TypeId} (ht : slc P t = some (e, 10, 96)) {s : Sto} {lim d : Nat} {v : MV} {acc ys : List Nd} {tk : Tok} (h : Own s d v acc) (hl : acc.length + ys.length ≤ 1000000) (hlim : lim ≤ d) (hu : s.Und (d + 1)) :
    ∃ v' s', appO P lim d t s v (.sl tk (encs ys)) = some (v', s') ∧ Own s' d v' (acc ++ ys) ∧ s'.cut d = s.cut d ∧ s'.Und (d + 1) ∧ s'.ob = s.ob := by
  by_cases hy : ys = []
  · subst hy
    refine ⟨v, s, ?_, by simpa using h, rfl, hu, rfl⟩
    rcases h with ⟨rfl, rfl⟩ | ⟨c, rfl, _, _⟩ <;> simp [appO, ht, encs]
  · have hy' : encs ys ≠ [] := fun e => hy ((encs_nil ys).1 e)
    rcases h with ⟨rfl, rfl⟩ | ⟨c, rfl, ho, hlt⟩
    · have hc : okz 10 ([] : List (List MV)) = true ∧ okz 10 (encs ys) = true ∧ 0 < 10 ∧ 0 < 96 ∧ (([] : List (List MV)).length + (encs ys).length) * 96 ≤ 140737488355328 := ⟨rfl, encs_okz ys, by decide, by decide, by rw [encs_len]; simp at hl ⊢; omega⟩
      refine ⟨_, _, by simp only [appO, ht]; rw [if_neg hy', if_pos hc, encs_datas]; simp only [if_true]; rfl, .inr ⟨s.ct d, rfl, ?_, ?_⟩, ?_, und_tick (und_own hu (Nat.lt_succ_self d) _ _) (Nat.lt_succ_self d), rfl⟩
      · simp [tokO, Sto.tick, Sto.own, encs_len]
      · simp [tokO, Sto.tick, Sto.own, upd]
      · simp only [tokO, cut_tick, cut_own]
    · have hc : okz 10 (encs acc) = true ∧ okz 10 (encs ys) = true ∧ 0 < 10 ∧ 0 < 96 ∧ ((encs acc).length + (encs ys).length) * 96 ≤ 140737488355328 := ⟨encs_okz acc, encs_okz ys, by decide, by decide, by rw [encs_len, encs_len]; omega⟩
      refine ⟨.sl (.own d c) (encs (acc ++ ys)), s.own d c (some (acc.length + ys.length, 10)), ?_, .inr ⟨c, rfl, ?_, hlt⟩, by rw [cut_own], und_own hu (Nat.lt_succ_self d) _ _, rfl⟩
      · simp only [appO, ht]
        rw [if_neg hy', if_pos hc, encs_datas]
        simp only [encs_len]
        rw [if_pos ⟨hlim, ho⟩, encs_app]
      simp [Sto.own]
theorem own_res {s σ : Sto} {d d' : Nat} {v : MV} {acc : List Nd} (h : Own s d v acc) : v.res σ d' = some (.sl .no (encs acc)) := by
  rcases h with ⟨rfl, rfl⟩ | ⟨c, rfl, _, _⟩ <;> rfl
theorem own_mono {s s' : Sto} {d : Nat} {v : MV} {acc : List Nd} (h : Own s d v acc) (e : ∀ c, c < s.ct d → s'.ow d c = s.ow d c) (k : s.ct d ≤ s'.ct d) : Own s' d v acc := by
  rcases h with h | ⟨c, h1, h2, h3⟩
  · exact .inl h
  · exact .inr ⟨c, h1, by rw [e c h3]; exact h2, Nat.lt_of_lt_of_le h3 k⟩
theorem ct_new (s : Sto) (d t c : Nat) (cs : List MV) : s.ct d ≤ ((s.set ⟨d, t, c⟩ cs).tick d).ct d := by simp [Sto.tick, Sto.set, upd]
theorem own_new {s : Sto} {d : Nat} {v : MV} {acc : List Nd} (h : Own s d v acc) (t c : Nat) (cs : List MV) : Own ((s.set ⟨d, t, c⟩ cs).tick d) d v acc := own_mono h (fun _ _ => rfl) (ct_new ..)
theorem own_tok {s : Sto} {d : Nat} {v : MV} {acc : List Nd} (h : Own s d v acc) (x : Option (Nat × Nat)) : Own ((s.own d (s.ct d) x).tick d) d v acc :=
  own_mono h (fun c hc => by simp only [Sto.tick, Sto.own]; rw [if_neg (by omega)]) (by simp [Sto.tick, Sto.own, upd])
theorem und_tok {s : Sto} {d : Nat} (h : s.Und (d + 1)) (c : Nat) (x : Option (Nat × Nat)) : ((s.own d c x).tick d).Und (d + 1) := und_tick (und_own h (Nat.lt_succ_self d) _ _) (Nat.lt_succ_self d)
@[go_sem] theorem enc_kind (x : Nd) : (enc x)[0]? = some (.int .i64 x.kind) := by cases x; rfl
@[go_sem] theorem enc_kids (x : Nd) : (enc x)[9]? = some (.sl .no (encs x.kids)) := by cases x; rfl
theorem flatL_at {l : List Nd} {i : Nat} (h : i < l.length) (kd : Int) : flatL kd (l.drop i) = (if l[i].kind = kd then l[i].kids else [l[i]]) ++ flatL kd (l.drop (i + 1)) := by rw [List.drop_eq_getElem_cons h, flatL]
@[go_sem] theorem fdO_agg (P : Program) (t : TypeId) (f : Nat) (cs : List MV) : fdO P t f (.agg cs) = (fldo P t f).bind fun x => ldC P x.2 cs x.1 := rfl
@[go_sem] theorem bslO_eq (P : Program) (d : Nat) (t : TypeId) (n : Nat) (ps : List (Nat × MV)) (σ : Sto) : bslO P d t n ps σ = (slc P t).bind fun x => if ps.length = n ∧ n * x.2.1 ≤ 65536 ∧ 0 < x.2.1 then (sliceParts x.2.1 0 ps).map fun xs => tokO σ d n x.2.1 xs else none := by
  unfold bslO
  cases slc P t <;> rfl
@[go_sem] theorem parts_nil (s i : Nat) : sliceParts s i [] = some [] := rfl
@[go_sem] theorem parts_cons (s i j : Nat) (v : MV) (r : List (Nat × MV)) : sliceParts s i ((j, v) :: r) = if j = i then v.cells.bind fun cs => if cs.length = s then (datas cs).bind fun x => (sliceParts s (i + 1) r).map fun xs => x :: xs else none else none := rfl
@[go_sem] theorem tokO_eq (σ : Sto) (d n s : Nat) (xs : List (List MV)) : tokO σ d n s xs = (.sl (.own d (σ.ct d)) xs, (σ.own d (σ.ct d) (some (n, s))).tick d) := rfl
@[go_sem] theorem W1_app {C : Cfg} {lim d : Nat} {a : Nat → MV} {σ : Sto} {dst : Option Tmp} {ty : TypeId} {pos : String} {aft : Array Edge} {gd : Option (Nat × Bool)} {Q : MV → Sto → Prop} {x y : Operand} {t : TypeId} (h : C.rw t (dstT dst) = none) : W1 C lim d a ⟨dst, .call ⟨.builtin .append, #[x, y], #[t, t]⟩, ty, pos, aft, gd⟩ σ Q ↔ Opt (appO C.P lim d t σ (valO a x) (valO a y)) fun x => Q x.1 x.2 := by
  rw [W1_append, appX_n h]
attribute [go_sem] appX_n
set_option maxHeartbeats 2000000
theorem w29 (kd : Int) (xs : List Nd) (hsz : szs xs ≤ 1000000) (lim d : Nat) (σ : Sto) (hlim : lim ≤ d) (hu : σ.Und d) : Ret lim d 268 [.int .i64 kd, .sl .no (encs xs)] σ (.sl .no (encs (flatL kd xs))) σ := by
  have hl := len_le xs
  unfold Ret
  rw [WF_body (C := X) rfl Go.Proofs.Tryz.func268 rfl (by kernel_rfl)]
  simp only [go_sem, Nat.reduceLT, reduceIte, W_seq, WO_guard, Go.Proofs.Tryz.results268, Nat.reduceEqDiff, Nat.reduceAdd, reduceCtorEq]
  refine loop_ind (I := fun k a s => ∃ (i : Nat) (acc : List Nd), i + k = xs.length ∧ a 10 = .int .i64 i ∧ a 9 = .int .i64 xs.length ∧ a 8 = .sl .no (encs xs) ∧ a 0 = .int .i64 kd ∧ Own s d (a 5) acc ∧ acc ++ flatL kd (xs.drop i) = flatL kd xs ∧ szs acc + szs (xs.drop i) ≤ szs xs ∧ s.cut d = σ ∧ s.Und (d + 1)) ?_ xs.length _ _ ?_
  · rintro k a s ⟨i, acc, hk, h10, h9, h8, h0, h5, hc, hz, hs, hs2⟩
    by_cases hi : i < xs.length
    · have e1 : ((i : Int) < (xs.length : Int)) := by omega
      have e2 : xs[i]? = some xs[i] := List.getElem?_eq_getElem hi
      have hm := List.getElem_mem hi
      have hy := sz_le xs _ hm
      have hza := len_le acc
      have hzk := sz_kids xs[i]
      have hzl := len_le xs[i].kids
      rw [List.drop_eq_getElem_cons hi, szs] at hz
      rw [flatL_at hi] at hc
      simp only [go_sem, Nat.reduceLT, reduceIte, W_seq, WO_guard, e1, e2, h10, h9, h8, h0, encs_at, Nat.reduceEqDiff, Nat.reduceAdd, reduceCtorEq]
      by_cases hkd : xs[i].kind = kd
      · rw [if_pos hkd] at hc
        have e3 : (xs[i].kind == kd) = true := by simpa using hkd
        simp only [e3, if_true]
        refine (w39 xs[i] (by omega) lim (d + 1) _ (by omega) (und_new hs2 _ _ _)).wf ?_
        simp only [go_sem, Nat.reduceLT, reduceIte, W_seq, WO_guard, Nat.reduceEqDiff, Nat.reduceAdd, reduceCtorEq]
        obtain ⟨v', s', q1, q2, q3, q4, q5⟩ := app_own (P := X.P) (t := 65) (ys := xs[i].kids) (tk := .no) slc_65 (own_new h5 7 (s.ct d) (enc xs[i])) (by omega) hlim (und_new hs2 7 (s.ct d) (enc xs[i]))
        simp only [go_sem, Nat.reduceLT, reduceIte, W_seq, WO_guard, q1, h10, Nat.reduceEqDiff, Nat.reduceAdd, reduceCtorEq]
        exact ⟨k - 1, by omega, i + 1, _, by omega, by rw [wr64 _ (by omega) (by omega)]; rfl, q2, by rw [← hc, List.append_assoc], by rw [szs_app]; omega, by rw [q3, cut_tick, cut_mine]; exact hs, q4⟩
      · rw [if_neg hkd] at hc
        have e3 : (xs[i].kind == kd) = false := by simpa using hkd
        simp only [e3, Bool.false_eq_true, if_false]
        refine (w39 xs[i] (by omega) lim (d + 1) _ (by omega) (und_new hs2 _ _ _)).wf ?_
        simp only [go_sem, Nat.reduceLT, reduceIte, W_seq, WO_guard, Nat.reduceEqDiff, Nat.reduceAdd, reduceCtorEq, Nat.reduceMul, Nat.reduceLeDiff, Nat.reduceLT]
        obtain ⟨v', s', q1, q2, q3, q4, q5⟩ := app_own (P := X.P) (t := 65) (ys := [xs[i]]) (tk := .own d (s.ct d + 1)) slc_65 (own_tok (own_new h5 7 (s.ct d) (enc xs[i])) (some (1, 10))) (by simp; omega) hlim (und_tok (und_new hs2 7 (s.ct d) (enc xs[i])) _ _)
        rw [ct_tick, ct_set] at q1
        simp only [encs] at q1
        simp only [go_sem, Nat.reduceLT, reduceIte, W_seq, WO_guard, q1, h10, Nat.reduceEqDiff, Nat.reduceAdd, reduceCtorEq, Nat.reduceMul, Nat.reduceLeDiff, Nat.reduceLT]
        exact ⟨k - 1, by omega, i + 1, _, by omega, by rw [wr64 _ (by omega) (by omega)]; rfl, q2, by rw [← hc, List.append_assoc], by rw [szs_app]; simp only [szs]; omega, by rw [q3, cut_tick, cut_own, cut_tick, cut_mine]; exact hs, q4⟩
    · have e1 : ¬ ((i : Int) < (xs.length : Int)) := by omega
      simp only [go_sem, Nat.reduceLT, reduceIte, W_seq, WO_guard, e1, h10, h9, h8, encs_at, Nat.reduceEqDiff, Nat.reduceAdd, reduceCtorEq, own_res h5]
      rw [List.drop_eq_nil_of_le (by omega), flatL, List.append_nil] at hc
      exact ⟨by rw [hc], hs⟩
  · exact ⟨0, [], Nat.zero_add _, rfl, congrArg (fun (n : Nat) => MV.int .i64 n) (encs_len xs), rfl, rfl, .inl ⟨rfl, rfl⟩, rfl, by simp [szs], cut_und _ _ hu, und_succ hu⟩
end Go.Proofs.Tryz.E
