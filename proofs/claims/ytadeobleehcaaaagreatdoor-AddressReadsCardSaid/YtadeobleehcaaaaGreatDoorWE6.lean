/- Walks: what the functions compute. Walks: what the functions compute. Walks: what the functions compute. Walks: what the functions compute. Walks: what the functions compute. -/
import Derived.Test.YtadeobleehcaaaaGreatDoorWE3
set_option linter.unusedVariables false
set_option linter.unusedSimpArgs false
/- Flat lists; one behind the other; one of. -/
namespace Go.Proofs.Tryz.E
open Go.Mv
def Nd.kind : Nd → Int
 | .mk k _ _ _ _ _ _ _ _ _ => k
def Nd.kids : Nd → List Nd
 | .mk _ _ _ _ _ _ _ _ _ l => l
def flatL (kd : Int) : List Nd → List Nd
 | [] => []
 | x :: l => (if x.kind = kd then x.kids else [x]) ++ flatL kd l
theorem sz_kids (x : Nd) : szs x.kids + 1 = sz x := by cases x; simp [sz, Nd.kids]; omega
theorem szs_app : ∀ (l l' : List Nd), szs (l ++ l') = szs l + szs l'
 | [], _ => by simp [szs]
 | x :: l, l' => by simp [szs, szs_app l l']; omega
theorem flatL_sz (kd : Int) : ∀ l, szs (flatL kd l) ≤ szs l
 | [] => by simp [flatL]
 | x :: l => by
  have := flatL_sz kd l
  have := sz_kids x
  simp only [flatL, szs, szs_app]
  split
  ·omega
  ·simp only [szs]; omega
theorem encs_app : ∀ (l l' : List Nd), encs (l ++ l') = encs l ++ encs l'
 | [], _ => rfl
 | x :: l, l' => by simp [encs, encs_app l l']

def Own (s : Sto) (d : Nat) (v : MV) (acc : List Nd) : Prop := (v = .sl .nil [] ∧ acc = []) ∨ ∃ c, v = .sl (.own d c) (encs acc) ∧ s.ow d c = some (acc.length, 10) ∧ c < s.ct d
theorem app_own {P : Program} {t e : TypeId} (ht : slc P t = some (e, 10, 96)) {s : Sto} {lim d : Nat} {v : MV} {acc ys : List Nd} {tk : Tok} (h : Own s d v acc) (hl : acc.length + ys.length ≤ 1000000) (hlim : lim ≤ d) (hu : s.Und (d + 1)) :
  ∃ v' s', appO P lim d t s v (.sl tk (encs ys)) = some (v', s') ∧ Own s' d v' (acc ++ ys) ∧ s'.cut d = s.cut d ∧ s'.Und (d + 1) ∧ s'.ob = s.ob := by
 by_cases hy : ys = []
 ·subst hy
  refine ⟨v, s, ?_, by simpa using h, rfl, hu, rfl⟩
  rcases h with ⟨rfl, rfl⟩ | ⟨c, rfl, _, _⟩ <;> simp [appO, ht, encs]
 ·have hy' : encs ys ≠ [] := fun e => hy ((encs_nil ys).1 e)
  rcases h with ⟨rfl, rfl⟩ | ⟨c, rfl, ho, hlt⟩
  ·have hc : okz 10 ([] : List (List MV)) = true ∧ okz 10 (encs ys) = true ∧ 0 < 10 ∧ 0 < 96 ∧ (([] : List (List MV)).length + (encs ys).length) * 96 ≤ 140737488355328 := ⟨rfl, encs_okz ys, by decide, by decide, by rw [encs_len]; simp at hl ⊢; omega⟩
   refine ⟨_, _, by simp only [appO, ht]; rw [if_neg hy', if_pos hc, encs_datas]; simp only [if_true]; rfl, .inr ⟨s.ct d, rfl, ?_, ?_⟩, ?_, und_tick (und_own hu (Nat.lt_succ_self d) _ _) (Nat.lt_succ_self d), rfl⟩
   ·simp [Sto.tick, Sto.own, encs_len]
   ·simp [Sto.tick, Sto.own, upd]
   ·simp only [cut_tick, cut_own]
  ·have hc : okz 10 (encs acc) = true ∧ okz 10 (encs ys) = true ∧ 0 < 10 ∧ 0 < 96 ∧ ((encs acc).length + (encs ys).length) * 96 ≤ 140737488355328 := ⟨encs_okz acc, encs_okz ys, by decide, by decide, by rw [encs_len, encs_len]; omega⟩
   refine ⟨.sl (.own d c) (encs (acc ++ ys)), s.own d c (some (acc.length + ys.length, 10)), ?_, .inr ⟨c, rfl, ?_, hlt⟩, by rw [cut_own], und_own hu (Nat.lt_succ_self d) _ _, rfl⟩
   ·simp only [appO, ht]
    rw [if_neg hy', if_pos hc, encs_datas]
    simp only [encs_len]
    rw [if_pos ⟨hlim, ho⟩, encs_app]
   simp [Sto.own]
theorem own_res {s σ : Sto} {d d' : Nat} {v : MV} {acc : List Nd} (h : Own s d v acc) : v.res σ d' = some (.sl .no (encs acc)) := by
 rcases h with ⟨rfl, rfl⟩ | ⟨c, rfl, _, _⟩ <;> rfl
theorem own_mono {s s' : Sto} {d : Nat} {v : MV} {acc : List Nd} (h : Own s d v acc) (e : ∀ c, c < s.ct d → s'.ow d c = s.ow d c) (k : s.ct d ≤ s'.ct d) : Own s' d v acc := by
 rcases h with h | ⟨c, h1, h2, h3⟩
 ·exact .inl h
 ·exact .inr ⟨c, h1, by rw [e c h3]; exact h2, Nat.lt_of_lt_of_le h3 k⟩
theorem ct_new (s : Sto) (d t c : Nat) (cs : List MV) : s.ct d ≤ ((s.set ⟨d, t, c⟩ cs).tick d).ct d := by simp [Sto.tick, Sto.set, upd]
theorem own_new {s : Sto} {d : Nat} {v : MV} {acc : List Nd} (h : Own s d v acc) (t c : Nat) (cs : List MV) : Own ((s.set ⟨d, t, c⟩ cs).tick d) d v acc := own_mono h (fun _ _ => rfl) (ct_new ..)
theorem own_tok {s : Sto} {d : Nat} {v : MV} {acc : List Nd} (h : Own s d v acc) (x : Option (Nat × Nat)) : Own ((s.own d (s.ct d) x).tick d) d v acc :=
 own_mono h (fun c hc => by simp only [Sto.tick, Sto.own]; rw [if_neg (by omega)]) (by simp [Sto.tick, Sto.own, upd])
theorem und_tok {s : Sto} {d : Nat} (h : s.Und (d + 1)) (c : Nat) (x : Option (Nat × Nat)) : ((s.own d c x).tick d).Und (d + 1) := und_tick (und_own h (Nat.lt_succ_self d) _ _) (Nat.lt_succ_self d)
@[go_sem] theorem enc_kind (x : Nd) : (enc x)[0]? = some (.int .i64 x.kind) := by cases x; rfl
@[go_sem] theorem enc_kids (x : Nd) : (enc x)[9]? = some (.sl .no (encs x.kids)) := by cases x; rfl
theorem flatL_at {l : List Nd} {i : Nat} (h : i < l.length) (kd : Int) : flatL kd (l.drop i) = (if l[i].kind = kd then l[i].kids else [l[i]]) ++ flatL kd (l.drop (i + 1)) := by rw [List.drop_eq_getElem_cons h, flatL]
@[go_sem] theorem fdO_agg (P : Program) (t : TypeId) (f : Nat) (cs : List MV) : fdO P t f (.agg cs) = (fldo P t f).bind fun x => ldC P x.2 cs x.1 := rfl
@[go_sem] theorem bslO_eq (P : Program) (d : Nat) (t : TypeId) (n : Nat) (ps : List (Nat × MV)) (σ : Sto) : bslO P d t n ps σ = (slc P t).bind fun x => if ps.length = n ∧ n * x.2.1 ≤ 65536 ∧ 0 < x.2.1 then (sliceParts x.2.1 0 ps).map fun xs => tokO σ d n x.2.1 xs else none := by
 unfold bslO
 cases slc P t <;> rfl
@[go_sem] theorem parts_nil (s i : Nat) : sliceParts s i [] = some [] := rfl
@[go_sem] theorem parts_cons (s i j : Nat) (v : MV) (r : List (Nat × MV)) : sliceParts s i ((j, v) :: r) = if j = i then v.cells.bind fun cs => if cs.length = s then (datas cs).bind fun x => (sliceParts s (i + 1) r).map fun xs => x :: xs else none else none := rfl
@[go_sem] theorem tokO_eq (σ : Sto) (d n s : Nat) (xs : List (List MV)) : tokO σ d n s xs = (.sl (.own d (σ.ct d)) xs, (σ.own d (σ.ct d) (some (n, s))).tick d) := rfl
@[go_sem] theorem W1_app {C : Cfg} {lim d : Nat} {a : Nat → MV} {σ : Sto} {dst : Option Tmp} {ty : TypeId} {pos : String} {aft : Array Edge} {gd : Option (Nat × Bool)} {Q : MV → Sto → Prop} {x y : Operand} {t : TypeId} : W1 C lim d a ⟨dst, .call ⟨.builtin .append, #[x, y], #[t, t]⟩, ty, pos, aft, gd⟩ σ Q ↔ Opt (appO C.P lim d t σ (valO a x) (valO a y)) fun x => Q x.1 x.2 := W1_append
set_option maxHeartbeats 2000000
theorem w29 (kd : Int) (xs : List Nd) (hsz : szs xs ≤ 1000000) (lim d : Nat) (σ : Sto) (hlim : lim ≤ d) (hu : σ.Und d) : Ret lim d 125 [.int .i64 kd, .sl .no (encs xs)] σ (.sl .no (encs (flatL kd xs))) σ := by
 have hl := len_le xs
 unfold Ret
 rw [WF_body (C := X) rfl func125 rfl (by kernel_rfl)]
 simp only [go_sem, W_seq, results125, Nat.reduceEqDiff]
 refine loop_ind (I := fun k a s => ∃ (i : Nat) (acc : List Nd), i + k = xs.length ∧ a 10 = .int .i64 i ∧ a 9 = .int .i64 xs.length ∧ a 8 = .sl .no (encs xs) ∧ a 0 = .int .i64 kd ∧ Own s d (a 5) acc ∧ acc ++ flatL kd (xs.drop i) = flatL kd xs ∧ szs acc + szs (xs.drop i) ≤ szs xs ∧ s.cut d = σ ∧ s.Und (d + 1)) ?_ xs.length _ _ ?_
 ·rintro k a s ⟨i, acc, hk, h10, h9, h8, h0, h5, hc, hz, hs, hs2⟩
  by_cases hi : i < xs.length
  ·have e1 : ((i : Int) < (xs.length : Int)) := by omega
   have e2 : xs[i]? = some xs[i] := List.getElem?_eq_getElem hi
   have hm := List.getElem_mem hi
   have hy := sz_le xs _ hm
   have hza := len_le acc
   have hzk := sz_kids xs[i]
   have hzl := len_le xs[i].kids
   rw [List.drop_eq_getElem_cons hi, szs] at hz
   rw [flatL_at hi] at hc
   simp only [go_sem, Nat.reduceLT, W_seq, e1, e2, h10, h9, h8, h0, encs_at, Nat.reduceEqDiff, Nat.reduceAdd, reduceCtorEq]
   by_cases hkd : xs[i].kind = kd
   ·rw [if_pos hkd] at hc
    have e3 : (xs[i].kind == kd) = true := by simpa using hkd
    simp only [e3, if_true]
    refine (w39 xs[i] (by omega) lim (d + 1) _ (by omega) (und_new hs2 _ _ _)).wf ?_
    simp only [go_sem, Nat.reduceAdd, reduceCtorEq]
    obtain ⟨v', s', q1, q2, q3, q4, q5⟩ := app_own (P := X.P) (t := 31) (ys := xs[i].kids) (tk := .no) slc_31 (own_new h5 7 (s.ct d) (enc xs[i])) (by omega) hlim (und_new hs2 7 (s.ct d) (enc xs[i]))
    simp only [go_sem, q1]
    exact ⟨k - 1, by omega, i + 1, _, by omega, by rw [wr64 _ (by omega) (by omega)]; rfl, q2, by rw [← hc, List.append_assoc], by rw [szs_app]; omega, by rw [q3, cut_tick, cut_mine]; exact hs, q4⟩
   ·rw [if_neg hkd] at hc
    have e3 : (xs[i].kind == kd) = false := by simpa using hkd
    simp only [e3, Bool.false_eq_true, if_false]
    refine (w39 xs[i] (by omega) lim (d + 1) _ (by omega) (und_new hs2 _ _ _)).wf ?_
    simp only [go_sem, Nat.reduceMul, Nat.reduceLeDiff]
    obtain ⟨v', s', q1, q2, q3, q4, q5⟩ := app_own (P := X.P) (t := 31) (ys := [xs[i]]) (tk := .own d (s.ct d + 1)) slc_31 (own_tok (own_new h5 7 (s.ct d) (enc xs[i])) (some (1, 10))) (by simp; omega) hlim (und_tok (und_new hs2 7 (s.ct d) (enc xs[i])) _ _)
    rw [ct_tick, ct_set] at q1
    simp only [encs] at q1
    simp only [go_sem, q1]
    exact ⟨k - 1, by omega, i + 1, _, by omega, by rw [wr64 _ (by omega) (by omega)]; rfl, q2, by rw [← hc, List.append_assoc], by rw [szs_app]; simp only [szs]; omega, by rw [q3, cut_tick, cut_own, cut_tick, cut_mine]; exact hs, q4⟩
  ·have e1 : ¬ ((i : Int) < (xs.length : Int)) := by omega
   simp only [go_sem, Nat.reduceLT, W_seq, e1, h10, h9, h8, encs_at, Nat.reduceEqDiff, Nat.reduceAdd, reduceCtorEq, own_res h5]
   rw [List.drop_eq_nil_of_le (by omega), flatL, List.append_nil] at hc
   exact ⟨by rw [hc], hs⟩
 ·exact ⟨0, [], Nat.zero_add _, rfl, congrArg (fun (n : Nat) => MV.int .i64 n) (encs_len xs), rfl, rfl, .inl ⟨rfl, rfl⟩, rfl, by simp [szs], cut_und _ _ hu, und_succ hu⟩
@[go_sem] theorem buildO_eq (P : Program) (t : TypeId) (ps : List (Nat × MV)) : buildO P t ps = (bldz P t).bind fun z => (fillC (places P t) z ps).map .agg := by
 unfold buildO
 cases bldz P t <;> rfl
@[go_sem] theorem fillC_nil (pl : Nat → Option (Nat × Nat)) (cs : List MV) : fillC pl cs [] = some cs := rfl
@[go_sem] theorem fillC_cons (pl : Nat → Option (Nat × Nat)) (cs : List MV) (i : Nat) (v : MV) (r : List (Nat × MV)) : fillC pl cs ((i, v) :: r) = (pl i).bind fun x => v.cells.bind fun new => if new.length = x.2 ∧ x.1 + x.2 ≤ cs.length then fillC pl (putC cs new x.1) r else none := by
 simp only [fillC]
 cases pl i with
 | none => rfl
 | some x => cases v.cells <;> rfl
@[go_sem] theorem frz_enc (σ : Sto) (d : Nat) (x : Nd) : (enc x).mapM (MV.frz σ d) = some (enc x) := by
 cases x
 simp only [enc, mapM_cons', mapM_nil', frz_int, frz_sl, Option.bind_some, Option.map_some]
def nd (k : Int) (l : List Nd) : Nd := .mk k 0 0 0 0 0 0 0 0 l
def joinF (f : List Nd) : Nd := match f with | [x] => x | _ => nd 8 f
def eitherF (f : List Nd) : Nd := match f with | [] => nd 8 [] | [x] => x | _ => nd 9 f
def joinN (l : List Nd) : Nd := joinF (flatL 8 l)
def eitherN (l : List Nd) : Nd := eitherF (flatL 9 l)
theorem joinF_ne {f : List Nd} (h : f.length ≠ 1) : joinF f = nd 8 f := by
 unfold joinF
 split
 ·simp at h
 ·rfl
theorem eitherF_ne {f : List Nd} (h0 : f.length ≠ 0) (h : f.length ≠ 1) : eitherF f = nd 9 f := by
 unfold eitherF
 split
 ·simp at h0
 ·simp at h
 ·rfl
set_option maxHeartbeats 2000000
theorem w18 (xs : List Nd) (hsz : szs xs ≤ 1000000) (lim d : Nat) (σ : Sto) (hlim : lim ≤ d) (hu : σ.Und d) : Ret lim d 99 [.sl .no (encs xs)] σ (.agg (enc (joinN xs))) σ := by
 unfold Ret
 rw [WF_body (C := X) rfl func99 rfl (by kernel_rfl)]
 simp only [go_sem, Nat.reduceLT, W_seq, results99, Nat.reduceEqDiff, Nat.reduceAdd, reduceCtorEq]
 refine (w29 8 xs hsz lim (d + 1) _ (by omega) (und_new (und_succ hu) _ _ _)).wf ?_
 unfold joinN
 have hf := flatL_sz 8 xs
 generalize flatL 8 xs = f at hf
 simp only [go_sem, encs_len, Nat.reduceAdd]
 by_cases h1 : f.length = 1
 ·obtain ⟨x, rfl⟩ := List.length_eq_one_iff.1 h1
  simp only [go_sem, encs, List.length_cons, List.length_nil, joinF, cut_und _ _ hu, Int.reduceLE, Int.reduceToNat, Int.natCast_one, beq_self_eq_true]
 ·have e : ((f.length : Int) == 1) = false := by simp; omega
  simp only [go_sem, e, joinF_ne h1, nd, enc, cut_und _ _ hu, Bool.false_eq_true]
theorem w17 (xs : List Nd) (hsz : szs xs ≤ 1000000) (lim d : Nat) (σ : Sto) (hlim : lim ≤ d) (hu : σ.Und d) : Ret lim d 102 [.sl .no (encs xs)] σ (.agg (enc (eitherN xs))) σ := by
 unfold Ret
 rw [WF_body (C := X) rfl func102 rfl (by kernel_rfl)]
 simp only [go_sem, Nat.reduceLT, W_seq, results102, Nat.reduceEqDiff, Nat.reduceAdd, reduceCtorEq]
 refine (w29 9 xs hsz lim (d + 1) _ (by omega) (und_new (und_succ hu) _ _ _)).wf ?_
 unfold eitherN
 have hf := flatL_sz 9 xs
 generalize flatL 9 xs = f at hf
 simp only [go_sem, encs_len, Nat.reduceAdd]
 by_cases h0 : f.length = 0
 ·have : f = [] := List.length_eq_zero_iff.1 h0
  subst this
  simp only [go_sem, encs, List.length_nil, eitherF, nd, enc, cut_und _ _ hu, Int.reduceLE, Int.reduceToNat, Int.natCast_zero, beq_self_eq_true]
 ·by_cases h1 : f.length = 1
  ·obtain ⟨x, rfl⟩ := List.length_eq_one_iff.1 h1
   have e : ((1 : Int) == 0) = false := rfl
   simp only [go_sem, e, encs, List.length_cons, List.length_nil, eitherF, cut_und _ _ hu, Int.reduceLE, Int.reduceToNat, Int.natCast_one, beq_self_eq_true, Bool.false_eq_true]
  ·have e : ((f.length : Int) == 1) = false := by simp; omega
   have e' : ((f.length : Int) == 0) = false := by simp only [beq_eq_false_iff_ne, ne_eq]; omega
   simp only [go_sem, e, e', eitherF_ne h0 h1, nd, enc, cut_und _ _ hu, Bool.false_eq_true]
theorem w47 (kd : Int) (xs : List Nd) (hsz : szs xs ≤ 1000000) (lim d : Nat) (σ : Sto) (hlim : lim ≤ d) (hu : σ.Und d) : Ret lim d 111 [.int .i64 kd, .sl .no (encs xs)] σ (.sl .no (encs (flatL kd xs))) σ := by
 have hl := len_le xs
 unfold Ret
 rw [WF_body (C := X) rfl func111 rfl (by kernel_rfl)]
 simp only [go_sem, W_seq, results111, Nat.reduceEqDiff]
 refine loop_ind (I := fun k a s => ∃ (i : Nat) (acc : List Nd), i + k = xs.length ∧ a 9 = .int .i64 i ∧ a 8 = .int .i64 xs.length ∧ a 1 = .sl .no (encs xs) ∧ a 0 = .int .i64 kd ∧ Own s d (a 5) acc ∧ acc ++ flatL kd (xs.drop i) = flatL kd xs ∧ szs acc + szs (xs.drop i) ≤ szs xs ∧ s.cut d = σ ∧ s.Und (d + 1)) ?_ xs.length _ _ ?_
 ·rintro k a s ⟨i, acc, hk, h9, h8, h1, h0, h5, hc, hz, hs, hs2⟩
  by_cases hi : i < xs.length
  ·have e1 : ((i : Int) < (xs.length : Int)) := by omega
   have e2 : xs[i]? = some xs[i] := List.getElem?_eq_getElem hi
   have hm := List.getElem_mem hi
   have hy := sz_le xs _ hm
   have hza := len_le acc
   have hzk := sz_kids xs[i]
   have hzl := len_le xs[i].kids
   rw [List.drop_eq_getElem_cons hi, szs] at hz
   rw [flatL_at hi] at hc
   simp only [go_sem, Nat.reduceLT, W_seq, e1, e2, h9, h8, h1, h0, encs_at, Nat.reduceEqDiff, Nat.reduceAdd, reduceCtorEq]
   by_cases hkd : xs[i].kind = kd
   ·rw [if_pos hkd] at hc
    have e3 : (xs[i].kind == kd) = true := by simpa using hkd
    obtain ⟨v', s', q1, q2, q3, q4, q5⟩ := app_own (P := X.P) (t := 42) (ys := xs[i].kids) (tk := .no) slc_42 h5 (by omega) hlim hs2
    simp only [go_sem, e3, q1]
    exact ⟨k - 1, by omega, i + 1, _, by omega, by rw [wr64 _ (by omega) (by omega)]; rfl, q2, by rw [← hc, List.append_assoc], by rw [szs_app]; omega, by rw [q3]; exact hs, q4⟩
   ·rw [if_neg hkd] at hc
    have e3 : (xs[i].kind == kd) = false := by simpa using hkd
    obtain ⟨v', s', q1, q2, q3, q4, q5⟩ := app_own (P := X.P) (t := 42) (ys := [xs[i]]) (tk := .own d (s.ct d)) slc_42 (own_tok h5 (some (1, 10))) (by simp; omega) hlim (und_tok hs2 _ _)
    simp only [encs] at q1
    simp only [go_sem, e3, q1, Nat.reduceMul, Nat.reduceLeDiff, Bool.false_eq_true]
    exact ⟨k - 1, by omega, i + 1, _, by omega, by rw [wr64 _ (by omega) (by omega)]; rfl, q2, by rw [← hc, List.append_assoc], by rw [szs_app]; simp only [szs]; omega, by rw [q3, cut_tick, cut_own]; exact hs, q4⟩
  ·have e1 : ¬ ((i : Int) < (xs.length : Int)) := by omega
   simp only [go_sem, Nat.reduceLT, W_seq, e1, h9, h8, Nat.reduceEqDiff, reduceCtorEq, own_res h5]
   rw [List.drop_eq_nil_of_le (by omega), flatL, List.append_nil] at hc
   exact ⟨by rw [hc], hs⟩
 ·exact ⟨0, [], Nat.zero_add _, rfl, congrArg (fun (n : Nat) => MV.int .i64 n) (encs_len xs), rfl, rfl, .inl ⟨rfl, rfl⟩, rfl, by simp [szs], cut_und _ _ hu, und_succ hu⟩
theorem w46 (xs : List Nd) (hsz : szs xs ≤ 1000000) (lim d : Nat) (σ : Sto) (hlim : lim ≤ d) (hu : σ.Und d) : Ret lim d 110 [.sl .no (encs xs)] σ (.agg (enc (joinN xs))) σ := by
 unfold Ret
 rw [WF_body (C := X) rfl func110 rfl (by kernel_rfl)]
 simp only [go_sem, Nat.reduceLT, W_seq, results110, Nat.reduceEqDiff, Nat.reduceAdd, reduceCtorEq]
 refine (w47 8 xs hsz lim (d + 1) _ (by omega) (und_new (und_succ hu) _ _ _)).wf ?_
 unfold joinN
 have hf := flatL_sz 8 xs
 generalize flatL 8 xs = f at hf
 simp only [go_sem, encs_len, Nat.reduceAdd]
 by_cases h1 : f.length = 1
 ·obtain ⟨x, rfl⟩ := List.length_eq_one_iff.1 h1
  simp only [go_sem, encs, List.length_cons, List.length_nil, joinF, cut_und _ _ hu, Int.reduceLE, Int.reduceToNat, Int.natCast_one, beq_self_eq_true]
 ·have e : ((f.length : Int) == 1) = false := by simp; omega
  simp only [go_sem, e, joinF_ne h1, nd, enc, cut_und _ _ hu, Bool.false_eq_true]
theorem w34 (xs : List Nd) (hsz : szs xs ≤ 1000000) (lim d : Nat) (σ : Sto) (hlim : lim ≤ d) (hu : σ.Und d) : Ret lim d 85 [.sl .no (encs xs)] σ (.agg (enc (eitherN xs))) σ := by
 unfold Ret
 rw [WF_body (C := X) rfl func85 rfl (by kernel_rfl)]
 simp only [go_sem, Nat.reduceLT, W_seq, results85, Nat.reduceEqDiff, Nat.reduceAdd, reduceCtorEq]
 refine (w47 9 xs hsz lim (d + 1) _ (by omega) (und_new (und_succ hu) _ _ _)).wf ?_
 unfold eitherN
 have hf := flatL_sz 9 xs
 generalize flatL 9 xs = f at hf
 simp only [go_sem, encs_len, Nat.reduceAdd]
 by_cases h0 : f.length = 0
 ·have : f = [] := List.length_eq_zero_iff.1 h0
  subst this
  simp only [go_sem, encs, List.length_nil, eitherF, nd, enc, cut_und _ _ hu, Int.reduceLE, Int.reduceToNat, Int.natCast_zero, beq_self_eq_true]
 ·by_cases h1 : f.length = 1
  ·obtain ⟨x, rfl⟩ := List.length_eq_one_iff.1 h1
   have e : ((1 : Int) == 0) = false := rfl
   simp only [go_sem, e, encs, List.length_cons, List.length_nil, eitherF, cut_und _ _ hu, Int.reduceLE, Int.reduceToNat, Int.natCast_one, beq_self_eq_true, Bool.false_eq_true]
  ·have e : ((f.length : Int) == 1) = false := by simp; omega
   have e' : ((f.length : Int) == 0) = false := by simp only [beq_eq_false_iff_ne, ne_eq]; omega
   simp only [go_sem, e, e', eitherF_ne h0 h1, nd, enc, cut_und _ _ hu, Bool.false_eq_true]

/-! ### Sets -/
def or64 (x y : Int) : Int := IntKind.u64.wrap ((BitVec.ofInt 64 x ||| BitVec.ofInt 64 y).toNat)
def not64 (x : Int) : Int := IntKind.u64.wrap ((BitVec.ofInt 64 18446744073709551615 ^^^ BitVec.ofInt 64 x).toNat)
def bit64 (c : Nat) : Int := IntKind.u64.wrap (1 * 2 ^ (min c 64))
def setB (s : List Int) (c : Nat) : List Int := s.set (c / 64) (or64 (s.getD (c / 64) 0) (bit64 (c % 64)))
def withN (s : List Int) (c : Nat) : Nat → List Int
 | 0 => s
 | n + 1 => withN (setB s c) (c + 1) n
def withS (s : List Int) (a b : Nat) : List Int := withN s a (b + 1 - a)
def orS (s t : List Int) : List Int := List.zipWith or64 s t
def notS (s : List Int) : List Int := s.map not64
def z4 : List Int := [0, 0, 0, 0]
def encS (s : List Int) : List MV := s.map (MV.int .u64)
theorem withN_len : ∀ (n : Nat) (s : List Int) (c : Nat), (withN s c n).length = s.length
 | 0, _, _ => rfl
 | n + 1, s, c => by rw [withN, withN_len n]; simp [setB]
theorem withS_len (s : List Int) (a b : Nat) : (withS s a b).length = s.length := withN_len ..
theorem orS_len {s t : List Int} (h : s.length = 4) (h' : t.length = 4) : (orS s t).length = 4 := by simp [orS, h, h']
theorem notS_len (s : List Int) : (notS s).length = s.length := by simp [notS]

def rangesS (n : List UInt8) : List UInt8 :=
 if n = [117, 112, 112, 101, 114] then [65, 90] else
 if n = [108, 111, 119, 101, 114] then [97, 122] else
 if n = [97, 108, 112, 104, 97] then [65, 90, 97, 122] else
 if n = [100, 105, 103, 105, 116] then [48, 57] else
 if n = [97, 108, 110, 117, 109] then [65, 90, 97, 122, 48, 57] else
 if n = [120, 100, 105, 103, 105, 116] then [48, 57, 65, 70, 97, 102] else
 if n = [98, 108, 97, 110, 107] then [32, 32, 9, 9] else
 if n = [115, 112, 97, 99, 101] then [32, 32, 9, 13] else
 if n = [99, 110, 116, 114, 108] then [0, 31, 127, 127] else
 if n = [112, 114, 105, 110, 116] then [32, 126] else
 if n = [103, 114, 97, 112, 104] then [33, 126] else
 if n = [112, 117, 110, 99, 116] then [33, 47, 58, 64, 91, 96, 123, 126] else []
def withR (s : List Int) : List UInt8 → List Int
 | a :: b :: r => withR (withS s a.toNat b.toNat) r
 | _ => s
def classS (n : List UInt8) : List Int := withR z4 (rangesS n)

/-! ### Brackets: over what is left of the text; a member's set, and how many bytes it has -/
def namedS (g : UInt8) (t : List UInt8) : Option (UInt8 × Nat) :=
 match t with
 | _ :: _ :: b :: x :: y :: _ => if b ≠ 10 ∧ x = g ∧ y = 93 then some (b, 5) else none
 | _ => none
def preS (s p : List UInt8) : Bool := s.take p.length == p
def singleS (t : List UInt8) : Option (UInt8 × Nat) :=
 match t with
 | [] => none
 | b :: r => if b == 10 then none else if preS (b :: r) [91, 46] then namedS 46 (b :: r) else if preS (b :: r) [92, 110] then some (10, 2) else some (b, 1)
def signS (t : List UInt8) : Option (UInt8 × Nat) := if preS t [91, 61] || preS t [91, 58] then none else singleS t
def oneS (b : UInt8) : List Int := withS z4 b.toNat b.toNat
def clsS (t : List UInt8) : Option (List Int × Nat) :=
 if idxS (t.drop 2) [58, 93] < 0 then none else
  let n := (t.drop 2).take (idxS (t.drop 2) [58, 93]).toNat
  if rangesS n == [] then none else some (classS n, n.length + 4)
def rngS (x : UInt8 × Nat) (u : List UInt8) : Option (List Int × Nat) :=
 if !preS u [45] || preS u [45, 93] || decide (u.length < 2) then some (oneS x.1, x.2) else
  (signS (u.drop 1)).bind fun y =>
   if decide (y.1.toNat < x.1.toNat) || preS (u.drop 1) [45] && !preS (u.drop (1 + y.2)) [93] then none else some (withS z4 x.1.toNat y.1.toNat, x.2 + 1 + y.2)
def memberS (t : List UInt8) : Option (List Int × Nat) :=
 if preS t [91, 58] then clsS t
 else if preS t [91, 61] then (namedS 61 t).map fun x => (oneS x.1, x.2)
 else (signS t).bind fun x => rngS x (t.drop x.2)
def membersS : Nat → Bool → List Int → List UInt8 → Option (List Int × Nat)
 | 0, _, _, _ => none
 | n + 1, first, acc, t =>
  if !first && preS t [93] then some (acc, 0) else
  (memberS t).bind fun x => (membersS n false (orS acc x.1) (t.drop x.2)).map fun y => (y.1, x.2 + y.2)
def bracketS (t : List UInt8) : Option (List Int × Nat) :=
 if preS t [94] then (membersS (t.length + 1) true z4 (t.drop 1)).map fun x => (notS x.1, x.2 + 3)
 else (membersS (t.length + 1) true z4 t).map fun x => (x.1, x.2 + 2)

/-! ### Patterns -/
structure Rd where
 at' : Nat
 g : Nat
 bad : Bool
def Rd.fail (r : Rd) : Rd := { r with bad := true }
def Rd.go (r : Rd) (n : Nat) : Rd := { r with at' := n }
def z0 : Nd := .mk 0 0 0 0 0 0 0 0 0 []
def lit (c : Int) : Nd := .mk 1 c 0 0 0 0 0 0 0 []
section
variable (s : List UInt8)
def Rd.nx (r : Rd) : Option UInt8 := if r.bad = true then none else s[r.at']?
def isRep (o : Option UInt8) : Bool := o == some 42 || o == some 43 || o == some 63 || o == some 123
def dig (b : UInt8) : Bool := decide (48 ≤ b.toNat) && decide (b.toNat ≤ 57)
def digsAt (n : Nat) : List UInt8 := (s.drop n).takeWhile dig
def numV (l : List UInt8) : Nat := l.foldl (fun n b => 10 * n + (b.toNat - 48)) 0
def bracesS (at' : Nat) : Option (Int × Int × Nat) :=
 let x := digsAt s (at' + 1)
 let p := at' + 1 + x.length
 if x = [] ∨ 255 < numV x then none else
 if s[p]? = some 44 then
  let y := digsAt s (p + 1)
  let q := p + 1 + y.length
  if s[q]? = some 125 ∧ (y = [] ∨ numV y ≤ 255 ∧ numV x ≤ numV y) then some (numV x, if y = [] then -1 else numV y, q + 1) else none
 else if s[p]? = some 125 then some (numV x, numV x, p + 1) else none
def boundsS (at' : Nat) : Option (Int × Int × Nat) :=
 if s[at']? = some 123 then bracesS s at' else
 if s[at']? = some 43 then some (1, -1, at' + 1) else
 if s[at']? = some 63 then some (0, 1, at' + 1) else some (0, -1, at' + 1)
def itselfS (b : UInt8) : Bool := [46, 91, 93, 40, 41, 42, 43, 63, 123, 125, 124, 94, 36, 47, 92, 38, 45].contains b
def escS (r : Rd) : Nd × Rd :=
 match s[r.at' + 1]? with
 | none => (z0, r.fail)
 | some c =>
  if c = 110 then (lit 10, r.go (r.at' + 2)) else
  if 49 ≤ c.toNat ∧ c.toNat ≤ 57 then (.mk 7 0 0 0 0 0 (c.toNat - 48) 0 0 [], r.go (r.at' + 2)) else
  if itselfS c = true then (lit c.toNat, r.go (r.at' + 2)) else (z0, r.fail)
def simpleS (c : UInt8) : Nd :=
 if c = 46 then nd 2 [] else if c = 94 then nd 4 [] else if c = 36 then nd 5 [] else lit c.toNat
def inN (l : List Int) : Nd := .mk 3 0 (l.getD 0 0) (l.getD 1 0) (l.getD 2 0) (l.getD 3 0) 0 0 0 []
variable (rec : Rd → Nd × Rd)
def groupS (r : Rd) : Nd × Rd :=
 if r.g = 9 then (z0, r.fail) else
 let x := rec ⟨r.at' + 1, r.g + 1, r.bad⟩
 if x.2.nx s = some 41 then (.mk 6 0 0 0 0 0 (r.g + 1 : Nat) 0 0 [x.1], x.2.go (x.2.at' + 1)) else (z0, x.2.fail)
def atomS (r : Rd) : Nd × Rd :=
 match s[r.at']? with
 | none => (z0, r.fail)
 | some c =>
  if c = 40 then groupS s rec r else
  if c = 92 then escS s r else
  if c = 91 then
   match bracketS (s.drop (r.at' + 1)) with
   | none => (z0, r.fail)
   | some x => (inN x.1, r.go (r.at' + x.2))
  else if c = 10 then (z0, r.fail) else
  (simpleS c, r.go (r.at' + 1))
def repS (n : Nd) (r : Rd) : Nd × Rd :=
 if isRep (r.nx s) = false then (n, r) else
 if n.kind = 4 ∨ n.kind = 5 then (z0, r.fail) else
 match boundsS s r.at' with
 | none => (z0, r.fail)
 | some x => if isRep ((r.go x.2.2).nx s) = true then (z0, (r.go x.2.2).fail) else (.mk 10 0 0 0 0 0 0 x.1 x.2.1 [n], r.go x.2.2)
def pieceS (r : Rd) : Nd × Rd :=
 let x := atomS s rec r
 repS s x.1 x.2
def stopS (o : Option UInt8) : Bool := o == none || o == some 124 || o == some 41
def branchS : Nat → List Nd → Rd → Nd × Rd
 | 0, _, r => (z0, r)
 | n + 1, l, r =>
  if stopS (r.nx s) = true then (if l = [] then (z0, r.fail) else (joinN l, r)) else
  if l = [] ∧ isRep (r.nx s) = true then (z0, r.fail) else
  let x := pieceS s rec r
  branchS n (l ++ [x.1]) x.2
def moreS : Nat → List Nd → Rd → Nd × Rd
 | 0, _, r => (z0, r)
 | n + 1, l, r =>
  if r.nx s = some 124 then
   let x := branchS s rec (s.length + 1) [] (r.go (r.at' + 1))
   moreS n (l ++ [x.1]) x.2
  else (eitherN l, r)
def wholeS (r : Rd) : Nd × Rd :=
 let x := branchS s rec (s.length + 1) [] r
 moreS s rec (s.length + 1) [x.1] x.2
end
def parS (s : List UInt8) : Nat → Rd → Nd × Rd
 | 0, r => (z0, r.fail)
 | n + 1, r => wholeS s (parS s n) r

/-! ### Formed -/
def plainB : Nd → Bool
 | .mk kd c s0 s1 s2 s3 n mn mx l =>
  decide (1 ≤ kd) && decide (kd ≤ 10) && (kd == 1 || c == 0) && (kd == 3 || (s0 == 0 && s1 == 0 && s2 == 0 && s3 == 0)) && (kd == 6 || kd == 7 || n == 0) && (kd == 10 || (mn == 0 && mx == 0)) &&
   (if kd = 6 ∨ kd = 10 then l.length == 1 else if kd = 8 ∨ kd = 9 then true else l.length == 0)
def boundsB (mn mx : Int) : Bool := decide (0 ≤ mn) && decide (mn ≤ 255) && (mx == -1 || decide (mn ≤ mx) && decide (mx ≤ 255))
def ownB (x : Nd) (g : Int) (e : List Bool) : Bool := plainB x && match x with
 | .mk kd _ _ _ _ _ n mn mx l =>
  if kd = 6 then decide (g + 1 ≤ 9) && n == g + 1 else
  if kd = 7 then decide (0 < n) && decide (n ≤ 9) && e.getD n.toNat false else
  if kd = 8 then l.length != 1 else
  if kd = 9 then decide (1 < l.length) else
  if kd = 10 then boundsB mn mx && !(match l with
   | y :: _ => y.kind == 4 || y.kind == 5 || y.kind == 10
   | [] => false)
  else true
def ownG (x : Nd) (g : Int) : Int := if plainB x = true ∧ x.kind = 6 then g + 1 else g
def Nd.num : Nd → Int
 | .mk _ _ _ _ _ _ n _ _ _ => n
abbrev Ck := Bool × Int × List Bool
mutual
def chk : Nd → Int → List Bool → Ck
 | .mk kd c s0 s1 s2 s3 n mn mx l, g, e =>
  if ownB (.mk kd c s0 s1 s2 s3 n mn mx l) g e = true then
   let r := chks kd l (ownG (.mk kd c s0 s1 s2 s3 n mn mx l) g) e
   if r.1 = true then (true, r.2.1, if kd = 6 then r.2.2.set n.toNat true else r.2.2) else r
  else (false, ownG (.mk kd c s0 s1 s2 s3 n mn mx l) g, e)
def chks (kd : Int) : List Nd → Int → List Bool → Ck
 | [], g, e => (true, g, e)
 | y :: l, g, e => if y.kind = kd ∧ (kd = 8 ∨ kd = 9) then (false, g, e) else
  let r := chk y g e
  if r.1 = true then chks kd l r.2.1 r.2.2 else r
end
def formedB (x : Nd) : Bool := decide (cnt x ≤ 200) && decide (dep x ≤ 10) && (chk x 0 (List.replicate 10 false)).1
set_option maxHeartbeats 4000000
set_option maxRecDepth 20000
def decS (n : Nat) : List UInt8 := if n < 10 then [UInt8.ofNat (48 + n)] else decS (n / 10) ++ [UInt8.ofNat (48 + n % 10)]
termination_by n
decreasing_by omega
theorem numV_take (l : List UInt8) (i : Nat) : numV (l.take i) ≤ numV l := by
 have key : ∀ (l : List UInt8) (a : Nat), a ≤ l.foldl (fun n b => 10 * n + (b.toNat - 48)) a := by
  intro l
  induction l with
  | nil => intro a; exact Nat.le_refl _
  | cons b l ih => intro a; exact Nat.le_trans (show a ≤ 10 * a + (b.toNat - 48) by omega) (ih _)
 have : numV l = (l.drop i).foldl (fun n b => 10 * n + (b.toNat - 48)) (numV (l.take i)) := by
  unfold numV
  rw [← List.foldl_append, List.take_append_drop]
 rw [this]
 exact key _ _
theorem numV_step {l : List UInt8} {i : Nat} (h : i < l.length) : numV (l.take (i + 1)) = 10 * numV (l.take i) + (l[i].toNat - 48) := by
 unfold numV
 rw [List.take_succ_eq_append_getElem h, List.foldl_append]
 rfl
def blankB (b : UInt8) : Bool := b == 32 || b == 9
def digB (b : UInt8) : Bool := [48, 49, 50, 51, 52, 53, 54, 55, 56, 57].contains b
section
variable {C : Cfg} {lim d : Nat} {a a1 a2 : Nat → MV} {σ : Sto} {Q : Mv.Ex → (Nat → MV) → Sto → Prop} {x y r : Code} {c : Operand} {b : Bool} {id : Nat} {ops : Array Oper}
def Hold (C : Cfg) (lim d : Nat) (r : Code) (a : Nat → MV) (σ : Sto) (Q : Mv.Ex → (Nat → MV) → Sto → Prop) : Prop := W C lim d r a σ Q
def mrg (b : Bool) (a1 a2 : Nat → MV) : Nat → MV := fun t => if b = true then a1 t else a2 t
theorem ite_bool (p q : Bool) : (if b = true then MV.bool p else MV.bool q) = MV.bool (if b = true then p else q) := by cases b <;> rfl
theorem ite_int (k : IntKind) (p q : Int) : (if b = true then MV.int k p else MV.int k q) = MV.int k (if b = true then p else q) := by cases b <;> rfl
end
end Go.Proofs.Tryz.E
