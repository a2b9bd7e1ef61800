/- Walks: what the functions compute. Walks: what the functions compute. Walks: what the functions compute. Walks: what the functions compute. -/
import Derived.Test.YtadeobleehcaaaaGreatDoorG0
import Derived.Test.YtadeobleehcaaaaGreatDoorWE14
set_option linter.unusedVariables false
set_option linter.unusedSimpArgs false
/- Delimited text, in plain words: bracket expressions, text up to a delimiter. -/
namespace Go.Proofs.Tryz.E
open Go.Mv
set_option maxHeartbeats 4000000
set_option maxRecDepth 20000
def lin : List UInt8 → List UInt8
 | [] => []
 | b :: r => if b = 10 then [] else b :: lin r
theorem lin_len : ∀ t : List UInt8, (lin t).length ≤ t.length
 | [] => Nat.le_refl _
 | b :: t => by
  have := lin_len t
  unfold lin
  split <;> simp <;> omega
theorem lin_at : ∀ (t : List UInt8) (i : Nat), i < (lin t).length → t[i]? = (lin t)[i]? ∧ (lin t)[i]? ≠ some 10
 | [], i, h => by simp [lin] at h
 | b :: t, i, h => by
  unfold lin at h ⊢
  split at h
  ·simp at h
  ·rename_i hb
   rw [if_neg hb]
   cases i with
   | zero => simpa using hb
   | succ i =>
    simp only [List.getElem?_cons_succ]
    exact lin_at t i (by simpa using h)
theorem lin_end : ∀ t : List UInt8, (lin t).length < t.length → t[(lin t).length]? = some 10
 | [], h => by simp at h
 | b :: t, h => by
  unfold lin at h ⊢
  split at h
  ·rename_i hb; rw [if_pos hb]; simp [hb]
  ·rename_i hb
   rw [if_neg hb]
   simp only [List.length_cons, List.getElem?_cons_succ]
   exact lin_end t (by simpa using h)
theorem lin_pre : ∀ t : List UInt8, lin t = t.take (lin t).length
 | [] => rfl
 | b :: t => by
  have := lin_pre t
  unfold lin
  split
  ·rfl
  ·simp only [List.length_cons, List.take_succ_cons]; rw [← this]
theorem lin_no : ∀ t : List UInt8, (10 : UInt8) ∉ lin t
 | [] => by simp [lin]
 | b :: t => by
  have := lin_no t
  unfold lin
  split
  ·simp
  ·rename_i hb; simp only [List.mem_cons, not_or]; exact ⟨fun e => hb e.symm, this⟩
def clo (g : UInt8) : List UInt8 → Option Nat
 | [] => none
 | b :: r => if b = g ∧ r.head? = some 93 then some 0 else (clo g r).map (· + 1)
theorem clo_le (g : UInt8) : ∀ (l : List UInt8) (j : Nat), clo g l = some j → j + 2 ≤ l.length
 | [], j, h => by simp [clo] at h
 | b :: r, j, h => by
  simp only [clo] at h
  split at h
  ·rename_i q
   cases h
   cases r with
   | nil => simp at q
   | cons x r => simp
  ·obtain ⟨i, hi, rfl⟩ := Option.map_eq_some_iff.1 h
   have := clo_le g r i hi
   simp only [List.length_cons]; omega
theorem pre_twoN (g b : UInt8) (r : List UInt8) : [g, 93] <+: (b :: r) ↔ b = g ∧ r.head? = some 93 := by
 rw [List.cons_prefix_cons]
 cases r with
 | nil => simp
 | cons x r => simp [List.cons_prefix_cons, eq_comm]
def cloI (g : UInt8) (l : List UInt8) : Int := match clo g l with
 | none => -1
 | some j => (j : Int)
theorem idx_clo (g : UInt8) : ∀ l : List UInt8, idxS l [g, 93] = cloI g l
 | [] => by simp [idxS, clo, cloI]
 | b :: r => by
  have ih := idx_clo g r
  rw [idxS, cloI, clo]
  unfold cloI at ih
  by_cases h : b = g ∧ r.head? = some 93
  ·rw [if_pos ((pre_twoN g b r).2 h), if_pos h]; rfl
  ·rw [if_neg (fun q => h ((pre_twoN g b r).1 q)), if_neg h, ih]
   cases clo g r with
   | none => rfl
   | some j => simp only [Option.map_some]; rw [if_neg (by omega)]; omega
def brkF : Nat → List UInt8 → Bool → Nat
 | 0, _, _ => 0
 | _ + 1, [], _ => 0
 | k + 1, c :: r, first => if c = 93 ∧ first = false then 1 else if c = 91 ∧ isS [46, 61, 58] r.head? = true then (match clo (r.headD 0) r.tail with
  | none => r.length + 1
  | some j => j + 4 + brkF k (r.drop (j + 3)) false) else 1 + brkF k r false
theorem brkF_le : ∀ (k : Nat) (l : List UInt8) (f : Bool), brkF k l f ≤ l.length
 | 0, _, _ => Nat.zero_le _
 | _ + 1, [], _ => Nat.le_refl _
 | k + 1, c :: r, f => by
  simp only [brkF]
  split
  ·simp
  ·split
   ·split
    ·simp
    ·rename_i j hj
     have h1 := clo_le _ _ _ hj
     have h2 := brkF_le k (r.drop (j + 3)) false
     simp only [List.length_tail, List.length_drop, List.length_cons] at h1 h2 ⊢
     omega
   ·have := brkF_le k r false
    simp only [List.length_cons]; omega
def isC (l : List UInt8) : Bool := l.head? == some 94
def brk (t : List UInt8) : Nat := let l := lin t
 if isC (l.drop 1) = true then 2 + brkF l.length (l.drop 2) true else 1 + brkF l.length (l.drop 1) true
theorem brk_le (t : List UInt8) (h : 1 ≤ (lin t).length) : 1 ≤ brk t ∧ brk t ≤ (lin t).length := by
 unfold brk
 simp only
 split
 ·rename_i q
  have h1 := brkF_le (lin t).length ((lin t).drop 2) true
  have h2 : 2 ≤ (lin t).length := by
   simp only [isC, List.head?_drop, beq_iff_eq] at q
   have := (List.getElem?_eq_some_iff.1 q).1
   omega
  rw [List.length_drop] at h1
  omega
 ·have h1 := brkF_le (lin t).length ((lin t).drop 1) true
  rw [List.length_drop] at h1
  omega
abbrev Dl := Option (List UInt8) × Nat
def app (p : List UInt8) (n : Nat) (x : Dl) : Dl := (x.1.map (p ++ ·), n + x.2)
theorem app_app (p q : List UInt8) (n m : Nat) (x : Dl) : app p n (app q m x) = app (p ++ q) (n + m) x := by
 obtain ⟨o, k⟩ := x
 cases o <;> simp [app, Nat.add_assoc]
def escT (c x : UInt8) : List UInt8 := if x = c ∧ c ≠ 110 then [x] else [92, x]
def delF (c : UInt8) : Nat → List UInt8 → Dl
 | 0, _ => (none, 0)
 | _ + 1, [] => (none, 0)
 | k + 1, b :: r => if b = 10 then (none, 0) else if b = c then (some [], 1) else if b = 91 then app ((b :: r).take (brk (b :: r))) (brk (b :: r)) (delF c k ((b :: r).drop (brk (b :: r))))
  else if b = 92 then (match r with
   | [] => (none, 1)
   | x :: r' => if x = 10 then (none, 1) else app (escT c x) 2 (delF c k r'))
  else app [b] 1 (delF c k r)
def delA (c : UInt8) (s : List UInt8) (n : Nat) : Dl := app [] n (delF c (s.length + 1) (s.drop n))
@[go_sem] theorem bin_66e' (xs ys : List MV) : binO X.P X.eqT .eql 102 (.agg xs) (.agg ys) = (eqC ([.i .i64, .i .u8] ++ u4 ++ [.i .i64, .i .i64, .i .i64]) xs ys).map fun r => .bool r := rfl
mutual
def sameB : Nd → Nd → Bool
 | .mk k c s0 s1 s2 s3 n mn mx l, .mk k' c' t0 t1 t2 t3 n' mn' mx' l' => (k == k' && (c == c' && (s0 == t0 && (s1 == t1 && (s2 == t2 && (s3 == t3 && (n == n' && (mn == mn' && mx == mx')))))))) && samesB l l'
def samesB : List Nd → List Nd → Bool
 | [], [] => true
 | x :: l, y :: l' => sameB x y && samesB l l'
 | [], _ :: _ => false
 | _ :: _, [] => false
end
theorem sames_len : ∀ {l l' : List Nd}, samesB l l' = true → l.length = l'.length
 | [], [], _ => rfl
 | x :: l, y :: l', h => by
  simp only [samesB, Bool.and_eq_true] at h
  simp [sames_len h.2]
 | [], _ :: _, h => by simp [samesB] at h
 | _ :: _, [], h => by simp [samesB] at h
theorem sames_ne {l l' : List Nd} (h : l.length ≠ l'.length) : samesB l l' = false := by
 rw [← Bool.not_eq_true]; exact fun q => h (sames_len q)
theorem sames_at {l l' : List Nd} {i : Nat} (h : i < l.length) (h' : i < l'.length) : samesB (l.drop i) (l'.drop i) = (sameB l[i] l'[i] && samesB (l.drop (i + 1)) (l'.drop (i + 1))) := by
 rw [List.drop_eq_getElem_cons h, List.drop_eq_getElem_cons h', samesB]
theorem bne_ne {x y : Int} (h : x ≠ y) : (x != y) = true := by rw [bne_iff_ne]; exact h
theorem beq_ne {x y : Int} (h : x ≠ y) : (x == y) = false := by rw [beq_eq_false_iff_ne]; exact h
theorem w10g : ∀ (x : Nd), sz x ≤ 1000000 → ∀ (y : Nd) (lim d : Nat) (σ : Sto), lim ≤ d → σ.Und d → Ret lim d 38 [.agg (enc x), .agg (enc y)] σ (.bool (sameB x y)) σ := by
 refine Nd.ind fun kd c s0 s1 s2 s3 n mn mx l ih hsz y lim d σ hlim hu => ?_
 obtain ⟨kd', c', t0, t1, t2, t3, n', mn', mx', l'⟩ := y
 have hl := len_le l
 simp only [sz] at hsz
 have hun := und_succ hu
 unfold Ret
 simp only [sameB]
 rw [WF_body (C := X) rfl func38 rfl (by kernel_rfl)]; simp only [results38]
 by_cases h1 : kd = kd'
 case neg => simp -implicitDefEqProofs -dsimp only [↓reduceIte, ↓W_seq, go_sem, Nat.reduceEqDiff, Nat.reduceLT, enc, bne_ne h1, beq_ne h1, cut_und _ _ hu, Bool.false_and]
 subst h1
 by_cases h2 : c = c'
 case neg => simp -implicitDefEqProofs -dsimp only [↓reduceIte, ↓W_seq, go_sem, Nat.reduceEqDiff, Nat.reduceLT, enc, bne_self_i, beq_self_eq_true, bne_ne h2, beq_ne h2, cut_und _ _ hu, Bool.false_and, Bool.true_and]
 subst h2
 by_cases h3 : s0 = t0
 case neg => simp -implicitDefEqProofs -dsimp only [↓reduceIte, ↓W_seq, go_sem, Nat.reduceEqDiff, Nat.reduceAdd, Nat.reduceLeDiff, Nat.reduceLT, enc, bne_self_i, beq_self_eq_true, beq_ne h3, cut_und _ _ hu, Bool.false_and, Bool.true_and, Bool.not_false]
 subst h3
 by_cases h4 : s1 = t1
 case neg => simp -implicitDefEqProofs -dsimp only [↓reduceIte, ↓W_seq, go_sem, Nat.reduceEqDiff, Nat.reduceAdd, Nat.reduceLeDiff, Nat.reduceLT, enc, bne_self_i, beq_self_eq_true, beq_ne h4, cut_und _ _ hu, Bool.false_and, Bool.true_and, Bool.not_false]
 subst h4
 by_cases h5 : s2 = t2
 case neg => simp -implicitDefEqProofs -dsimp only [↓reduceIte, ↓W_seq, go_sem, Nat.reduceEqDiff, Nat.reduceAdd, Nat.reduceLeDiff, Nat.reduceLT, enc, bne_self_i, beq_self_eq_true, beq_ne h5, cut_und _ _ hu, Bool.false_and, Bool.true_and, Bool.not_false]
 subst h5
 by_cases h6 : s3 = t3
 case neg => simp -implicitDefEqProofs -dsimp only [↓reduceIte, ↓W_seq, go_sem, Nat.reduceEqDiff, Nat.reduceAdd, Nat.reduceLeDiff, Nat.reduceLT, enc, bne_self_i, beq_self_eq_true, beq_ne h6, cut_und _ _ hu, Bool.false_and, Bool.true_and, Bool.not_false]
 subst h6
 by_cases h7 : n = n'
 case neg => simp -implicitDefEqProofs -dsimp only [↓reduceIte, ↓W_seq, go_sem, Nat.reduceEqDiff, Nat.reduceAdd, Nat.reduceLeDiff, Nat.reduceLT, enc, bne_self_i, beq_self_eq_true, bne_ne h7, beq_ne h7, cut_und _ _ hu, Bool.false_and, Bool.true_and, Bool.not_true]
 subst h7
 by_cases h8 : mn = mn'
 case neg => simp -implicitDefEqProofs -dsimp only [↓reduceIte, ↓W_seq, go_sem, Nat.reduceEqDiff, Nat.reduceAdd, Nat.reduceLeDiff, Nat.reduceLT, enc, bne_self_i, beq_self_eq_true, bne_ne h8, beq_ne h8, cut_und _ _ hu, Bool.false_and, Bool.true_and, Bool.not_true]
 subst h8
 by_cases h9 : mx = mx'
 case neg => simp -implicitDefEqProofs -dsimp only [↓reduceIte, ↓W_seq, go_sem, Nat.reduceEqDiff, Nat.reduceAdd, Nat.reduceLeDiff, Nat.reduceLT, enc, bne_self_i, beq_self_eq_true, bne_ne h9, beq_ne h9, cut_und _ _ hu, Bool.false_and, Bool.true_and, Bool.not_true]
 subst h9
 by_cases h0 : l.length = l'.length
 case neg =>
  have q : ((l.length : Int) != (l'.length : Int)) = true := bne_ne (by omega)
  simp -implicitDefEqProofs -dsimp only [↓reduceIte, ↓W_seq, go_sem, Nat.reduceEqDiff, Nat.reduceAdd, Nat.reduceLeDiff, Nat.reduceLT, enc, bne_self_i, beq_self_eq_true, q, sames_ne h0, encs_len, cut_und _ _ hu, Bool.and_false, Bool.true_and, Bool.not_true]
 have q : ((l.length : Int) != (l'.length : Int)) = false := by rw [h0]; exact bne_self_i _
 simp -implicitDefEqProofs -dsimp only [↓reduceIte, ↓W_seq, go_sem, Nat.reduceEqDiff, Nat.reduceAdd, Nat.reduceLeDiff, Nat.reduceLT, enc, bne_self_i, beq_self_eq_true, q, encs_len, Bool.true_and, Bool.not_true]
 refine loop_h (I := fun k a s => ∃ (i : Nat), i + k = l.length ∧ a 58 = .int .i64 i ∧ a 57 = .int .i64 l.length ∧ a 2 = .ptr ⟨d, 2, σ.ct d⟩ 0 ∧ a 3 = .ptr ⟨d, 3, σ.ct d + 1⟩ 0 ∧ s.ob ⟨d, 2, σ.ct d⟩ = some (enc (.mk kd c s0 s1 s2 s3 n mn mx l)) ∧ s.ob ⟨d, 3, σ.ct d + 1⟩ = some (enc (.mk kd c s0 s1 s2 s3 n mn mx l')) ∧ samesB (l.drop i) (l'.drop i) = samesB l l' ∧ s.cut d = σ ∧ s.Und (d + 1)) ?_ l.length _ _ ?_
 ·rintro k a s ⟨i, hk, h1, h2, h3, h4, o3, o4, hq, hs, hs2⟩
  by_cases hi : i < l.length
  ·have e1 : ((i : Int) < (l.length : Int)) := by omega
   have e2 : l[i]? = some l[i] := List.getElem?_eq_getElem hi
   have hi' : i < l'.length := by omega
   have e3 : l'[i]? = some l'[i] := List.getElem?_eq_getElem hi'
   have hm := List.getElem_mem hi
   have hy := sz_le l _ hm
   rw [sames_at hi hi'] at hq
   simp -implicitDefEqProofs -dsimp only [↓reduceIte, ↓W_seq, go_sem, Nat.reduceEqDiff, e1, h1, h2]
   rw [D_dr (by kernel_rfl) rfl]
   simp -implicitDefEqProofs -dsimp only [↓reduceIte, go_sem, Nat.reduceEqDiff, enc, e2, e3, h3, h4, o3, o4, encs_at]
   refine (ih l[i] hm (by omega) l'[i] (d + 1) (d + 1) _ (Nat.le_refl _) hs2).wh ?_
   cases hb : sameB l[i] l'[i]
   ·rw [hb, Bool.false_and] at hq
    simp -implicitDefEqProofs -dsimp only [↓reduceIte, ↓W_seq, go_sem, evNews, Nat.reduceEqDiff, enc, ← hq, hs, Bool.not_false]
   ·rw [hb, Bool.true_and] at hq
    simp -implicitDefEqProofs -dsimp only [↓reduceIte, ↓W_seq, go_sem, evNews, Nat.reduceEqDiff, enc, h1, h2, h3, h4, o3, o4, Bool.not_true, Bool.false_eq_true]
    exact ⟨k - 1, by omega, i + 1, by omega, by rw [wr64 _ (by omega) (by omega)]; rfl, hq, hs, hs2⟩
  ·have e1 : ¬ ((i : Int) < (l.length : Int)) := by omega
   rw [List.drop_eq_nil_of_le (by omega), List.drop_eq_nil_of_le (by omega), samesB] at hq
   simp -implicitDefEqProofs -dsimp only [↓reduceIte, ↓W_seq, go_sem, e1, h1, h2, hs, ← hq]
 ·refine ⟨0, Nat.zero_add _, ?_⟩
  simp -implicitDefEqProofs -dsimp only [↓reduceIte, go_sem, Nat.reduceEqDiff, Int.cast_ofNat_Int, enc, cut_und _ _ hu, u_tick, u_mine, hun, List.drop_zero]
theorem w28g (l l' : List Nd) (hl : l.length ≤ 1000000) (lim d : Nat) (σ : Sto) (hlim : lim ≤ d) (hu : σ.Und d) (ih : ∀ y ∈ l, ∀ (z : Nd) (lim d : Nat) (σ : Sto), lim ≤ d → σ.Und d → Ret lim d 41 [.agg (enc y), .agg (enc z)] σ (.bool (sameB y z)) σ) : Ret lim d 55 [.sl .no (encs l), .sl .no (encs l'), .fn 41] σ (.bool (samesB l l')) σ := by
 have hun := und_succ hu
 unfold Ret
 rw [WF_body (C := X) rfl func55 rfl (by kernel_rfl)]; simp only [results55]
 by_cases h0 : l.length = l'.length
 case neg =>
  have q : ((l.length : Int) != (l'.length : Int)) = true := bne_ne (by omega)
  simp -implicitDefEqProofs -dsimp only [↓reduceIte, ↓W_seq, go_sem, Nat.reduceEqDiff, reduceCtorEq, q, sames_ne h0, encs_len, cut_und _ _ hu]
 have q : ((l.length : Int) != (l'.length : Int)) = false := by rw [h0]; exact bne_self_i _
 simp -implicitDefEqProofs -dsimp only [↓reduceIte, ↓W_seq, go_sem, Nat.reduceEqDiff, reduceCtorEq, encs_len, q]
 refine loop_h (I := fun k a s => ∃ (i : Nat), i + k = l.length ∧ a 17 = .int .i64 i ∧ a 16 = .int .i64 l.length ∧ a 15 = .sl .no (encs l) ∧ a 1 = .sl .no (encs l') ∧ a 2 = .fn 41 ∧ samesB (l.drop i) (l'.drop i) = samesB l l' ∧ s.cut d = σ ∧ s.Und (d + 1)) ?_ l.length _ _ ?_
 ·rintro k a s ⟨i, hk, h17, h16, h15, h1, h2, hq, hs, hs2⟩
  by_cases hi : i < l.length
  ·have e1 : ((i : Int) < (l.length : Int)) := by omega
   have e2 : l[i]? = some l[i] := List.getElem?_eq_getElem hi
   have hi' : i < l'.length := by omega
   have e4 : l'[i]? = some l'[i] := List.getElem?_eq_getElem hi'
   have hm := List.getElem_mem hi
   have e3 := wr64 ((i : Int) + 1) (by omega) (by omega)
   rw [sames_at hi hi'] at hq
   simp -implicitDefEqProofs -dsimp only [↓reduceIte, ↓W_seq, go_sem, Nat.reduceEqDiff, Nat.reduceAdd, Nat.reduceLT, e1, e2, e4, h17, h16, h15, h1, h2, encs_at]
   refine (ih l[i] hm l'[i] lim (d + 1) _ (by omega) (und_new (und_new hs2 _ _ _) _ _ _)).wh ?_
   cases hb : sameB l[i] l'[i]
   ·rw [hb, Bool.false_and] at hq
    simp -implicitDefEqProofs -dsimp only [go_sem, e3, Bool.not_false, ← hq, hs]
    exact ⟨_, rfl, Cnd_t.2 trivial⟩
   ·rw [hb, Bool.true_and] at hq
    simp -implicitDefEqProofs -dsimp only [go_sem, e3, Bool.not_true]
    exact ⟨_, rfl, Cnd_f.2 ⟨k - 1, by omega, i + 1, by omega, by simp, hq, hs, by simp only [u_tick, u_mine]; exact hs2⟩⟩
  ·have e1 : ¬ ((i : Int) < (l.length : Int)) := by omega
   rw [List.drop_eq_nil_of_le (by omega), List.drop_eq_nil_of_le (by omega), samesB] at hq
   simp -implicitDefEqProofs -dsimp only [↓reduceIte, ↓W_seq, go_sem, e1, h17, h16, hs, ← hq]
 ·refine ⟨0, Nat.zero_add _, ?_⟩
  simp -implicitDefEqProofs -dsimp only [↓reduceIte, go_sem, Nat.reduceEqDiff, Int.cast_ofNat_Int, cut_und _ _ hu, hun, List.drop_zero]
theorem w16g : ∀ (x : Nd), sz x ≤ 1000000 → ∀ (y : Nd) (lim d : Nat) (σ : Sto), lim ≤ d → σ.Und d → Ret lim d 41 [.agg (enc x), .agg (enc y)] σ (.bool (sameB x y)) σ := by
 refine Nd.ind fun kd c s0 s1 s2 s3 n mn mx l ih hsz y lim d σ hlim hu => ?_
 obtain ⟨kd', c', t0, t1, t2, t3, n', mn', mx', l'⟩ := y
 have hl := len_le l
 simp only [sz] at hsz
 have hun := und_succ hu
 unfold Ret
 simp only [sameB]
 rw [WF_body (C := X) rfl func41 rfl (by kernel_rfl)]; simp only [results41]
 simp -implicitDefEqProofs -dsimp only [↓reduceIte, ↓W_seq, go_sem, Nat.reduceEqDiff, Nat.reduceLT, enc]
 rw [D_dr (by kernel_rfl) rfl]
 simp -implicitDefEqProofs -dsimp only [↓reduceIte, go_sem, Nat.reduceEqDiff, Nat.reduceAdd]
 refine (w27 kd c s0 s1 s2 s3 n mn mx l (d + 1) (d + 1) _ (by simp only [u_tick, u_mine]; exact hun)).wh ?_
 simp -implicitDefEqProofs -dsimp only [↓reduceIte, go_sem, Nat.reduceEqDiff, Nat.reduceAdd]
 refine (w27 kd' c' t0 t1 t2 t3 n' mn' mx' l' (d + 1) (d + 1) _ (by simp only [u_tick, u_mine]; exact hun)).wh ?_
 generalize hH : (kd == kd' && (c == c' && (s0 == t0 && (s1 == t1 && (s2 == t2 && (s3 == t3 && (n == n' && (mn == mn' && mx == mx')))))))) = hb
 cases hb
 ·simp -implicitDefEqProofs -dsimp only [↓reduceIte, go_sem, evNews, Nat.reduceEqDiff, hH, cut_und _ _ hu, Bool.false_and]
 ·simp -implicitDefEqProofs -dsimp only [↓reduceIte, go_sem, Nat.reduceEqDiff, hH]
  refine (w28g l l' (by omega) (d + 1) (d + 1) _ (Nat.le_refl _) (by simp only [u_tick, u_mine]; exact hun) (fun y hy => ih y hy (by have := sz_le l y hy; omega))).wh ?_
  simp -implicitDefEqProofs -dsimp only [↓reduceIte, go_sem, evNews, Nat.reduceEqDiff, cut_und _ _ hu]
mutual
def bndT : Nd → Int → Int → Int
 | .mk _ _ _ _ _ _ _ _ _ l, deep, left => if deep = 0 then 0 else let r := bnds l deep (left - 1); if r ≤ 0 then 0 else r
def bnds : List Nd → Int → Int → Int
 | [], _, left => left
 | x :: l, deep, left => if left ≤ 0 then 0 else bnds l deep (bndT x (deep - 1) left)
end
theorem bnds_le0 (deep left : Int) (h : left ≤ 0) : ∀ l, bnds l deep left ≤ 0
 | [] => by simpa [bnds] using h
 | x :: l => by simp [bnds, h]
mutual
theorem bnd_sz : ∀ (x : Nd) (deep left : Int), 0 < bndT x deep left → (sz x : Int) + bndT x deep left ≤ left
 | .mk _ _ _ _ _ _ _ _ _ l, deep, left, h => by
  simp only [bndT] at h ⊢
  by_cases h0 : deep = 0
  ·rw [if_pos h0] at h; exact absurd h (Int.lt_irrefl 0)
  rw [if_neg h0] at h ⊢
  by_cases h1 : bnds l deep (left - 1) ≤ 0
  ·simp only [if_pos h1] at h; exact absurd h (Int.lt_irrefl 0)
  simp only [if_neg h1] at h ⊢
  have := bnds_sz l deep (left - 1) h
  simp only [sz]
  omega
theorem bnds_sz : ∀ (l : List Nd) (deep left : Int), 0 < bnds l deep left → (szs l : Int) + bnds l deep left ≤ left
 | [], _, left, h => by simp [bnds, szs]
 | x :: l, deep, left, h => by
  simp only [bnds] at h ⊢
  by_cases h0 : left ≤ 0
  ·rw [if_pos h0] at h; exact absurd h (Int.lt_irrefl 0)
  rw [if_neg h0] at h ⊢
  have h1 := bnds_sz l deep _ h
  have h2 : 0 < bndT x (deep - 1) left := by
   rcases Int.lt_or_le 0 (bndT x (deep - 1) left) with q | q
   ·exact q
   ·have := bnds_le0 deep _ q l; omega
  have h3 := bnd_sz x (deep - 1) left h2
  simp only [szs]
  omega
end
def noNl (t : List UInt8) : Prop := ∀ x ∈ t, x ≠ 10
def RetT (lim d : Nat) (f : FuncId) (args : List MV) (σ : Sto) (n : Nat) : Prop := WF X lim d f args σ fun v s => (∃ t, v = .str t ∧ noNl t ∧ t.length ≤ n) ∧ s = σ
theorem RetT.wh {lim d : Nat} {f : FuncId} {args : List MV} {σ : Sto} {n : Nat} (h : RetT lim d f args σ n) {P : MV → Sto → Prop} (hq : ∀ t, noNl t → t.length ≤ n → P (.str t) σ) : WFh X lim d f args σ (TagF P) :=
 WF.mono h fun v s e => by obtain ⟨⟨t, rfl, h1, h2⟩, rfl⟩ := e; exact hq t h1 h2
def BS (σ : Sto) (l : Mv.Loc) (t : List UInt8) : Prop := ∃ p tk, σ.ob l = some [p, .sl tk (bytesM t)] ∧ okA l p = true ∧ ((tk = .nil ∧ t = []) ∨ ∃ c, tk = .byt l.d c 5 ∧ t ≠ [] ∧ σ.ow l.d c = some (t.length, 1))
structure SB (d : Nat) (l : Mv.Loc) (σ s : Sto) : Prop where
 ob : ∀ l', l'.d < d → l' ≠ l → s.ob l' = σ.ob l'
 ow : ∀ k c, k < d → k ≠ l.d → s.ow k c = σ.ow k c
 ct : ∀ k, k < d → k ≠ l.d → s.ct k = σ.ct k
theorem SB.refl (d : Nat) (l : Mv.Loc) (σ : Sto) : SB d l σ σ := ⟨fun _ _ _ => rfl, fun _ _ _ _ => rfl, fun _ _ _ => rfl⟩
theorem SB.trans {d : Nat} {l : Mv.Loc} {a b c : Sto} (h : SB d l a b) (k : SB d l b c) : SB d l a c := ⟨fun l' h1 h2 => (k.ob l' h1 h2).trans (h.ob l' h1 h2), fun q c h1 h2 => (k.ow q c h1 h2).trans (h.ow q c h1 h2), fun q h1 h2 => (k.ct q h1 h2).trans (h.ct q h1 h2)⟩
theorem SB.le {d d' : Nat} {l : Mv.Loc} {a b : Sto} (h : SB d l a b) (hd : d' ≤ d) : SB d' l a b := ⟨fun l' h1 h2 => h.ob l' (by omega) h2, fun q c h1 h2 => h.ow q c (by omega) h2, fun q h1 h2 => h.ct q (by omega) h2⟩
theorem SB.set {d t c : Nat} {l : Mv.Loc} {a b : Sto} (h : SB d l a b) (cs : List MV) : SB d l a (b.set ⟨d, t, c⟩ cs) :=
 ⟨fun l' h1 h2 => by simp only [Sto.set]; rw [if_neg (by rintro rfl; exact Nat.lt_irrefl _ h1)]; exact h.ob l' h1 h2, h.ow, h.ct⟩
theorem SB.tick {d : Nat} {l : Mv.Loc} {a b : Sto} (h : SB d l a b) : SB d l a (b.tick d) :=
 ⟨h.ob, h.ow, fun k h1 h2 => by simp only [Sto.tick, upd]; rw [if_neg (by omega)]; exact h.ct k h1 h2⟩
theorem SB.own {d c : Nat} {l : Mv.Loc} {a b : Sto} (h : SB d l a b) (v : Option (Nat × Nat)) : SB d l a (b.own d c v) :=
 ⟨h.ob, fun k c' h1 h2 => by simp only [Sto.own]; rw [if_neg (by omega)]; exact h.ow k c' h1 h2, h.ct⟩
theorem SB.cut {d : Nat} {l : Mv.Loc} {a b : Sto} (h : SB d l a b) : SB d l a (b.cut d) :=
 ⟨fun l' h1 h2 => by simp only [Sto.cut, if_pos h1]; exact h.ob l' h1 h2, fun k c h1 h2 => by simp only [Sto.cut, if_pos h1]; exact h.ow k c h1 h2, fun k h1 h2 => by simp only [Sto.cut, if_pos h1]; exact h.ct k h1 h2⟩
theorem SB.back {d : Nat} {l : Mv.Loc} {σ s : Sto} (h : SB d l σ s) (hu : σ.Und d) (hl : d ≤ l.d) : s.cut d = σ := by
 refine Sto.ext' (fun l' => ?_) (fun k c => ?_) fun k => ?_
 ·simp only [Sto.cut]
  split
  ·rename_i h1; exact h.ob l' h1 (by rintro rfl; omega)
  ·rw [hu.ob l' (by omega)]
 ·simp only [Sto.cut]
  split
  ·rename_i h1; exact h.ow k c h1 (by omega)
  ·rw [hu.ow k c (by omega)]
 ·simp only [Sto.cut]
  split
  ·rename_i h1; exact h.ct k h1 (by omega)
  ·rw [hu.ct k (by omega)]
theorem BS.cut {s : Sto} {l : Mv.Loc} {t : List UInt8} {d : Nat} (h : BS s l t) (hl : l.d < d) : BS (s.cut d) l t := by
 obtain ⟨p, tk, h1, h2, h3⟩ := h
 refine ⟨p, tk, by simp only [Sto.cut, if_pos hl]; exact h1, h2, h3.imp id ?_⟩
 rintro ⟨c, e1, e2, e3⟩
 exact ⟨c, e1, e2, by simp only [Sto.cut, if_pos hl]; exact e3⟩
theorem BS.set {s : Sto} {l : Mv.Loc} {t : List UInt8} (h : BS s l t) {l' : Mv.Loc} (hl : l' ≠ l) (cs : List MV) : BS (s.set l' cs) l t := by
 obtain ⟨p, tk, h1, h2, h3⟩ := h
 exact ⟨p, tk, by simp only [Sto.set]; rw [if_neg (fun e => hl e.symm)]; exact h1, h2, h3⟩
theorem BS.tick {s : Sto} {l : Mv.Loc} {t : List UInt8} {d : Nat} (h : BS s l t) : BS (s.tick d) l t := h
theorem BS.own {s : Sto} {l : Mv.Loc} {t : List UInt8} {k c : Nat} {v : Option (Nat × Nat)} (h : BS s l t) (hk : k ≠ l.d) : BS (s.own k c v) l t := by
 obtain ⟨p, tk, h1, h2, h3⟩ := h
 refine ⟨p, tk, h1, h2, h3.imp id ?_⟩
 rintro ⟨c', e1, e2, e3⟩
 exact ⟨c', e1, e2, by simp only [Sto.own]; rw [if_neg (by omega)]; exact e3⟩
theorem okz_bytesM (t : List UInt8) : okz 1 (bytesM t) = true := by
 simp [okz, bytesM]
theorem bytesM_app (a b : List UInt8) : bytesM (a ++ b) = bytesM a ++ bytesM b := by simp [bytesM]
theorem bapp_BS {lim : Nat} {σ : Sto} {l : Mv.Loc} {t x : List UInt8} (h : BS σ l t) (hlim : lim ≤ l.d) (hb : t.length + x.length ≤ 140737488355328) :
  ∃ p tk v s', σ.ob l = some [p, .sl tk (bytesM t)] ∧ okA l p = true ∧ bapp lim l.d 5 σ tk (bytesM t) x = some (v, s') ∧ BS (s'.set l [.ptr l 0, v]) l (t ++ x) ∧ ∀ d, SB d l σ (s'.set l [.ptr l 0, v]) := by
 obtain ⟨p, tk, h1, h2, h3⟩ := h
 have hoA : okA l (.ptr l 0) = true := by simp [okA]
 have hst : ∀ (s' : Sto) (v : MV), s'.ob = σ.ob → (∀ k c, k ≠ l.d → s'.ow k c = σ.ow k c) → (∀ k, k ≠ l.d → s'.ct k = σ.ct k) → ∀ d, SB d l σ (s'.set l [.ptr l 0, v]) := fun s' v e1 e2 e3 d =>
  ⟨fun l' _ hl' => by simp only [Sto.set]; rw [if_neg hl', e1], fun k c _ hk => e2 k c hk, fun k _ hk => e3 k hk⟩
 unfold bapp
 by_cases hx : x = []
 ·subst hx
  refine ⟨p, tk, _, _, h1, h2, by rw [if_pos rfl], ?_, hst σ _ rfl (fun _ _ _ => rfl) (fun _ _ => rfl)⟩
  rw [List.append_nil]
  exact ⟨.ptr l 0, tk, by simp [Sto.set], hoA, h3⟩
 ·rcases h3 with ⟨rfl, rfl⟩ | ⟨c, rfl, h4, h5⟩
  ·have hc : okz 1 (bytesM []) = true ∧ (bytesM []).length + x.length ≤ 140737488355328 := ⟨rfl, by simpa [bytesM] using hb⟩
   refine ⟨p, .nil, .sl (.byt l.d (σ.ct l.d) 5) (bytesM x), (σ.own l.d (σ.ct l.d) (some (x.length, 1))).tick l.d, h1, h2, by rw [if_neg hx, if_pos hc]; exact if_pos rfl, ?_, hst _ _ rfl (fun k c hk => by simp only [Sto.tick, Sto.own]; rw [if_neg (by omega)]) (fun k hk => by simp only [Sto.tick, Sto.own, upd]; rw [if_neg hk])⟩
   exact ⟨.ptr l 0, _, by simp [Sto.set], hoA, .inr ⟨σ.ct l.d, rfl, by simpa using hx, by simp [Sto.set, Sto.tick, Sto.own]⟩⟩
  ·have hc : okz 1 (bytesM t) = true ∧ (bytesM t).length + x.length ≤ 140737488355328 := ⟨okz_bytesM t, by rw [bytesM_len]; exact hb⟩
   have hc2 : lim ≤ l.d ∧ 5 = 5 ∧ σ.ow l.d c = some ((bytesM t).length, 1) := ⟨hlim, rfl, by rw [bytesM_len]; exact h5⟩
   refine ⟨p, .byt l.d c 5, .sl (.byt l.d c 5) (bytesM t ++ bytesM x), σ.own l.d c (some ((bytesM t).length + x.length, 1)), h1, h2, by rw [if_neg hx, if_pos hc]; exact if_pos hc2, ?_, hst _ _ rfl (fun k c hk => by simp only [Sto.own]; rw [if_neg (by omega)]) (fun k hk => rfl)⟩
   exact ⟨.ptr l 0, _, by simp only [Sto.set, if_true, bytesM_app], hoA, .inr ⟨c, rfl, by simp [h4], by simp [Sto.set, Sto.own, bytesM_len]⟩⟩
theorem SB.und {d e : Nat} {l : Mv.Loc} {σ s : Sto} (h : ∀ d, SB d l σ s) (hu : σ.Und e) (hl : l.d < e) : s.Und e :=
 ⟨fun l' hl' => by rw [(h (l'.d + 1)).ob l' (Nat.lt_succ_self _) (by rintro rfl; omega)]; exact hu.ob l' hl', fun k c hk => by rw [(h (k + 1)).ow k c (Nat.lt_succ_self _) (by omega)]; exact hu.ow k c hk, fun k hk => by rw [(h (k + 1)).ct k (Nat.lt_succ_self _) (by omega)]; exact hu.ct k hk⟩
theorem w501 {lim d : Nat} {σ : Sto} {l : Mv.Loc} {t x : List UInt8} (h : BS σ l t) (hlim : lim ≤ l.d) (hl : l.d ≤ d) (hB : isB l = true) (hu : σ.Und (d + 1)) (hb : t.length + x.length ≤ 140737488355328) {P : MV → Sto → Prop} (hq : ∀ s v, BS s l (t ++ x) → SB (d + 1) l σ s → s.Und (d + 1) → P v s) : WFh X lim (d + 1) 73 [.ptr l 0, .str x] σ (TagF P) := by
 obtain ⟨p, tk, v, s', h1, h2, h3, h4, h5⟩ := bapp_BS h hlim hb
 refine ⟨1, (.tup [.int .i64 x.length, .junk], s'.set l [.ptr l 0, v]), ?_, hq _ _ h4 (h5 _) (SB.und (d := d) h5 hu (by omega))⟩
 show wstrP lim (d + 1) [.ptr l 0, .str x] σ = _
 simp only [wstrP, hlim, hl, hB, and_self, if_true, h1, h2, h3, Option.map_some]
theorem w502 {lim d : Nat} {σ : Sto} {l : Mv.Loc} {t : List UInt8} {c : Int} (hc : 0 ≤ c ∧ c < 256) (h : BS σ l t) (hlim : lim ≤ l.d) (hl : l.d ≤ d) (hB : isB l = true) (hu : σ.Und (d + 1)) (hb : t.length + 1 ≤ 140737488355328) {P : MV → Sto → Prop} (hq : ∀ s v, BS s l (t ++ [UInt8.ofNat c.toNat]) → SB (d + 1) l σ s → s.Und (d + 1) → P v s) : WFh X lim (d + 1) 75 [.ptr l 0, .int .u8 c] σ (TagF P) := by
 obtain ⟨p, tk, v, s', h1, h2, h3, h4, h5⟩ := bapp_BS (x := [UInt8.ofNat c.toNat]) h hlim hb
 refine ⟨1, (.junk, s'.set l [.ptr l 0, v]), ?_, hq _ _ h4 (h5 _) (SB.und (d := d) h5 hu (by omega))⟩
 show wbyteP lim (d + 1) [.ptr l 0, .int .u8 c] σ = _
 simp only [wbyteP, hlim, hl, hB, hc.1, hc.2, and_self, if_true, h1, h2, h3, Option.map_some]
theorem bytesOf_M : ∀ t : List UInt8, bytesOf (bytesM t) = some t
 | [] => rfl
 | b :: t => by
  have := bytesOf_M t
  simp only [bytesM, List.map_cons] at this ⊢
  simp only [bytesOf, this, Option.map_some, Int.toNat_natCast]
  simp
theorem inB_M : ∀ t : List UInt8, inB (bytesM t) = true
 | [] => rfl
 | b :: t => by
  have := inB_M t
  have hb := b.toNat_lt
  simp only [bytesM, List.map_cons] at this ⊢
  simp only [inB, this, Bool.and_true, decide_eq_true_eq]
  omega
theorem w503 {lim d : Nat} {σ : Sto} {l : Mv.Loc} {t : List UInt8} (h : BS σ l t) (hlim : lim ≤ l.d) (hl : l.d ≤ d) (hb : t.length ≤ 140737488355328) {P : MV → Sto → Prop} (hq : ∀ s, SB l.d l σ s → P (.str t) s) : WFh X lim (d + 1) 71 [.ptr l 0] σ (TagF P) := by
 obtain ⟨p, tk, h1, h2, ⟨rfl, rfl⟩ | ⟨c, rfl, h4, h5⟩⟩ := h
 ·refine ⟨1, (.str [], σ), ?_, hq _ (SB.refl ..)⟩
  show bstrP lim (d + 1) [.ptr l 0] σ = _
  have h1' : σ.ob l = some [p, .sl .nil []] := h1
  simp only [bstrP, hlim, hl, and_self, if_true, h1']
 ·refine ⟨1, (.str t, (σ.own l.d c none).set l [p, .sl .no (bytesM t)]), ?_, hq _ ⟨fun l' h6 h7 => by simp only [Sto.set, Sto.own]; rw [if_neg h7], fun k c' h6 h7 => by simp only [Sto.set, Sto.own]; rw [if_neg (by omega)], fun k _ _ => rfl⟩⟩
  show bstrP lim (d + 1) [.ptr l 0] σ = _
  simp only [bstrP, hlim, hl, and_self, if_true, h1, bytesOf_M, Nat.le_refl, ne_eq, h4, not_false_eq_true, okz_bytesM, inB_M, bytesM_len, hb, h5]
end Go.Proofs.Tryz.E
