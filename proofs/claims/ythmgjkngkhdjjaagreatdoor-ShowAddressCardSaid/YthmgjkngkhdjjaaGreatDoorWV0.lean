/- Walks: what the functions compute. Walks: what the functions compute. -/
import Derived.Test.YthmgjkngkhdjjaaGreatDoorG0
set_option linter.unusedVariables false
set_option linter.unusedSimpArgs false
/- Delimited text, in plain words: bracket expressions, text up to a delimiter. -/
namespace Go.Proofs.Tryz.E
open Go.Mv
set_option maxHeartbeats 4000000
set_option maxRecDepth 20000
def lin : List UInt8 → List UInt8
 | [] => []
 | b :: r => if b = 10 then [] else b :: lin r
theorem lin_len : ∀ t : List UInt8, (lin t).length ≤ t.length
 | [] => Nat.le_refl _
 | b :: t => by
  have := lin_len t
  unfold lin
  split <;> simp <;> omega
theorem lin_at : ∀ (t : List UInt8) (i : Nat), i < (lin t).length → t[i]? = (lin t)[i]? ∧ (lin t)[i]? ≠ some 10
 | [], i, h => by simp [lin] at h
 | b :: t, i, h => by
  unfold lin at h ⊢
  split at h
  ·simp at h
  ·rename_i hb
   rw [if_neg hb]
   cases i with
   | zero => simpa using hb
   | succ i =>
    simp only [List.getElem?_cons_succ]
    exact lin_at t i (by simpa using h)
theorem lin_end : ∀ t : List UInt8, (lin t).length < t.length → t[(lin t).length]? = some 10
 | [], h => by simp at h
 | b :: t, h => by
  unfold lin at h ⊢
  split at h
  ·rename_i hb; rw [if_pos hb]; simp [hb]
  ·rename_i hb
   rw [if_neg hb]
   simp only [List.length_cons, List.getElem?_cons_succ]
   exact lin_end t (by simpa using h)
def clo (g : UInt8) : List UInt8 → Option Nat
 | [] => none
 | b :: r => if b = g ∧ r.head? = some 93 then some 0 else (clo g r).map (· + 1)
theorem clo_le (g : UInt8) : ∀ (l : List UInt8) (j : Nat), clo g l = some j → j + 2 ≤ l.length
 | [], j, h => by simp [clo] at h
 | b :: r, j, h => by
  simp only [clo] at h
  split at h
  ·rename_i q
   cases h
   cases r with
   | nil => simp at q
   | cons x r => simp
  ·obtain ⟨i, hi, rfl⟩ := Option.map_eq_some_iff.1 h
   have := clo_le g r i hi
   simp only [List.length_cons]; omega
def cloI (g : UInt8) (l : List UInt8) : Int := match clo g l with
 | none => -1
 | some j => (j : Int)
def brkF : Nat → List UInt8 → Bool → Nat
 | 0, _, _ => 0
 | _ + 1, [], _ => 0
 | k + 1, c :: r, first => if c = 93 ∧ first = false then 1 else if c = 91 ∧ isS [46, 61, 58] r.head? = true then (match clo (r.headD 0) r.tail with
  | none => r.length + 1
  | some j => j + 4 + brkF k (r.drop (j + 3)) false) else 1 + brkF k r false
theorem brkF_le : ∀ (k : Nat) (l : List UInt8) (f : Bool), brkF k l f ≤ l.length
 | 0, _, _ => Nat.zero_le _
 | _ + 1, [], _ => Nat.le_refl _
 | k + 1, c :: r, f => by
  simp only [brkF]
  split
  ·simp
  ·split
   ·split
    ·simp
    ·rename_i j hj
     have h1 := clo_le _ _ _ hj
     have h2 := brkF_le k (r.drop (j + 3)) false
     simp only [List.length_tail, List.length_drop, List.length_cons] at h1 h2 ⊢
     omega
   ·have := brkF_le k r false
    simp only [List.length_cons]; omega
def isC (l : List UInt8) : Bool := l.head? == some 94
def brk (t : List UInt8) : Nat := let l := lin t
 if isC (l.drop 1) = true then 2 + brkF l.length (l.drop 2) true else 1 + brkF l.length (l.drop 1) true
theorem brk_le (t : List UInt8) (h : 1 ≤ (lin t).length) : 1 ≤ brk t ∧ brk t ≤ (lin t).length := by
 unfold brk
 simp only
 split
 ·rename_i q
  have h1 := brkF_le (lin t).length ((lin t).drop 2) true
  have h2 : 2 ≤ (lin t).length := by
   simp only [isC, List.head?_drop, beq_iff_eq] at q
   have := (List.getElem?_eq_some_iff.1 q).1
   omega
  rw [List.length_drop] at h1
  omega
 ·have h1 := brkF_le (lin t).length ((lin t).drop 1) true
  rw [List.length_drop] at h1
  omega
abbrev Dl := Option (List UInt8) × Nat
def app (p : List UInt8) (n : Nat) (x : Dl) : Dl := (x.1.map (p ++ ·), n + x.2)
theorem app_app (p q : List UInt8) (n m : Nat) (x : Dl) : app p n (app q m x) = app (p ++ q) (n + m) x := by
 obtain ⟨o, k⟩ := x
 cases o <;> simp [app, Nat.add_assoc]
def escT (c x : UInt8) : List UInt8 := if x = c ∧ c ≠ 110 then [x] else [92, x]
def delF (c : UInt8) : Nat → List UInt8 → Dl
 | 0, _ => (none, 0)
 | _ + 1, [] => (none, 0)
 | k + 1, b :: r => if b = 10 then (none, 0) else if b = c then (some [], 1) else if b = 91 then app ((b :: r).take (brk (b :: r))) (brk (b :: r)) (delF c k ((b :: r).drop (brk (b :: r))))
  else if b = 92 then (match r with
   | [] => (none, 1)
   | x :: r' => if x = 10 then (none, 1) else app (escT c x) 2 (delF c k r'))
  else app [b] 1 (delF c k r)
def delA (c : UInt8) (s : List UInt8) (n : Nat) : Dl := app [] n (delF c (s.length + 1) (s.drop n))
inductive Un : List UInt8 → Prop
 | nil : Un []
 | sp (c : UInt8) {t : List UInt8} : c ≠ 10 → Un t → Un (91 :: 46 :: c :: 46 :: 93 :: t)
 | pl (b : UInt8) {t : List UInt8} : b ≠ 91 → b ≠ 93 → b ≠ 10 → Un t → Un (b :: t)
inductive Pc : List UInt8 → Nat → Prop
 | nil : Pc [] 0
 | es (c : UInt8) {t : List UInt8} {n : Nat} : c ≠ 10 → c ≠ 47 → Pc t n → Pc (92 :: c :: t) (n + 2)
 | br (u : List UInt8) {t : List UInt8} {n : Nat} : Un u → u ≠ [] → u ≠ [94] → Pc t n → Pc (91 :: (u ++ 93 :: t)) (n + u.length + 2)
 | pl (b : UInt8) {t : List UInt8} {n : Nat} : b ≠ 92 → b ≠ 91 → b ≠ 10 → Pc t n → Pc (b :: t) (n + 2)
inductive Sl : List UInt8 → List UInt8 → Prop
 | nil : Sl [] []
 | es (c : UInt8) {s u : List UInt8} : c ≠ 10 → c ≠ 47 → Sl s u → Sl (92 :: c :: s) (92 :: c :: u)
 | br (b : List UInt8) {s u : List UInt8} : Un b → b ≠ [] → b ≠ [94] → Sl s u → Sl (91 :: (b ++ 93 :: s)) (91 :: (b ++ 93 :: u))
 | sh {s u : List UInt8} : Sl s u → Sl (47 :: s) (92 :: 47 :: u)
 | pl (b : UInt8) {s u : List UInt8} : b ≠ 92 → b ≠ 91 → b ≠ 10 → b ≠ 47 → Sl s u → Sl (b :: s) (b :: u)
theorem Un.app {a b : List UInt8} (h : Un a) (k : Un b) : Un (a ++ b) := by
 induction h with
 | nil => exact k
 | sp c hc _ ih => exact .sp c hc ih
 | pl x h1 h2 h3 _ ih => exact .pl x h1 h2 h3 ih
theorem Pc.app {a b : List UInt8} {n m : Nat} (h : Pc a n) (k : Pc b m) : Pc (a ++ b) (n + m) := by
 induction h with
 | nil => rw [Nat.zero_add]; exact k
 | es c h1 h2 _ ih =>
  rw [Nat.add_right_comm]
  exact .es c h1 h2 ih
 | @br u t n h1 h2 h3 _ ih =>
  rw [List.cons_append, List.append_assoc, List.cons_append, show n + u.length + 2 + m = n + m + u.length + 2 by omega]
  exact .br u h1 h2 h3 ih
 | pl x h1 h2 h3 _ ih =>
  rw [Nat.add_right_comm]
  exact .pl x h1 h2 h3 ih
theorem Un.no {t : List UInt8} (h : Un t) : ∀ x ∈ t, x ≠ 10 := by
 induction h with
 | nil => intro x hx; cases hx
 | sp c hc _ ih =>
  intro x hx
  simp only [List.mem_cons] at hx
  rcases hx with rfl | rfl | rfl | rfl | rfl | hx
  ·decide
  ·decide
  ·exact hc
  ·decide
  ·decide
  ·exact ih x hx
 | pl b _ _ h3 _ ih =>
  intro x hx
  rcases List.mem_cons.1 hx with rfl | hx
  ·exact h3
  ·exact ih x hx
theorem Pc.len {t : List UInt8} {n : Nat} (h : Pc t n) : t.length ≤ n := by
 induction h with
 | nil => exact Nat.le_refl _
 | es c _ _ _ ih => simp only [List.length_cons]; omega
 | br u _ _ _ _ ih => simp only [List.length_cons, List.length_append]; omega
 | pl x _ _ _ _ ih => simp only [List.length_cons]; omega
theorem Pc.plain : ∀ t : List UInt8, (∀ b ∈ t, b ≠ 92 ∧ b ≠ 91 ∧ b ≠ 10) → Pc t (2 * t.length)
 | [], _ => .nil
 | b :: t, h => by
  obtain ⟨h1, h2, h3⟩ := h b (List.mem_cons_self ..)
  exact .pl b h1 h2 h3 (Pc.plain t fun x hx => h x (List.mem_cons_of_mem _ hx))
theorem Pc.one {b : UInt8} (h1 : b ≠ 92) (h2 : b ≠ 91) (h3 : b ≠ 10) : Pc [b] 2 := .pl b h1 h2 h3 .nil
theorem Pc.two {c : UInt8} (h1 : c ≠ 10) (h2 : c ≠ 47) : Pc [92, c] 2 := .es c h1 h2 .nil
theorem Pc.brk {u : List UInt8} (h1 : Un u) (h2 : u ≠ []) (h3 : u ≠ [94]) : Pc (91 :: (u ++ [93])) (u.length + 2) := by
 have := Pc.br u h1 h2 h3 .nil
 rwa [Nat.zero_add] at this
theorem sl_of {s : List UInt8} {n : Nat} (h : Pc s n) : ∃ u, Sl s u ∧ u.length ≤ n := by
 induction h with
 | nil => exact ⟨_, .nil, Nat.le_refl _⟩
 | es c h1 h2 _ ih => obtain ⟨u, hu, hl⟩ := ih; exact ⟨_, .es c h1 h2 hu, by simp only [List.length_cons]; omega⟩
 | br b h1 h2 h3 _ ih => obtain ⟨u, hu, hl⟩ := ih; exact ⟨_, .br b h1 h2 h3 hu, by simp only [List.length_cons, List.length_append]; omega⟩
 | pl b h1 h2 h3 _ ih =>
  obtain ⟨u, hu, hl⟩ := ih
  by_cases h : b = 47
  ·subst h; exact ⟨_, .sh hu, by simp only [List.length_cons]; omega⟩
  ·exact ⟨_, .pl b h1 h2 h3 h hu, by simp only [List.length_cons]; omega⟩
theorem Sl.len {s u : List UInt8} (h : Sl s u) : s.length ≤ u.length ∧ u.length ≤ 2 * s.length := by
 induction h with
 | nil => exact ⟨Nat.le_refl _, Nat.le_refl _⟩
 | es c _ _ _ ih => simp only [List.length_cons]; omega
 | br b _ _ _ _ ih => simp only [List.length_cons, List.length_append]; omega
 | sh _ ih => simp only [List.length_cons]; omega
 | pl b _ _ _ _ _ ih => simp only [List.length_cons]; omega
theorem lin_un {b w : List UInt8} (h : Un b) : lin (b ++ w) = b ++ lin w := by
 have : ∀ b : List UInt8, (∀ x ∈ b, x ≠ 10) → lin (b ++ w) = b ++ lin w := by
  intro b
  induction b with
  | nil => intro _; rfl
  | cons x b ih =>
   intro h
   rw [List.cons_append, lin, if_neg (h x (List.mem_cons_self ..)), ih fun y hy => h y (List.mem_cons_of_mem _ hy)]
   rfl
 exact this b h.no
theorem brkF_un {b : List UInt8} (h : Un b) : ∀ (k : Nat) (w : List UInt8) (first : Bool), b.length + 1 ≤ k → (first = true → b ≠ []) → brkF k (b ++ 93 :: w) first = b.length + 1 := by
 induction h with
 | nil =>
  intro k w first hk hf
  obtain ⟨k, rfl⟩ : ∃ j, k = j + 1 := ⟨k - 1, by simp at hk; omega⟩
  cases first
  ·rw [List.nil_append, brkF, if_pos ⟨rfl, rfl⟩]; rfl
  ·exact absurd rfl (hf rfl)
 | @sp c t hc ht ih =>
  intro k w first hk hf
  obtain ⟨k, rfl⟩ : ∃ j, k = j + 1 := ⟨k - 1, by omega⟩
  simp only [List.length_cons] at hk
  have h1 := ih k w false (by omega) (fun q => by cases q)
  have hcl : clo 46 (c :: 46 :: 93 :: (t ++ 93 :: w)) = some 1 := by
   rw [clo, if_neg (by simp), clo, if_pos (by simp)]
   rfl
  rw [List.cons_append, List.cons_append, List.cons_append, List.cons_append, List.cons_append, brkF, if_neg (by simp), if_pos ⟨rfl, rfl⟩]
  simp only [List.headD_cons, List.tail_cons, hcl, List.drop_succ_cons, List.drop_zero, h1, List.length_cons]
  omega
 | @pl b t h1 h2 h3 ht ih =>
  intro k w first hk hf
  obtain ⟨k, rfl⟩ : ∃ j, k = j + 1 := ⟨k - 1, by omega⟩
  simp only [List.length_cons] at hk
  have h4 := ih k w false (by omega) (fun q => by cases q)
  rw [List.cons_append, brkF, if_neg (fun q => h2 q.1), if_neg (fun q => h1 q.1), h4, List.length_cons]
  omega
theorem brk_un {b w : List UInt8} (h : Un b) (h1 : b ≠ []) (h2 : b ≠ [94]) : brk (91 :: (b ++ 93 :: w)) = b.length + 2 := by
 have hl : lin (91 :: (b ++ 93 :: w)) = 91 :: (b ++ 93 :: lin w) := by
  rw [lin, if_neg (by decide), lin_un h, lin, if_neg (by decide)]
 unfold brk
 rw [hl]
 simp only [List.drop_succ_cons, List.drop_zero]
 obtain ⟨x, b', rfl⟩ : ∃ x b', b = x :: b' := by
  cases b with
  | nil => exact absurd rfl h1
  | cons x b' => exact ⟨x, b', rfl⟩
 by_cases hx : x = 94
 ·subst hx
  have hb' : Un b' := by cases h with
   | pl _ _ _ _ k => exact k
  have hne : b' ≠ [] := fun e => h2 (by rw [e])
  have hc : isC ((94 :: b') ++ 93 :: lin w) = true := rfl
  rw [if_pos hc]
  have := brkF_un hb' ((91 :: ((94 :: b') ++ 93 :: lin w)).length) (lin w) true (by simp only [List.length_cons, List.length_append]; omega) (fun _ => hne)
  rw [List.cons_append, List.drop_succ_cons, List.drop_zero] at *
  rw [this]
  simp only [List.length_cons]
  omega
 ·have hc : isC ((x :: b') ++ 93 :: lin w) = false := by
   simp only [isC, List.cons_append, List.head?_cons]
   rw [beq_eq_false_iff_ne]
   intro e
   exact hx (Option.some.inj e)
  rw [if_neg (by rw [hc]; exact Bool.false_ne_true)]
  have := brkF_un h ((91 :: ((x :: b') ++ 93 :: lin w)).length) (lin w) true (by simp only [List.length_cons, List.length_append]; omega) (fun _ => h1)
  rw [this]
  omega
def escD (c : UInt8) (k : Nat) : List UInt8 → Dl
 | [] => (none, 1)
 | x :: r => if x = 10 then (none, 1) else app (escT c x) 2 (delF c k r)
theorem delF_c (c : UInt8) (k : Nat) (b : UInt8) (r : List UInt8) : delF c (k + 1) (b :: r) = if b = 10 then (none, 0) else if b = c then (some [], 1) else if b = 91 then app ((b :: r).take (brk (b :: r))) (brk (b :: r)) (delF c k ((b :: r).drop (brk (b :: r)))) else if b = 92 then escD c k r else app [b] 1 (delF c k r) := by
 cases r <;> rfl
theorem del_sl {s u : List UInt8} (h : Sl s u) : ∀ (k : Nat) (w : List UInt8), u.length + 1 ≤ k → delF 47 k (u ++ 47 :: w) = (some s, u.length + 1) := by
 induction h with
 | nil =>
  intro k w hk
  obtain ⟨k, rfl⟩ : ∃ j, k = j + 1 := ⟨k - 1, by omega⟩
  rw [List.nil_append, delF_c, if_neg (by decide), if_pos rfl]
  rfl
 | @es c s u h1 h2 _ ih =>
  intro k w hk
  obtain ⟨k, rfl⟩ : ∃ j, k = j + 1 := ⟨k - 1, by omega⟩
  simp only [List.length_cons] at hk
  rw [List.cons_append, List.cons_append, delF_c, if_neg (by decide), if_neg (by decide), if_neg (by decide), if_pos rfl, escD, if_neg h1, ih k w (by omega)]
  unfold escT
  rw [if_neg (fun q => h2 q.1)]
  simp only [app, Option.map_some, List.cons_append, List.nil_append, List.length_cons, Prod.mk.injEq, true_and]
  omega
 | @br b s u h1 h2 h3 _ ih =>
  intro k w hk
  obtain ⟨k, rfl⟩ : ∃ j, k = j + 1 := ⟨k - 1, by omega⟩
  simp only [List.length_cons, List.length_append] at hk
  have hb := brk_un (w := u ++ 47 :: w) h1 h2 h3
  have e : 91 :: (b ++ 93 :: u) ++ 47 :: w = 91 :: (b ++ 93 :: (u ++ 47 :: w)) := by simp
  rw [e, delF_c, if_neg (by decide), if_neg (by decide), if_pos rfl, hb]
  have t1 : (91 :: (b ++ 93 :: (u ++ 47 :: w))).take (b.length + 2) = 91 :: (b ++ [93]) := by
   rw [show b.length + 2 = (b.length + 1) + 1 from rfl, List.take_succ_cons, List.take_length_add_append]
   rfl
  have t2 : (91 :: (b ++ 93 :: (u ++ 47 :: w))).drop (b.length + 2) = u ++ 47 :: w := by
   rw [show b.length + 2 = (b.length + 1) + 1 from rfl, List.drop_succ_cons, List.drop_length_add_append]
   rfl
  rw [t1, t2, ih k w (by omega)]
  simp only [app, Option.map_some, List.cons_append, List.nil_append, List.append_assoc, List.length_cons, List.length_append, Prod.mk.injEq, true_and]
  omega
 | @sh s u _ ih =>
  intro k w hk
  obtain ⟨k, rfl⟩ : ∃ j, k = j + 1 := ⟨k - 1, by omega⟩
  simp only [List.length_cons] at hk
  rw [List.cons_append, List.cons_append, delF_c, if_neg (by decide), if_neg (by decide), if_neg (by decide), if_pos rfl, escD, if_neg (by decide), ih k w (by omega)]
  simp only [escT, app, Option.map_some, List.length_cons, Prod.mk.injEq]
  exact ⟨rfl, by omega⟩
 | @pl b s u h1 h2 h3 h4 _ ih =>
  intro k w hk
  obtain ⟨k, rfl⟩ : ∃ j, k = j + 1 := ⟨k - 1, by omega⟩
  simp only [List.length_cons] at hk
  rw [List.cons_append, delF_c, if_neg h3, if_neg h4, if_neg h2, if_neg h1, ih k w (by omega)]
  simp only [app, Option.map_some, List.cons_append, List.nil_append, List.length_cons, Prod.mk.injEq, true_and]
  omega
end Go.Proofs.Tryz.E
