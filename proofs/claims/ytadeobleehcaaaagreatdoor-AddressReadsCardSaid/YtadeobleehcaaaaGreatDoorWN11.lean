/- Walks: what the functions compute. Walks: what the functions compute. Walks: what the functions compute. Walks: what the functions compute. -/
import Derived.Test.YtadeobleehcaaaaGreatDoorWL2
import Derived.Test.YtadeobleehcaaaaGreatDoorWA5
import Derived.Test.YtadeobleehcaaaaGreatDoorN10
set_option linter.unusedVariables false
set_option linter.unusedSimpArgs false
/- Addresses that are numbers, or the last line: one, the second, both. -/
namespace Go.Proofs.Tryz.E
open Go.Mv
set_option maxHeartbeats 4000000
set_option maxRecDepth 20000
def adrL (k v : Int) : List MV := .int .i64 k :: .int .i64 v :: enc (.mk 0 0 0 0 0 0 0 0 0 [])
def OneL (s : List UInt8) (n : Nat) (k v : Int) (m : Nat) : Prop :=
 (k = 1 ∧ (∃ c, s[n]? = some c ∧ 48 ≤ c.toNat ∧ c.toNat ≤ 57) ∧ v = numV ((s.drop n).take (dgL s n)) ∧ numV ((s.drop n).take (dgL s n)) ≤ 1000000000 ∧ (∀ i, i < dgL s n → ∃ c, (s.drop n)[i]? = some c ∧ 48 ≤ c.toNat ∧ c.toNat ≤ 57) ∧ 0 < dgL s n ∧ m = n + dgL s n) ∨
 (k = 2 ∧ v = 0 ∧ s[n]? = some 36 ∧ m = n + 1)
section
variable (s : List UInt8) (hs : s.length ≤ 1000000)
include hs
theorem w308 (n : Nat) (hn : n < s.length) (k v : Int) (m : Nat) (h : OneL s n k v m) (p : Mv.Loc) (lim d : Nat) (hp : p.d < d) (hlim : lim ≤ p.d) (σ : Sto) (hu : σ.Und d) (ho : σ.ob p = some (encL s n)) :
  Ret lim d 14 [.ptr p 0, .bool false] σ (.tup [.agg (adrL k v), .int .i64 0]) (σ.set p (encL s m)) := by
 have hun := und_succ hu
 have hne := ne_my hp
 have hmy := my_ne hp
 have hp1 := Nat.lt_succ_of_lt hp
 have hob1 : ∀ (t c : Nat) (cs : List MV), ((σ.set ⟨d, t, c⟩ cs).tick d).ob p = some (encL s n) := fun t c cs => by simp only [go_sem, hne, if_false]; exact ho
 unfold Ret adrL
 rw [WF_body (C := X) rfl func14 rfl (by kernel_rfl)]; simp only [results14]
 simp -implicitDefEqProofs -dsimp only [↓reduceIte, ↓W_seq, go_sem, Nat.reduceEqDiff, Nat.reduceAdd, Nat.reduceLT, reduceCtorEq]
 refine (w309 s n (by omega) p lim (d + 1) hp1 _ (by simp only [u_tick, u_mine]; exact hun) (hob1 ..)).wh ?_
 rcases h with ⟨rfl, ⟨c, hc, c1, c2⟩, rfl, h1, h2, h3, rfl⟩ | ⟨rfl, rfl, hc, rfl⟩
 ·have e0 : pkL s n = c := by simp [pkL, hc]
  have e1 : (48 : Int) ≤ (c.toNat : Int) := by omega
  have e2 : (c.toNat : Int) ≤ 57 := by omega
  simp -implicitDefEqProofs -dsimp only [↓reduceIte, ↓W_seq, go_sem, Nat.reduceEqDiff, reduceCtorEq, e0, e1, e2]
  refine (w313 s hs n (by omega) h1 h2 p lim (d + 1) hp1 hlim _ (by simp only [u_tick, u_mine]; exact hun) (hob1 ..)).wh ?_
  simp -implicitDefEqProofs -dsimp only [↓reduceIte, ↓W_seq, go_sem, Nat.reduceEqDiff, Nat.reduceAdd, Nat.reduceLeDiff, enc, h3, Bool.not_true, Bool.false_eq_true, hmy, encs, cut_set _ _ _ _ hp, cut_und _ _ hu]
 ·have e0 : pkL s n = 36 := by simp [pkL, hc]
  simp -implicitDefEqProofs -dsimp only [↓reduceIte, ↓W_seq, go_sem, Nat.reduceEqDiff, Int.cast_ofNat_Int, Int.reduceLE, reduceCtorEq, e0, UInt8.reduceToNat]
  refine (w312 s hs n hn p lim (d + 1) hp1 hlim _ (by simp only [u_tick, u_mine]; exact hun) (hob1 ..)).wh ?_
  simp -implicitDefEqProofs -dsimp only [↓reduceIte, ↓W_seq, go_sem, Nat.reduceEqDiff, Nat.reduceAdd, Nat.reduceLeDiff, enc, hmy, encs, cut_set _ _ _ _ hp, cut_und _ _ hu]
theorem w310 (n : Nat) (hn : n < s.length) (hb : n + 1 + blL s (n + 1) < s.length) (k v : Int) (m : Nat) (h : OneL s (n + 1 + blL s (n + 1)) k v m) (p : Mv.Loc) (lim d : Nat) (hp : p.d < d) (hlim : lim ≤ p.d) (σ : Sto) (hu : σ.Und d) (ho : σ.ob p = some (encL s n)) :
  Ret lim d 16 [.ptr p 0, .bool false] σ (.tup [.agg (adrL k v), .int .i64 0]) (σ.set p (encL s m)) := by
 have hun := und_succ hu
 have hne := ne_my hp
 have hmy := my_ne hp
 have hp1 := Nat.lt_succ_of_lt hp
 have hk0 : (k == 0) = false := by
  rcases h with ⟨rfl, _⟩ | ⟨rfl, _⟩ <;> rfl
 unfold Ret
 rw [WF_body (C := X) rfl func16 rfl (by kernel_rfl)]; simp only [results16]
 simp -implicitDefEqProofs -dsimp only [↓reduceIte, ↓W_seq, go_sem, Nat.reduceEqDiff, Nat.reduceAdd, Nat.reduceLT, reduceCtorEq]
 refine (w312 s hs n hn p lim (d + 1) hp1 hlim _ (by simp only [u_tick, u_mine]; exact hun) (by simp only [go_sem, hne, if_false]; exact ho)).wh ?_
 simp -implicitDefEqProofs -dsimp only [↓reduceIte, ↓W_seq, go_sem, reduceCtorEq]
 refine (w311 s hs (n + 1) (by omega) p lim (d + 1) hp1 hlim _ (by simp only [u_set _ _ _ _ hp1, u_tick, u_mine]; exact hun) (by simp only [go_sem, if_true])).wh ?_
 simp -implicitDefEqProofs -dsimp only [↓reduceIte, ↓W_seq, go_sem, Nat.reduceEqDiff, reduceCtorEq]
 refine (w308 s hs _ hb k v m h p lim (d + 1) hp1 hlim _ (by simp only [u_set _ _ _ _ hp1, u_tick, u_mine]; exact hun) (by simp only [go_sem, if_true])).wh ?_
 simp -implicitDefEqProofs -dsimp only [↓reduceIte, ↓W_seq, go_sem, Nat.reduceEqDiff, Nat.reduceAdd, Nat.reduceLT, enc, adrL, encs, hk0, hmy, cut_set _ _ _ _ hp, cut_und _ _ hu]
theorem w305 (k v : Int) (m1 : Nat) (h1 : OneL s 0 k v m1) (hm1 : m1 + 1 < s.length) (h44 : s[m1]? = some 44) (k2 v2 : Int) (m2 m3 : Nat) (e2 : m2 = m1 + 1 + blL s (m1 + 1)) (hm2 : m2 < s.length) (h2 : OneL s m2 k2 v2 m3) (hm3 : m3 ≤ s.length) (m4 : Nat) (e4 : m4 = m3 + blL s m3) (hm4 : m4 < s.length)
  (b : Bool) (hb : (pkL s m4 == 33) = b) (m5 : Nat) (e5 : m5 = if b = true then m4 + 1 + blL s (m4 + 1) else m4) (p : Mv.Loc) (lim d : Nat) (hp : p.d < d) (hlim : lim ≤ p.d) (σ : Sto) (hu : σ.Und d) (ho : σ.ob p = some (encL s 0)) :
  Ret lim d 6 [.ptr p 0, .bool false] σ (.tup [.agg (adrL k v ++ adrL k2 v2 ++ [.bool b]), .int .i64 0]) (σ.set p (encL s m5)) := by
 have hun := und_succ hu
 have hne := ne_my hp
 have hmy := my_ne hp
 have hp1 := Nat.lt_succ_of_lt hp
 have hk0 : (k != 0) = true := by
  rcases h1 with ⟨rfl, _⟩ | ⟨rfl, _⟩ <;> rfl
 have e44 : pkL s m1 = 44 := by simp [pkL, h44]
 have hU : ∀ σ' : Sto, σ'.Und (d + 1) → σ'.Und (d + 1) := fun _ h => h
 unfold Ret
 rw [WF_body (C := X) rfl func6 rfl (by kernel_rfl)]; simp only [results6]
 simp -implicitDefEqProofs -dsimp only [↓reduceIte, ↓W_seq, go_sem, Nat.reduceEqDiff, Nat.reduceAdd, Nat.reduceLT, reduceCtorEq]
 refine (w308 s hs 0 (by omega) k v m1 h1 p lim (d + 1) hp1 hlim _ (by simp only [u_tick, u_mine]; exact hun) (by simp only [go_sem, hne, if_false]; exact ho)).wh ?_
 simp -implicitDefEqProofs -dsimp only [↓reduceIte, ↓W_seq, go_sem, Nat.reduceEqDiff, Nat.reduceAdd, Nat.reduceLeDiff, Int.reduceBNe, reduceCtorEq, enc, adrL, encs, hmy, hk0]
 refine (w309 s m1 (by omega) p lim (d + 1) hp1 _ (by simp only [u_set _ _ _ _ hp1, u_tick, u_mine]; exact hun) (by simp only [go_sem, hne, if_false, if_true])).wh ?_
 simp -implicitDefEqProofs -dsimp only [↓reduceIte, ↓W_seq, go_sem, Nat.reduceEqDiff, Int.cast_ofNat_Int, reduceCtorEq, e44, UInt8.reduceToNat]
 refine (w310 s hs m1 (by omega) (by omega) k2 v2 m3 (by rw [← e2]; exact h2) p lim (d + 1) hp1 hlim _ (by simp only [u_set _ _ _ _ hp1, u_tick, u_mine]; exact hun) (by simp only [go_sem, hne, if_false, if_true])).wh ?_
 simp -implicitDefEqProofs -dsimp only [↓reduceIte, ↓W_seq, go_sem, Nat.reduceEqDiff, Nat.reduceAdd, Nat.reduceLeDiff, Int.reduceBNe, reduceCtorEq, enc, adrL, encs, hmy]
 refine (w311 s hs m3 hm3 p lim (d + 1) hp1 hlim _ (by simp only [u_set _ _ _ _ hp1, u_tick, u_mine]; exact hun) (by simp only [go_sem, hne, if_false, if_true])).wh ?_
 rw [← e4]
 have hbi : (((pkL s m4).toNat : Int) == 33) = b := by
  rw [← hb, Bool.eq_iff_iff, beq_iff_eq, beq_iff_eq]
  constructor
  ·intro q; exact UInt8.toNat_inj.1 (by have : (33 : UInt8).toNat = 33 := rfl; omega)
  ·intro q; rw [q]; rfl
 simp -implicitDefEqProofs -dsimp only [↓reduceIte, ↓W_seq, go_sem, reduceCtorEq]
 refine (w309 s m4 (by omega) p lim (d + 1) hp1 _ (by simp only [u_set _ _ _ _ hp1, u_tick, u_mine]; exact hun) (by simp only [go_sem, hne, if_false, if_true])).wh ?_
 simp -implicitDefEqProofs -dsimp only [↓reduceIte, ↓W_seq, go_sem, Nat.reduceEqDiff, Nat.reduceAdd, reduceCtorEq, hbi, hmy]
 cases b
 ·simp only [Bool.false_eq_true, if_false] at e5
  subst e5
  simp -implicitDefEqProofs -dsimp only [↓reduceIte, go_sem, cut_set _ _ _ _ hp, cut_und _ _ hu]
  rfl
 ·simp only [if_true] at e5
  simp -implicitDefEqProofs -dsimp only [↓reduceIte, go_sem]
  refine (w312 s hs m4 hm4 p lim (d + 1) hp1 hlim _ (by simp only [u_set _ _ _ _ hp1, u_tick, u_mine]; exact hun) (by simp only [go_sem, hne, if_false, if_true])).wh ?_
  simp -implicitDefEqProofs -dsimp only [↓reduceIte, go_sem, reduceCtorEq]
  refine (w311 s hs (m4 + 1) (by omega) p lim (d + 1) hp1 hlim _ (by simp only [u_set _ _ _ _ hp1, u_tick, u_mine]; exact hun) (by simp only [go_sem, hne, if_false, if_true])).wh ?_
  rw [← e5]
  simp -implicitDefEqProofs -dsimp only [↓reduceIte, ↓W_seq, go_sem, Nat.reduceEqDiff, Nat.reduceAdd, hmy, cut_set _ _ _ _ hp, cut_und _ _ hu]
  rfl
end
@[go_sem] theorem bslF_eqL (P : Program) (t : TypeId) (n : Nat) (ps : List (Nat × MV)) : bslF P t n ps = (slc P t).bind fun x => if ps.length = n ∧ n * x.2.1 ≤ 65536 ∧ 0 < x.2.1 then (sliceParts x.2.1 0 ps).map fun xs => .sl .no xs else none := by
 unfold bslF
 cases slc P t <;> rfl
@[go_sem] theorem cvt_byL (tk : Tok) (n : Int) : cvtO X.P 119 9 (.sl tk [[.int .u8 n]]) = some (.str [UInt8.ofNat n.toNat]) := by
 have h1 : X.P.underlying 119 = some (.slice 5) := by kernel_rfl
 have h2 : X.P.underlying 9 = some .string := by kernel_rfl
 have h3 : X.P.underlying 5 = some (.int .u8) := by kernel_rfl
 simp only [cvtO, h1, h2, h3, bytesOf, Option.map_some]
theorem w306 (s : List UInt8) (n : Nat) (p : Mv.Loc) (lim d : Nat) (hp : p.d < d) (σ : Sto) (hu : σ.Und d) (ho : σ.ob p = some (encL s n)) : Ret lim d 10 [.ptr p 0] σ (.int .i64 n) σ := by
 rw [encL] at ho
 unfold Ret
 rw [WF_body (C := X) rfl func10 rfl (by kernel_rfl)]; simp only [results10]
 simp -implicitDefEqProofs -dsimp only [↓reduceIte, ↓W_seq, go_sem, reduceCtorEq, ho, cut_und _ _ hu]
theorem w307 (k v k2 v2 : Int) (b : Bool) (lim d : Nat) (σ : Sto) (hu : σ.Und d) : Ret lim d 13 [.agg (adrL k v ++ adrL k2 v2 ++ [.bool b])] σ (.int .i64 (if k = 0 then 0 else if k2 = 0 then 1 else 2)) σ := by
 have x1 := wr64 1 (by omega) (by omega)
 have x2 := wr64 2 (by omega) (by omega)
 unfold Ret
 rw [WF_body (C := X) rfl func13 rfl (by kernel_rfl)]; simp only [results13]
 by_cases h1 : k = 0
 ·subst h1
  simp -implicitDefEqProofs -dsimp only [↓reduceIte, ↓W_seq, go_sem, Nat.reduceEqDiff, Nat.reduceLT, Int.reduceBNe, enc, adrL, encs, List.cons_append, List.nil_append, cut_und _ _ hu]
 ·have e1 : (k != 0) = true := by simpa using h1
  by_cases h2 : k2 = 0
  ·subst h2
   simp -implicitDefEqProofs -dsimp only [↓reduceIte, ↓W_seq, go_sem, Nat.reduceEqDiff, Nat.reduceLT, Int.reduceBNe, Int.reduceAdd, enc, adrL, encs, List.cons_append, List.nil_append, e1, h1, x1, cut_und _ _ hu]
  ·have e2 : (k2 != 0) = true := by simpa using h2
   simp -implicitDefEqProofs -dsimp only [↓reduceIte, ↓W_seq, go_sem, Nat.reduceEqDiff, Nat.reduceLT, Int.reduceAdd, enc, adrL, encs, List.cons_append, List.nil_append, e1, e2, h1, h2, x1, x2, cut_und _ _ hu]
theorem wh304 (s : List UInt8) (lim d : Nat) (hlim : lim ≤ d) (σ : Sto) {Q : MV → Sto → Prop} (hq : Q (.ptr ⟨d, 0, σ.ct d⟩ 0) ((σ.set ⟨d, 0, σ.ct d⟩ (encL s 0)).tick d)) : WFh X lim (d + 1) 5 [.str s] σ (TagF Q) := by
 rw [← WF_h, WF_prim (p := newP) rfl]
 refine ⟨(.ptr ⟨d, 0, σ.ct d⟩ 0, (σ.set ⟨d, 0, σ.ct d⟩ (encL s 0)).tick d), ?_, hq⟩
 simp only [newP, encL]
 rw [if_pos hlim]
 rfl
theorem wakeL : OneL [49, 44, 36, 33, 112] 0 1 1 1 ∧ OneL [49, 44, 36, 33, 112] 2 2 0 3 := by
 refine ⟨.inl ⟨rfl, ⟨49, rfl, by decide, by decide⟩, by decide +kernel, by decide +kernel, ?_, by decide +kernel, by decide +kernel⟩, .inr ⟨rfl, rfl, rfl, rfl⟩⟩
 intro i hi
 have : dgL [49, 44, 36, 33, 112] 0 = 1 := by decide +kernel
 have e : i = 0 := by omega
 subst e
 exact ⟨49, rfl, by decide, by decide⟩
theorem w302 (lim d : Nat) (hlim : lim ≤ d) (σ : Sto) (hu : σ.Und d) : Ret lim d 4 [] σ (.bool true) σ := by
 have hun := und_succ hu
 unfold Ret
 rw [WF_body (C := X) rfl func4 rfl (by kernel_rfl)]; simp only [results4]
 simp -implicitDefEqProofs -dsimp only [↓W_seq, go_sem]
 refine wh304 [49, 44, 36, 33, 112] lim d hlim σ ?_
 simp -implicitDefEqProofs -dsimp only [↓reduceIte, go_sem]
 refine (w305 [49, 44, 36, 33, 112] (by simp) 1 1 1 wakeL.1 (by simp) rfl 2 0 2 3 (by decide +kernel) (by simp) wakeL.2 (by simp) 3 (by decide +kernel) (by simp) true (by decide +kernel) 4 (by decide +kernel) ⟨d, 0, σ.ct d⟩ lim (d + 1) (Nat.lt_succ_self d) hlim _ (by simp only [u_tick, u_mine]; exact hun) (by simp only [go_sem, if_true])).wh ?_
 simp -implicitDefEqProofs -dsimp only [↓reduceIte, ↓W_seq, go_sem, Nat.reduceEqDiff, Nat.reduceAdd, Nat.reduceLT, enc, adrL, encs, List.cons_append, List.nil_append]
 refine (w307 1 1 2 0 true lim (d + 1) _ (by simp only [u_tick, u_mine]; exact hun)).wh ?_
 simp -implicitDefEqProofs -dsimp only [↓reduceIte, go_sem, Nat.reduceEqDiff, Int.reduceEq, enc, adrL, encs, List.cons_append, List.nil_append, beq_self_eq_true]
 exact cut_und _ _ hu
theorem same_refl : ∀ x : Nd, sameB x x = true := by
 refine Nd.ind fun kd c s0 s1 s2 s3 n mn mx l ih => ?_
 have : ∀ l : List Nd, (∀ y ∈ l, sameB y y = true) → samesB l l = true := by
  intro l
  induction l with
  | nil => intro _; rfl
  | cons y l ih => intro h; simp only [samesB, h y (List.mem_cons_self ..), ih fun z hz => h z (List.mem_cons_of_mem _ hz), Bool.and_self]
 simp only [sameB, beq_self_eq_true, Bool.and_self, this l ih]
theorem like_refl (k v : Int) (x : Nd) (k2 v2 : Int) (y : Nd) (b : Bool) : likeG k v x k2 v2 y b k v x k2 v2 y b = true := by
 simp only [likeG, likeA, beq_self_eq_true, same_refl, Bool.and_self]
theorem w633 (k v : Int) (x : Nd) (hx : sz x ≤ 1000000) (lim d : Nat) (σ : Sto) (hlim : lim ≤ d) (hu : σ.Und d) : Ret lim d 24 [.agg (encA k v x)] σ (.agg (encA k v x)) σ := by
 have hun := und_succ hu
 unfold Ret
 obtain ⟨kd, c, s0, s1, s2, s3, n, mn, mx, l⟩ := x
 rw [WF_body (C := X) rfl func24 rfl (by kernel_rfl)]; simp only [results24]
 simp -implicitDefEqProofs -dsimp only [↓reduceIte, ↓W_seq, go_sem, Nat.reduceEqDiff, Nat.reduceAdd, Nat.reduceLT, enc, encA]
 rw [D_dr (by kernel_rfl) rfl]
 simp -implicitDefEqProofs -dsimp only [↓reduceIte, go_sem, Nat.reduceEqDiff, Nat.reduceAdd]
 refine (w11 (.mk kd c s0 s1 s2 s3 n mn mx l) hx (d + 1) (d + 1) _ (Nat.le_refl _) (by simp only [u_tick, u_mine]; exact hun)).wh ?_
 simp -implicitDefEqProofs -dsimp only [↓reduceIte, go_sem, evNews, Nat.reduceEqDiff, Nat.reduceAdd, Nat.reduceLeDiff, enc, encA, cut_und _ _ hu]
theorem w632 (k v : Int) (x : Nd) (hx : sz x ≤ 1000000) (k2 v2 : Int) (y : Nd) (hy : sz y ≤ 1000000) (b : Bool) (lim d : Nat) (σ : Sto) (hlim : lim ≤ d) (hu : σ.Und d) : Ret lim d 9 [.agg (encG k v x k2 v2 y b)] σ (.agg (encG k v x k2 v2 y b)) σ := by
 have hun := und_succ hu
 unfold Ret
 obtain ⟨kd, c, s0, s1, s2, s3, n, mn, mx, l⟩ := x
 obtain ⟨kd', c', t0, t1, t2, t3, n', mn', mx', l'⟩ := y
 rw [WF_body (C := X) rfl func9 rfl (by kernel_rfl)]; simp only [results9]
 simp -implicitDefEqProofs -dsimp only [↓reduceIte, ↓W_seq, go_sem, Nat.reduceEqDiff, Nat.reduceAdd, Nat.reduceLT, enc, encG, encA, List.cons_append, List.nil_append]
 rw [D_dr (by kernel_rfl) rfl]
 simp -implicitDefEqProofs -dsimp only [↓reduceIte, go_sem, Nat.reduceEqDiff, Nat.reduceAdd, Nat.reduceLeDiff]
 refine (w633 k v (.mk kd c s0 s1 s2 s3 n mn mx l) hx (d + 1) (d + 1) _ (Nat.le_refl _) (by simp only [u_tick, u_mine]; exact hun)).wh ?_
 simp -implicitDefEqProofs -dsimp only [↓reduceIte, go_sem, Nat.reduceEqDiff, Nat.reduceAdd, Nat.reduceLeDiff, enc, encA]
 refine (w633 k2 v2 (.mk kd' c' t0 t1 t2 t3 n' mn' mx' l') hy (d + 1) (d + 1) _ (Nat.le_refl _) (by simp only [u_tick, u_mine]; exact hun)).wh ?_
 simp -implicitDefEqProofs -dsimp only [↓reduceIte, go_sem, evNews, Nat.reduceEqDiff, Nat.reduceAdd, Nat.reduceLeDiff, enc, encG, encA, List.cons_append, List.nil_append, cut_und _ _ hu]
theorem endR_ok (s : List UInt8) (a b : Ad) (n : Nat) : (endR s a b n).1.1.1 = a ∧ (endR s a b n).1.1.2.1 = b := by
 unfold endR
 split <;> exact ⟨rfl, rfl⟩
theorem secR_ok (ext : Bool) (s : List UInt8) (hs : s.length ≤ 100000) (n : Nat) (hn : n ≤ s.length) : okAd (secR ext s n).1.1 := by
 unfold secR
 split <;> exact oneR_ok ext s hs n hn
theorem rangeR_ok (ext : Bool) (s : List UInt8) (hs : s.length ≤ 100000) (n : Nat) (hn : n ≤ s.length) :
  okAd (rangeR ext s n).1.1.1 ∧ okAd (rangeR ext s n).1.1.2.1 ∧ ((rangeR ext s n).1.1.1.1 ≠ 0 ∨ (rangeR ext s n).1.1.2.1.1 = 0) := by
 have h1 := oneR_ok ext s hs n hn
 have hm := oneR_le ext s n hn
 by_cases he : (oneR ext s n).1.2 = 0
 rotate_left
 ·rw [rangeR_e he]; exact ⟨zAd_ok, zAd_ok, .inr rfl⟩
 by_cases h2 : (oneR ext s n).1.1.1 ≠ 0 ∧ pkL s (oneR ext s n).2 = 44
 ·have hlt0 := pk_lt (s := s) (n := (oneR ext s n).2) (by rw [h2.2]; decide)
  have hb := blL_le s ((oneR ext s n).2 + 1) (by omega)
  rw [rangeR_2 he h2]
  split
  ·exact ⟨zAd_ok, zAd_ok, .inr rfl⟩
  ·rw [(endR_ok ..).1, (endR_ok ..).2]
   exact ⟨h1, secR_ok ext s hs _ hb, .inl h2.1⟩
 ·rw [rangeR_1 he h2, (endR_ok ..).1, (endR_ok ..).2]
  exact ⟨h1, zAd_ok, .inr rfl⟩
theorem w631 (s : List UInt8) (ext : Bool) (lim d : Nat) (hlim : lim ≤ d) (σ : Sto) (hu : σ.Und d) : Ret lim d 3 [.str s, .bool ext] σ (.bool true) σ := by
 have hun := und_succ hu
 unfold Ret
 rw [WF_body (C := X) rfl func3 rfl (by kernel_rfl)]; simp only [results3]
 simp -implicitDefEqProofs -dsimp only [↓W_seq, go_sem]
 refine (w302 lim (d + 1) (by omega) _ hun).wh ?_
 by_cases h1 : (1500 : Int) < (s.length : Int)
 ·simp -implicitDefEqProofs -dsimp only [↓reduceIte, ↓W_seq, go_sem, Nat.reduceEqDiff, reduceCtorEq, h1]
  refine (w302 lim (d + 1) (by omega) _ hun).wh ?_
  simp -implicitDefEqProofs -dsimp only [↓reduceIte, go_sem, cut_und _ _ hu]
 have hs : s.length ≤ 100000 := by omega
 simp -implicitDefEqProofs -dsimp only [↓reduceIte, ↓W_seq, go_sem, Nat.reduceEqDiff, reduceCtorEq, h1]
 refine wh304 s lim d hlim _ ?_
 simp -implicitDefEqProofs -dsimp only [↓reduceIte, ↓W_seq, go_sem, Nat.reduceEqDiff, Nat.reduceAdd, Nat.reduceLeDiff, Nat.reduceLT, reduceCtorEq]
 have hok := rangeR_ok ext s hs 0 (Nat.zero_le _)
 have hV := w305g s hs ext 0 (Nat.zero_le _)
 have hW := w611 s hs ext 0 (Nat.zero_le _)
 generalize rangeR ext s 0 = R at hok hV hW
 obtain ⟨⟨⟨⟨k, v, x⟩, ⟨k2, v2, y⟩, b⟩, e⟩, m⟩ := R
 simp only [rgT, rgV] at hok hV hW
 obtain ⟨⟨hx, fx⟩, ⟨hy, fy⟩, hk⟩ := hok
 have hF : formG k v x k2 v2 y = true := by
  simp only at fx fy hk
  simp only [formG, fx, fy, Bool.true_and]
  rcases hk with h | h
  ·simp [h]
  ·simp [h]
 have hlen : (encG k v x k2 v2 y b).length = 25 := by simp [encG, encA, enc_len]
 have hdat : (encG k v x k2 v2 y b).all MV.data = true := by simp [encG, encA, enc_data, MV.data]
 have hera : (encG k v x k2 v2 y b).map MV.era = encG k v x k2 v2 y b := by simp [encG, encA, enc_era, MV.era]
 have htak : (encG k v x k2 v2 y b).take 25 = encG k v x k2 v2 y b := by rw [← hlen, List.take_length]
 refine (hV ⟨d, 0, _⟩ lim (d + 1) (Nat.lt_succ_self d) hlim _ (by simp only [u_tick, u_mine]; exact hun) (by simp only [go_sem, if_true, false_and, and_false, if_false, reduceCtorEq])).wh ?_
 simp -implicitDefEqProofs -dsimp only [↓reduceIte, ↓W_seq, go_sem, Nat.reduceEqDiff, Nat.reduceAdd, Nat.reduceLT, hlen]
 refine (hW ⟨d, 23, _⟩ lim (d + 1) (Nat.lt_succ_self d) hlim _ (by simp only [u_tick, u_mine]; exact hun) (by simp only [go_sem, if_true, Nat.reduceEqDiff, false_and, and_false, if_false, reduceCtorEq]; rfl)).wh ?_
 simp -implicitDefEqProofs -dsimp only [↓reduceIte, ↓W_seq, go_sem, Nat.reduceEqDiff, Nat.reduceAdd, Nat.reduceLT, hlen]
 simp only at hx hy
 rw [putC_whole _ _ (by rw [hlen]; rfl), D_dr (by kernel_rfl) rfl]
 simp -implicitDefEqProofs -dsimp only [↓reduceIte, go_sem, Nat.reduceEqDiff, hlen, hera, htak, List.drop_zero]
 refine (w632 k v x hx k2 v2 y hy b (d + 1) (d + 1) _ (Nat.le_refl _) (by simp only [u_tick, u_mine]; exact hun)).wh ?_
 simp -implicitDefEqProofs -dsimp only [↓reduceIte, go_sem, Nat.reduceEqDiff, hlen, hera, htak, List.drop_zero]
 refine (w406 k v x hx k2 v2 y hy b k v x k2 v2 y b (d + 1) (d + 1) _ (Nat.le_refl _) (by simp only [u_tick, u_mine]; exact hun)).wh ?_
 simp -implicitDefEqProofs -dsimp only [↓reduceIte, go_sem, Nat.reduceEqDiff, like_refl, beq_self_eq_true]
 refine (w306 s m ⟨d, 0, _⟩ (d + 1) (d + 1) (Nat.lt_succ_self d) _ (by simp only [u_tick, u_mine]; exact hun) (by simp only [go_sem, if_true, false_and, and_false, if_false, reduceCtorEq])).wh ?_
 by_cases he : e = 0
 ·subst he
  simp -implicitDefEqProofs -dsimp only [↓reduceIte, go_sem, Nat.reduceEqDiff, Int.cast_ofNat_Int, Int.reduceBNe, encL, hlen, hera, htak, List.drop_zero, beq_self_eq_true]
  refine (w407 k v x hx k2 v2 y hy b (d + 1) (d + 1) _ (Nat.le_refl _) (by simp only [u_tick, u_mine]; exact hun)).wh ?_
  simp -implicitDefEqProofs -dsimp only [↓reduceIte, go_sem, Nat.reduceEqDiff, hF, hlen, hera, htak, List.drop_zero, beq_self_eq_true]
  refine (w408 k v x hx k2 v2 y hy b (d + 1) (d + 1) _ (Nat.le_refl _) (by simp only [u_tick, u_mine]; exact hun)).wh ?_
  simp -implicitDefEqProofs -dsimp only [↓reduceIte, go_sem, evNews, Nat.reduceEqDiff, hF, cut_und _ _ hu]
 ·have e1 : (e != 0) = true := by simpa using he
  simp -implicitDefEqProofs -dsimp only [↓reduceIte, go_sem, evNews, Nat.reduceEqDiff, Int.cast_ofNat_Int, encL, e1, hlen, htak, List.drop_zero, beq_self_eq_true, cut_und _ _ hu]
end Go.Proofs.Tryz.E
