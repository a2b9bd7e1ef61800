/- Walks: what the functions compute. -/
import Derived.Test.YthmgjkngkhdjjaaGreatDoorE15
set_option linter.unusedVariables false
set_option linter.unusedSimpArgs false
/- A bracket's signs. -/
namespace Go.Proofs.Tryz.E
open Go.Mv
set_option maxHeartbeats 4000000
set_option maxRecDepth 20000
@[go_sem] theorem gv_cut {b : Bool} {P : Program} {t : TypeId} {lo hi : Option MV} {x : MV} : gvO b (cutO P t lo hi (gm b x)) = gvO b (cutO P t lo hi x) := by cases b <;> rfl
theorem u8b (b k : UInt8) : ((b.toNat : Int) == (k.toNat : Int)) = (b == k) := by
 rw [Bool.eq_iff_iff]
 simp only [beq_iff_eq]
 constructor
 ·intro h
  have : b.toNat = k.toNat := by omega
  exact UInt8.toNat_inj.1 this
 ·rintro rfl; rfl
theorem u8n (b k : UInt8) : ((b.toNat : Int) != (k.toNat : Int)) = !(b == k) := by rw [bne, u8b]
@[go_sem] theorem u8_10 (b : UInt8) : ((b.toNat : Int) == 10) = (b == 10) := u8b b 10
@[go_sem] theorem u8_91 (b : UInt8) : ((b.toNat : Int) == 91) = (b == 91) := u8b b 91
@[go_sem] theorem u8_61 (b : UInt8) : ((b.toNat : Int) == 61) = (b == 61) := u8b b 61
@[go_sem] theorem u8_58 (b : UInt8) : ((b.toNat : Int) == 58) = (b == 58) := u8b b 58
@[go_sem] theorem u8_46 (b : UInt8) : ((b.toNat : Int) == 46) = (b == 46) := u8b b 46
@[go_sem] theorem u8_92 (b : UInt8) : ((b.toNat : Int) == 92) = (b == 92) := u8b b 92
@[go_sem] theorem u8_110 (b : UInt8) : ((b.toNat : Int) == 110) = (b == 110) := u8b b 110
@[go_sem] theorem u8_45 (b : UInt8) : ((b.toNat : Int) == 45) = (b == 45) := u8b b 45
@[go_sem] theorem u8_93 (b : UInt8) : ((b.toNat : Int) == 93) = (b == 93) := u8b b 93
@[go_sem] theorem u8_94 (b : UInt8) : ((b.toNat : Int) == 94) = (b == 94) := u8b b 94
@[go_sem] theorem u8_40 (b : UInt8) : ((b.toNat : Int) == 40) = (b == 40) := u8b b 40
@[go_sem] theorem u8_123 (b : UInt8) : ((b.toNat : Int) == 123) = (b == 123) := u8b b 123
@[go_sem] theorem u8_43 (b : UInt8) : ((b.toNat : Int) == 43) = (b == 43) := u8b b 43
@[go_sem] theorem u8_63 (b : UInt8) : ((b.toNat : Int) == 63) = (b == 63) := u8b b 63
@[go_sem] theorem u8_36 (b : UInt8) : ((b.toNat : Int) == 36) = (b == 36) := u8b b 36
@[go_sem] theorem u8_44 (b : UInt8) : ((b.toNat : Int) == 44) = (b == 44) := u8b b 44
@[go_sem] theorem u8n_91 (b : UInt8) : ((b.toNat : Int) != 91) = !(b == 91) := u8n b 91
@[go_sem] theorem u8n_45 (b : UInt8) : ((b.toNat : Int) != 45) = !(b == 45) := u8n b 45
@[go_sem] theorem u8n_93 (b : UInt8) : ((b.toNat : Int) != 93) = !(b == 93) := u8n b 93
theorem len5 {t : List UInt8} (h : ¬ t.length < 5) : ∃ a b c d e r, t = a :: b :: c :: d :: e :: r := by
 match t, h with
 | a :: b :: c :: d :: e :: r, _ => exact ⟨a, b, c, d, e, r, rfl⟩
 | [], h => simp at h
 | [_], h => simp at h
 | [_, _], h => simp at h
 | [_, _, _], h => simp at h
 | [_, _, _, _], h => simp at h
theorem named_short (g : UInt8) {t : List UInt8} (h : t.length < 5) : namedS g t = none := by
 match t, h with
 | a :: b :: c :: d :: e :: r, h => simp at h; omega
 | [], h => rfl
 | [_], h => rfl
 | [_, _], h => rfl
 | [_, _, _], h => rfl
 | [_, _, _, _], h => rfl
def sgnV (o : Option (UInt8 × Nat)) : MV := match o with
 | some x => .tup [.int .u8 x.1.toNat, .bool true]
 | none => .tup [.int .u8 0, .bool false]
def sgnN (o : Option (UInt8 × Nat)) (n : Nat) : Nat := match o with
 | some x => n + x.2
 | none => n
theorem sgnV_some (x : UInt8 × Nat) : sgnV (some x) = .tup [.int .u8 x.1.toNat, .bool true] := rfl
theorem sgnV_none : sgnV none = .tup [.int .u8 0, .bool false] := rfl
theorem sgnN_some (x : UInt8 × Nat) (n : Nat) : sgnN (some x) n = n + x.2 := rfl
theorem sgnN_none (n : Nat) : sgnN none n = n := rfl
theorem two_beq (a b c d : UInt8) : ([a, b] == [c, d]) = (a == c && b == d) := by
 rw [Bool.eq_iff_iff]; simp
theorem named_at (g a b c x y : UInt8) (r : List UInt8) : namedS g (a :: b :: c :: x :: y :: r) = if (!(c == 10) && (x == g && y == 93)) = true then some (c, 5) else none := by
 unfold namedS
 simp
theorem w83 (s : List UInt8) (g : UInt8) (n : Nat) (hs : s.length ≤ 1000000) (hn : n ≤ s.length) (p : Mv.Loc) (lim d : Nat) (hp : p.d < d) (hlim : lim ≤ p.d) (σ : Sto) (hu : σ.Und d) (ho : σ.ob p = some (encR s n)) :
  Ret lim d 154 [.ptr p 0, .str [g]] σ (sgnV (namedS g (s.drop n))) (σ.set p (encR s (sgnN (namedS g (s.drop n)) n))) := by
 have hset := set_same ho
 have hle : (s.drop n).length = s.length - n := List.length_drop
 unfold Ret
 rw [WF_body (C := X) rfl func154 rfl (by kernel_rfl)]; simp only [results154]
 have e1 : (n : Int) ≤ (s.length : Int) := by omega
 have w5 := wr64 ((n : Int) + 5) (by omega) (by omega)
 rw [encR] at ho hset
 simp -implicitDefEqProofs -dsimp only [go_sem]
 rw [D_dr (by kernel_rfl) rfl]
 simp -implicitDefEqProofs -dsimp only [go_sem, ho, e1, List.take_length]
 generalize s.drop n = t at hle
 by_cases h5 : t.length < 5
 ·have e5 : ((t.length : Int) < 5) := by omega
  rw [named_short g h5]
  simp -implicitDefEqProofs -dsimp only [go_sem, e5, sgnV_none, sgnN_none, encR, hset, cut_und _ _ hu]
 ·have e5 : ¬ ((t.length : Int) < 5) := by omega
  have e6 : (5 : Int) ≤ (t.length : Int) := by omega
  obtain ⟨a, b, c, x, y, r, rfl⟩ := len5 h5
  rw [named_at]
  simp only [List.length_cons] at e5 e6
  simp -implicitDefEqProofs -dsimp only [go_sem, e5, e6, two_beq, hp, hlim, w5]
  cases c == 10 <;> cases x == g <;> cases y == 93 <;> simp -implicitDefEqProofs -dsimp only [go_sem, sgnV_some, sgnV_none, sgnN_some, sgnN_none, encR, hset, cut_und _ _ hu, cut_set _ _ _ _ hp, Int.natCast_add]
theorem single_nil : singleS [] = none := rfl
theorem sign_nil : signS [] = none := rfl
theorem w85 (s : List UInt8) (n : Nat) (hs : s.length ≤ 1000000) (hn : n ≤ s.length) (p : Mv.Loc) (lim d : Nat) (hp : p.d < d) (hlim : lim ≤ p.d) (σ : Sto) (hu : σ.Und d) (ho : σ.ob p = some (encR s n)) :
  Ret lim d 156 [.ptr p 0] σ (sgnV (signS (s.drop n))) (σ.set p (encR s (sgnN (signS (s.drop n)) n))) := by
 have hset := set_same ho
 have hun := und_succ hu
 have hle : (s.drop n).length = s.length - n := List.length_drop
 have w1 := wr64 ((n : Int) + 1) (by omega) (by omega)
 have w2 := wr64 ((n : Int) + 2) (by omega) (by omega)
 have w3 : IntKind.i64.wrap ((n : Int) + 1 - 1) = n := by rw [wr64 _ (by omega) (by omega)]; omega
 have hx := fun (lim : Nat) (t : List UInt8) => w73 s t n hs p lim (d + 1) (Nat.lt_succ_of_lt hp) σ hun ho
 unfold Ret
 rw [WF_body (C := X) rfl func156 rfl (by kernel_rfl)]; simp only [results156]
 have ho2 := ho
 have hset2 := hset
 rw [encR] at ho2 hset2
 simp -implicitDefEqProofs -dsimp only [go_sem]
 rw [D_dr (by kernel_rfl) rfl]
 by_cases hlt : n < s.length
 ·have e1 : ¬ ((s.length : Int) ≤ (n : Int)) := by omega
  have g1 : s[n]? = some s[n] := List.getElem?_eq_getElem hlt
  have hdr := List.drop_eq_getElem_cons hlt
  have hsg : signS (s.drop n) = if (preS (s.drop n) [91, 61] || preS (s.drop n) [91, 58]) = true then none else if (s[n] == 10) = true then none else if preS (s.drop n) [91, 46] = true then namedS 46 (s.drop n) else if preS (s.drop n) [92, 110] = true then some (10, 2) else some (s[n], 1) := by
   unfold signS
   rw [hdr]
   rfl
  rw [hsg]
  simp -implicitDefEqProofs -dsimp only [go_sem, ho2, e1, g1]
  cases h10 : s[n] == 10
  ·simp -implicitDefEqProofs -dsimp only [go_sem]
   refine (hx _ [91, 61]).wh ?_
   cases hp1 : preS (s.drop n) [91, 61]
   ·simp -implicitDefEqProofs -dsimp only [go_sem]
    refine (hx _ [91, 58]).wh ?_
    cases hp2 : preS (s.drop n) [91, 58]
    ·simp -implicitDefEqProofs -dsimp only [go_sem]
     refine (hx _ [91, 46]).wh ?_
     cases hp3 : preS (s.drop n) [91, 46]
     ·simp -implicitDefEqProofs -dsimp only [go_sem]
      refine (hx _ [92, 110]).wh ?_
      cases hp4 : preS (s.drop n) [92, 110]
      ·simp -implicitDefEqProofs -dsimp only [go_sem, ho2, hp, hlim, w1]
       rw [D_dr (by kernel_rfl) rfl]
       simp -implicitDefEqProofs -dsimp only [go_sem, w3, g1, sgnV_some, sgnN_some, encR, cut_und _ _ hu, cut_set _ _ _ _ hp, Int.natCast_add]
      ·simp -implicitDefEqProofs -dsimp only [go_sem, ho2, hp, hlim, w2, sgnV_some, sgnN_some, encR, cut_und _ _ hu, cut_set _ _ _ _ hp, Int.natCast_add]
       rfl
     ·simp -implicitDefEqProofs -dsimp only [go_sem]
      refine (w83 s 46 n hs hn p lim (d + 1) (Nat.lt_succ_of_lt hp) hlim σ hun ho).wh ?_
      cases namedS 46 (s.drop n) with
      | none => simp -implicitDefEqProofs -dsimp only [go_sem, sgnV_none, sgnN_none, hset, cut_und _ _ hu]
      | some x => simp -implicitDefEqProofs -dsimp only [go_sem, sgnV_some, sgnN_some, cut_und _ _ hu, cut_set _ _ _ _ hp]
    ·simp -implicitDefEqProofs -dsimp only [go_sem, sgnV_none, sgnN_none, hset, cut_und _ _ hu]
   ·simp -implicitDefEqProofs -dsimp only [go_sem, sgnV_none, sgnN_none, hset, cut_und _ _ hu]
  ·have : signS (s.drop n) = none := by rw [hsg, h10]; simp
   rw [hsg] at this
   simp -implicitDefEqProofs -dsimp only [go_sem, sgnV_none, sgnN_none, hset, cut_und _ _ hu]
 ·have e1 : ((s.length : Int) ≤ (n : Int)) := by omega
  have hdr : s.drop n = [] := List.drop_eq_nil_of_le (by omega)
  simp -implicitDefEqProofs -dsimp only [go_sem, ho2, e1, hdr, sign_nil, sgnV_none, sgnN_none, hset, cut_und _ _ hu]
theorem named_le (g : UInt8) (t : List UInt8) (x : UInt8 × Nat) (h : namedS g t = some x) : x.2 = 5 ∧ 5 ≤ t.length := by
 unfold namedS at h
 split at h
 ·split at h
  ·cases h; simp
  ·cases h
 ·cases h
theorem pre_le {t p : List UInt8} (h : preS t p = true) : p.length ≤ t.length := by
 have := congrArg List.length (beq_iff_eq.1 h)
 simp at this; omega
theorem single_le (t : List UInt8) (x : UInt8 × Nat) (h : singleS t = some x) : 1 ≤ x.2 ∧ x.2 ≤ t.length := by
 unfold singleS at h
 split at h
 ·cases h
 ·rename_i b r
  split at h
  ·cases h
  ·split at h
   ·have := named_le _ _ _ h; omega
   ·split at h
    ·rename_i h2; have := pre_le h2; cases h; simp at this ⊢; omega
    ·cases h; simp
theorem sign_le (t : List UInt8) (x : UInt8 × Nat) (h : signS t = some x) : 1 ≤ x.2 ∧ x.2 ≤ t.length := by
 unfold signS at h
 split at h
 ·cases h
 ·exact single_le t x h
def MemV (s : List UInt8) (p : Mv.Loc) (n : Nat) (o : Option (List Int × Nat)) (σ : Sto) (v : MV) (s' : Sto) : Prop := match o with
 | some x => v = .tup [.agg (encS x.1), .bool true] ∧ s' = σ.set p (encR s (n + x.2)) ∧ x.1.length = 4
 | none => ∃ q m, v = .tup [.agg (encS q), .bool false] ∧ s' = σ.set p (encR s m) ∧ q.length = 4
theorem MemV_some {s : List UInt8} {p : Mv.Loc} {n : Nat} {x : List Int × Nat} {σ : Sto} {v : MV} {s' : Sto} : MemV s p n (some x) σ v s' ↔ v = .tup [.agg (encS x.1), .bool true] ∧ s' = σ.set p (encR s (n + x.2)) ∧ x.1.length = 4 := Iff.rfl
theorem MemV_none {s : List UInt8} {p : Mv.Loc} {n : Nat} {σ : Sto} {v : MV} {s' : Sto} : MemV s p n none σ v s' ↔ ∃ q m, v = .tup [.agg (encS q), .bool false] ∧ s' = σ.set p (encR s m) ∧ q.length = 4 := Iff.rfl
theorem classS_len (n : List UInt8) : (classS n).length = 4 := by
 have : ∀ (k : Nat) (r : List UInt8) (s : List Int), r.length ≤ k → s.length = 4 → (withR s r).length = 4 := by
  intro k
  induction k with
  | zero => intro r s h1 h2; match r, h1 with | [], _ => exact h2
  | succ k ih =>
   intro r s h1 h2
   match r, h1 with
   | [], _ => exact h2
   | [_], _ => exact h2
   | a :: b :: r, h1 => exact ih r _ (by simp at h1; omega) (wl _ _ _ h2)
 exact this _ _ _ (Nat.le_refl _) rfl
theorem w82 (s : List UInt8) (n : Nat) (hs : s.length ≤ 1000000) (hn : n + 2 ≤ s.length) (p : Mv.Loc) (lim d : Nat) (hp : p.d < d) (hlim : lim ≤ p.d) (σ : Sto) (hu : σ.Und d) (ho : σ.ob p = some (encR s n)) :
  WF X lim d 153 [.ptr p 0] σ (MemV s p n (clsS (s.drop n)) σ) := by
 have hset := set_same ho
 have hun := und_succ hu
 have w2 := wr64 ((n : Int) + 2) (by omega) (by omega)
 have hd2 : (s.drop n).drop 2 = s.drop (n + 2) := by rw [List.drop_drop]
 have e1 : (n : Int) + 2 ≤ (s.length : Int) := by omega
 have e2 : ((n : Int) + 2).toNat = n + 2 := by omega
 have e3 : (0 : Int) ≤ (n : Int) + 2 := by omega
 have hne := ne_my hp
 have hmy := my_ne hp
 have ho2 := ho
 rw [encR] at ho2
 rw [WF_body (C := X) rfl func153 rfl (by kernel_rfl)]; simp only [results153]
 simp -implicitDefEqProofs -dsimp only [go_sem]
 rw [D_lx [] (by kernel_rfl) (by kernel_rfl)]; simp -implicitDefEqProofs -dsimp only [go_sem, List.takeWhile_cons, List.dropWhile_cons, isTail, evNews, List.not_mem_nil, decide_false, Bool.not_true, Bool.not_false, false_imp_iff, implies_true, ne_eq, ho2, hne, w2, e1, e2, e3, List.take_length]
 refine (w87 (s.drop (n + 2)) [58, 93] (by rw [List.length_drop]; omega) (d + 1) (d + 1) _ ?_).wh ?_
 ·simp only [go_sem, u_tick, u_mine]; exact hun
 unfold clsS
 rw [hd2]
 have hil := idxS_le (s.drop (n + 2)) [58, 93]
 have hdl : (s.drop (n + 2)).length = s.length - (n + 2) := List.length_drop
 unfold cutV
 by_cases hi : idxS (s.drop (n + 2)) [58, 93] < 0
 ·simp -implicitDefEqProofs -dsimp only [go_sem, Bool.not_false, hi, MemV_none]
  exact ⟨z4, n, rfl, by rw [hset]; exact cut_und _ _ hu, rfl⟩
 ·have := hil (by omega)
  simp only [hi, if_false]
  generalize hN : (s.drop (n + 2)).take (idxS (s.drop (n + 2)) [58, 93]).toNat = N
  have hNl : N.length + 2 ≤ s.length - (n + 2) := by rw [← hN, List.length_take]; simp at this; omega
  have w4 := wr64 ((N.length : Int) + 4) (by omega) (by omega)
  have w5 := wr64 ((n : Int) + ((N.length : Int) + 4)) (by omega) (by omega)
  simp -implicitDefEqProofs -dsimp only [go_sem, Bool.not_true, ho2, hne, hp, hlim, w4, w5]
  refine (w88 N lim (d + 1) _ ?_).wh ?_
  ·simp only [go_sem, u_tick, u_mine, u_set _ _ _ _ (Nat.lt_succ_of_lt hp)]; exact hun
  have hcl := classS_len N
  simp -implicitDefEqProofs -dsimp only [go_sem, hmy, hcl]
  rw [encS_put _ _ (by rw [hcl]; rfl), encS_take _ hcl, encS_frz, encS_len, hcl]
  refine ⟨Nat.le_refl 4, _, rfl, ?_⟩
  cases hr : rangesS N == []
  ·simp only [hi, Bool.false_eq_true, if_false, MemV_some, Bool.not_false]
   refine ⟨by first | rfl | trivial, ?_, hcl⟩
   simp only [go_sem, cut_set _ _ _ _ hp, cut_und _ _ hu, encR, Int.natCast_add, Int.cast_ofNat_Int]
  ·simp only [hi, if_true, if_false, MemV_none, Bool.not_true]
   refine ⟨_, n + (N.length + 4), rfl, ?_, hcl⟩
   simp only [go_sem, cut_set _ _ _ _ hp, cut_und _ _ hu, encR, Int.natCast_add, Int.cast_ofNat_Int]
theorem orS4 {s t : List Int} (h : s.length = 4) (h' : t.length = 4) : (orS s t).length = 4 := orS_len h h'
theorem rng_le (x : UInt8 × Nat) (u : List UInt8) (y : List Int × Nat) (h : rngS x u = some y) : x.2 ≤ y.2 ∧ y.2 ≤ x.2 + u.length ∧ y.1.length = 4 := by
 unfold rngS at h
 split at h
 ·cases h; exact ⟨Nat.le_refl _, by omega, wl _ _ _ rfl⟩
 ·rename_i hc
  obtain ⟨z, hz, h⟩ := Option.bind_eq_some_iff.1 h
  have := sign_le _ _ hz
  split at h
  ·cases h
  ·cases h
   rw [List.length_drop] at this
   exact ⟨by simp only; omega, by simp only; omega, wl _ _ _ rfl⟩
theorem cls_le (t : List UInt8) (y : List Int × Nat) (h : clsS t = some y) : 1 ≤ y.2 ∧ y.2 ≤ t.length ∧ y.1.length = 4 := by
 unfold clsS at h
 split at h
 ·cases h
 ·rename_i hi
  simp only at h
  split at h
  ·cases h
  ·cases h
   have := idxS_le (t.drop 2) [58, 93] (by omega)
   simp only [List.length_take, List.length_drop, List.length_cons, List.length_nil] at this ⊢
   exact ⟨by omega, by omega, classS_len _⟩
theorem member_le (t : List UInt8) (y : List Int × Nat) (h : memberS t = some y) : 1 ≤ y.2 ∧ y.2 ≤ t.length ∧ y.1.length = 4 := by
 unfold memberS at h
 split at h
 ·exact cls_le t y h
 ·split at h
  ·obtain ⟨x, hx, e⟩ := Option.map_eq_some_iff.1 h
   have := named_le _ _ _ hx
   cases e
   exact ⟨by simp only; omega, by simp only; omega, wl _ _ _ rfl⟩
  ·obtain ⟨x, hx, h⟩ := Option.bind_eq_some_iff.1 h
   have h1 := sign_le _ _ hx
   have h2 := rng_le _ _ _ h
   rw [List.length_drop] at h2
   exact ⟨by omega, by omega, h2.2.2⟩
end Go.Proofs.Tryz.E
