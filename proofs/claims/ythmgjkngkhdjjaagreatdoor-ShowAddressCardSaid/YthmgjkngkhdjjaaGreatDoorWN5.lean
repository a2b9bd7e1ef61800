/- Walks: what the functions compute. Walks: what the functions compute. Walks: what the functions compute. Walks: what the functions compute. Walks: what the functions compute. -/
import Derived.Test.YthmgjkngkhdjjaaGreatDoorWA3
import Derived.Test.YthmgjkngkhdjjaaGreatDoorWV0
set_option linter.unusedVariables false
set_option linter.unusedSimpArgs false
/- A Builder: what it holds; what a call leaves as it was. -/
namespace Go.Proofs.Tryz.E
open Go.Mv
set_option maxHeartbeats 4000000
set_option maxRecDepth 20000
def noNl (t : List UInt8) : Prop := ∀ x ∈ t, x ≠ 10
def RetT (lim d : Nat) (f : FuncId) (args : List MV) (σ : Sto) (n : Nat) : Prop := WF X lim d f args σ fun v s => (∃ t, v = .str t ∧ noNl t ∧ t.length ≤ n) ∧ s = σ
theorem RetT.wh {lim d : Nat} {f : FuncId} {args : List MV} {σ : Sto} {n : Nat} (h : RetT lim d f args σ n) {P : MV → Sto → Prop} (hq : ∀ t, noNl t → t.length ≤ n → P (.str t) σ) : WFh X lim d f args σ (TagF P) :=
 WF.mono h fun v s e => by obtain ⟨⟨t, rfl, h1, h2⟩, rfl⟩ := e; exact hq t h1 h2
def BS (σ : Sto) (l : Mv.Loc) (t : List UInt8) : Prop := ∃ p tk, σ.ob l = some [p, .sl tk (bytesM t)] ∧ okA l p = true ∧ ((tk = .nil ∧ t = []) ∨ ∃ c, tk = .byt l.d c 5 ∧ t ≠ [] ∧ σ.ow l.d c = some (t.length, 1))
structure SB (d : Nat) (l : Mv.Loc) (σ s : Sto) : Prop where
 ob : ∀ l', l'.d < d → l' ≠ l → s.ob l' = σ.ob l'
 ow : ∀ k c, k < d → k ≠ l.d → s.ow k c = σ.ow k c
 ct : ∀ k, k < d → k ≠ l.d → s.ct k = σ.ct k
theorem SB.refl (d : Nat) (l : Mv.Loc) (σ : Sto) : SB d l σ σ := ⟨fun _ _ _ => rfl, fun _ _ _ _ => rfl, fun _ _ _ => rfl⟩
theorem SB.trans {d : Nat} {l : Mv.Loc} {a b c : Sto} (h : SB d l a b) (k : SB d l b c) : SB d l a c := ⟨fun l' h1 h2 => (k.ob l' h1 h2).trans (h.ob l' h1 h2), fun q c h1 h2 => (k.ow q c h1 h2).trans (h.ow q c h1 h2), fun q h1 h2 => (k.ct q h1 h2).trans (h.ct q h1 h2)⟩
theorem SB.le {d d' : Nat} {l : Mv.Loc} {a b : Sto} (h : SB d l a b) (hd : d' ≤ d) : SB d' l a b := ⟨fun l' h1 h2 => h.ob l' (by omega) h2, fun q c h1 h2 => h.ow q c (by omega) h2, fun q h1 h2 => h.ct q (by omega) h2⟩
theorem SB.set {d t c : Nat} {l : Mv.Loc} {a b : Sto} (h : SB d l a b) (cs : List MV) : SB d l a (b.set ⟨d, t, c⟩ cs) :=
 ⟨fun l' h1 h2 => by simp only [Sto.set]; rw [if_neg (by rintro rfl; exact Nat.lt_irrefl _ h1)]; exact h.ob l' h1 h2, h.ow, h.ct⟩
theorem SB.tick {d : Nat} {l : Mv.Loc} {a b : Sto} (h : SB d l a b) : SB d l a (b.tick d) :=
 ⟨h.ob, h.ow, fun k h1 h2 => by simp only [Sto.tick, upd]; rw [if_neg (by omega)]; exact h.ct k h1 h2⟩
theorem SB.own {d c : Nat} {l : Mv.Loc} {a b : Sto} (h : SB d l a b) (v : Option (Nat × Nat)) : SB d l a (b.own d c v) :=
 ⟨h.ob, fun k c' h1 h2 => by simp only [Sto.own]; rw [if_neg (by omega)]; exact h.ow k c' h1 h2, h.ct⟩
theorem SB.cut {d : Nat} {l : Mv.Loc} {a b : Sto} (h : SB d l a b) : SB d l a (b.cut d) :=
 ⟨fun l' h1 h2 => by simp only [Sto.cut, if_pos h1]; exact h.ob l' h1 h2, fun k c h1 h2 => by simp only [Sto.cut, if_pos h1]; exact h.ow k c h1 h2, fun k h1 h2 => by simp only [Sto.cut, if_pos h1]; exact h.ct k h1 h2⟩
theorem SB.back {d : Nat} {l : Mv.Loc} {σ s : Sto} (h : SB d l σ s) (hu : σ.Und d) (hl : d ≤ l.d) : s.cut d = σ := by
 refine Sto.ext' (fun l' => ?_) (fun k c => ?_) fun k => ?_
 ·simp only [Sto.cut]
  split
  ·rename_i h1; exact h.ob l' h1 (by rintro rfl; omega)
  ·rw [hu.ob l' (by omega)]
 ·simp only [Sto.cut]
  split
  ·rename_i h1; exact h.ow k c h1 (by omega)
  ·rw [hu.ow k c (by omega)]
 ·simp only [Sto.cut]
  split
  ·rename_i h1; exact h.ct k h1 (by omega)
  ·rw [hu.ct k (by omega)]
theorem und_cut (s : Sto) (d : Nat) : (s.cut d).Und d := Und.cut s d
theorem BS.cut {s : Sto} {l : Mv.Loc} {t : List UInt8} {d : Nat} (h : BS s l t) (hl : l.d < d) : BS (s.cut d) l t := by
 obtain ⟨p, tk, h1, h2, h3⟩ := h
 refine ⟨p, tk, by simp only [Sto.cut, if_pos hl]; exact h1, h2, h3.imp id ?_⟩
 rintro ⟨c, e1, e2, e3⟩
 exact ⟨c, e1, e2, by simp only [Sto.cut, if_pos hl]; exact e3⟩
theorem BS.set {s : Sto} {l : Mv.Loc} {t : List UInt8} (h : BS s l t) {l' : Mv.Loc} (hl : l' ≠ l) (cs : List MV) : BS (s.set l' cs) l t := by
 obtain ⟨p, tk, h1, h2, h3⟩ := h
 exact ⟨p, tk, by simp only [Sto.set]; rw [if_neg (fun e => hl e.symm)]; exact h1, h2, h3⟩
theorem BS.tick {s : Sto} {l : Mv.Loc} {t : List UInt8} {d : Nat} (h : BS s l t) : BS (s.tick d) l t := h
theorem BS.own {s : Sto} {l : Mv.Loc} {t : List UInt8} {k c : Nat} {v : Option (Nat × Nat)} (h : BS s l t) (hk : k ≠ l.d) : BS (s.own k c v) l t := by
 obtain ⟨p, tk, h1, h2, h3⟩ := h
 refine ⟨p, tk, h1, h2, h3.imp id ?_⟩
 rintro ⟨c', e1, e2, e3⟩
 exact ⟨c', e1, e2, by simp only [Sto.own]; rw [if_neg (by omega)]; exact e3⟩
theorem okz_bytesM (t : List UInt8) : okz 1 (bytesM t) = true := by
 simp [okz, bytesM]
theorem bytesM_app (a b : List UInt8) : bytesM (a ++ b) = bytesM a ++ bytesM b := by simp [bytesM]
theorem bapp_BS {lim : Nat} {σ : Sto} {l : Mv.Loc} {t x : List UInt8} (h : BS σ l t) (hlim : lim ≤ l.d) (hb : t.length + x.length ≤ 140737488355328) :
  ∃ p tk v s', σ.ob l = some [p, .sl tk (bytesM t)] ∧ okA l p = true ∧ bapp lim l.d 5 σ tk (bytesM t) x = some (v, s') ∧ BS (s'.set l [.ptr l 0, v]) l (t ++ x) ∧ ∀ d, SB d l σ (s'.set l [.ptr l 0, v]) := by
 obtain ⟨p, tk, h1, h2, h3⟩ := h
 have hoA : okA l (.ptr l 0) = true := by simp [okA]
 have hst : ∀ (s' : Sto) (v : MV), s'.ob = σ.ob → (∀ k c, k ≠ l.d → s'.ow k c = σ.ow k c) → (∀ k, k ≠ l.d → s'.ct k = σ.ct k) → ∀ d, SB d l σ (s'.set l [.ptr l 0, v]) := fun s' v e1 e2 e3 d =>
  ⟨fun l' _ hl' => by simp only [Sto.set]; rw [if_neg hl', e1], fun k c _ hk => e2 k c hk, fun k _ hk => e3 k hk⟩
 unfold bapp
 by_cases hx : x = []
 ·subst hx
  refine ⟨p, tk, _, _, h1, h2, by rw [if_pos rfl], ?_, hst σ _ rfl (fun _ _ _ => rfl) (fun _ _ => rfl)⟩
  rw [List.append_nil]
  exact ⟨.ptr l 0, tk, by simp [Sto.set], hoA, h3⟩
 ·rcases h3 with ⟨rfl, rfl⟩ | ⟨c, rfl, h4, h5⟩
  ·have hc : okz 1 (bytesM []) = true ∧ (bytesM []).length + x.length ≤ 140737488355328 := ⟨rfl, by simpa [bytesM] using hb⟩
   refine ⟨p, .nil, .sl (.byt l.d (σ.ct l.d) 5) (bytesM x), (σ.own l.d (σ.ct l.d) (some (x.length, 1))).tick l.d, h1, h2, by rw [if_neg hx, if_pos hc]; exact if_pos rfl, ?_, hst _ _ rfl (fun k c hk => by simp only [Sto.tick, Sto.own]; rw [if_neg (by omega)]) (fun k hk => by simp only [Sto.tick, Sto.own, upd]; rw [if_neg hk])⟩
   exact ⟨.ptr l 0, _, by simp [Sto.set], hoA, .inr ⟨σ.ct l.d, rfl, by simpa using hx, by simp [Sto.set, Sto.tick, Sto.own]⟩⟩
  ·have hc : okz 1 (bytesM t) = true ∧ (bytesM t).length + x.length ≤ 140737488355328 := ⟨okz_bytesM t, by rw [bytesM_len]; exact hb⟩
   have hc2 : lim ≤ l.d ∧ 5 = 5 ∧ σ.ow l.d c = some ((bytesM t).length, 1) := ⟨hlim, rfl, by rw [bytesM_len]; exact h5⟩
   refine ⟨p, .byt l.d c 5, .sl (.byt l.d c 5) (bytesM t ++ bytesM x), σ.own l.d c (some ((bytesM t).length + x.length, 1)), h1, h2, by rw [if_neg hx, if_pos hc]; exact if_pos hc2, ?_, hst _ _ rfl (fun k c hk => by simp only [Sto.own]; rw [if_neg (by omega)]) (fun k hk => rfl)⟩
   exact ⟨.ptr l 0, _, by simp only [Sto.set, if_true, bytesM_app], hoA, .inr ⟨c, rfl, by simp [h4], by simp [Sto.set, Sto.own, bytesM_len]⟩⟩
theorem SB.und {d e : Nat} {l : Mv.Loc} {σ s : Sto} (h : ∀ d, SB d l σ s) (hu : σ.Und e) (hl : l.d < e) : s.Und e :=
 ⟨fun l' hl' => by rw [(h (l'.d + 1)).ob l' (Nat.lt_succ_self _) (by rintro rfl; omega)]; exact hu.ob l' hl', fun k c hk => by rw [(h (k + 1)).ow k c (Nat.lt_succ_self _) (by omega)]; exact hu.ow k c hk, fun k hk => by rw [(h (k + 1)).ct k (Nat.lt_succ_self _) (by omega)]; exact hu.ct k hk⟩
theorem w501 {lim d : Nat} {σ : Sto} {l : Mv.Loc} {t x : List UInt8} (h : BS σ l t) (hlim : lim ≤ l.d) (hl : l.d ≤ d) (hB : isB l = true) (hu : σ.Und (d + 1)) (hb : t.length + x.length ≤ 140737488355328) {P : MV → Sto → Prop} (hq : ∀ s v, BS s l (t ++ x) → SB (d + 1) l σ s → s.Und (d + 1) → P v s) : WFh X lim (d + 1) 46 [.ptr l 0, .str x] σ (TagF P) := by
 obtain ⟨p, tk, v, s', h1, h2, h3, h4, h5⟩ := bapp_BS h hlim hb
 refine ⟨1, (.tup [.int .i64 x.length, .junk], s'.set l [.ptr l 0, v]), ?_, hq _ _ h4 (h5 _) (SB.und (d := d) h5 hu (by omega))⟩
 show wstrP lim (d + 1) [.ptr l 0, .str x] σ = _
 simp only [wstrP, hlim, hl, hB, and_self, if_true, h1, h2, h3, Option.map_some]
theorem w502 {lim d : Nat} {σ : Sto} {l : Mv.Loc} {t : List UInt8} {c : Int} (hc : 0 ≤ c ∧ c < 256) (h : BS σ l t) (hlim : lim ≤ l.d) (hl : l.d ≤ d) (hB : isB l = true) (hu : σ.Und (d + 1)) (hb : t.length + 1 ≤ 140737488355328) {P : MV → Sto → Prop} (hq : ∀ s v, BS s l (t ++ [UInt8.ofNat c.toNat]) → SB (d + 1) l σ s → s.Und (d + 1) → P v s) : WFh X lim (d + 1) 44 [.ptr l 0, .int .u8 c] σ (TagF P) := by
 obtain ⟨p, tk, v, s', h1, h2, h3, h4, h5⟩ := bapp_BS (x := [UInt8.ofNat c.toNat]) h hlim hb
 refine ⟨1, (.junk, s'.set l [.ptr l 0, v]), ?_, hq _ _ h4 (h5 _) (SB.und (d := d) h5 hu (by omega))⟩
 show wbyteP lim (d + 1) [.ptr l 0, .int .u8 c] σ = _
 simp only [wbyteP, hlim, hl, hB, hc.1, hc.2, and_self, if_true, h1, h2, h3, Option.map_some]
theorem bytesOf_M : ∀ t : List UInt8, bytesOf (bytesM t) = some t
 | [] => rfl
 | b :: t => by
  have := bytesOf_M t
  simp only [bytesM, List.map_cons] at this ⊢
  simp only [bytesOf, this, Option.map_some, Int.toNat_natCast]
  simp
theorem inB_M : ∀ t : List UInt8, inB (bytesM t) = true
 | [] => rfl
 | b :: t => by
  have := inB_M t
  have hb := b.toNat_lt
  simp only [bytesM, List.map_cons] at this ⊢
  simp only [inB, this, Bool.and_true, decide_eq_true_eq]
  omega
theorem w503 {lim d : Nat} {σ : Sto} {l : Mv.Loc} {t : List UInt8} (h : BS σ l t) (hlim : lim ≤ l.d) (hl : l.d ≤ d) (hb : t.length ≤ 140737488355328) {P : MV → Sto → Prop} (hq : ∀ s, SB l.d l σ s → P (.str t) s) : WFh X lim (d + 1) 47 [.ptr l 0] σ (TagF P) := by
 obtain ⟨p, tk, h1, h2, ⟨rfl, rfl⟩ | ⟨c, rfl, h4, h5⟩⟩ := h
 ·refine ⟨1, (.str [], σ), ?_, hq _ (SB.refl ..)⟩
  show bstrP lim (d + 1) [.ptr l 0] σ = _
  have h1' : σ.ob l = some [p, .sl .nil []] := h1
  simp only [bstrP, hlim, hl, and_self, if_true, h1']
 ·refine ⟨1, (.str t, (σ.own l.d c none).set l [p, .sl .no (bytesM t)]), ?_, hq _ ⟨fun l' h6 h7 => by simp only [Sto.set, Sto.own]; rw [if_neg h7], fun k c' h6 h7 => by simp only [Sto.set, Sto.own]; rw [if_neg (by omega)], fun k _ _ => rfl⟩⟩
  show bstrP lim (d + 1) [.ptr l 0] σ = _
  simp only [bstrP, hlim, hl, and_self, if_true, h1, bytesOf_M, Nat.le_refl, ne_eq, h4, not_false_eq_true, okz_bytesM, inB_M, bytesM_len, hb, h5]
@[go_sem] theorem cvt_byN (tk : Tok) (n : Int) : cvtO X.P 86 9 (.sl tk [[.int .u8 n]]) = some (.str [UInt8.ofNat n.toNat]) := by
 have h1 : X.P.underlying 86 = some (.slice 5) := by kernel_rfl
 have h2 : X.P.underlying 9 = some .string := by kernel_rfl
 have h3 : X.P.underlying 5 = some (.int .u8) := by kernel_rfl
 simp only [cvtO, h1, h2, h3, bytesOf, Option.map_some]
@[go_sem] theorem cvt_byN2 (tk : Tok) (m n : Int) : cvtO X.P 86 9 (.sl tk [[.int .u8 m], [.int .u8 n]]) = some (.str [UInt8.ofNat m.toNat, UInt8.ofNat n.toNat]) := by
 have h1 : X.P.underlying 86 = some (.slice 5) := by kernel_rfl
 have h2 : X.P.underlying 9 = some .string := by kernel_rfl
 have h3 : X.P.underlying 5 = some (.int .u8) := by kernel_rfl
 simp only [cvtO, h1, h2, h3, bytesOf, Option.map_some]
theorem byte_eq (x c : UInt8) : ((x.toNat : Int) == (c.toNat : Int)) = (x == c) := by
 rw [Bool.eq_iff_iff, beq_iff_eq, beq_iff_eq]
 exact ⟨fun h => UInt8.toNat_inj.1 (by omega), fun h => by rw [h]⟩
theorem byte_lit (x : UInt8) (n : Nat) (hn : n < 256) : ((x.toNat : Int) == (n : Int)) = (x == UInt8.ofNat n) := by
 rw [← byte_eq]
 congr 1
 simp
 omega
theorem ofN (x : UInt8) : UInt8.ofNat ((x.toNat : Int)).toNat = x := by simp
def closV (l : List UInt8) : Int := match clo (l.tail.headD 0) (l.drop 2) with
 | none => -1
 | some j => (j : Int) + 4
theorem dg_all : ∀ (t : List UInt8) (i : Nat), i < t.length - (t.dropWhile digB).length → ∃ c, t[i]? = some c ∧ digB c = true
 | [], i, h => by simp at h
 | b :: t, i, h => by
  have hle := dw_le (p := digB) t
  rw [List.dropWhile_cons] at h
  cases hb : digB b
  ·rw [hb] at h; simp at h
  ·rw [hb] at h
   simp only [if_true, List.length_cons] at h
   cases i with
   | zero => exact ⟨b, rfl, hb⟩
   | succ i =>
    obtain ⟨c, h1, h2⟩ := dg_all t i (by omega)
    exact ⟨c, by simpa using h1, h2⟩
theorem dg_end : ∀ (t : List UInt8) (c : UInt8), t[t.length - (t.dropWhile digB).length]? = some c → digB c = false
 | [], c, h => by simp at h
 | b :: t, c, h => by
  have hle := dw_le (p := digB) t
  rw [List.dropWhile_cons] at h
  cases hb : digB b
  ·rw [hb] at h; simp at h; rw [← h]; exact hb
  ·rw [hb] at h
   simp only [if_true, List.length_cons] at h
   rw [show t.length + 1 - (t.dropWhile digB).length = (t.length - (t.dropWhile digB).length) + 1 by omega, List.getElem?_cons_succ] at h
   exact dg_end t c h
theorem dgL_le (s : List UInt8) (n : Nat) : dgL s n ≤ (s.drop n).length := by unfold dgL; omega
theorem dgL_at (s : List UInt8) (n i : Nat) (h : i < dgL s n) : ∃ c, (s.drop n)[i]? = some c ∧ 48 ≤ c.toNat ∧ c.toNat ≤ 57 := by
 obtain ⟨c, h1, h2⟩ := dg_all (s.drop n) i h
 have h3 : dig c = true := (dig_is c).symm.trans h2
 simp only [dig, Bool.and_eq_true, decide_eq_true_eq] at h3
 exact ⟨c, h1, h3.1, h3.2⟩
def numW (s : List UInt8) (n : Nat) : Nat := numV ((s.drop n).take (dgL s n))
def numT (s : List UInt8) (n : Nat) : MV := if dgL s n = 0 ∨ 1000000000 < numW s n then .tup [.int .i64 0, .bool false] else .tup [.int .i64 (numW s n), .bool true]
def numP (s : List UInt8) (n : Nat) : Nat := if dgL s n = 0 ∨ 1000000000 < numW s n then n else n + dgL s n
section
variable (s : List UInt8) (hs : s.length ≤ 1000000)
include hs
end
/-! ### The reference's -/
theorem w618 (s : List UInt8) (n : Nat) (p : Mv.Loc) (lim d : Nat) (hp : p.d < d) (σ : Sto) (hu : σ.Und d) (ho : σ.ob p = some (encL s n)) : Ret lim d 11 [.ptr p 0] σ (.bool (decide (s.length ≤ n))) σ := by
 rw [encL] at ho
 have e1 : decide ((s.length : Int) ≤ (n : Int)) = decide (s.length ≤ n) := by simp
 unfold Ret
 rw [WF_body (C := X) rfl func11 rfl (by kernel_rfl)]; simp only [results11]
 simp -implicitDefEqProofs -dsimp only [go_sem]
 rw [D_dr (by kernel_rfl) rfl]
 simp -implicitDefEqProofs -dsimp only [go_sem, ho, e1, cut_und _ _ hu]
theorem w613 (s : List UInt8) (n : Nat) (p : Mv.Loc) (lim d : Nat) (hp : p.d < d) (σ : Sto) (hu : σ.Und d) (ho : σ.ob p = some (encL s n)) : Ret lim d 20 [.ptr p 0] σ (.int .u8 (pkL s n).toNat) σ := by
 have hun := und_succ hu
 have ho2 := ho
 rw [encL] at ho2
 unfold Ret
 rw [WF_body (C := X) rfl func20 rfl (by kernel_rfl)]; simp only [results20]
 simp -implicitDefEqProofs -dsimp only [go_sem]
 refine (w618 s n p lim (d + 1) (Nat.lt_succ_of_lt hp) _ hun ho).wh ?_
 by_cases h : n < s.length
 ·have e1 : decide (s.length ≤ n) = false := decide_eq_false (by omega)
  have e2 : s[n]? = some s[n] := List.getElem?_eq_getElem h
  have e3 : pkL s n = s[n] := by simp [pkL, e2]
  simp -implicitDefEqProofs -dsimp only [go_sem, e1]
  rw [D_dr (by kernel_rfl) rfl]
  simp -implicitDefEqProofs -dsimp only [go_sem, ho2, e2, e3, cut_und _ _ hu]
 ·have e1 : decide (s.length ≤ n) = true := decide_eq_true (by omega)
  have e3 : pkL s n = 0 := by simp [pkL, List.getElem?_eq_none (by omega : s.length ≤ n)]
  simp -implicitDefEqProofs -dsimp only [go_sem, e1, e3, cut_und _ _ hu, UInt8.toNat_zero]
theorem w616 (c : UInt8) (lim d : Nat) (σ : Sto) (hu : σ.Und d) : Ret lim d 33 [.int .u8 c.toNat] σ (.bool (dig c)) σ := by
 unfold Ret dig
 rw [WF_body (C := X) rfl func33 rfl (by kernel_rfl)]; simp only [results33]
 by_cases h1 : 48 ≤ c.toNat
 ·have e1 : ((48 : Int) ≤ (c.toNat : Int)) := by omega
  by_cases h2 : c.toNat ≤ 57
  ·have e2 : ((c.toNat : Int) ≤ 57) := by omega
   simp -implicitDefEqProofs -dsimp only [go_sem, e1, e2, h1, h2, cut_und _ _ hu]
   try rfl
  ·have e2 : ¬ ((c.toNat : Int) ≤ 57) := by omega
   simp -implicitDefEqProofs -dsimp only [go_sem, e1, e2, h1, h2, cut_und _ _ hu]
   try rfl
 ·have e1 : ¬ ((48 : Int) ≤ (c.toNat : Int)) := by omega
  simp -implicitDefEqProofs -dsimp only [go_sem, e1, h1, cut_und _ _ hu]
  try rfl
section
variable (s : List UInt8) (hs : s.length ≤ 1000000)
include hs
theorem w614 (n : Nat) (hn : n < s.length) (p : Mv.Loc) (lim d : Nat) (hp : p.d < d) (hlim : lim ≤ p.d) (σ : Sto) (hu : σ.Und d) (ho : σ.ob p = some (encL s n)) : Ret lim d 21 [.ptr p 0] σ (.int .u8 (pkL s n).toNat) (σ.set p (encL s (n + 1))) := by
 have hun := und_succ hu
 have hne := ne_my hp
 have hmy := my_ne hp
 have ho2 := ho
 rw [encL] at ho2
 have e1 : decide (s.length ≤ n) = false := decide_eq_false (by omega)
 have x1 := wr64 ((n + 1 : Nat) : Int) (by omega) (by omega)
 have x2 : ((n : Int) + 1) = ((n + 1 : Nat) : Int) := by omega
 unfold Ret
 rw [WF_body (C := X) rfl func21 rfl (by kernel_rfl)]; simp only [results21]
 simp -implicitDefEqProofs -dsimp only [go_sem]
 refine (w613 s n p lim (d + 1) (Nat.lt_succ_of_lt hp) _ hun ho).wh ?_
 simp -implicitDefEqProofs -dsimp only [go_sem]
 refine (w618 s n p lim (d + 1) (Nat.lt_succ_of_lt hp) _ hun ho).wh ?_
 simp -implicitDefEqProofs -dsimp only [go_sem, e1, Bool.not_false, ho2, x1, hp, hlim, cut_set _ _ _ _ hp, cut_und _ _ hu, encL, x2]
end
theorem lin_ne {t : List UInt8} {b : UInt8} {r : List UInt8} (h : t = b :: r) (hb : b ≠ 10) : 1 ≤ (lin t).length := by
 subst h
 rw [lin, if_neg hb]
 simp
theorem set_self {σ : Sto} {p : Mv.Loc} {cs : List MV} (ho : σ.ob p = some cs) : σ.set p cs = σ := by
 refine Sto.ext' (fun l => ?_) (fun _ _ => rfl) fun _ => rfl
 simp only [Sto.set]
 split
 ·rename_i e; subst e; exact ho.symm
 ·rfl
theorem blL_yes {s : List UInt8} {n : Nat} {b : UInt8} (h : s[n]? = some b) (hb : b = 32 ∨ b = 9) : blL s n = blL s (n + 1) + 1 := by
 obtain ⟨hn, rfl⟩ := List.getElem?_eq_some_iff.1 h
 have h1 := dw_le (p := fun b => [32, 9].contains b) (s.drop (n + 1))
 unfold blL
 rw [List.drop_eq_getElem_cons hn, List.dropWhile_cons, if_pos (by rcases hb with e | e <;> rw [e] <;> decide)]
 simp only [List.length_cons]
 omega
theorem blL_no {s : List UInt8} {n : Nat} (h : ∀ b, s[n]? = some b → b ≠ 32 ∧ b ≠ 9) : blL s n = 0 := by
 unfold blL
 by_cases hn : n < s.length
 ·have := h _ (List.getElem?_eq_getElem hn)
  rw [List.drop_eq_getElem_cons hn, List.dropWhile_cons, if_neg (by simp [this.1, this.2])]
  omega
 ·rw [List.drop_eq_nil_of_le (by omega)]; rfl
theorem blL_le (s : List UInt8) (n : Nat) (hn : n ≤ s.length) : n + blL s n ≤ s.length := by
 have h1 := dw_le (p := fun b => [32, 9].contains b) (s.drop n)
 unfold blL
 rw [List.length_drop] at h1 ⊢
 omega
theorem w615 (s : List UInt8) (hs : s.length ≤ 1000000) (n0 : Nat) (hn0 : n0 ≤ s.length) (p : Mv.Loc) (lim d : Nat) (hp : p.d < d) (hlim : lim ≤ p.d) (σ : Sto) (hu : σ.Und d) (ho : σ.ob p = some (encL s n0)) :
  Ret lim d 22 [.ptr p 0] σ (.tup []) (σ.set p (encL s (n0 + blL s n0))) := by
 have hun := und_succ hu
 have hne := ne_my hp
 have hmy := my_ne hp
 have hp1 := Nat.lt_succ_of_lt hp
 unfold Ret
 generalize hF : n0 + blL s n0 = F
 rw [WF_body (C := X) rfl func22 rfl (by kernel_rfl)]; simp only [results22]
 simp -implicitDefEqProofs -dsimp only [go_sem]
 refine loop_h (I := fun f a s' => ∃ n : Nat, f = s.length - n ∧ n ≤ s.length ∧ n + blL s n = F ∧ a 0 = .ptr p 0 ∧ s'.ob p = some (encL s n) ∧ s'.cut d = σ.set p (encL s n) ∧ s'.Und (d + 1)) ?_ (s.length - n0) _ _ ?_
 ·rintro f a s' ⟨n, hf, hn, hG, h0, o, hcut, un⟩
  have o2 := o
  rw [encL] at o2
  have g32 := byte_lit (pkL s n) 32 (by decide)
  have g9 := byte_lit (pkL s n) 9 (by decide)
  simp only [Int.cast_ofNat_Int] at g32 g9
  have x2 : ((n : Int) + 1) = ((n + 1 : Nat) : Int) := by omega
  have hnx : pkL s n = 32 ∨ pkL s n = 9 → n < s.length ∧ blL s n = blL s (n + 1) + 1 := fun h => by
   have hl : n < s.length := by
    rcases Nat.lt_or_ge n s.length with q | q
    ·exact q
    ·have : pkL s n = 0 := by simp [pkL, List.getElem?_eq_none q]
     rw [this] at h; rcases h with h | h <;> cases h
   refine ⟨hl, blL_yes (b := pkL s n) ?_ h⟩
   simp [pkL, List.getElem?_eq_getElem hl]
  simp -implicitDefEqProofs -dsimp only [go_sem, h0]
  refine (w613 s n p lim (d + 1) hp1 _ un o).wh ?_
  by_cases h1 : pkL s n = 32
  ·obtain ⟨hl, hb⟩ := hnx (.inl h1)
   have e : ((pkL s n).toNat : Int) == 32 := by rw [h1]; rfl
   have x1 := wr64 ((n + 1 : Nat) : Int) (by omega) (by omega)
   simp -implicitDefEqProofs -dsimp only [go_sem, h0, e, o2, x2, x1, hlim, hp]
   refine ⟨s.length - (n + 1), by omega, n + 1, rfl, by omega, by omega, ?_, ?_, ?_⟩
   ·simp only [encL]
   ·rw [cut_set _ _ _ _ hp, hcut, set_set]; rfl
   ·rw [u_set _ _ _ _ hp1]; exact un
  ·have e : (((pkL s n).toNat : Int) == 32) = false := by rw [beq_eq_false_iff_ne]; intro q; exact h1 (UInt8.toNat_inj.1 (by have : (32 : UInt8).toNat = 32 := rfl; omega))
   simp -implicitDefEqProofs -dsimp only [go_sem, h0, e]
   refine (w613 s n p lim (d + 1) hp1 _ un o).wh ?_
   by_cases h2 : pkL s n = 9
   ·obtain ⟨hl, hb⟩ := hnx (.inr h2)
    have e9 : ((pkL s n).toNat : Int) == 9 := by rw [h2]; rfl
    have x1 := wr64 ((n + 1 : Nat) : Int) (by omega) (by omega)
    simp -implicitDefEqProofs -dsimp only [go_sem, h0, e9, o2, x2, x1, hlim, hp]
    refine ⟨s.length - (n + 1), by omega, n + 1, rfl, by omega, by omega, ?_, ?_, ?_⟩
    ·simp only [encL]
    ·rw [cut_set _ _ _ _ hp, hcut, set_set]; rfl
    ·rw [u_set _ _ _ _ hp1]; exact un
   ·have e9 : (((pkL s n).toNat : Int) == 9) = false := by rw [beq_eq_false_iff_ne]; intro q; exact h2 (UInt8.toNat_inj.1 (by have : (9 : UInt8).toNat = 9 := rfl; omega))
    have hb : blL s n = 0 := blL_no fun b hb => by
     have : pkL s n = b := by simp [pkL, hb]
     exact ⟨fun q => h1 (by rw [this, q]), fun q => h2 (by rw [this, q])⟩
    rw [hb] at hG
    subst hG
    simp -implicitDefEqProofs -dsimp only [go_sem, e9, hcut]
 ·refine ⟨n0, rfl, hn0, hF, rfl, ho, ?_, hun⟩
  rw [cut_und _ _ hu, set_self ho]
theorem w617 (s : List UInt8) (hs : s.length ≤ 1000000) (n : Nat) (hn : n ≤ s.length) (p : Mv.Loc) (lim d : Nat) (hp : p.d < d) (hlim : lim ≤ p.d) (σ : Sto) (hu : σ.Und d) (ho : σ.ob p = some (encL s n)) :
  Ret lim d 34 [.ptr p 0] σ (numT s n) (σ.set p (encL s (numP s n))) := by
 have hun := und_succ hu
 have hp1 := Nat.lt_succ_of_lt hp
 have hkl := dgL_le s n
 have hd := dgL_at s n
 have ho2 := ho
 rw [encL] at ho2
 have hdl : (s.drop n).length = s.length - n := List.length_drop
 unfold Ret numT numP
 rw [WF_body (C := X) rfl func34 rfl (by kernel_rfl)]; simp only [results34]
 simp -implicitDefEqProofs -dsimp only [go_sem]
 rw [D_lx [.tmp 8] (by kernel_rfl) (by kernel_rfl)]; simp -implicitDefEqProofs -dsimp only [go_sem, List.takeWhile_cons, List.dropWhile_cons, isTail, evNews, List.mem_cons, List.not_mem_nil, or_false, Bool.not_true, Bool.not_false, forall_eq, ne_eq, ho2]
 refine ⟨.inl (by omega), ?_⟩
 refine loop_h (I := fun f a s' => ∃ i : Nat, i + f = dgL s n ∧ a 0 = .ptr p 0 ∧ a 5 = .int .i64 ((n + i : Nat) : Int) ∧ a 4 = .int .i64 ((min (numV ((s.drop n).take i)) 1000000001 : Nat) : Int) ∧ s' = σ) ?_ (dgL s n) _ _ ?_
 ·rintro f a s' ⟨i, hf, h0, h5, h4, rfl⟩
  by_cases hi : i < dgL s n
  ·obtain ⟨c, hc, c1, c2⟩ := hd i hi
   have hc' : s[n + i]? = some c := by rw [List.getElem?_drop] at hc; exact hc
   have e1 : (((n + i : Nat) : Int) < (s.length : Int)) := by omega
   have hdg : dig c = true := by simp [dig, c1, c2]
   have hil : i < (s.drop n).length := by omega
   have hc2 : (s.drop n)[i] = c := by rw [List.getElem?_eq_getElem hil] at hc; exact Option.some.inj hc
   have hst := numV_step hil
   rw [hc2] at hst
   obtain ⟨m, hm, hm2⟩ : ∃ m, min (numV ((s.drop n).take i)) 1000000001 = m ∧ m ≤ 1000000001 := ⟨_, rfl, Nat.min_le_right _ _⟩
   rw [hm] at h4
   have y1 := wr64 (10 * (m : Int)) (by omega) (by omega)
   have y2 : IntKind.u8.wrap ((c.toNat : Int) - 48) = (c.toNat : Int) - 48 := by
    have : IntKind.u8.wrap ((c.toNat : Int) - 48) = ((c.toNat : Int) - 48) % 256 := by simp [IntKind.wrap, IntKind.bits, IntKind.signed]
    rw [this]; omega
   have y3 := wr64 ((c.toNat : Int) - 48) (by omega) (by omega)
   have y5 := wr64 (10 * (m : Int) + ((c.toNat : Int) - 48)) (by omega) (by omega)
   have y6 := wr64 (((n + i : Nat) : Int) + 1) (by omega) (by omega)
   have hnx : ((min (numV ((s.drop n).take (i + 1))) 1000000001 : Nat) : Int) = if (1000000001 : Int) < 10 * (m : Int) + ((c.toNat : Int) - 48) then 1000000001 else 10 * (m : Int) + ((c.toNat : Int) - 48) := by
    rw [hst]
    split <;> omega
   simp -implicitDefEqProofs -dsimp only [go_sem, h0, h5, ho2, e1, hc']
   refine (w616 c lim (d + 1) _ hun).wh ?_
   rw [hdg]
   by_cases hM : (1000000001 : Int) < 10 * (m : Int) + ((c.toNat : Int) - 48)
   ·rw [if_pos hM] at hnx
    simp -implicitDefEqProofs -dsimp only [go_sem, h0, h5, h4, ho2, hc', y1, y2, y3, y5, y6, mm, mmGo, hM]
    exact ⟨f - 1, by omega, i + 1, by omega, congrArg _ (by omega), congrArg _ hnx.symm⟩
   ·rw [if_neg hM] at hnx
    simp -implicitDefEqProofs -dsimp only [go_sem, h0, h5, h4, ho2, hc', y1, y2, y3, y5, y6, mm, mmGo, hM]
    exact ⟨f - 1, by omega, i + 1, by omega, congrArg _ (by omega), congrArg _ hnx.symm⟩
  ·have ei : i = dgL s n := by have := hf; omega
   subst ei
   have cb : (if (((n + dgL s n : Nat) : Int) == (n : Int)) = true then true else decide ((1000000000 : Int) < ((min (numV ((s.drop n).take (dgL s n))) 1000000001 : Nat) : Int))) = decide (dgL s n = 0 ∨ 1000000000 < numW s n) := by
    unfold numW
    by_cases hz : dgL s n = 0
    ·rw [if_pos (by rw [beq_iff_eq]; omega), decide_eq_true (.inl hz)]
    ·rw [if_neg (by rw [beq_iff_eq]; omega)]
     rw [decide_eq_decide]
     constructor
     ·intro q; right; omega
     ·rintro (q | q)
      ·omega
      ·omega
   have hnd : ∀ c, s[n + dgL s n]? = some c → dig c = false := fun c hc => by
    have := dg_end (s.drop n) c (by rw [List.getElem?_drop]; exact hc)
    exact (dig_is c).symm.trans this
   by_cases hl : n + dgL s n < s.length
   ·have e1 : (((n + dgL s n : Nat) : Int) < (s.length : Int)) := by omega
    have gi : s[n + dgL s n]? = some s[n + dgL s n] := List.getElem?_eq_getElem hl
    have hdg := hnd _ gi
    simp -implicitDefEqProofs -dsimp only [go_sem, h0, h5, ho2, e1, gi]
    refine (w616 _ lim (d + 1) _ hun).wh ?_
    rw [hdg]
    simp -implicitDefEqProofs -dsimp only [go_sem, h0, h5, h4, ho2]
    rw [cb]
    by_cases hW : dgL s n = 0 ∨ 1000000000 < numW s n
    ·rw [if_pos (decide_eq_true hW), if_pos hW, if_pos hW]
     exact ⟨rfl, by rw [cut_und _ _ hu, set_self ho]⟩
    ·rw [if_neg (by simpa using hW), if_pos hp, if_pos hlim]
     refine ⟨_, rfl, ?_⟩
     rw [if_neg hW, if_neg hW]
     have hmv : ((min (numV ((s.drop n).take (dgL s n))) 1000000001 : Nat) : Int) = (numW s n : Int) := by
      have : ¬ 1000000000 < numW s n := fun q => hW (.inr q)
      unfold numW at this ⊢
      omega
     exact ⟨by rw [hmv], by rw [cut_set _ _ _ _ hp, cut_und _ _ hu]; rfl⟩
   ·have e1 : ¬ (((n + dgL s n : Nat) : Int) < (s.length : Int)) := by omega
    simp -implicitDefEqProofs -dsimp only [go_sem, h0, h5, h4, ho2, e1]
    rw [cb]
    by_cases hW : dgL s n = 0 ∨ 1000000000 < numW s n
    ·rw [if_pos (decide_eq_true hW), if_pos hW, if_pos hW]
     exact ⟨rfl, by rw [cut_und _ _ hu, set_self ho]⟩
    ·rw [if_neg (by simpa using hW), if_pos hp, if_pos hlim]
     refine ⟨_, rfl, ?_⟩
     rw [if_neg hW, if_neg hW]
     have hmv : ((min (numV ((s.drop n).take (dgL s n))) 1000000001 : Nat) : Int) = (numW s n : Int) := by
      have : ¬ 1000000000 < numW s n := fun q => hW (.inr q)
      unfold numW at this ⊢
      omega
     exact ⟨by rw [hmv], by rw [cut_set _ _ _ _ hp, cut_und _ _ hu]; rfl⟩
 ·exact ⟨0, Nat.zero_add _, rfl, rfl, by simp [upd, numV], rfl⟩
end Go.Proofs.Tryz.E
