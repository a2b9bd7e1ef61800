/- Walks: what the functions compute. -/
import Derived.Test.YtfnkcmnofnppcaaGreatDoorL4
set_option linter.unusedVariables false
set_option linter.unusedSimpArgs false
/- The law AddressLines: its value. -/
namespace Go.Proofs.Tryz.E
open Go.Mv
set_option maxHeartbeats 4000000
set_option maxRecDepth 20000
theorem drop_at (P R : List UInt8) : (P ++ R).drop P.length = R := List.drop_left
theorem one_dec (P R : List UInt8) (n : Nat) (hn : n ≤ 1000000000) (hR : ∀ c, R[0]? = some c → digB c = false) : OneL (P ++ (decS n ++ R)) P.length 1 n (P.length + (decS n).length) := by
  have hdw : (decS n ++ R).dropWhile digB = R := dw_app (fun b hb => digB_eq b (dec_dig n b hb)) hR
  have hdg : dgL (P ++ (decS n ++ R)) P.length = (decS n).length := by
    unfold dgL
    rw [drop_at, hdw, List.length_append]
    omega
  have hne := List.length_pos_iff.2 (dec_ne n)
  have hat : ∀ i, i < (decS n).length → ∃ c, (decS n ++ R)[i]? = some c ∧ 48 ≤ c.toNat ∧ c.toNat ≤ 57 := fun i hi => by
    refine ⟨(decS n)[i], ?_, dec_dig n _ (List.getElem_mem hi)⟩
    rw [List.getElem?_append_left hi, List.getElem?_eq_getElem hi]
  refine .inl ⟨rfl, ?_, ?_, ?_, ?_, ?_, ?_⟩
  · obtain ⟨c, h1, h2⟩ := hat 0 hne
    refine ⟨c, ?_, h2⟩
    rw [List.getElem?_append_right (Nat.le_refl _), Nat.sub_self]
    exact h1
  · rw [drop_at, hdg, List.take_left, dec_val]
  · rw [drop_at, hdg, List.take_left, dec_val]; exact hn
  · rw [drop_at, hdg]; exact hat
  · rw [hdg]; exact hne
  · rw [hdg]
theorem bl_at (P R bl : List UInt8) (hb : ∀ b ∈ bl, b = 32 ∨ b = 9) (hR : ∀ c, R[0]? = some c → ¬ (c = 32 ∨ c = 9)) : blL (P ++ (bl ++ R)) P.length = bl.length := by
  have hdw : (bl ++ R).dropWhile (fun b => [32, 9].contains b) = R := dw_app (fun b h => by
    rcases hb b h with rfl | rfl <;> rfl) (fun c h => by
    have := hR c h
    simp only [List.contains_cons, List.contains_nil, Bool.or_false, Bool.or_eq_false_iff, beq_eq_false_iff_ne]
    exact ⟨fun q => this (.inl q), fun q => this (.inr q)⟩)
  unfold blL
  rw [drop_at, hdw, List.length_append]
  omega
def tailL (bl : List UInt8) (b : Bool) : List UInt8 := if b = true then 33 :: (bl ++ [112]) else [112]
theorem read_txt (a c : Nat) (bl : List UInt8) (b : Bool) (ha : a ≤ 1000000000) (hc : c ≤ 1000000000) (hb : ∀ x ∈ bl, x = 32 ∨ x = 9) (hl : bl.length ≤ 20) :
    ∀ S, S = decS a ++ (44 :: (bl ++ (decS c ++ (bl ++ tailL bl b)))) → ∃ m1 m2 m3 m4 m5, OneL S 0 1 a m1 ∧ m1 + 1 < S.length ∧ S[m1]? = some 44 ∧ m2 = m1 + 1 + blL S (m1 + 1) ∧ m2 < S.length ∧ OneL S m2 1 c m3 ∧ m3 ≤ S.length ∧ m4 = m3 + blL S m3 ∧ m4 < S.length ∧ (pkL S m4 == 33) = b ∧
      m5 = (if b = true then m4 + 1 + blL S (m4 + 1) else m4) ∧ m5 + 1 = S.length ∧ S.length ≤ 1000 := by
  intro S hS
  have la := dec_len10 a 9 (by omega)
  have lc := dec_len10 c 9 (by omega)
  have pa := List.length_pos_iff.2 (dec_ne a)
  have pc := List.length_pos_iff.2 (dec_ne c)
  have tl : (tailL bl b).length = if b = true then bl.length + 2 else 1 := by
    unfold tailL; cases b <;> simp
  have tl2 : (tailL bl b).length ≤ 22 ∧ 1 ≤ (tailL bl b).length := by rw [tl]; split <;> omega
  have t0 : ∀ x, (tailL bl b)[0]? = some x → x = (if b = true then 33 else 112) := by
    intro x hx; cases b <;> (simp [tailL] at hx; exact hx.symm)
  have hnb : ∀ x, (tailL bl b)[0]? = some x → ¬ (x = 32 ∨ x = 9) := by
    intro x hx; rw [t0 x hx]; cases b <;> decide
  have hnd : ∀ x, (bl ++ tailL bl b)[0]? = some x → digB x = false := by
    intro x hx
    cases bl with
    | nil => rw [List.nil_append] at hx; rw [t0 x hx]; cases b <;> decide
    | cons y l =>
      simp at hx; subst hx
      rcases hb y (List.mem_cons_self ..) with rfl | rfl <;> decide
  have hnc : ∀ x, (decS c ++ (bl ++ tailL bl b))[0]? = some x → ¬ (x = 32 ∨ x = 9) := by
    intro x hx
    rw [List.getElem?_append_left pc] at hx
    have := dec_dig c x (List.mem_of_getElem? hx)
    rintro (rfl | rfl)
    · have : (32 : UInt8).toNat = 32 := rfl
      omega
    · have : (9 : UInt8).toNat = 9 := rfl
      omega
  have hlen : S.length = (decS a).length + 1 + bl.length + (decS c).length + bl.length + (tailL bl b).length := by
    rw [hS]; simp only [List.length_append, List.length_cons]; omega
  -- the text, cut at its places
  have s1 : S = [] ++ (decS a ++ (44 :: (bl ++ (decS c ++ (bl ++ tailL bl b))))) := hS
  have s2 : S = (decS a ++ [44]) ++ (bl ++ (decS c ++ (bl ++ tailL bl b))) := by rw [hS]; simp
  have s3 : S = (decS a ++ [44] ++ bl) ++ (decS c ++ (bl ++ tailL bl b)) := by rw [hS]; simp
  have s4 : S = (decS a ++ [44] ++ bl ++ decS c) ++ (bl ++ tailL bl b) := by rw [hS]; simp
  have s5 : S = (decS a ++ [44] ++ bl ++ decS c ++ bl) ++ tailL bl b := by rw [hS]; simp
  have o1 : OneL S 0 1 a (decS a).length := by
    have := one_dec [] (44 :: (bl ++ (decS c ++ (bl ++ tailL bl b)))) a ha (fun x hx => by simp at hx; subst hx; decide)
    rw [← s1] at this
    simpa using this
  have b1 : blL S ((decS a).length + 1) = bl.length := by
    have := bl_at (decS a ++ [44]) (decS c ++ (bl ++ tailL bl b)) bl hb hnc
    rw [← s2, List.length_append] at this
    exact this
  have o2 : OneL S ((decS a).length + 1 + bl.length) 1 c ((decS a).length + 1 + bl.length + (decS c).length) := by
    have := one_dec (decS a ++ [44] ++ bl) (bl ++ tailL bl b) c hc hnd
    rw [← s3, List.length_append, List.length_append] at this
    exact this
  have b2 : blL S ((decS a).length + 1 + bl.length + (decS c).length) = bl.length := by
    have := bl_at (decS a ++ [44] ++ bl ++ decS c) (tailL bl b) bl hb hnb
    rw [← s4, List.length_append, List.length_append, List.length_append] at this
    exact this
  have p4 : S[(decS a).length + 1 + bl.length + (decS c).length + bl.length]? = (tailL bl b)[0]? := by
    rw [s5, List.getElem?_append_right (by simp; omega)]
    congr 1
    simp; omega
  refine ⟨(decS a).length, (decS a).length + 1 + bl.length, (decS a).length + 1 + bl.length + (decS c).length, (decS a).length + 1 + bl.length + (decS c).length + bl.length, S.length - 1, o1, by omega, ?_, by rw [b1], by omega, o2, by omega, by rw [b2], by omega, ?_, ?_, by omega, by omega⟩
  · rw [s1, List.nil_append, List.getElem?_append_right (Nat.le_refl _), Nat.sub_self]; rfl
  · unfold pkL
    rw [p4]
    cases b <;> rfl
  · cases b with
    | false =>
      simp only [Bool.false_eq_true, if_false] at tl ⊢
      omega
    | true =>
      simp only [if_true] at tl ⊢
      have s6 : S = (decS a ++ [44] ++ bl ++ decS c ++ bl ++ [33]) ++ (bl ++ [112]) := by rw [hS]; simp [tailL]
      have := bl_at (decS a ++ [44] ++ bl ++ decS c ++ bl ++ [33]) [112] bl hb (fun x hx => by simp at hx; subst hx; decide)
      rw [← s6] at this
      simp only [List.length_append, List.length_cons, List.length_nil, Nat.zero_add] at this
      rw [this]
      omega
end Go.Proofs.Tryz.E
