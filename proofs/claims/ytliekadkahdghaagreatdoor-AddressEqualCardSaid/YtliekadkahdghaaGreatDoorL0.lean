/- Walks: what the functions compute. -/
import Derived.Test.YtliekadkahdghaaGreatDoorP0
set_option linter.unusedVariables false
set_option linter.unusedSimpArgs false
/- Numbers in decimal, and blanks: plain words. -/
namespace Go.Proofs.Tryz.E
open Go.Mv
set_option maxHeartbeats 4000000
set_option maxRecDepth 20000
def decS (n : Nat) : List UInt8 := if n < 10 then [UInt8.ofNat (48 + n)] else decS (n / 10) ++ [UInt8.ofNat (48 + n % 10)]
termination_by n
decreasing_by omega
theorem dec_lt {n : Nat} (h : n < 10) : decS n = [UInt8.ofNat (48 + n)] := by rw [decS, if_pos h]
theorem dec_ge {n : Nat} (h : ¬ n < 10) : decS n = decS (n / 10) ++ [UInt8.ofNat (48 + n % 10)] := by rw [decS, if_neg h]
theorem digit_nat {m : Nat} (h : m < 10) : (UInt8.ofNat (48 + m)).toNat = 48 + m := by
  rw [UInt8.toNat_ofNat']
  exact Nat.mod_eq_of_lt (by omega)
theorem dec_val (n : Nat) : numV (decS n) = n := by
  induction n using Nat.strongRecOn with
  | _ n ih =>
    by_cases h : n < 10
    · rw [dec_lt h]
      simp only [numV, List.foldl_cons, List.foldl_nil, digit_nat h]
      omega
    · have := ih (n / 10) (by omega)
      rw [dec_ge h]
      unfold numV at this ⊢
      rw [List.foldl_append, this]
      simp only [List.foldl_cons, List.foldl_nil, digit_nat (Nat.mod_lt n (by omega : 10 > 0))]
      omega
theorem dec_dig (n : Nat) : ∀ b ∈ decS n, 48 ≤ b.toNat ∧ b.toNat ≤ 57 := by
  induction n using Nat.strongRecOn with
  | _ n ih =>
    by_cases h : n < 10
    · rw [dec_lt h]
      intro b hb
      simp only [List.mem_cons, List.not_mem_nil, or_false] at hb
      subst hb
      rw [digit_nat h]; omega
    · rw [dec_ge h]
      intro b hb
      rcases List.mem_append.1 hb with hb | hb
      · exact ih (n / 10) (by omega) b hb
      · simp only [List.mem_cons, List.not_mem_nil, or_false] at hb
        subst hb
        rw [digit_nat (Nat.mod_lt n (by omega : 10 > 0))]
        have := Nat.mod_lt n (by omega : 10 > 0)
        omega
theorem dec_ne (n : Nat) : decS n ≠ [] := by
  by_cases h : n < 10
  · rw [dec_lt h]; simp
  · rw [dec_ge h]; simp
theorem dec_len (n : Nat) : (decS n).length ≤ n + 1 := by
  induction n using Nat.strongRecOn with
  | _ n ih =>
    by_cases h : n < 10
    · rw [dec_lt h]; simp
    · have := ih (n / 10) (by omega)
      rw [dec_ge h, List.length_append]
      simp only [List.length_cons, List.length_nil]
      omega
theorem dec_len10 (n k : Nat) (h : n < 10 ^ (k + 1)) : (decS n).length ≤ k + 1 := by
  induction k generalizing n with
  | zero => rw [dec_lt (by simpa using h)]; simp
  | succ k ih =>
    by_cases h1 : n < 10
    · rw [dec_lt h1]; simp
    · have := ih (n / 10) (by rw [Nat.pow_succ] at h; omega)
      rw [dec_ge h1, List.length_append]
      simp only [List.length_cons, List.length_nil]
      omega
/-- A number up to a place is at most all of it. -/
theorem numV_take (l : List UInt8) (i : Nat) : numV (l.take i) ≤ numV l := by
  have key : ∀ (l : List UInt8) (a : Nat), a ≤ l.foldl (fun n b => 10 * n + (b.toNat - 48)) a := by
    intro l
    induction l with
    | nil => intro a; exact Nat.le_refl _
    | cons b l ih => intro a; exact Nat.le_trans (show a ≤ 10 * a + (b.toNat - 48) by omega) (ih _)
  have : numV l = (l.drop i).foldl (fun n b => 10 * n + (b.toNat - 48)) (numV (l.take i)) := by
    unfold numV
    rw [← List.foldl_append, List.take_append_drop]
  rw [this]
  exact key _ _
theorem numV_step {l : List UInt8} {i : Nat} (h : i < l.length) : numV (l.take (i + 1)) = 10 * numV (l.take i) + (l[i].toNat - 48) := by
  unfold numV
  rw [List.take_succ_eq_append_getElem h, List.foldl_append]
  rfl
def blankB (b : UInt8) : Bool := b == 32 || b == 9
def digB (b : UInt8) : Bool := [48, 49, 50, 51, 52, 53, 54, 55, 56, 57].contains b
theorem digB_eq (b : UInt8) (h : 48 ≤ b.toNat ∧ b.toNat ≤ 57) : digB b = true := by
  have e : b = UInt8.ofNat b.toNat := by simp
  obtain ⟨m, hm⟩ : ∃ m, b.toNat = 48 + m := ⟨b.toNat - 48, by omega⟩
  rw [e, hm]
  have : m < 10 := by omega
  rcases (by omega : m = 0 ∨ m = 1 ∨ m = 2 ∨ m = 3 ∨ m = 4 ∨ m = 5 ∨ m = 6 ∨ m = 7 ∨ m = 8 ∨ m = 9) with rfl | rfl | rfl | rfl | rfl | rfl | rfl | rfl | rfl | rfl <;> decide
theorem dw_app {p : UInt8 → Bool} {l t : List UInt8} (h : ∀ b ∈ l, p b = true) (ht : ∀ c, t[0]? = some c → p c = false) : (l ++ t).dropWhile p = t := by
  induction l with
  | nil =>
    cases t with
    | nil => rfl
    | cons c t => rw [List.nil_append, List.dropWhile_cons, if_neg (by rw [ht c rfl]; decide)]
  | cons b l ih =>
    rw [List.cons_append, List.dropWhile_cons, if_pos (h b (List.mem_cons_self ..))]
    exact ih fun c hc => h c (List.mem_cons_of_mem _ hc)
end Go.Proofs.Tryz.E
