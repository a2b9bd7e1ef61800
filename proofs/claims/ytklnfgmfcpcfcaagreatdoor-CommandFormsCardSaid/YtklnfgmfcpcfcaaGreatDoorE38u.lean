/- Walks: what the functions compute. -/
import Derived.Test.YtklnfgmfcpcfcaaGreatDoorE38t
import Derived.Test.YtklnfgmfcpcfcaaGreatDoorSh
import Derived.Laws.RangeAny
import Derived.Laws.Runes
import Derived.Lib.OthersKept
import Derived.Deep.LoopGhost
import Derived.Deep.QuietTactic
import Derived.BigQuiet
set_option linter.unusedVariables false
set_option linter.unusedSimpArgs false
/- The library's ContainsAny over any text, at a few signs. -/
namespace Go.Proofs.Tryz.E
open Go.Mv Go.Lib Go.RowKit
set_option maxRecDepth 1000000
set_option maxHeartbeats 8000000
theorem ib_high (c : UInt8) (hc : 128 ≤ c.toNat) : ∀ l : List UInt8, (∀ b ∈ l, b.toNat < 128) → Lib.indexByte l c = -1
  | [], _ => rfl
  | b :: l, h => by
    have hb : (b == c) = false := by
      rw [beq_eq_false_iff_ne]
      rintro rfl
      have := h b (List.mem_cons_self ..)
      omega
    rw [Lib.indexByte, hb, ib_high c hc l fun x hx => h x (List.mem_cons_of_mem _ hx)]
    rfl
theorem rune_high (S : ByteArray) (hS : S.size = 3) (hA : ∀ b ∈ S.data.toList, b.toNat < 128) (r : Int) (w : World) (h1 : 128 ≤ r) (h2 : r ≤ 2147483647) :
    Calls Tryz.prog 111 #[.string S, .int .i32 r] w fun e w' => e = .returned (.int .i64 (-1)) ∧ Below w.heap.size w w' := by
  have t3 := Tryz.underlying3; have a3 := Tryz.isAgg3; have z3 := Tryz.sizeOf3; have v3 := Tryz.zeroValue3
  have t4 := Tryz.underlying4; have a4 := Tryz.isAgg4; have z4 := Tryz.sizeOf4; have v4 := Tryz.zeroValue4
  have t5 := Tryz.underlying5; have a5 := Tryz.isAgg5; have z5 := Tryz.sizeOf5; have v5 := Tryz.zeroValue5
  have t9 := Tryz.underlying9; have a9 := Tryz.isAgg9; have z9 := Tryz.sizeOf9; have v9 := Tryz.zeroValue9
  have t21 := Tryz.underlying21; have a21 := Tryz.isAgg21; have z21 := Tryz.sizeOf21; have v21 := Tryz.zeroValue21
  have g1 : ¬ r < 128 := by omega
  have e676 : ∀ args w, (callFunc 130 args).run Tryz.prog w = .ok (.enter 130 args) w := Go.Proofs.enters_of Tryz.func130 (by kernel_rfl) rfl
  have e41 : ∀ args w, (callFunc 68 args).run Tryz.prog w = .ok (.enter 68 args) w := Go.Proofs.enters_of Tryz.func68 (by kernel_rfl) rfl
  have g0 : (0 : Int) ≤ r := by omega
  go_enter Tryz.func111, Tryz.ntmps111
  by_cases hr : r = 65533
  · subst hr
    go_wp2
    go_loopg [5, 6] S.size (fun g _ _ wx => ∃ i : Nat, i + g = S.size ∧ wx = w.iter S i)
    case atStart => exact ⟨0, by omega, rfl⟩
    case round =>
      obtain ⟨i, hig, rfl⟩ := hrel
      cases gk with
      | zero =>
        obtain rfl : i = 3 := by omega
        have hnx := fun ty => run_next_end (P := Tryz.prog) w S 3 ty (by omega)
        go_wp2
        go_ret
        exact ⟨rfl, (Below.refl _ w).alloc (Nat.le_refl _) _⟩
      | succ g =>
        have hi : i < S.size := by omega
        obtain ⟨x, hx⟩ : ∃ x : UInt8, S[i]'hi = x := ⟨_, rfl⟩
        have hx128 : x.toNat < 128 := by
          rw [← hx]
          exact hA _ (Array.getElem_mem_toList (xs := S.data) (i := i) hi)
        have hnx := fun ty => run_next_ascii (P := Tryz.prog) w S i ty hi (by rw [hx]; exact hx128)
        rw [hx] at hnx
        have hx6 : ((x.toNat : Int) == 65533) = false := beq_eq_false_iff_ne.2 (by omega)
        go_wp2
        go_roundg g
        case measure => omega
        case rel => exact ⟨i + 1, by omega, rfl⟩
  · have hr' : (r == 65533) = false := beq_eq_false_iff_ne.2 hr
    cases hv : Lib.validRune r with
    | false =>
      go_wp2_with (go_at_fn 130; refine (Tryz.utf8_ValidRune _ _).mono ?_; rintro e w' ⟨rfl, hw⟩; rw [hw, hv])
      go_ret
      exact ⟨rfl, Below.refl _ _⟩
    | true =>
      have hval : Utf8.valid r = true := by rw [Go.validRune_eq]; exact hv
      obtain ⟨f1, f2, f3⟩ := encode_facts r hval h1
      have hcv : ∀ w, (convert 21 9 (.int .i32 r)).run Tryz.prog w = .ok (.string (Utf8.encode r)) w := fun w => run_convert_int_string w 21 9 .i32 r (by rw [t21]; rfl) t9
      generalize Utf8.encode r = E at f1 f2 f3 hcv
      obtain ⟨n, hn⟩ : ∃ n, E.size = n := ⟨_, rfl⟩
      have hE : n = 2 ∨ n = 3 ∨ n = 4 := by omega
      have hS1 : (1 : Int) < (S.size : Int) := by omega
      have hS2 : (2 : Int) < (S.size : Int) := by omega
      have hS3 : (2 : Int) ≤ (S.size : Int) := by omega
      have hS4 : (3 : Int) ≤ (S.size : Int) := by omega
      have hw2 : IntKind.i64.wrap 2 = 2 := by decide
      have hw3 : IntKind.i64.wrap 3 = 3 := by decide
      have hl : ∀ (i : Nat) (hi : i < S.size) (hj : E.size - 1 < E.size), (((S[i]'hi).toNat : Int) == ((E[E.size - 1]'hj).toNat : Int)) = false := fun i hi hj => by
        have := hA (S[i]'hi) (by have := Array.getElem_mem_toList (xs := S.data) (i := i) hi; exact this)
        have := f3 hj
        exact beq_eq_false_iff_ne.2 (by omega)
      rcases hE with rfl | rfl | rfl
      · have hE1 : (1 : Int) < (E.size : Int) := by omega
        have hx : (((S[1]'(by omega)).toNat : Int) != ((E[1]'(by omega)).toNat : Int)) = true := by
          have := hl 1 (by omega) (by omega)
          simp only [hn] at this
          rw [bne, this]; rfl
        have hib : Lib.indexByte (List.take 1 (List.drop 2 S.data.toList)) (E[1]'(by omega)) = -1 := by
          have := f3 (by omega)
          simp only [hn] at this
          exact ib_high _ this _ fun b hb => hA b (List.mem_of_mem_drop (List.mem_of_mem_take hb))
        go_wp2_with (go_at_fn 130; refine (Tryz.utf8_ValidRune _ _).mono ?_; rintro e w' ⟨rfl, hw⟩; rw [hw, hv])
        go_step3
        go_wp2
        go_loopg [9] 1 (fun g s9 wx => s9 = .int .i64 1 ∧ wx = w)
        case atStart => exact ⟨rfl, rfl⟩
        case round =>
          obtain ⟨rfl, rfl⟩ := hrel
          go_wp2
          go_step3
          go_wp2
          go_quiet (fail)
          go_wp2
          go_quiet (first | (go_at_call 68; refine (Tryz.strings_IndexByte _ _ _).mono (fun e w' h => ⟨h.1, _, h.2⟩)))
          go_wp2
          rw [Exit.noGoto_ret]
          go_wp2
          rw [Exit.noGoto_ret]
          go_wp2
          go_ret
          exact ⟨rfl, ⟨rfl, rfl, rfl, Nat.le_refl _, fun _ _ => rfl⟩⟩
      · have hE1 : (2 : Int) < (E.size : Int) := by omega
        have hx : (((S[2]'(by omega)).toNat : Int) != ((E[2]'(by omega)).toNat : Int)) = true := by
          have := hl 2 (by omega) (by omega)
          simp only [hn] at this
          rw [bne, this]; rfl
        have hib : Lib.indexByte (List.take 0 (List.drop 3 S.data.toList)) (E[2]'(by omega)) = -1 := by
          have := f3 (by omega)
          simp only [hn] at this
          exact ib_high _ this _ fun b hb => hA b (List.mem_of_mem_drop (List.mem_of_mem_take hb))
        go_wp2_with (go_at_fn 130; refine (Tryz.utf8_ValidRune _ _).mono ?_; rintro e w' ⟨rfl, hw⟩; rw [hw, hv])
        go_step3
        go_wp2
        go_loopg [9] 1 (fun g s9 wx => s9 = .int .i64 2 ∧ wx = w)
        case atStart => exact ⟨rfl, rfl⟩
        case round =>
          obtain ⟨rfl, rfl⟩ := hrel
          go_wp2
          go_step3
          go_wp2
          go_quiet (fail)
          go_wp2
          go_quiet (first | (go_at_call 68; refine (Tryz.strings_IndexByte _ _ _).mono (fun e w' h => ⟨h.1, _, h.2⟩)))
          go_wp2
          rw [Exit.noGoto_ret]
          go_wp2
          rw [Exit.noGoto_ret]
          go_wp2
          go_ret
          exact ⟨rfl, ⟨rfl, rfl, rfl, Nat.le_refl _, fun _ _ => rfl⟩⟩
      · have hE1 : (3 : Int) < (E.size : Int) := by omega
        go_wp2_with (go_at_fn 130; refine (Tryz.utf8_ValidRune _ _).mono ?_; rintro e w' ⟨rfl, hw⟩; rw [hw, hv])
        go_step3
        go_wp2
        go_loopg [9] 1 (fun g s9 wx => s9 = .int .i64 3 ∧ wx = w)
        case atStart => exact ⟨rfl, rfl⟩
        case round =>
          obtain ⟨rfl, rfl⟩ := hrel
          go_wp2
          rw [Exit.noGoto_ret]
          go_wp2
          go_ret
          exact ⟨rfl, ⟨rfl, rfl, rfl, Nat.le_refl _, fun _ _ => rfl⟩⟩
theorem dec_high (s : ByteArray) (i : Nat) (h : i < s.size) (ha : 128 ≤ (s[i]'h).toNat) : ∀ j, j < (Utf8.decode s i).2 → ∃ hj : i + j < s.size, 128 ≤ (s[i + j]'hj).toNat := by
  have hP : ∀ k, (i + k < s.size ∧ 128 ≤ (s.get! (i + k)).toNat) → ∃ hj : i + k < s.size, 128 ≤ (s[i + k]'hj).toNat := fun k ⟨h1, h2⟩ => by
    refine ⟨h1, ?_⟩
    have e : s.get! (i + k) = s[i + k]'h1 := by
      simp [ByteArray.get!, getElem!_pos, h1]
      rfl
    rw [← e]
    exact h2
  have h0 : i + 0 < s.size ∧ 128 ≤ (s.get! (i + 0)).toNat := ⟨h, by rw [get_at s i h]; exact ha⟩
  have hn : ¬ (s.get! (i + 0)).toNat < 128 := by omega
  have key : (Utf8.decode s i).2 = 1 ∨ ((Utf8.decode s i).2 = 2 ∧ (i + 1 < s.size ∧ 128 ≤ (s.get! (i + 1)).toNat)) ∨ ((Utf8.decode s i).2 = 3 ∧ (i + 1 < s.size ∧ 128 ≤ (s.get! (i + 1)).toNat) ∧ (i + 2 < s.size ∧ 128 ≤ (s.get! (i + 2)).toNat)) ∨
      ((Utf8.decode s i).2 = 4 ∧ (i + 1 < s.size ∧ 128 ≤ (s.get! (i + 1)).toNat) ∧ (i + 2 < s.size ∧ 128 ≤ (s.get! (i + 2)).toNat) ∧ (i + 3 < s.size ∧ 128 ≤ (s.get! (i + 3)).toNat)) := by
    simp only [Utf8.decode, hn, if_false]
    split
    · rename_i hc
      simp only [Bool.and_eq_true, decide_eq_true_eq, beq_iff_eq] at hc
      split
      · right; left; exact ⟨rfl, hc.2.1, by omega⟩
      · left; rfl
    · split
      · rename_i hc
        simp only [Bool.and_eq_true, decide_eq_true_eq, beq_iff_eq] at hc
        split
        · right; right; left; exact ⟨rfl, ⟨hc.1.2.1, by omega⟩, hc.2.1, by omega⟩
        · left; rfl
      · split
        · rename_i hc
          simp only [Bool.and_eq_true, decide_eq_true_eq, beq_iff_eq] at hc
          split
          · right; right; right; exact ⟨rfl, ⟨hc.1.1.2.1, by omega⟩, ⟨hc.1.2.1, by omega⟩, hc.2.1, by omega⟩
          · left; rfl
        · left; rfl
  intro j hj
  rcases key with k | ⟨k, k1⟩ | ⟨k, k1, k2⟩ | ⟨k, k1, k2, k3⟩
  · obtain rfl : j = 0 := by omega
    exact hP 0 h0
  · obtain rfl | rfl : j = 0 ∨ j = 1 := by omega
    · exact hP 0 h0
    · exact hP 1 k1
  · obtain rfl | rfl | rfl : j = 0 ∨ j = 1 ∨ j = 2 := by omega
    · exact hP 0 h0
    · exact hP 1 k1
    · exact hP 2 k2
  · obtain rfl | rfl | rfl | rfl : j = 0 ∨ j = 1 ∨ j = 2 ∨ j = 3 := by omega
    · exact hP 0 h0
    · exact hP 1 k1
    · exact hP 2 k2
    · exact hP 3 k3
theorem below_le {B B' : Nat} {w w' : World} (h : Below B w w') (hB : B' ≤ B) : Below B' w w' := ⟨h.os, h.tape, h.output, h.size, fun k hk => h.block k (by omega)⟩
theorem any_short (S : ByteArray) (hS : S.size = 3) (hA : ∀ b ∈ S.data.toList, b.toNat < 128) (s : ByteArray) (w : World) (h8 : s.size ≤ 8) :
    Calls Tryz.prog 84 #[.string s, .string S] w fun e w' => e = .returned (.int .i64 (Lib.indexAny s.data.toList S.data.toList)) ∧ Below w.heap.size w w' := by
  have hemp : S.toList.isEmpty = false := by
    rw [Lib.toList_data]
    cases h : S.data.toList with
    | nil => have := Lib.size_eq S; rw [h, List.length_nil] at this; omega
    | cons _ _ => rfl
  have hn1 : ((S.size : Int) == 1) = false := beq_eq_false_iff_ne.2 (by omega)
  have h8z : decide ((8 : Int) < (s.size : Int)) = false := decide_eq_false (by omega)
  have t3 := Tryz.underlying3; have a3 := Tryz.isAgg3; have z3 := Tryz.sizeOf3; have v3 := Tryz.zeroValue3
  have t4 := Tryz.underlying4; have a4 := Tryz.isAgg4; have z4 := Tryz.sizeOf4; have v4 := Tryz.zeroValue4
  have t5 := Tryz.underlying5; have a5 := Tryz.isAgg5; have z5 := Tryz.sizeOf5; have v5 := Tryz.zeroValue5
  have t9 := Tryz.underlying9; have a9 := Tryz.isAgg9; have z9 := Tryz.sizeOf9; have v9 := Tryz.zeroValue9
  have t21 := Tryz.underlying21; have a21 := Tryz.isAgg21; have z21 := Tryz.sizeOf21; have v21 := Tryz.zeroValue21
  have e232 : ∀ args w, (callFunc 111 args).run Tryz.prog w = .ok (.enter 111 args) w := Go.Proofs.enters_of Tryz.func111 (by kernel_rfl) rfl
  have e675 : ∀ args w, (callFunc 112 args).run Tryz.prog w = .ok (.enter 112 args) w := Go.Proofs.enters_of Tryz.func112 (by kernel_rfl) rfl
  go_enter Tryz.func84, Tryz.ntmps84
  go_wp2_with (go_at_fn 112; refine (Tryz.strings_shouldUseASCIISet _ _).mono ?_; rintro e w' ⟨rfl, hw⟩; rw [hw, h8z])
  go_loopg [9, 10] s.size (fun g _ _ wx => ∃ i : Nat, i + g = s.size ∧ Below w.heap.size w wx ∧ wx.heap[w.heap.size]? = some (.stringIter s i) ∧ Lib.NoAny s.data.toList S.data.toList i)
  case atStart => exact ⟨0, by omega, (Below.refl _ w).alloc (Nat.le_refl _) _, World.iter_heap w s 0, Lib.NoAny.zero _ _⟩
  case round =>
    obtain ⟨i, hig, hb, hk, hno⟩ := hrel
    cases gk with
    | zero =>
      have hlt : ¬ i < s.size := by omega
      have hnx := fun ty => run_next_end_at (P := Tryz.prog) wr w.heap.size s i ty hk hlt
      go_wp2
      go_ret
      exact ⟨by rw [Lib.indexAny_none (by have : i = s.size := by omega
                                          rw [this, Lib.size_eq] at hno; exact hno)]; rfl, hb⟩
    | succ g =>
      have hi : i < s.size := by omega
      obtain ⟨x, hx⟩ : ∃ x : UInt8, s[i]'hi = x := ⟨_, rfl⟩
      have hxl : s.data.toList[i]? = some x := by rw [← hx]; exact Lib.data_getElem? s i hi
      by_cases hx128 : x.toNat < 128
      · have hnx := fun ty => run_next_ascii_at (P := Tryz.prog) wr w.heap.size s i ty hk hi (by rw [hx]; exact hx128)
        rw [hx] at hnx
        have hcon := Lib.contains_iff_indexByte S.data.toList x
        have hback : ((x.toNat : Int)).toNat.toUInt8 = x := by simp
        have hb1 := below_iterAt hb (Nat.le_refl _) s (i + 1)
        have hk1 := iterAt_heap wr w.heap.size s i (i + 1) hk
        cases hin : S.data.toList.contains x
        · rw [hin] at hcon
          have hlt : ¬ ((0 : Int) ≤ Lib.indexByte S.data.toList x) := of_decide_eq_false hcon.symm
          clear hcon
          go_wp2_with (go_at_fn 111; refine (Tryz.strings_IndexRune_ascii _ _ _ (by omega) (by omega)).mono ?_; rintro e w' ⟨rfl, hw⟩; rw [hw, hback])
          go_roundg g
          case measure => omega
          case rel => exact ⟨i + 1, by omega, hb1, hk1, hno.succ hxl hin⟩
        · rw [hin] at hcon
          have hge : (0 : Int) ≤ Lib.indexByte S.data.toList x := of_decide_eq_true hcon.symm
          clear hcon
          go_wp2_with (go_at_fn 111; refine (Tryz.strings_IndexRune_ascii _ _ _ (by omega) (by omega)).mono ?_; rintro e w' ⟨rfl, hw⟩; rw [hw, hback])
          go_ret
          exact ⟨by rw [Lib.indexAny_hit hno hxl hin]; rfl, hb1⟩
      · have hha : 128 ≤ (s[i]'hi).toNat := by rw [hx]; omega
        have hnx := fun ty => run_next_any_at (P := Tryz.prog) wr w.heap.size s i ty hk hi
        obtain ⟨d1, d2⟩ := decode_high s i hi hha
        have d3 := decode_le s i
        have d4 := dec_high s i hi hha
        generalize Utf8.decode s i = dd at *
        obtain ⟨r, n⟩ := dd
        simp only at d1 d2 d3 d4 hnx
        go_wp2_with (go_at_fn 111; refine (rune_high S hS hA _ _ (by omega) (by omega)).mono ?_; rintro e w' ⟨rfl, hw⟩)
        have hend : i + n ≤ s.size := by obtain ⟨q, _⟩ := d4 (n - 1) (by omega); omega
        go_roundg (s.size - (i + n))
        case measure => omega
        case rel =>
          rename_i w' _ hw
          have hb1 := below_iterAt hb (Nat.le_refl _) s (i + n)
          have hk1 := iterAt_heap wr w.heap.size s i (i + n) hk
          have hsz : w.heap.size < (wr.iterAt w.heap.size s (i + n)).heap.size := (Array.getElem?_eq_some_iff.1 hk1).1
          refine ⟨i + n, by omega, hb1.trans (below_le hw (by omega)), by rw [hw.block _ hsz]; exact hk1, fun j b hj hjb => ?_⟩
          by_cases hji : j < i
          · exact hno j b hji hjb
          · obtain ⟨q1, q2⟩ := d4 (j - i) (by omega)
            have e : i + (j - i) = j := by omega
            have hsb : s[i + (j - i)]'q1 = b := by
              have h3 := Lib.data_getElem? s (i + (j - i)) q1
              have h4 : s.data.toList[i + (j - i)]? = some b := by rw [e]; exact hjb
              rw [h3] at h4
              exact Option.some.inj h4
            rw [hsb] at q2
            cases hq : S.data.toList.contains b with
            | false => rfl
            | true => have := hA b (List.contains_iff_mem.1 hq); omega
/-- ContainsAny, of any text. -/
theorem contains_any (S : ByteArray) (hS : S.size = 3) (hA : ∀ b ∈ S.data.toList, b.toNat < 128) (s : ByteArray) (w : World) (hs : s.size < 4294967281) :
    Calls Tryz.prog 65 #[.string s, .string S] w fun e w' => e = .returned (.bool (Lib.containsAny s.data.toList S.data.toList)) ∧ Below w.heap.size w w' := by
  have hI : Calls Tryz.prog 84 #[.string s, .string S] w fun e w' => e = .returned (.int .i64 (Lib.indexAny s.data.toList S.data.toList)) ∧ Below w.heap.size w w' := by
    by_cases h8 : s.size ≤ 8
    · exact any_short S hS hA s w h8
    · have hz : ∀ w, (zeroValue 138).run Tryz.prog w = .ok (.agg (Array.replicate 256 (.bool false))) w := fun w => by kernel_rfl
      refine (Tryz.strings_IndexAny_long hz s S w (by omega) (by omega) hs (by omega) (fun j b hj => hA b (List.mem_of_getElem? hj))).mono ?_
      rintro e w' ⟨he, hw⟩
      refine ⟨he, ?_⟩
      rw [hw]
      exact ((Below.refl _ w).alloc (Nat.le_refl _) _).alloc (by simp) _
  have t3 := Tryz.underlying3; have a3 := Tryz.isAgg3; have z3 := Tryz.sizeOf3; have v3 := Tryz.zeroValue3
  have t4 := Tryz.underlying4; have a4 := Tryz.isAgg4; have z4 := Tryz.sizeOf4; have v4 := Tryz.zeroValue4
  have t9 := Tryz.underlying9; have a9 := Tryz.isAgg9; have z9 := Tryz.sizeOf9; have v9 := Tryz.zeroValue9
  have e673 : ∀ args w, (callFunc 84 args).run Tryz.prog w = .ok (.enter 84 args) w := Go.Proofs.enters_of Tryz.func84 (by kernel_rfl) rfl
  go_enter Tryz.func65, Tryz.ntmps65
  go_wp2_with (go_at_fn 84; refine hI.mono ?_; rintro e w' ⟨rfl, hw⟩)
  go_ret
  exact ⟨rfl, by assumption⟩
end Go.Proofs.Tryz.E
