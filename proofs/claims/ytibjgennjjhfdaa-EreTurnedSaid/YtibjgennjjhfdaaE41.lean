/- Walks: what the functions compute. -/
import Derived.Test.YtibjgennjjhfdaaE39
import Derived.Test.YtibjgennjjhfdaaE40
set_option linter.unusedVariables false
set_option linter.unusedSimpArgs false
/- The law EreTurned: a text with a byte more, less or another one at a place is read, or refused, as the document says. No condition. -/
namespace Go.Proofs.Ytibjgennjjhfdaa
open Go.ChangeMaps Go.ChangeShapes Go.WideShapes Go.ChangeAt Go.RowKit Go.Mv
theorem u8_of {b : Int} (h : (Lit.int .u8 b).wf = true) : ∃ c : UInt8, b = c.toNat := by
  have h' : 0 ≤ b ∧ b < 256 := by
    simp [Lit.wf, IntKind.min, IntKind.max, IntKind.signed, IntKind.bits] at h
    omega
  exact ⟨b.toNat.toUInt8, by simp; omega⟩
theorem u64_of {a : Int} (h : (Lit.int .u64 a).wf = true) : ∃ n : Nat, n < 18446744073709551616 ∧ a = n := by
  have h' : 0 ≤ a ∧ a < 18446744073709551616 := by
    simp [Lit.wf, IntKind.min, IntKind.max, IntKind.signed, IntKind.bits] at h
    omega
  exact ⟨a.toNat, by omega, by omega⟩
set_option maxRecDepth 100000 in
theorem ereTurned_lifted (os : Os) (started : os.Started) (H : Type) (enc : TypeId × Value → H) :
    ReturnsInHanded {} Try.checked os 4 .any (Rows.ereTurnedSpec.pre6 enc Try.prog Try.f4 Rows.ereTurnedRow.domain false) (Rows.ereTurnedSpec.post enc Try.prog Try.f4 false true false false) := by
  refine returnsInHanded_of_change_shaped (C := Try.checked) own_none started (by kernel_rfl) Try.func4
    (ChangeSpec.witness6 (enc := enc) (C := Try.checked) false ⟨#[], #[.string ⟨#[]⟩, .int .u64 0, .int .u8 0, .int .u8 0], []⟩ 8 (by kernel_rfl) (by kernel_rfl) (by kernel_rfl) (by kernel_rfl)) ?_
  intro W base args ds gs before hval0 hW hcnd _ hsh _
  have hval : ∀ (j : Nat) t v, Try.f4.params[j]? = some t → args[j]? = some v → Value.okWide Try.prog W .any base t v := hval0
  have hW' := hW
  obtain ⟨p, q, hA0, hV, rfl, hfz, hnd⟩ := hW
  have hA : DataW.TrodAll enc Try.prog W 0 (fun _ => true) true Try.f4.params.toList args.toList ds p := hA0
  rw [Try.params4] at hA hval
  obtain ⟨v0, v1, v2, v3, d0, d1, d2, d3, p0, p1, p2, p3, rfl, rfl, rfl, h0, h1, h2, h3⟩ := trodAll_four hA
  obtain ⟨rfl, rfl⟩ := trodVars_none hV
  obtain ⟨s, rfl, rfl, rfl, ws⟩ := open_string Try.underlying9 (hval 0 9 v0 rfl rfl) h0
  obtain ⟨a, rfl, rfl, rfl, wa⟩ := open_int Try.underlying42 (hval 1 42 v1 rfl rfl) h1
  obtain ⟨b, rfl, rfl, rfl, wb⟩ := open_int Try.underlying5 (hval 2 5 v2 rfl rfl) h2
  obtain ⟨c, rfl, rfl, rfl, wc⟩ := open_int Try.underlying5 (hval 3 5 v3 rfl rfl) h3
  clear hA0 hval0
  simp only [List.append_nil] at hW'
  obtain ⟨n, hn, rfl⟩ := u64_of wa
  obtain ⟨b, rfl⟩ := u8_of wb
  obtain ⟨c, rfl⟩ := u8_of wc
  refine (law_calls (C := Try.E.X) Try.E.X_ok rfl (ko_of hsh) (args_list [.str s.data.toList, .int .u64 n, .int .u8 b.toNat, .int .u8 c.toNat] [.string s, .int .u64 n, .int .u8 b.toNat, .int .u8 c.toNat] ⟨vr_str s, .int _ _, .int _ _, .int _ _, trivial⟩) ((Try.E.w4 s.data.toList n hn b c 0 1 (by omega) s0 (und0 1)).wf rfl)).mono fun e W' ⟨he, hb⟩ => ?_
  subst he
  exact ⟨_, rfl, post_below (pa := []) (pv := []) hW' (fun _ _ _ => trodAll_mk1 (shut_bool Try.underlying4 true)) (fun sp _ => trodAll_mk4 (shut_string Try.underlying9 ws) (shut_int Try.underlying42 wa) (shut_int Try.underlying5 wb) (shut_int Try.underlying5 wc)) (fun _ _ => rfl) rfl hb (ok_one (by kernel_rfl) rfl (okWide_bool_mk Try.underlying4 true))⟩

theorem ereTurned_holds : Rows.EreTurnedSaid :=
  OpenClaim.holds_of_wide 4 Try.f4 rfl rfl rfl rfl rfl rfl rfl ⟨rfl, rfl, rfl, rfl, rfl⟩ rfl rfl rfl rfl rfl (by kernel_rfl) Try.func4 (by kernel_rfl)
    (of_decide_eq_true (by kernel_rfl)) (by unfold Func.isWrapper; first | (rw [if_pos (by decide +kernel)]; kernel_rfl) | (rw [if_neg (by decide +kernel)]; exact ⟨rfl, rfl⟩))
    (fun os started H enc _ => ereTurned_lifted os started H enc)
end Go.Proofs.Ytibjgennjjhfdaa
#print axioms Go.Proofs.Ytibjgennjjhfdaa.ereTurned_holds
