/- Walks: what the functions compute. -/
import Derived.Test.YtibjgennjjhfdaaJ6
import Derived.Test.YtibjgennjjhfdaaE38
import Derived.Test.YtibjgennjjhfdaaRows
import Derived.ProofKit
import Derived.HandedShaped
import Derived.Shelf.Vars
set_option linter.unusedVariables false
set_option linter.unusedSimpArgs false
/- The law EreJoins: two patterns without groups and or, one behind the other, are read as both joined, where the second one begins with a letter. No condition. -/
namespace Go.Proofs.Ytibjgennjjhfdaa
open Go.ChangeMaps Go.ChangeShapes Go.WideShapes Go.ChangeAt Go.RowKit Go.Mv

theorem own_none : ownKnob Try.prog.godebug = none := by kernel_rfl
theorem ko_of {W : World} (h : W.ShapedOpen Try.prog) : (Try.E.X).KO (kOf W) := by
  rintro b q ⟨rfl, rfl⟩
  obtain ⟨m, hm⟩ := Go.Proofs.cell_of_shapedOpen_int (g := 0) (t := 3) (k := .i64) (zero := #[.int .i64 0]) h (of_decide_eq_true (by kernel_rfl)) (by kernel_rfl) (by kernel_rfl) (by kernel_rfl) (by kernel_rfl) (by kernel_rfl)
  obtain ⟨cs, h1, h2, _⟩ := h.1 0 #[.int .i64 0] 3 (of_decide_eq_true (by kernel_rfl)) (by kernel_rfl)
  refine ⟨_, ⟨m, 3, (0, 0), rfl⟩, ?_⟩
  show W.heap[0]? = _
  rw [h1]
  rw [cell_of_cells h1] at hm
  obtain ⟨cs⟩ := cs
  match cs, h2 with
  | [v], _ => simp at hm; rw [hm]

theorem u8_of {b : Int} (h : (Lit.int .u8 b).wf = true) : ∃ c : UInt8, b = c.toNat := by
  have h' : 0 ≤ b ∧ b < 256 := by
    simp [Lit.wf, IntKind.min, IntKind.max, IntKind.signed, IntKind.bits] at h
    omega
  exact ⟨b.toNat.toUInt8, by simp; omega⟩
set_option maxRecDepth 100000 in
theorem ereJoins_lifted (os : Os) (started : os.Started) (H : Type) (enc : TypeId × Value → H) :
    ReturnsInHanded {} Try.checked os 6 .any (Rows.ereJoinsSpec.pre6 enc Try.prog Try.f6 Rows.ereJoinsRow.domain false) (Rows.ereJoinsSpec.post enc Try.prog Try.f6 false true false false) := by
  refine returnsInHanded_of_change_shaped (C := Try.checked) own_none started (by kernel_rfl) Try.func6
    (ChangeSpec.witness6 (enc := enc) (C := Try.checked) false ⟨#[], #[.string ⟨#[]⟩, .string ⟨#[]⟩, .int .u8 0], []⟩ 8 (by kernel_rfl) (by kernel_rfl) (by kernel_rfl) (by kernel_rfl)) ?_
  intro W base args ds gs before hval0 hW hcnd _ hsh _
  have hval : ∀ (j : Nat) t v, Try.f6.params[j]? = some t → args[j]? = some v → Value.okWide Try.prog W .any base t v := hval0
  have hW' := hW
  obtain ⟨p, q, hA0, hV, rfl, hfz, hnd⟩ := hW
  have hA : DataW.TrodAll enc Try.prog W 0 (fun _ => true) true Try.f6.params.toList args.toList ds p := hA0
  rw [Try.params6] at hA hval
  obtain ⟨v0, v1, v2, d0, d1, d2, p0, p1, p2, rfl, rfl, rfl, h0, h1, h2⟩ := trodAll_three hA
  obtain ⟨rfl, rfl⟩ := trodVars_none hV
  obtain ⟨s, rfl, rfl, rfl, ws⟩ := open_string Try.underlying9 (hval 0 9 v0 rfl rfl) h0
  obtain ⟨t, rfl, rfl, rfl, wt⟩ := open_string Try.underlying9 (hval 1 9 v1 rfl rfl) h1
  obtain ⟨c, rfl, rfl, rfl, wc⟩ := open_int Try.underlying5 (hval 2 5 v2 rfl rfl) h2
  clear hA0 hval0
  simp only [List.append_nil] at hW'
  obtain ⟨c, rfl⟩ := u8_of wc
  refine (law_calls (C := Try.E.X) Try.E.X_ok rfl (ko_of hsh) (args_list [.str s.data.toList, .str t.data.toList, .int .u8 c.toNat] [.string s, .string t, .int .u8 c.toNat] ⟨vr_str s, vr_str t, .int _ _, trivial⟩) ((Try.E.w6 s.data.toList t.data.toList c 0 1 (by omega) s0 (und0 1)).wf rfl)).mono fun e W' ⟨he, hb⟩ => ?_
  subst he
  exact ⟨_, rfl, post_below (pa := []) (pv := []) hW' (fun _ _ _ => trodAll_mk1 (shut_bool Try.underlying4 true)) (fun sp _ => trodAll_mk3 (shut_string Try.underlying9 ws) (shut_string Try.underlying9 wt) (shut_int Try.underlying5 wc)) (fun _ _ => rfl) rfl hb (ok_one (by kernel_rfl) rfl (okWide_bool_mk Try.underlying4 true))⟩

theorem ereJoins_holds : Rows.EreJoinsSaid :=
  OpenClaim.holds_of_wide 6 Try.f6 rfl rfl rfl rfl rfl rfl rfl ⟨rfl, rfl, rfl, rfl, rfl⟩ rfl rfl rfl rfl rfl (by kernel_rfl) Try.func6 (by kernel_rfl)
    (of_decide_eq_true (by kernel_rfl)) (by unfold Func.isWrapper; first | (rw [if_pos (by decide +kernel)]; kernel_rfl) | (rw [if_neg (by decide +kernel)]; exact ⟨rfl, rfl⟩))
    (fun os started H enc _ => ereJoins_lifted os started H enc)
end Go.Proofs.Ytibjgennjjhfdaa
#print axioms Go.Proofs.Ytibjgennjjhfdaa.ereJoins_holds
