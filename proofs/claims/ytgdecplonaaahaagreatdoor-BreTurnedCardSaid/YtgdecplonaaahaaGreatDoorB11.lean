/- Walks: what the functions compute. -/
import Derived.Test.YtgdecplonaaahaaGreatDoorB10
set_option linter.unusedVariables false
set_option linter.unusedSimpArgs false
/- The law BreTurned: a text with a byte more, less or another one at a place is read, or refused, as the document says. The listed variables are tied by the card; no other condition. -/
namespace Go.Proofs.YtgdecplonaaahaaGreatDoor
open Go.ChangeMaps Go.ChangeShapes Go.WideShapes Go.ChangeAt Go.RowKit Go.Mv Go.Lib
theorem u8_of {b : Int} (h : (Lit.int .u8 b).wf = true) : ∃ c : UInt8, b = c.toNat := by
  have h' : 0 ≤ b ∧ b < 256 := by
    simp [Lit.wf, IntKind.min, IntKind.max, IntKind.signed, IntKind.bits] at h
    omega
  exact ⟨b.toNat.toUInt8, by simp; omega⟩
theorem u64_of {a : Int} (h : (Lit.int .u64 a).wf = true) : ∃ n : Nat, n < 18446744073709551616 ∧ a = n := by
  have h' : 0 ≤ a ∧ a < 18446744073709551616 := by
    simp [Lit.wf, IntKind.min, IntKind.max, IntKind.signed, IntKind.bits] at h
    omega
  exact ⟨a.toNat, by omega, by omega⟩
theorem laid_met4 (os : Os) (args : Array Value) : laidMet Tryz.prog Rows.breTurnedRow.laid ((laidWorld os).forCall (fun _ _ => 0) ⟨#[], args, []⟩).memory :=
  (LaidIn.of_run (l := [("unicode/utf8.acceptRanges", Rows.laid_unicode_utf8_acceptRanges), ("unicode/utf8.first", Rows.laid_unicode_utf8_first)]) [2, 1] 8 (by kernel_rfl) (by kernel_rfl) (by kernel_rfl) (by kernel_rfl)).met
theorem laid_metH4 (os : Os) (args : Array Value) : laidMetH Tryz.prog Rows.breTurnedRow.laid ((laidWorld os).forCall (fun _ _ => 0) ⟨#[], args, []⟩).memory := laid_met4 os args

theorem witness_row4 (os : Os) {H : Type} (enc : TypeId × Value → H) :
    (OpenSpec.ofChange Rows.breTurnedSpec).preRow enc Tryz.prog Tryz.f4 Rows.breTurnedRow.domain false Rows.breTurnedRow.laid ((laidWorld os).forCall (fun _ _ => 0) ⟨#[], #[.string ⟨#[]⟩, .int .u64 0, .int .u8 0, .int .u8 0], []⟩).memory #[.string ⟨#[]⟩, .int .u64 0, .int .u8 0, .int .u8 0] := by
  have hw : (DataW.whole enc Tryz.prog ((laidWorld os).forCall (fun _ _ => 0) ⟨#[], #[.string ⟨#[]⟩, .int .u64 0, .int .u8 0, .int .u8 0], []⟩).memory Tryz.f4.params.toList (OpenSpec.ofChange Rows.breTurnedSpec).vars false #[Value.string ⟨#[]⟩, .int .u64 0, .int .u8 0, .int .u8 0].toList 8).map (fun x => (x.1, x.2.1)) =
      some ([.lit (.string []), .lit (.int .u64 0), .lit (.int .u8 0), .lit (.int .u8 0)], []) := by kernel_rfl
  obtain ⟨⟨x1, x2, x3⟩, hx, hx1⟩ := Option.map_eq_some_iff.1 hw
  simp only [Prod.mk.injEq] at hx1
  obtain ⟨rfl, rfl⟩ := hx1
  exact OpenSpec.preRow_of_cond 8 hx (by kernel_rfl) (fun k hk => by cases hk) (by kernel_rfl) (laid_metH4 os _)

set_option maxRecDepth 100000 in
set_option maxHeartbeats 2000000 in
theorem breTurned_lifted (os : Os) (started : os.Started) (H : Type) (enc : TypeId × Value → H) (F : Stop.Interp) :
    ReturnsInHanded {} Tryz.checked os 4 .any ((OpenSpec.ofChange Rows.breTurnedSpec).preRow enc Tryz.prog Tryz.f4 Rows.breTurnedRow.domain false Rows.breTurnedRow.laid) (((OpenSpec.ofChange Rows.breTurnedSpec).at F).post enc Tryz.prog Tryz.f4 false true false false) := by
  refine returnsInHanded_of_row (C := Tryz.checked) (s := OpenSpec.ofChange Rows.breTurnedSpec) own_none started (by kernel_rfl) Tryz.func4
    (witness_row_atRef (enc := enc) (C := Tryz.checked) false (laidWorld os) #[.string ⟨#[]⟩, .int .u64 0, .int .u8 0, .int .u8 0] rfl (by kernel_rfl) (by kernel_rfl) (by kernel_rfl) (witness_row4 os enc)) ?_
  intro W base args ds gs before hval0 hW _ _ _ hL hsh _
  have hval : ∀ (j : Nat) t v, Tryz.f4.params[j]? = some t → args[j]? = some v → Value.okWide Tryz.prog W .any base t v := hval0
  have hW' := hW
  obtain ⟨p, q, hA0, hV0, rfl, _, _⟩ := hW
  have hA : DataW.TrodAll enc Tryz.prog W 0 (fun _ => true) true Tryz.f4.params.toList args.toList ds p := hA0
  rw [Tryz.params4] at hA hval
  obtain ⟨v0, v1, v2, v3, d0, d1, d2, d3, p0, p1, p2, p3, rfl, rfl, rfl, h0, h1, h2, h3⟩ := trodAll_four hA
  obtain ⟨rfl, rfl⟩ := trodVars_none hV0
  obtain ⟨s, rfl, rfl, rfl, ws⟩ := open_string Tryz.underlying9 (hval 0 9 v0 rfl rfl) h0
  obtain ⟨a, rfl, rfl, rfl, wa⟩ := open_int Tryz.underlying42 (hval 1 42 v1 rfl rfl) h1
  obtain ⟨b, rfl, rfl, rfl, wb⟩ := open_int Tryz.underlying5 (hval 2 5 v2 rfl rfl) h2
  obtain ⟨c, rfl, rfl, rfl, wc⟩ := open_int Tryz.underlying5 (hval 3 5 v3 rfl rfl) h3
  clear hA0 hV0 hval0
  simp only [List.append_nil] at hW'
  obtain ⟨n, hn, rfl⟩ := u64_of wa
  obtain ⟨b, rfl⟩ := u8_of wb
  obtain ⟨c, rfl⟩ := u8_of wc
  refine (law_calls (C := Tryz.E.X) Tryz.E.X_ok rfl (ko_of hsh) (args_list [.str s.data.toList, .int .u64 n, .int .u8 b.toNat, .int .u8 c.toNat] [.string s, .int .u64 n, .int .u8 b.toNat, .int .u8 c.toNat] ⟨vr_str s, .int _ _, .int _ _, .int _ _, trivial⟩) ((Tryz.E.w202 s.data.toList n hn b c 0 1 (by omega) s0 (und0 1)).wf rfl)).mono fun e W' ⟨he, hb⟩ => ?_
  subst he
  exact ⟨_, rfl, post_below (pa := []) (pv := []) hW' (fun _ _ _ => trodAll_mk1 (shut_bool Tryz.underlying4 true)) (fun sp _ => trodAll_mk4 (shut_string Tryz.underlying9 ws) (shut_int Tryz.underlying42 wa) (shut_int Tryz.underlying5 wb) (shut_int Tryz.underlying5 wc)) (fun _ _ => rfl) rfl hb (ok_one (by kernel_rfl) rfl (okWide_bool_mk Tryz.underlying4 true))⟩

theorem breTurned_holds : Rows.BreTurnedSaid :=
  OpenClaim.holds_of_cond 4 Tryz.f4 rfl rfl rfl rfl rfl rfl rfl ⟨rfl, rfl, rfl, rfl, rfl⟩ rfl rfl rfl rfl rfl (by kernel_rfl) Tryz.func4 (by kernel_rfl)
    (of_decide_eq_true (by kernel_rfl)) (by unfold Func.isWrapper; first | (rw [if_pos (by decide +kernel)]; kernel_rfl) | (rw [if_neg (by decide +kernel)]; exact ⟨rfl, rfl⟩))
    (fun os started H enc _ F0 => by rw [OpenClaim.pre_eq_preRow]; exact breTurned_lifted os started H enc F0)

theorem breTurned_card : Rows.BreTurnedCardSaid :=
  Claim7.holds_tied_plain_at .later [] [.data, .pinned] true (true, "88b86d44fa7203562e6638fbe0dc9ff6a2cff013dfc0972460b03ac9a8454ed1") false
    breTurned_holds (fun _ h => by cases h) (by kernel_rfl) (fun _ h => by cases h) breTurned_row_tie rfl ⟨rfl, rfl⟩ (by kernel_rfl) rfl
    (fun f fn hf hfn => by
      obtain rfl : f = 4 := Option.some.inj ((show Tryz.prog.funcNamed "redactor/redactorlaw09.BreTurned" = some 4 by kernel_rfl).symm.trans hf) |>.symm
      obtain rfl : fn = Tryz.f4 := (Option.some.inj (Tryz.func4.symm.trans hfn)).symm
      exact ⟨by kernel_rfl, fun j t ht => by
        rw [Tryz.params4] at ht
        have hm : t ∈ [9, 42, 5, 5] := Array.mem_of_getElem? ht |> Array.mem_def.1
        have hall : ([9, 42, 5, 5].all fun u => !Tryz.prog.wantsStandIn u) = true := by kernel_rfl
        exact (show Tryz.prog.wantsStandIn t = false by simpa using List.all_eq_true.1 hall t hm)⟩)
    (by kernel_rfl)
end Go.Proofs.YtgdecplonaaahaaGreatDoor
#print axioms Go.Proofs.YtgdecplonaaahaaGreatDoor.breTurned_card
