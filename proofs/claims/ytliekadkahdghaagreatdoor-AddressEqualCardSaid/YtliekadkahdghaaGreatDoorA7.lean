/- Walks: what the functions compute. -/
import Derived.Test.YtliekadkahdghaaGreatDoorA6
import Derived.Test.YtliekadkahdghaaGreatDoorE38q
import Derived.Test.YtliekadkahdghaaGreatDoorCards
import Derived.Test.YtliekadkahdghaaGreatDoorTie
import Derived.ProofKit
import Derived.HandedShaped
import Derived.Shelf.Vars
import Derived.Lib.LaidIn
import Derived.Lib.LaidU8T
import Derived.Deep.DeepHandedRow
import Derived.Deep.DeepWitnessRowRef
import Derived.SizedLaws
import Derived.SevenTiedAt
set_option linter.unusedVariables false
set_option linter.unusedSimpArgs false
/- The laws AddressForms and AddressEqual: of any addresses it is told whether they are formed, and how many they are; two are told to be alike just if all of both is alike. The listed variables are tied by the card; no other condition. -/
namespace Go.Proofs.YtliekadkahdghaaGreatDoor
open Go.ChangeMaps Go.ChangeShapes Go.WideShapes Go.ChangeAt Go.RowKit Go.Mv Go.Lib

theorem own_none : ownKnob Tryz.prog.godebug = none := by kernel_rfl
theorem ko_of {W : World} : (Tryz.E.X).KO (kOf W) := by
  rintro b q h
  exact h.elim

/-- A start that fits: the settled world, the two variables holding what their initialisers lay. -/
noncomputable def laidWorld (os : Os) : World :=
  let w0 := World.holding Tryz.prog os ⟨#[], #[], []⟩
  let put (h : Array Obj) (g : Nat) (cs : Array Value) : Array Obj := h.modify g fun
    | .cells _ t frozen => .cells cs t frozen
    | o => o
  let h1 := put w0.heap 0 (Lib.firstTab.map fun z => Value.int .u8 z).toArray
  let h2 := put h1 1 ((List.range 16).flatMap fun i => [Value.int .u8 (Lib.accLo i), Value.int .u8 (Lib.accHi i)]).toArray
  { w0 with heap := h2 }
theorem laid_met (os : Os) (args : Array Value) : laidMet Tryz.prog Rows.addressFormsRow.laid ((laidWorld os).forCall (fun _ _ => 0) ⟨#[], args, []⟩).memory :=
  (LaidIn.of_run (l := [("unicode/utf8.acceptRanges", Rows.laid_unicode_utf8_acceptRanges), ("unicode/utf8.first", Rows.laid_unicode_utf8_first)]) [1, 0] 8 (by kernel_rfl) (by kernel_rfl) (by kernel_rfl) (by kernel_rfl)).met
theorem laid_metH (os : Os) (args : Array Value) : laidMetH Tryz.prog Rows.addressFormsRow.laid ((laidWorld os).forCall (fun _ _ => 0) ⟨#[], args, []⟩).memory := laid_met os args
theorem laid_metE (os : Os) (args : Array Value) : laidMetH Tryz.prog Rows.addressEqualRow.laid ((laidWorld os).forCall (fun _ _ => 0) ⟨#[], args, []⟩).memory := laid_met os args
def zA : List Value := [.int .i64 0, .int .i64 0, .int .i64 0, .int .u8 0, .int .u64 0, .int .u64 0, .int .u64 0, .int .u64 0, .int .i64 0, .int .i64 0, .int .i64 0, .slice none 0 0]
def zR : Value := .agg (zA ++ zA ++ [Value.bool false]).toArray
def dA {H : Type} : DataW H := .agg [.lit (.int .i64 0), .lit (.int .i64 0), .agg [.lit (.int .i64 0), .lit (.int .u8 0), .agg [.lit (.int .u64 0), .lit (.int .u64 0), .lit (.int .u64 0), .lit (.int .u64 0)], .lit (.int .i64 0), .lit (.int .i64 0), .lit (.int .i64 0), .nil]]
def dR {H : Type} : DataW H := .agg [dA, dA, .lit (.bool false)]

theorem witness_forms (os : Os) {H : Type} (enc : TypeId × Value → H) :
    (OpenSpec.ofChange Rows.addressFormsSpec).preRow enc Tryz.prog Tryz.f4 Rows.addressFormsRow.domain false Rows.addressFormsRow.laid ((laidWorld os).forCall (fun _ _ => 0) ⟨#[], #[zR], []⟩).memory #[zR] := by
  have hw : (DataW.whole enc Tryz.prog ((laidWorld os).forCall (fun _ _ => 0) ⟨#[], #[zR], []⟩).memory Tryz.f4.params.toList (OpenSpec.ofChange Rows.addressFormsSpec).vars false #[zR].toList 12).map (fun x => (x.1, x.2.1)) =
      some ([dR], []) := by kernel_rfl
  obtain ⟨⟨x1, x2, x3⟩, hx, hx1⟩ := Option.map_eq_some_iff.1 hw
  simp only [Prod.mk.injEq] at hx1
  obtain ⟨rfl, rfl⟩ := hx1
  exact OpenSpec.preRow_of_cond 12 hx (by kernel_rfl) (fun k hk => by cases hk) (by kernel_rfl) (laid_metH os _)
theorem witness_equal (os : Os) {H : Type} (enc : TypeId × Value → H) :
    (OpenSpec.ofChange Rows.addressEqualSpec).preRow enc Tryz.prog Tryz.f3 Rows.addressEqualRow.domain false Rows.addressEqualRow.laid ((laidWorld os).forCall (fun _ _ => 0) ⟨#[], #[zR, zR], []⟩).memory #[zR, zR] := by
  have hw : (DataW.whole enc Tryz.prog ((laidWorld os).forCall (fun _ _ => 0) ⟨#[], #[zR, zR], []⟩).memory Tryz.f3.params.toList (OpenSpec.ofChange Rows.addressEqualSpec).vars false #[zR, zR].toList 12).map (fun x => (x.1, x.2.1)) =
      some ([dR, dR], []) := by kernel_rfl
  obtain ⟨⟨x1, x2, x3⟩, hx, hx1⟩ := Option.map_eq_some_iff.1 hw
  simp only [Prod.mk.injEq] at hx1
  obtain ⟨rfl, rfl⟩ := hx1
  exact OpenSpec.preRow_of_cond 12 hx (by kernel_rfl) (fun k hk => by cases hk) (by kernel_rfl) (laid_metE os _)
theorem laid_out : laidOutB Tryz.prog = true := by kernel_rfl
theorem stays {H : Type} {enc : TypeId × Value → H} {W W' : World} {v : Value} {d : DataW H} {ps : List MemPlace} {sp : Nat → Bool} (h : DataW.Trod enc Tryz.prog W 0 (fun _ => true) true 31 v d ps) (hb : Below W.heap.size W W') (hlt : ∀ x ∈ ps, x.block < W.heap.size) (hs : ∀ x ∈ ps, sp x.block = true) :
    DataW.Trod enc Tryz.prog W' 0 sp true 31 v d ps :=
  WideElems.Trod_stays laid_out (by kernel_rfl) (of_decide_eq_true (by kernel_rfl)) h (fun x hx => hb.same (hlt x hx)) hs

set_option maxRecDepth 100000 in
set_option maxHeartbeats 2000000 in
theorem addressForms_lifted (os : Os) (started : os.Started) (H : Type) (enc : TypeId × Value → H) (F : Stop.Interp) :
    ReturnsInHanded {} Tryz.checked os 4 .any ((OpenSpec.ofChange Rows.addressFormsSpec).preRow enc Tryz.prog Tryz.f4 Rows.addressFormsRow.domain false Rows.addressFormsRow.laid) (((OpenSpec.ofChange Rows.addressFormsSpec).at F).post enc Tryz.prog Tryz.f4 false true false false) := by
  refine returnsInHanded_of_row (C := Tryz.checked) (s := OpenSpec.ofChange Rows.addressFormsSpec) own_none started (by kernel_rfl) Tryz.func4
    (witness_row_atRef (enc := enc) (C := Tryz.checked) false (laidWorld os) #[zR] rfl (by kernel_rfl) (by kernel_rfl) (by kernel_rfl) (witness_forms os enc)) ?_
  intro W base args ds gs before hval0 hW _ _ _ hL hsh _
  have hval : ∀ (j : Nat) t v, Tryz.f4.params[j]? = some t → args[j]? = some v → Value.okWide Tryz.prog W .any base t v := hval0
  have hW' := hW
  obtain ⟨p, q, hA0, hV0, rfl, _, _⟩ := hW
  have hA : DataW.TrodAll enc Tryz.prog W 0 (fun _ => true) true Tryz.f4.params.toList args.toList ds p := hA0
  rw [Tryz.params4] at hA hval
  obtain ⟨v0, d0, rfl, rfl, h0⟩ := trodAll_one hA
  obtain ⟨rfl, rfl⟩ := trodVars_none hV0
  obtain ⟨k, m, x, k2, m2, y, b, hvr⟩ := Tryz.E.arg_rng (hval 0 31 v0 rfl rfl) h0
  clear hA0 hV0 hval0
  simp only [List.append_nil] at hW'
  have hlt : ∀ z ∈ p, z.block < W.heap.size := fun z hz => hW'.lt z hz
  refine (law_calls (C := Tryz.E.X) Tryz.E.X_ok rfl ko_of (args_list [.agg (Tryz.E.encG k m x k2 m2 y b)] [v0] ⟨hvr, trivial⟩) ((Tryz.E.w402 k m x k2 m2 y b 0 1 (by omega) s0 (und0 1)).wf rfl)).mono fun e W' ⟨he, hb⟩ => ?_
  subst he
  exact ⟨_, rfl, post_below (pa := p) (pv := []) hW' (fun _ _ _ => trodAll_mk1 (shut_bool Tryz.underlying4 true)) (fun sp hsp => trodAll_mk1 (stays h0 hb hlt fun z hz => hsp z hz)) (fun _ _ => rfl) (by simp) hb (ok_one (by kernel_rfl) rfl (okWide_bool_mk Tryz.underlying4 true))⟩

set_option maxRecDepth 100000 in
set_option maxHeartbeats 2000000 in
theorem addressEqual_lifted (os : Os) (started : os.Started) (H : Type) (enc : TypeId × Value → H) (F : Stop.Interp) :
    ReturnsInHanded {} Tryz.checked os 3 .any ((OpenSpec.ofChange Rows.addressEqualSpec).preRow enc Tryz.prog Tryz.f3 Rows.addressEqualRow.domain false Rows.addressEqualRow.laid) (((OpenSpec.ofChange Rows.addressEqualSpec).at F).post enc Tryz.prog Tryz.f3 false true false false) := by
  refine returnsInHanded_of_row (C := Tryz.checked) (s := OpenSpec.ofChange Rows.addressEqualSpec) own_none started (by kernel_rfl) Tryz.func3
    (witness_row_atRef (enc := enc) (C := Tryz.checked) false (laidWorld os) #[zR, zR] rfl (by kernel_rfl) (by kernel_rfl) (by kernel_rfl) (witness_equal os enc)) ?_
  intro W base args ds gs before hval0 hW _ _ _ hL hsh _
  have hval : ∀ (j : Nat) t v, Tryz.f3.params[j]? = some t → args[j]? = some v → Value.okWide Tryz.prog W .any base t v := hval0
  have hW' := hW
  obtain ⟨p, q, hA0, hV0, rfl, _, _⟩ := hW
  have hA : DataW.TrodAll enc Tryz.prog W 0 (fun _ => true) true Tryz.f3.params.toList args.toList ds p := hA0
  rw [Tryz.params3] at hA hval
  obtain ⟨v0, v1, d0, d1, p0, p1, rfl, rfl, rfl, h0, h1⟩ := trodAll_two hA
  obtain ⟨rfl, rfl⟩ := trodVars_none hV0
  obtain ⟨k, m, x, k2, m2, y, b, hvr⟩ := Tryz.E.arg_rng (hval 0 31 v0 rfl rfl) h0
  obtain ⟨k', m', x', k2', m2', y', b', hvr'⟩ := Tryz.E.arg_rng (hval 1 31 v1 rfl rfl) h1
  clear hA0 hV0 hval0
  simp only [List.append_nil] at hW'
  have hlt : ∀ z ∈ p0 ++ p1, z.block < W.heap.size := fun z hz => hW'.lt z hz
  refine (law_calls (C := Tryz.E.X) Tryz.E.X_ok rfl ko_of (args_list [.agg (Tryz.E.encG k m x k2 m2 y b), .agg (Tryz.E.encG k' m' x' k2' m2' y' b')] [v0, v1] ⟨hvr, hvr', trivial⟩) ((Tryz.E.w401 k m x k2 m2 y b k' m' x' k2' m2' y' b' 0 1 (by omega) s0 (und0 1)).wf rfl)).mono fun e W' ⟨he, hb⟩ => ?_
  subst he
  exact ⟨_, rfl, post_below (pa := p0 ++ p1) (pv := []) hW' (fun _ _ _ => trodAll_mk1 (shut_bool Tryz.underlying4 true))
    (fun sp hsp => trodAll_mk2 (stays h0 hb (fun z hz => hlt z (List.mem_append_left _ hz)) fun z hz => hsp z (List.mem_append_left _ hz)) (stays h1 hb (fun z hz => hlt z (List.mem_append_right _ hz)) fun z hz => hsp z (List.mem_append_right _ hz)))
    (fun _ _ => rfl) (by simp) hb (ok_one (by kernel_rfl) rfl (okWide_bool_mk Tryz.underlying4 true))⟩

theorem addressForms_holds : Rows.AddressFormsSaid :=
  OpenClaim.holds_of_cond 4 Tryz.f4 rfl rfl rfl rfl rfl rfl rfl ⟨rfl, rfl, rfl, rfl, rfl⟩ rfl rfl rfl rfl rfl (by kernel_rfl) Tryz.func4 (by kernel_rfl)
    (of_decide_eq_true (by kernel_rfl)) (by unfold Func.isWrapper; first | (rw [if_pos (by decide +kernel)]; kernel_rfl) | (rw [if_neg (by decide +kernel)]; exact ⟨rfl, rfl⟩))
    (fun os started H enc _ F0 => by rw [OpenClaim.pre_eq_preRow]; exact addressForms_lifted os started H enc F0)
theorem addressEqual_holds : Rows.AddressEqualSaid :=
  OpenClaim.holds_of_cond 3 Tryz.f3 rfl rfl rfl rfl rfl rfl rfl ⟨rfl, rfl, rfl, rfl, rfl⟩ rfl rfl rfl rfl rfl (by kernel_rfl) Tryz.func3 (by kernel_rfl)
    (of_decide_eq_true (by kernel_rfl)) (by unfold Func.isWrapper; first | (rw [if_pos (by decide +kernel)]; kernel_rfl) | (rw [if_neg (by decide +kernel)]; exact ⟨rfl, rfl⟩))
    (fun os started H enc _ F0 => by rw [OpenClaim.pre_eq_preRow]; exact addressEqual_lifted os started H enc F0)

theorem addressForms_card : Rows.AddressFormsCardSaid :=
  Claim7.holds_tied_plain_at .later [] [.data, .pinned] true (true, "be240d919f7c9bede77a0fff0cff5c82d96a1fbd9ec95081e8d94365caedeee3") false
    addressForms_holds (fun _ h => by cases h) (by kernel_rfl) (fun _ h => by cases h) addressForms_row_tie rfl ⟨rfl, rfl⟩ (by kernel_rfl) rfl
    (fun f fn hf hfn => by
      obtain rfl : f = 4 := Option.some.inj ((show Tryz.prog.funcNamed "redactor/redactorlaw14.AddressForms" = some 4 by kernel_rfl).symm.trans hf) |>.symm
      obtain rfl : fn = Tryz.f4 := (Option.some.inj (Tryz.func4.symm.trans hfn)).symm
      exact ⟨by kernel_rfl, fun j t ht => by
        rw [Tryz.params4] at ht
        have hm : t ∈ [31] := Array.mem_def.1 (Array.mem_of_getElem? ht)
        have hall : ([31].all fun u => !Tryz.prog.wantsStandIn u) = true := by kernel_rfl
        exact (show Tryz.prog.wantsStandIn t = false by simpa using List.all_eq_true.1 hall t hm)⟩)
    (by kernel_rfl)
theorem addressEqual_card : Rows.AddressEqualCardSaid :=
  Claim7.holds_tied_plain_at .later [] [.data, .pinned] true (true, "be240d919f7c9bede77a0fff0cff5c82d96a1fbd9ec95081e8d94365caedeee3") false
    addressEqual_holds (fun _ h => by cases h) (by kernel_rfl) (fun _ h => by cases h) addressEqual_row_tie rfl ⟨rfl, rfl⟩ (by kernel_rfl) rfl
    (fun f fn hf hfn => by
      obtain rfl : f = 3 := Option.some.inj ((show Tryz.prog.funcNamed "redactor/redactorlaw14.AddressEqual" = some 3 by kernel_rfl).symm.trans hf) |>.symm
      obtain rfl : fn = Tryz.f3 := (Option.some.inj (Tryz.func3.symm.trans hfn)).symm
      exact ⟨by kernel_rfl, fun j t ht => by
        rw [Tryz.params3] at ht
        have hm : t ∈ [31, 31] := Array.mem_def.1 (Array.mem_of_getElem? ht)
        have hall : ([31, 31].all fun u => !Tryz.prog.wantsStandIn u) = true := by kernel_rfl
        exact (show Tryz.prog.wantsStandIn t = false by simpa using List.all_eq_true.1 hall t hm)⟩)
    (by kernel_rfl)
end Go.Proofs.YtliekadkahdghaaGreatDoor
#print axioms Go.Proofs.YtliekadkahdghaaGreatDoor.addressForms_card
#print axioms Go.Proofs.YtliekadkahdghaaGreatDoor.addressEqual_card
