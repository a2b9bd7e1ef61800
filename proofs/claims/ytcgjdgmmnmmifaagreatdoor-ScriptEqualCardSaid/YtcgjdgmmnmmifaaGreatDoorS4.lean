/- Walks: what the functions compute. -/
import Derived.Test.YtcgjdgmmnmmifaaGreatDoorS3
import Derived.Test.YtcgjdgmmnmmifaaGreatDoorCards
import Derived.Test.YtcgjdgmmnmmifaaGreatDoorTie
import Derived.ProofKit
import Derived.HandedShaped
import Derived.Shelf.Vars
import Derived.Lib.LaidIn
import Derived.Lib.LaidU8T
import Derived.Deep.DeepHandedRow
import Derived.Deep.DeepWitnessRowRef
import Derived.SizedLaws
import Derived.SevenTiedAt
set_option linter.unusedVariables false
set_option linter.unusedSimpArgs false
/- The law ScriptEqual: two scripts are told to be alike just if all of both, but places, is alike. The listed variables are tied by the card; no other condition. -/
namespace Go.Proofs.YtcgjdgmmnmmifaaGreatDoor
open Go.ChangeMaps Go.ChangeShapes Go.WideShapes Go.ChangeAt Go.RowKit Go.Mv Go.Lib

theorem own_none : ownKnob Tryz.prog.godebug = none := by kernel_rfl
theorem ko_of {W : World} (h : W.ShapedOpen Tryz.prog) : (Tryz.E.X).KO (kOf W) := by
  rintro b q ⟨rfl, rfl⟩
  obtain ⟨m, hm⟩ := Go.Proofs.cell_of_shapedOpen_int (g := 0) (t := 3) (k := .i64) (zero := #[.int .i64 0]) h (of_decide_eq_true (by kernel_rfl)) (by kernel_rfl) (by kernel_rfl) (by kernel_rfl) (by kernel_rfl) (by kernel_rfl)
  obtain ⟨cs, h1, h2, _⟩ := h.1 0 #[.int .i64 0] 3 (of_decide_eq_true (by kernel_rfl)) (by kernel_rfl)
  refine ⟨_, ⟨m, 3, (0, 0), rfl⟩, ?_⟩
  show W.heap[0]? = _
  rw [h1]
  rw [cell_of_cells h1] at hm
  obtain ⟨cs⟩ := cs
  match cs, h2 with
  | [v], _ => simp at hm; rw [hm]

/-- A start that fits: the settled world, the two variables holding what their initialisers lay. -/
noncomputable def laidWorld (os : Os) : World :=
  let w0 := World.holding Tryz.prog os ⟨#[], #[], []⟩
  let put (h : Array Obj) (g : Nat) (cs : Array Value) : Array Obj := h.modify g fun
    | .cells _ t frozen => .cells cs t frozen
    | o => o
  let h1 := put w0.heap 1 (Lib.firstTab.map fun z => Value.int .u8 z).toArray
  let h2 := put h1 2 ((List.range 16).flatMap fun i => [Value.int .u8 (Lib.accLo i), Value.int .u8 (Lib.accHi i)]).toArray
  { w0 with heap := h2 }
theorem laid_met (os : Os) (args : Array Value) : laidMet Tryz.prog Rows.scriptEqualRow.laid ((laidWorld os).forCall (fun _ _ => 0) ⟨#[], args, []⟩).memory :=
  (LaidIn.of_run (l := [("unicode/utf8.acceptRanges", Rows.laid_unicode_utf8_acceptRanges), ("unicode/utf8.first", Rows.laid_unicode_utf8_first)]) [2, 1] 8 (by kernel_rfl) (by kernel_rfl) (by kernel_rfl) (by kernel_rfl)).met
theorem laid_metH (os : Os) (args : Array Value) : laidMetH Tryz.prog Rows.scriptEqualRow.laid ((laidWorld os).forCall (fun _ _ => 0) ⟨#[], args, []⟩).memory := laid_met os args
def zS : Value := .agg #[.bool false, .slice none 0 0]
def dS {H : Type} : DataW H := .agg [.lit (.bool false), .nil]

theorem witness_equal (os : Os) {H : Type} (enc : TypeId × Value → H) :
    (OpenSpec.ofChange Rows.scriptEqualSpec).preRow enc Tryz.prog Tryz.f5 Rows.scriptEqualRow.domain false Rows.scriptEqualRow.laid ((laidWorld os).forCall (fun _ _ => 0) ⟨#[], #[zS, zS], []⟩).memory #[zS, zS] := by
  have hw : (DataW.whole enc Tryz.prog ((laidWorld os).forCall (fun _ _ => 0) ⟨#[], #[zS, zS], []⟩).memory Tryz.f5.params.toList (OpenSpec.ofChange Rows.scriptEqualSpec).vars false #[zS, zS].toList 14).map (fun x => (x.1, x.2.1)) =
      some ([dS, dS], []) := by kernel_rfl
  obtain ⟨⟨x1, x2, x3⟩, hx, hx1⟩ := Option.map_eq_some_iff.1 hw
  simp only [Prod.mk.injEq] at hx1
  obtain ⟨rfl, rfl⟩ := hx1
  exact OpenSpec.preRow_of_cond 14 hx (by kernel_rfl) (fun k hk => by cases hk) (by kernel_rfl) (laid_metH os _)
theorem laid_out : laidOutB Tryz.prog = true := by kernel_rfl
theorem stays {H : Type} {enc : TypeId × Value → H} {W W' : World} {v : Value} {d : DataW H} {ps : List MemPlace} {sp : Nat → Bool} (h : DataW.Trod enc Tryz.prog W 0 (fun _ => true) true 50 v d ps) (hb : Below W.heap.size W W') (hlt : ∀ x ∈ ps, x.block < W.heap.size) (hs : ∀ x ∈ ps, sp x.block = true) :
    DataW.Trod enc Tryz.prog W' 0 sp true 50 v d ps :=
  WideElems.Trod_stays laid_out (by kernel_rfl) (of_decide_eq_true (by kernel_rfl)) h (fun x hx => hb.same (hlt x hx)) hs

set_option maxRecDepth 100000 in
set_option maxHeartbeats 2000000 in
theorem scriptEqual_lifted (os : Os) (started : os.Started) (H : Type) (enc : TypeId × Value → H) (F : Stop.Interp) :
    ReturnsInHanded {} Tryz.checked os 5 .any ((OpenSpec.ofChange Rows.scriptEqualSpec).preRow enc Tryz.prog Tryz.f5 Rows.scriptEqualRow.domain false Rows.scriptEqualRow.laid) (((OpenSpec.ofChange Rows.scriptEqualSpec).at F).post enc Tryz.prog Tryz.f5 false true false false) := by
  refine returnsInHanded_of_row (C := Tryz.checked) (s := OpenSpec.ofChange Rows.scriptEqualSpec) own_none started (by kernel_rfl) Tryz.func5
    (witness_row_atRef (enc := enc) (C := Tryz.checked) false (laidWorld os) #[zS, zS] rfl (by kernel_rfl) (by kernel_rfl) (by kernel_rfl) (witness_equal os enc)) ?_
  intro W base args ds gs before hval0 hW _ _ _ hL hsh _
  have hval : ∀ (j : Nat) t v, Tryz.f5.params[j]? = some t → args[j]? = some v → Value.okWide Tryz.prog W .any base t v := hval0
  have hW' := hW
  obtain ⟨p, q, hA0, hV0, rfl, _, _⟩ := hW
  have hA : DataW.TrodAll enc Tryz.prog W 0 (fun _ => true) true Tryz.f5.params.toList args.toList ds p := hA0
  rw [Tryz.params5] at hA hval
  obtain ⟨v0, v1, d0, d1, p0, p1, rfl, rfl, rfl, h0, h1⟩ := trodAll_two hA
  obtain ⟨rfl, rfl⟩ := trodVars_none hV0
  obtain ⟨qa, la, hva⟩ := Tryz.E.arg_scr (hval 0 50 v0 rfl rfl) h0
  obtain ⟨qb, lb, hvb⟩ := Tryz.E.arg_scr (hval 1 50 v1 rfl rfl) h1
  clear hA0 hV0 hval0
  simp only [List.append_nil] at hW'
  have hlt : ∀ z ∈ p0 ++ p1, z.block < W.heap.size := fun z hz => hW'.lt z hz
  refine (law_calls (C := Tryz.E.X) Tryz.E.X_ok rfl (ko_of hsh) (args_list [.agg (Tryz.E.encSc qa la), .agg (Tryz.E.encSc qb lb)] [v0, v1] ⟨hva, hvb, trivial⟩) ((Tryz.E.w711 qa qb la lb 0 1 rfl rfl).wf rfl)).mono fun e W' ⟨he, hb⟩ => ?_
  subst he
  exact ⟨_, rfl, post_below (pa := p0 ++ p1) (pv := []) hW' (fun _ _ _ => trodAll_mk1 (shut_bool Tryz.underlying4 true))
    (fun sp hsp => by
      have := trodAll_mk2 (stays h0 hb (fun z hz => hlt z (List.mem_append_left _ hz)) fun z hz => hsp z (List.mem_append_left _ hz)) (stays h1 hb (fun z hz => hlt z (List.mem_append_right _ hz)) fun z hz => hsp z (List.mem_append_right _ hz))
      exact this)
    (fun _ _ => rfl) (by simp) hb (ok_one (by kernel_rfl) rfl (okWide_bool_mk Tryz.underlying4 true))⟩

theorem scriptEqual_holds : Rows.ScriptEqualSaid :=
  OpenClaim.holds_of_cond 5 Tryz.f5 rfl rfl rfl rfl rfl rfl rfl ⟨rfl, rfl, rfl, rfl, rfl⟩ rfl rfl rfl rfl rfl (by kernel_rfl) Tryz.func5 (by kernel_rfl)
    (of_decide_eq_true (by kernel_rfl)) (by unfold Func.isWrapper; first | (rw [if_pos (by decide +kernel)]; kernel_rfl) | (rw [if_neg (by decide +kernel)]; exact ⟨rfl, rfl⟩))
    (fun os started H enc _ F0 => by rw [OpenClaim.pre_eq_preRow]; exact scriptEqual_lifted os started H enc F0)

theorem scriptEqual_card : Rows.ScriptEqualCardSaid :=
  Claim7.holds_tied_plain_at .later [] [.data, .pinned] true (true, "6ffc969b5ba0a86f4eeed9d91f347b5c862308c0c36feb7d8f9b2109a060de6b") false
    scriptEqual_holds (fun _ h => by cases h) (by kernel_rfl) (fun _ h => by cases h) scriptEqual_row_tie rfl ⟨rfl, rfl⟩ (by kernel_rfl) rfl
    (fun f fn hf hfn => by
      obtain rfl : f = 5 := Option.some.inj ((show Tryz.prog.funcNamed "redactor/redactorlaw16.ScriptEqual" = some 5 by kernel_rfl).symm.trans hf) |>.symm
      obtain rfl : fn = Tryz.f5 := (Option.some.inj (Tryz.func5.symm.trans hfn)).symm
      exact ⟨by kernel_rfl, fun j t ht => by
        rw [Tryz.params5] at ht
        have hm : t ∈ [50, 50] := Array.mem_def.1 (Array.mem_of_getElem? ht)
        have hall : ([50, 50].all fun u => !Tryz.prog.wantsStandIn u) = true := by kernel_rfl
        exact (show Tryz.prog.wantsStandIn t = false by simpa using List.all_eq_true.1 hall t hm)⟩)
    (by kernel_rfl)
end Go.Proofs.YtcgjdgmmnmmifaaGreatDoor
#print axioms Go.Proofs.YtcgjdgmmnmmifaaGreatDoor.scriptEqual_card
