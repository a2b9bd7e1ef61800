/- Walks: what the functions compute. -/
import Derived.Test.YthmgjkngkhdjjaaGreatDoorV10
import Derived.Test.YthmgjkngkhdjjaaGreatDoorCards
import Derived.Test.YthmgjkngkhdjjaaGreatDoorTie
import Derived.ProofKit
import Derived.HandedShaped
import Derived.Shelf.Vars
import Derived.Lib.LaidIn
import Derived.Lib.LaidU8
import Derived.Lib.LaidU8T
import Derived.Lib.LaidTab
import Derived.Deep.DeepHandedRow
import Derived.Deep.DeepWitnessRowRef
import Derived.SizedLaws
import Derived.SevenTiedAt
set_option linter.unusedVariables false
set_option linter.unusedSimpArgs false
/- The law ShowAddress: any address that isn't formed is refused; what is shown of another one is read as it. The listed variables are tied by the card; no other condition. -/
namespace Go.Proofs.YthmgjkngkhdjjaaGreatDoor
open Go.ChangeMaps Go.ChangeShapes Go.WideShapes Go.ChangeAt Go.RowKit Go.Mv Go.Lib
theorem own_none : ownKnob Tryz.prog.godebug = none := by kernel_rfl
theorem ko_of {W : World} (h : W.ShapedOpen Tryz.prog) (hL : laidMet Tryz.prog Rows.showAddressRow.laid W) : (Tryz.E.X).KO (kOf W) := by
 rintro b q (⟨rfl, rfl⟩ | ⟨rfl, rfl⟩)
 ·obtain ⟨m, hm⟩ := Go.Proofs.cell_of_shapedOpen_int (g := 3) (t := 3) (k := .i64) (zero := #[.int .i64 0]) h (of_decide_eq_true (by kernel_rfl)) (by kernel_rfl) (by kernel_rfl) (by kernel_rfl) (by kernel_rfl) (by kernel_rfl)
  obtain ⟨cs, h1, h2, _⟩ := h.1 3 #[.int .i64 0] 3 (of_decide_eq_true (by kernel_rfl)) (by kernel_rfl)
  refine ⟨_, ⟨m, 3, (0, 0), rfl⟩, ?_⟩
  show W.heap[3]? = _
  rw [h1]
  rw [cell_of_cells h1] at hm
  obtain ⟨cs⟩ := cs
  match cs, h2 with
  | [v], _ => simp at hm; rw [hm]
 ·obtain ⟨g, t, cs, fuel, p, hg, hty, hvar, hd⟩ := laidMet.reads hL (n := "internal/strconv.uint64pow10") (d := Rows.laid_internal_strconv_uint64pow10) (by simp [Rows.showAddressRow])
  obtain rfl : g = 0 := Option.some.inj (hg.symm.trans (show Tryz.prog.globalNamed "internal/strconv.uint64pow10" = some 0 by kernel_rfl))
  have hb : ∃ e n, (Tryz.prog.globals[0]?).map (·.type) = some e ∧ Tryz.prog.underlying e = some (.array 20 n) ∧ Tryz.prog.underlying n = some (.int .u64) ∧ Tryz.prog.cellsOf n = 1 ∧ Tryz.prog.cellsOf e = 20 := ⟨131, 22, by kernel_rfl, by kernel_rfl, by kernel_rfl, by kernel_rfl, by kernel_rfl⟩
  obtain ⟨e, n, k1, k2, k3, k4, k5⟩ := hb
  obtain rfl := Option.some.inj (k1.symm.trans hty)
  have hcs := Lib.cells_of_tab (zs := Lib.pow10Tab) k2 k3 k4 k5 hd
  unfold World.var? at hvar
  rw [hg] at hvar
  simp only [Option.bind_some] at hvar
  split at hvar
  ·rename_i cs' t' i' hw
   cases hvar
   refine ⟨_, ⟨t', i', rfl⟩, ?_⟩
   show W.heap[0]? = _
   rw [hw, ← hcs]
  ·cases hvar
def tabOf : DataW Unit → List Value
 | .agg xs => xs.map fun
  | .lit (.int k z) => Value.int k z
  | _ => .int .i64 0
 | _ => []
noncomputable def laidWorld (os : Os) : World :=
 let w0 := World.holding Tryz.prog os ⟨#[], #[], []⟩
 let put (h : Array Obj) (g : Nat) (cs : Array Value) : Array Obj := h.modify g fun
  | .cells _ t frozen => .cells cs t frozen
  | o => o
 let h1 := put w0.heap 1 (tabOf Rows.laid_math_bits_deBruijn32tab).toArray
 let h2 := put h1 2 (tabOf Rows.laid_math_bits_deBruijn64tab).toArray
 let h3 := put h2 0 (tabOf Rows.laid_internal_strconv_uint64pow10).toArray
 let h4 := put h3 4 (Lib.firstTab.map fun z => Value.int .u8 z).toArray
 let h5 := put h4 5 ((List.range 16).flatMap fun i => [Value.int .u8 (Lib.accLo i), Value.int .u8 (Lib.accHi i)]).toArray
 { w0 with heap := h5 }
theorem laid_met (os : Os) (args : Array Value) : laidMet Tryz.prog Rows.showAddressRow.laid ((laidWorld os).forCall (fun _ _ => 0) ⟨#[], args, []⟩).memory :=
 (LaidIn.of_run (l := [("math/bits.deBruijn32tab", Rows.laid_math_bits_deBruijn32tab), ("math/bits.deBruijn64tab", Rows.laid_math_bits_deBruijn64tab), ("internal/strconv.uint64pow10", Rows.laid_internal_strconv_uint64pow10), ("unicode/utf8.acceptRanges", Rows.laid_unicode_utf8_acceptRanges), ("unicode/utf8.first", Rows.laid_unicode_utf8_first)]) [1, 2, 0, 5, 4] 8 (by kernel_rfl) (by kernel_rfl) (by kernel_rfl) (by kernel_rfl)).met
theorem laid_metH (os : Os) (args : Array Value) : laidMetH Tryz.prog Rows.showAddressRow.laid ((laidWorld os).forCall (fun _ _ => 0) ⟨#[], args, []⟩).memory := laid_met os args
def zA : Value := .agg #[.int .i64 0, .int .i64 0, .int .i64 0, .int .u8 0, .int .u64 0, .int .u64 0, .int .u64 0, .int .u64 0, .int .i64 0, .int .i64 0, .int .i64 0, .slice none 0 0]
def dA {H : Type} : DataW H := .agg [.lit (.int .i64 0), .lit (.int .i64 0), .agg [.lit (.int .i64 0), .lit (.int .u8 0), .agg [.lit (.int .u64 0), .lit (.int .u64 0), .lit (.int .u64 0), .lit (.int .u64 0)], .lit (.int .i64 0), .lit (.int .i64 0), .lit (.int .i64 0), .nil]]
theorem witness_show (os : Os) {H : Type} (enc : TypeId × Value → H) :
  (OpenSpec.ofChange Rows.showAddressSpec).preRow enc Tryz.prog Tryz.f3 Rows.showAddressRow.domain false Rows.showAddressRow.laid ((laidWorld os).forCall (fun _ _ => 0) ⟨#[], #[zA, .bool false], []⟩).memory #[zA, .bool false] := by
 have hw : (DataW.whole enc Tryz.prog ((laidWorld os).forCall (fun _ _ => 0) ⟨#[], #[zA, .bool false], []⟩).memory Tryz.f3.params.toList (OpenSpec.ofChange Rows.showAddressSpec).vars false #[zA, .bool false].toList 12).map (fun x => (x.1, x.2.1)) =
   some ([dA, .lit (.bool false)], []) := by kernel_rfl
 obtain ⟨⟨x1, x2, x3⟩, hx, hx1⟩ := Option.map_eq_some_iff.1 hw
 simp only [Prod.mk.injEq] at hx1
 obtain ⟨rfl, rfl⟩ := hx1
 exact OpenSpec.preRow_of_cond 12 hx (by kernel_rfl) (fun k hk => by cases hk) (by kernel_rfl) (laid_metH os _)
theorem laid_out : laidOutB Tryz.prog = true := by kernel_rfl
theorem stays {H : Type} {enc : TypeId × Value → H} {W W' : World} {v : Value} {d : DataW H} {ps : List MemPlace} {sp : Nat → Bool} (h : DataW.Trod enc Tryz.prog W 0 (fun _ => true) true 29 v d ps) (hb : Below W.heap.size W W') (hlt : ∀ x ∈ ps, x.block < W.heap.size) (hs : ∀ x ∈ ps, sp x.block = true) :
  DataW.Trod enc Tryz.prog W' 0 sp true 29 v d ps :=
 WideElems.Trod_stays laid_out (by kernel_rfl) (of_decide_eq_true (by kernel_rfl)) h (fun x hx => hb.same (hlt x hx)) hs
set_option maxRecDepth 100000 in
set_option maxHeartbeats 2000000 in
theorem showAddress_lifted (os : Os) (started : os.Started) (H : Type) (enc : TypeId × Value → H) (F : Stop.Interp) :
  ReturnsInHanded {} Tryz.checked os 3 .any ((OpenSpec.ofChange Rows.showAddressSpec).preRow enc Tryz.prog Tryz.f3 Rows.showAddressRow.domain false Rows.showAddressRow.laid) (((OpenSpec.ofChange Rows.showAddressSpec).at F).post enc Tryz.prog Tryz.f3 false true false false) := by
 refine returnsInHanded_of_row (C := Tryz.checked) (s := OpenSpec.ofChange Rows.showAddressSpec) own_none started (by kernel_rfl) Tryz.func3
  (witness_row_atRef (enc := enc) (C := Tryz.checked) false (laidWorld os) #[zA, .bool false] rfl (by kernel_rfl) (by kernel_rfl) (by kernel_rfl) (witness_show os enc)) ?_
 intro W base args ds gs before hval0 hW _ _ _ hL hsh _
 have hval : ∀ (j : Nat) t v, Tryz.f3.params[j]? = some t → args[j]? = some v → Value.okWide Tryz.prog W .any base t v := hval0
 have hW' := hW
 obtain ⟨p, q, hA0, hV0, rfl, _, _⟩ := hW
 have hA : DataW.TrodAll enc Tryz.prog W 0 (fun _ => true) true Tryz.f3.params.toList args.toList ds p := hA0
 rw [Tryz.params3] at hA hval
 obtain ⟨v0, v1, d0, d1, p0, p1, rfl, rfl, rfl, h0, h1⟩ := trodAll_two hA
 obtain ⟨rfl, rfl⟩ := trodVars_none hV0
 obtain ⟨k, m, x, hx, hvr⟩ := Tryz.E.arg_adr (hval 0 29 v0 rfl rfl) h0
 obtain ⟨c, rfl, rfl, rfl⟩ := open_bool Tryz.underlying4 (hval 1 4 v1 rfl rfl) h1
 clear hA0 hV0 hval0
 simp only [List.append_nil] at hW'
 have hlt : ∀ z ∈ p0, z.block < W.heap.size := fun z hz => hW'.lt z hz
 refine (law_calls (C := Tryz.E.X) Tryz.E.X_ok rfl (ko_of hsh hL) (args_list [.agg (Tryz.E.encA k m x), .bool c] [v0, .bool c] ⟨hvr, .bool _, trivial⟩) ((Tryz.E.w701 c k m x hx 0 1 rfl rfl).wf rfl)).mono fun e W' ⟨he, hb⟩ => ?_
 subst he
 exact ⟨_, rfl, post_below (pa := p0) (pv := []) hW' (fun _ _ _ => trodAll_mk1 (shut_bool Tryz.underlying4 true))
  (fun sp hsp => by
   have := trodAll_mk2 (stays h0 hb hlt fun z hz => hsp z hz) (shut_bool Tryz.underlying4 c)
   rw [List.append_nil] at this
   exact this)
  (fun _ _ => rfl) (by simp) hb (ok_one (by kernel_rfl) rfl (okWide_bool_mk Tryz.underlying4 true))⟩
theorem showAddress_holds : Rows.ShowAddressSaid :=
 OpenClaim.holds_of_cond 3 Tryz.f3 rfl rfl rfl rfl rfl rfl rfl ⟨rfl, rfl, rfl, rfl, rfl⟩ rfl rfl rfl rfl rfl (by kernel_rfl) Tryz.func3 (by kernel_rfl)
  (of_decide_eq_true (by kernel_rfl)) (by unfold Func.isWrapper; first | (rw [if_pos (by decide +kernel)]; kernel_rfl) | (rw [if_neg (by decide +kernel)]; exact ⟨rfl, rfl⟩))
  (fun os started H enc _ F0 => by rw [OpenClaim.pre_eq_preRow]; exact showAddress_lifted os started H enc F0)
theorem showAddress_card : Rows.ShowAddressCardSaid :=
 Claim7.holds_tied_plain_at .later [] [.data, .data, .data, .data, .pinned] true (true, "8b45b31e1d5145f4aadd22df989294a103a58f44b6b5c62f7c6f8c8796820184") false
  showAddress_holds (fun _ h => by cases h) (by kernel_rfl) (fun _ h => by cases h) showAddress_row_tie rfl ⟨rfl, rfl⟩ (by kernel_rfl) rfl
  (fun f fn hf hfn => by
   obtain rfl : f = 3 := Option.some.inj ((show Tryz.prog.funcNamed "redactor/redactorlaw17.ShowAddress" = some 3 by kernel_rfl).symm.trans hf) |>.symm
   obtain rfl : fn = Tryz.f3 := (Option.some.inj (Tryz.func3.symm.trans hfn)).symm
   exact ⟨by kernel_rfl, fun j t ht => by
    rw [Tryz.params3] at ht
    have hm : t ∈ [29, 4] := Array.mem_def.1 (Array.mem_of_getElem? ht)
    have hall : ([29, 4].all fun u => !Tryz.prog.wantsStandIn u) = true := by kernel_rfl
    exact (show Tryz.prog.wantsStandIn t = false by simpa using List.all_eq_true.1 hall t hm)⟩)
  (by kernel_rfl)
end Go.Proofs.YthmgjkngkhdjjaaGreatDoor
#print axioms Go.Proofs.YthmgjkngkhdjjaaGreatDoor.showAddress_card
