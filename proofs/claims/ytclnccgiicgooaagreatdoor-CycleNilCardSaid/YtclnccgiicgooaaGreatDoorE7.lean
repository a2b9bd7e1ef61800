/- Walks: what the functions compute. -/
import Derived.Test.YtclnccgiicgooaaGreatDoorE6
set_option linter.unusedVariables false
set_option linter.unusedSimpArgs false
/- Guarded operations: their results under the guard, with one way on. -/
namespace Go.Proofs.Tryz.E
open Go.Mv
def gm (b : Bool) (v : MV) : MV := if b = true then v else .undef
def gvO (b : Bool) (r : Option MV) : Option MV := if b = true then r else some .undef
section
variable {C : Cfg} {lim d : Nat} {a : Nat → MV} {σ : Sto} {Q : (Nat → MV) → Sto → Prop} {l : List Oper} {b : Bool} {ops : Array Oper} {dst : Option Tmp} {op : Op} {ty : TypeId} {pos : String} {aft : Array Edge} {j : Nat} {w : Bool} {P : Program} {t : TypeId} {x y v : MV} {e : TypeId → Option (List Sh)}
@[go_sem] theorem gv_some : gvO b (some v) = some (gm b v) := by cases b <;> rfl
@[go_sem] theorem gv_ld : gvO b (ldO P σ t (gm b x)) = gvO b (ldO P σ t x) := by cases b <;> rfl
@[go_sem] theorem gv_fa {f : Nat} : gvO b (faO P t f (gm b x)) = gvO b (faO P t f x) := by cases b <;> rfl
@[go_sem] theorem gv_nil : gvO b (nilO (gm b x)) = gvO b (nilO x) := by cases b <;> rfl
@[go_sem] theorem gv_bin1 {o : BinOp} : gvO b (binO P e o t (gm b x) y) = gvO b (binO P e o t x y) := by cases b <;> rfl
@[go_sem] theorem gv_bin2 {o : BinOp} : gvO b (binO P e o t x (gm b y)) = gvO b (binO P e o t x y) := by cases b <;> rfl
@[go_sem] theorem gv_ia1 : gvO b (iaO P t (gm b x) y) = gvO b (iaO P t x y) := by cases b <;> rfl
@[go_sem] theorem gv_ia2 : gvO b (iaO P t x (gm b y)) = gvO b (iaO P t x y) := by cases b <;> rfl
@[go_sem] theorem gv_ix1 : gvO b (ixO P t (gm b x) y) = gvO b (ixO P t x y) := by cases b <;> rfl
@[go_sem] theorem gv_ix2 : gvO b (ixO P t x (gm b y)) = gvO b (ixO P t x y) := by cases b <;> rfl
@[go_sem] theorem gv_len : gvO b (lenO P t (gm b x)) = gvO b (lenO P t x) := by cases b <;> rfl
@[go_sem] theorem gv_un {o : UnOp} : gvO b (unO o (gm b x)) = gvO b (unO o x) := by cases b <;> rfl
@[go_sem] theorem gv_pk {z : MV} : gvO b (pickO (gm b x) y z) = gvO b (pickO x y z) := by cases b <;> rfl
@[go_sem] theorem gv_pkt {p : Bool} : gvO b (pickO (.bool p) (gm (b && p) x) y) = some (gm b (if p = true then x else y)) := by cases b <;> cases p <;> rfl
@[go_sem] theorem gv_pkf {p : Bool} : gvO b (pickO (.bool p) x (gm (b && (p == false)) y)) = some (gm b (if p = true then x else y)) := by cases b <;> cases p <;> rfl
@[go_sem] theorem pick_gf : pickO (.bool b) x (gm (b == false) y) = some (if b = true then x else y) := by cases b <;> rfl
@[go_sem] theorem gm_t : gm true x = x := rfl
@[go_sem] theorem gm_f : gm false x = .undef := rfl
@[go_sem] theorem gvO_t {r : Option MV} : gvO true r = r := rfl
@[go_sem] theorem gvO_f {r : Option MV} : gvO false r = some .undef := rfl
@[go_sem] theorem gm_ift {p : Bool} : gm b (if p = true then gm (b && p) x else y) = gm b (if p = true then x else y) := by cases b <;> cases p <;> rfl
@[go_sem] theorem gm_iff {p : Bool} : gm b (if p = true then x else gm (b && (p == false)) y) = gm b (if p = true then x else y) := by cases b <;> cases p <;> rfl
@[go_sem] theorem ite_gf : (if b = true then x else gm (b == false) y) = if b = true then x else y := by cases b <;> rfl
@[go_sem] theorem ite_ift {p : Bool} : (if b = true then (if p = true then gm (b && p) x else y) else v) = if b = true then (if p = true then x else y) else v := by cases b <;> cases p <;> rfl
@[go_sem] theorem ite_iff {p : Bool} : (if b = true then (if p = true then x else gm (b && (p == false)) y) else v) = if b = true then (if p = true then x else y) else v := by cases b <;> cases p <;> rfl
@[go_sem] theorem ite2_ift {p : Bool} : (if b = true then v else (if p = true then gm ((b == false) && p) x else y)) = if b = true then v else (if p = true then x else y) := by cases b <;> cases p <;> rfl
@[go_sem] theorem ite2_iff {p : Bool} : (if b = true then v else (if p = true then x else gm ((b == false) && (p == false)) y)) = if b = true then v else (if p = true then x else y) := by cases b <;> cases p <;> rfl
@[go_sem] theorem gm_gm : gm b (gm b x) = gm b x := by cases b <;> rfl
@[go_sem] theorem pick_gm : pickO (.bool b) (gm b x) y = some (if b = true then x else y) := by cases b <;> rfl
@[go_sem] theorem ite_gm : (if b = true then gm b x else y) = if b = true then x else y := by cases b <;> rfl
@[go_sem] theorem gd_gm (p : Bool) : gdO w (gm b (.bool p)) = some (if b = true then p == w else false) := by cases b <;> rfl
@[go_sem] theorem gd_true (p : Bool) : (p == true) = p := by cases p <;> rfl
@[go_sem] theorem and_ite (p : Bool) : (if b = true then p else false) = (b && p) := by cases b <;> rfl
theorem WO_gp {r : Option MV} (h : ∀ call : Mv.Call, evOp C call lim d a ⟨dst, op, ty, pos, aft, some (j, w)⟩ σ = r.map fun v => (v, σ)) : WO C lim d ops (⟨dst, op, ty, pos, aft, some (j, w)⟩ :: l) a σ Q ↔
    Opt (gdT ops a j w) fun b => Opt (gvO b r) fun v => WO C lim d ops l (putD a dst v) σ Q := by
  rw [WO_guard]
  refine exists_congr fun b => and_congr Iff.rfl ?_
  cases b
  · simp [gvO, Opt]
  · rw [W1_of h]
    simp only [gvO, if_true, Opt_map]
section
variable {s : TypeId} {p q : Operand}
@[go_sem] theorem g_load : WO C lim d ops (⟨dst, .load s p, ty, pos, aft, some (j, w)⟩ :: l) a σ Q ↔ Opt (gdT ops a j w) fun b => Opt (gvO b (ldO C.P σ s (valO a p))) fun v => WO C lim d ops l (putD a dst v) σ Q := WO_gp fun _ => rfl
@[go_sem] theorem g_fa {f : Nat} : WO C lim d ops (⟨dst, .fieldAddr s p f, ty, pos, aft, some (j, w)⟩ :: l) a σ Q ↔ Opt (gdT ops a j w) fun b => Opt (gvO b (faO C.P s f (valO a p))) fun v => WO C lim d ops l (putD a dst v) σ Q := WO_gp fun _ => rfl
@[go_sem] theorem g_bin {o : BinOp} {s' : TypeId} : WO C lim d ops (⟨dst, .binOp o s p q s', ty, pos, aft, some (j, w)⟩ :: l) a σ Q ↔ Opt (gdT ops a j w) fun b => Opt (gvO b (binO C.P C.eqT o s (valO a p) (valO a q))) fun v => WO C lim d ops l (putD a dst v) σ Q := WO_gp fun _ => rfl
@[go_sem] theorem g_ia : WO C lim d ops (⟨dst, .indexAddr s p q, ty, pos, aft, some (j, w)⟩ :: l) a σ Q ↔ Opt (gdT ops a j w) fun b => Opt (gvO b (iaO C.P s (valO a p) (valO a q))) fun v => WO C lim d ops l (putD a dst v) σ Q := WO_gp fun _ => rfl
@[go_sem] theorem g_ix : WO C lim d ops (⟨dst, .index s p q, ty, pos, aft, some (j, w)⟩ :: l) a σ Q ↔ Opt (gdT ops a j w) fun b => Opt (gvO b (ixO C.P s (valO a p) (valO a q))) fun v => WO C lim d ops l (putD a dst v) σ Q := WO_gp fun _ => rfl
@[go_sem] theorem g_move : WO C lim d ops (⟨dst, .move p, ty, pos, aft, some (j, w)⟩ :: l) a σ Q ↔ Opt (gdT ops a j w) fun b => Opt (gvO b (some (valO a p))) fun v => WO C lim d ops l (putD a dst v) σ Q := WO_gp fun _ => rfl
@[go_sem] theorem g_len : WO C lim d ops (⟨dst, .call ⟨.builtin .len, #[p], #[s]⟩, ty, pos, aft, some (j, w)⟩ :: l) a σ Q ↔ Opt (gdT ops a j w) fun b => Opt (gvO b (lenO C.P s (valO a p))) fun v => WO C lim d ops l (putD a dst v) σ Q := WO_gp fun _ => rfl
@[go_sem] theorem g_pick {r : Operand} : WO C lim d ops (⟨dst, .pick p q r, ty, pos, aft, some (j, w)⟩ :: l) a σ Q ↔ Opt (gdT ops a j w) fun b => Opt (gvO b (pickO (valO a p) (valO a q) (valO a r))) fun v => WO C lim d ops l (putD a dst v) σ Q := WO_gp fun _ => by
  unfold pickO
  simp only [evOp]
  cases valO a p <;> rfl
@[go_sem] theorem g_un {o : UnOp} : WO C lim d ops (⟨dst, .unOp o s p, ty, pos, aft, some (j, w)⟩ :: l) a σ Q ↔ Opt (gdT ops a j w) fun b => Opt (gvO b (unO o (valO a p))) fun v => WO C lim d ops l (putD a dst v) σ Q := WO_gp fun _ => rfl
@[go_sem] theorem g_nil : WO C lim d ops (⟨dst, .nilCheck p, ty, pos, aft, some (j, w)⟩ :: l) a σ Q ↔ Opt (gdT ops a j w) fun b => Opt (gvO b (nilO (valO a p))) fun v => WO C lim d ops l (putD a dst v) σ Q := WO_gp fun _ => by
  simp only [evOp, nilO]
  cases valO a p <;> rfl
end
end
section
variable {C : Cfg} {lim d : Nat} {a : Nat → MV} {σ : Sto} {Q : (Nat → MV) → Sto → Prop} {l news : List Oper} {ops : Array Oper} {dst : Option Tmp} {op : Op} {ty : TypeId} {pos : String} {aft : Array Edge} {j : Nat} {w : Bool} {s : TypeId} {p q : Operand}
theorem WR_gp {r : Option MV} (ht : isTail ⟨dst, op, ty, pos, aft, some (j, w)⟩ = false) (hn : isNew ⟨dst, op, ty, pos, aft, some (j, w)⟩ = false) (hn' : isNew ⟨dst, op, ty, pos, aft, none⟩ = false) (ht' : isTail ⟨dst, op, ty, pos, aft, none⟩ = false)
    (hf : ∀ call : Mv.Call, evFree C call d a ⟨dst, op, ty, pos, aft, some (j, w)⟩ σ = r) (hf' : ∀ call : Mv.Call, evFree C call d a ⟨dst, op, ty, pos, aft, none⟩ σ = r) : WR C lim d ops news (⟨dst, op, ty, pos, aft, some (j, w)⟩ :: l) a σ Q ↔
    Opt (gdT ops a j w) fun b => Opt (gvO b r) fun v => WR C lim d ops news l (putD a dst v) σ Q := by
  rw [WR_gd ht hn hn' ht' fun call => (hf call).trans (hf' call).symm]
  refine exists_congr fun b => and_congr Iff.rfl ?_
  cases b
  · simp [gvO, Opt]
  · simp only [if_true, gvO]
    exact WR_op ht' hn' rfl hf'
@[go_sem] theorem wr_load : WR C lim d ops news (⟨dst, .load s p, ty, pos, aft, some (j, w)⟩ :: l) a σ Q ↔ Opt (gdT ops a j w) fun b => Opt (gvO b (ldO C.P σ s (valO a p))) fun v => WR C lim d ops news l (putD a dst v) σ Q := WR_gp rfl rfl rfl rfl (fun _ => map_fst _) (fun _ => map_fst _)
@[go_sem] theorem wr_fa {f : Nat} : WR C lim d ops news (⟨dst, .fieldAddr s p f, ty, pos, aft, some (j, w)⟩ :: l) a σ Q ↔ Opt (gdT ops a j w) fun b => Opt (gvO b (faO C.P s f (valO a p))) fun v => WR C lim d ops news l (putD a dst v) σ Q := WR_gp rfl rfl rfl rfl (fun _ => map_fst _) (fun _ => map_fst _)
@[go_sem] theorem wr_fd {f : Nat} : WR C lim d ops news (⟨dst, .field s p f, ty, pos, aft, some (j, w)⟩ :: l) a σ Q ↔ Opt (gdT ops a j w) fun b => Opt (gvO b (fdO C.P s f (valO a p))) fun v => WR C lim d ops news l (putD a dst v) σ Q := WR_gp rfl rfl rfl rfl (fun _ => map_fst _) (fun _ => map_fst _)
@[go_sem] theorem wr_bin {o : BinOp} {s' : TypeId} : WR C lim d ops news (⟨dst, .binOp o s p q s', ty, pos, aft, some (j, w)⟩ :: l) a σ Q ↔ Opt (gdT ops a j w) fun b => Opt (gvO b (binO C.P C.eqT o s (valO a p) (valO a q))) fun v => WR C lim d ops news l (putD a dst v) σ Q := WR_gp rfl rfl rfl rfl (fun _ => map_fst _) (fun _ => map_fst _)
@[go_sem] theorem wr_un {o : UnOp} : WR C lim d ops news (⟨dst, .unOp o s p, ty, pos, aft, some (j, w)⟩ :: l) a σ Q ↔ Opt (gdT ops a j w) fun b => Opt (gvO b (unO o (valO a p))) fun v => WR C lim d ops news l (putD a dst v) σ Q := WR_gp rfl rfl rfl rfl (fun _ => map_fst _) (fun _ => map_fst _)
@[go_sem] theorem wr_ia : WR C lim d ops news (⟨dst, .indexAddr s p q, ty, pos, aft, some (j, w)⟩ :: l) a σ Q ↔ Opt (gdT ops a j w) fun b => Opt (gvO b (iaO C.P s (valO a p) (valO a q))) fun v => WR C lim d ops news l (putD a dst v) σ Q := WR_gp rfl rfl rfl rfl (fun _ => map_fst _) (fun _ => map_fst _)
@[go_sem] theorem wr_ix : WR C lim d ops news (⟨dst, .index s p q, ty, pos, aft, some (j, w)⟩ :: l) a σ Q ↔ Opt (gdT ops a j w) fun b => Opt (gvO b (ixO C.P s (valO a p) (valO a q))) fun v => WR C lim d ops news l (putD a dst v) σ Q := WR_gp rfl rfl rfl rfl (fun _ => map_fst _) (fun _ => map_fst _)
@[go_sem] theorem wr_move : WR C lim d ops news (⟨dst, .move p, ty, pos, aft, some (j, w)⟩ :: l) a σ Q ↔ Opt (gdT ops a j w) fun b => Opt (gvO b (some (valO a p))) fun v => WR C lim d ops news l (putD a dst v) σ Q := WR_gp rfl rfl rfl rfl (fun _ => rfl) (fun _ => rfl)
@[go_sem] theorem wr_len : WR C lim d ops news (⟨dst, .call ⟨.builtin .len, #[p], #[s]⟩, ty, pos, aft, some (j, w)⟩ :: l) a σ Q ↔ Opt (gdT ops a j w) fun b => Opt (gvO b (lenO C.P s (valO a p))) fun v => WR C lim d ops news l (putD a dst v) σ Q := WR_gp rfl rfl rfl rfl (fun _ => map_fst _) (fun _ => map_fst _)
@[go_sem] theorem wr_nil : WR C lim d ops news (⟨dst, .nilCheck p, ty, pos, aft, some (j, w)⟩ :: l) a σ Q ↔ Opt (gdT ops a j w) fun b => Opt (gvO b (nilO (valO a p))) fun v => WR C lim d ops news l (putD a dst v) σ Q := WR_gp rfl rfl rfl rfl (fun _ => (by simp only [evFree, evOp, nilO]; cases valO a p <;> rfl)) (fun _ => (by simp only [evFree, evOp, nilO]; cases valO a p <;> rfl))
@[go_sem] theorem wr_pick {r : Operand} : WR C lim d ops news (⟨dst, .pick p q r, ty, pos, aft, some (j, w)⟩ :: l) a σ Q ↔ Opt (gdT ops a j w) fun b => Opt (gvO b (pickO (valO a p) (valO a q) (valO a r))) fun v => WR C lim d ops news l (putD a dst v) σ Q := WR_gp rfl rfl rfl rfl (fun _ => (by simp only [evFree, evOp, pickO]; cases valO a p <;> rfl)) (fun _ => (by simp only [evFree, evOp, pickO]; cases valO a p <;> rfl))
@[go_sem] theorem wr_cvt {s' : TypeId} : WR C lim d ops news (⟨dst, .convert s s' p, ty, pos, aft, some (j, w)⟩ :: l) a σ Q ↔ Opt (gdT ops a j w) fun b => Opt (gvO b (cvtO C.P s s' (valO a p))) fun v => WR C lim d ops news l (putD a dst v) σ Q := WR_gp rfl rfl rfl rfl (fun _ => map_fst _) (fun _ => map_fst _)
@[go_sem] theorem wr_cut {lo hi : Option Operand} : WR C lim d ops news (⟨dst, .slice s p lo hi none, ty, pos, aft, some (j, w)⟩ :: l) a σ Q ↔ Opt (gdT ops a j w) fun b => Opt (gvO b (cutO C.P s (lo.map (valO a)) (hi.map (valO a)) (valO a p))) fun v => WR C lim d ops news l (putD a dst v) σ Q := WR_gp rfl rfl rfl rfl (fun _ => map_fst _) (fun _ => map_fst _)
@[go_sem] theorem wr_call {g : FuncId} {args : Array Operand} {ts : Array TypeId} : WR C lim d ops news (⟨dst, .call ⟨.value (.func g), args, ts⟩, ty + 1, pos, aft, some (j, w)⟩ :: l) a σ Q ↔ Opt (gdT ops a j w) fun b => if b = true then WR C lim d ops news (⟨dst, .call ⟨.value (.func g), args, ts⟩, ty + 1, pos, aft, none⟩ :: l) a σ Q else WR C lim d ops news l (putD a dst .undef) σ Q := WR_gd (by simp [isTail]) rfl rfl (by simp [isTail]) fun _ => rfl
@[go_sem] theorem wr_bsl {n : Nat} {ps : Array (Nat × Operand)} : WR C lim d ops news (⟨dst, .buildSlice s n ps, ty, pos, aft, some (j, w)⟩ :: l) a σ Q ↔ Opt (gdT ops a j w) fun b => if b = true then WR C lim d ops news (⟨dst, .buildSlice s n ps, ty, pos, aft, none⟩ :: l) a σ Q else WR C lim d ops news l (putD a dst .undef) σ Q := WR_gd rfl rfl rfl rfl fun _ => rfl
end
section
variable {C : Cfg} {lim d : Nat} {a : Nat → MV} {σ : Sto} {Q : (Nat → MV) → Sto → Prop} {l : List Oper} {ops : Array Oper} {dst : Option Tmp} {ty : TypeId} {pos : String} {aft : Array Edge} {j : Nat} {w : Bool} {s : TypeId} {p q : Operand}
@[go_sem] theorem g_call {g : FuncId} {args : Array Operand} {ts : Array TypeId} : WO C lim d ops (⟨dst, .call ⟨.value (.func g), args, ts⟩, ty, pos, aft, some (j, w)⟩ :: l) a σ Q ↔ Opt (gdT ops a j w) fun b => if b = true then W1 C lim d a ⟨dst, .call ⟨.value (.func g), args, ts⟩, ty, pos, aft, some (j, w)⟩ σ (fun v σ => WO C lim d ops l (putD a dst v) σ Q) else WO C lim d ops l (putD a dst .undef) σ Q := WO_guard
@[go_sem] theorem g_bsl {n : Nat} {ps : Array (Nat × Operand)} : WO C lim d ops (⟨dst, .buildSlice s n ps, ty, pos, aft, some (j, w)⟩ :: l) a σ Q ↔ Opt (gdT ops a j w) fun b => if b = true then W1 C lim d a ⟨dst, .buildSlice s n ps, ty, pos, aft, some (j, w)⟩ σ (fun v σ => WO C lim d ops l (putD a dst v) σ Q) else WO C lim d ops l (putD a dst .undef) σ Q := WO_guard
@[go_sem] theorem g_new {t : TypeId} : WO C lim d ops (⟨dst, .alloc t, ty, pos, aft, some (j, w)⟩ :: l) a σ Q ↔ Opt (gdT ops a j w) fun b => if b = true then W1 C lim d a ⟨dst, .alloc t, ty, pos, aft, some (j, w)⟩ σ (fun v σ => WO C lim d ops l (putD a dst v) σ Q) else WO C lim d ops l (putD a dst .undef) σ Q := WO_guard
@[go_sem] theorem g_cut {lo hi : Option Operand} : WO C lim d ops (⟨dst, .slice s p lo hi none, ty, pos, aft, some (j, w)⟩ :: l) a σ Q ↔ Opt (gdT ops a j w) fun b => Opt (gvO b (cutO C.P s (lo.map (valO a)) (hi.map (valO a)) (valO a p))) fun v => WO C lim d ops l (putD a dst v) σ Q := WO_gp fun _ => rfl
@[go_sem] theorem g_cvt {s' : TypeId} : WO C lim d ops (⟨dst, .convert s s' p, ty, pos, aft, some (j, w)⟩ :: l) a σ Q ↔ Opt (gdT ops a j w) fun b => Opt (gvO b (cvtO C.P s s' (valO a p))) fun v => WO C lim d ops l (putD a dst v) σ Q := WO_gp fun _ => rfl
end
@[go_sem] theorem eqC_nil : eqC [] [] [] = some true := rfl
@[go_sem] theorem eqC_i (q : IntKind) (a b : Int) (sh : List Sh) (xs ys : List MV) : eqC (.i q :: sh) (.int q a :: xs) (.int q b :: ys) = (eqC sh xs ys).map fun r => a == b && r := by simp [eqC]
theorem resO_more (P : Program) (r r' : ResultVar) (rs : List ResultVar) (a : Nat → MV) (σ : Sto) : resO P (r :: r' :: rs) a σ = (resV P σ a r).bind fun v => (resV P σ a r').bind fun v' => (rs.mapM (resV P σ a)).map fun vs => .tup (v :: v' :: vs) := by
  unfold resO
  simp only [List.mapM_cons]
  cases resV P σ a r with
  | none => rfl
  | some v => cases resV P σ a r' with
    | none => rfl
    | some v' => cases List.mapM (resV P σ a) rs <;> rfl
@[go_sem] theorem resV_tmp (P : Program) (t : Tmp) (a : Nat → MV) (σ : Sto) : resV P σ a (.tmp t) = some (a t) := rfl
@[go_sem] theorem resV_cell (P : Program) (x : Tmp) (t : TypeId) (a : Nat → MV) (σ : Sto) : resV P σ a (.cell x t) = ldO P σ t (a x) := rfl
theorem ct_lt1 (n : Nat) : (n < n + 1) = True := by simp
theorem ct_lt2 (n : Nat) : (n < n + 1 + 1) = True := by simp; omega
theorem ct_lt3 (n : Nat) : (n < n + 1 + 1 + 1) = True := by simp; omega
theorem ct_lt4 (n : Nat) : (n < n + 1 + 1 + 1 + 1) = True := by simp; omega
theorem ct_lt5 (n : Nat) : (n < n + 1 + 1 + 1 + 1 + 1) = True := by simp; omega
theorem resL_nil (f : ResultVar → Option MV) : ([] : List ResultVar).mapM f = some [] := rfl
theorem resL_cons (f : ResultVar → Option MV) (r : ResultVar) (rs : List ResultVar) : (r :: rs).mapM f = (f r).bind fun v => (rs.mapM f).map fun vs => v :: vs := by
  rw [List.mapM_cons]; cases f r with
  | none => rfl
  | some v => simp only [Option.bind_some]; cases rs.mapM f <;> rfl
attribute [go_sem] resO_more resL_nil resL_cons
@[go_sem] theorem gv_lenT {b : Bool} {t : TypeDesc} {x : MV} : gvO b (lenT t (gm b x)) = gvO b (lenT t x) := by
  cases b
  · rfl
  · rfl
@[go_sem] theorem iaO_ptr (P : Program) (t : TypeId) (l : Mv.Loc) (o : Nat) (k : IntKind) (i : Int) : iaO P t (.ptr l o) (.int k i) = (arr P t).bind fun x => (shp P x.2).bind fun y => if 0 ≤ i ∧ i < x.1 then some (.ptr l (o + i.toNat * y.2)) else none := by
  unfold iaO
  cases arr P t with
  | none => rfl
  | some x => simp only [Option.bind_some]; cases shp P x.2 <;> rfl
@[go_sem] theorem iaO_ep (P : Program) (t : TypeId) (l : List MV) (o : Nat) (k : IntKind) (i : Int) : iaO P t (.ep l o) (.int k i) = (arr P t).bind fun x => (shp P x.2).bind fun y => if 0 ≤ i ∧ i < x.1 then some (.ep l (o + i.toNat * y.2)) else none := by
  unfold iaO
  cases arr P t with
  | none => rfl
  | some x => simp only [Option.bind_some]; cases shp P x.2 <;> rfl
@[go_sem] theorem ixO_agg (P : Program) (t : TypeId) (cs : List MV) (k : IntKind) (i : Int) : ixO P t (.agg cs) (.int k i) = (arr P t).bind fun x => (shp P x.2).bind fun y => if 0 ≤ i ∧ i < x.1 then ldC P x.2 cs (i.toNat * y.2) else none := by
  unfold ixO
  cases arr P t with
  | none => rfl
  | some x => simp only [Option.bind_some]; cases shp P x.2 <;> rfl
def isStr : TypeDesc → Bool
  | .string => true
  | _ => false
@[go_sem] theorem isStr_s : isStr .string = true := rfl
@[go_sem] theorem ixO_str (P : Program) (t : TypeId) (s : List UInt8) (k : IntKind) (i : Int) : ixO P t (.str s) (.int k i) = (P.underlying t).bind fun u => if isStr u = true then (if 0 ≤ i then (s[i.toNat]?).map fun b => .int .u8 b.toNat else none) else none := by
  unfold ixO
  cases P.underlying t with
  | none => rfl
  | some u => cases u <;> rfl
@[go_sem] theorem cutO_str (P : Program) (t : TypeId) (lo hi : Option MV) (s : List UInt8) : cutO P t lo hi (.str s) = (P.underlying t).bind fun u => if isStr u = true then ((bnd s.length hi s.length).bind fun h => (bnd h lo 0).map fun l => .str ((s.take h).drop l)) else none := by
  unfold cutO
  cases P.underlying t with
  | none => rfl
  | some u => cases u <;> rfl
@[go_sem] theorem bnd_no (n z : Nat) : bnd n none z = some z := rfl
@[go_sem] theorem bnd_at (n z : Nat) (k : IntKind) (i : Int) : bnd n (some (.int k i)) z = if 0 ≤ i ∧ i ≤ n then some i.toNat else none := rfl
def cvI : TypeDesc → TypeDesc → Int → Option MV
  | _, .int k, n => some (.int k (k.wrap n))
  | _, _, _ => none
@[go_sem] theorem cvI_int (u : TypeDesc) (k : IntKind) (n : Int) : cvI u (.int k) n = some (.int k (k.wrap n)) := rfl
@[go_sem] theorem cvtO_int (P : Program) (s t : TypeId) (k : IntKind) (n : Int) : cvtO P s t (.int k n) = (P.underlying s).bind fun u => (P.underlying t).bind fun v => cvI u v n := by
  unfold cvtO
  cases P.underlying s with
  | none => rfl
  | some u => cases P.underlying t with
    | none => rfl
    | some v => cases v <;> rfl
@[congr] theorem Opt_cg {α : Type} {x y : Option α} (h : x = y) (Q : α → Prop) : Opt x Q = Opt y Q := by rw [h]
@[congr] theorem Cnd_cg {x y : MV} (h : x = y) (P Q : Prop) : Cnd x P Q = Cnd y P Q := by rw [h]
theorem Cnd_t {X Y : Prop} : Cnd (.bool true) X Y ↔ X := by rw [Cnd_bool]; simp
theorem Cnd_f {X Y : Prop} : Cnd (.bool false) X Y ↔ Y := by rw [Cnd_bool]; simp
@[congr] theorem W_cg {C : Cfg} {lim d : Nat} {c : Code} {a : Nat → MV} {σ : Sto} {Q : Mv.Ex → (Nat → MV) → Sto → Prop} : W C lim d c a σ Q = W C lim d c a σ Q := rfl
@[congr] theorem WO_cg {C : Cfg} {lim d : Nat} {ops : Array Oper} {l : List Oper} {a : Nat → MV} {σ : Sto} {Q : (Nat → MV) → Sto → Prop} : WO C lim d ops l a σ Q = WO C lim d ops l a σ Q := rfl
@[congr] theorem W1_cg {C : Cfg} {lim d : Nat} {a : Nat → MV} {o : Oper} {σ : Sto} {Q : MV → Sto → Prop} : W1 C lim d a o σ Q = W1 C lim d a o σ Q := rfl
@[congr] theorem WT_cg {C : Cfg} {lim d : Nat} {ops : Array Oper} {av : List Mv.Loc} {l : List Oper} {a : Nat → MV} {σ : Sto} {Q : (Nat → MV) → Sto → Prop} : WT C lim d ops av l a σ Q = WT C lim d ops av l a σ Q := rfl
@[congr] theorem WF_cg {C : Cfg} {lim d : Nat} {f : FuncId} {xs ys : List MV} {σ : Sto} {Q : MV → Sto → Prop} (h : xs = ys) : WF C lim d f xs σ Q = WF C lim d f ys σ Q := by rw [h]
@[congr] theorem WR_cg {C : Cfg} {lim d : Nat} {ops : Array Oper} {n l : List Oper} {a : Nat → MV} {σ : Sto} {Q : (Nat → MV) → Sto → Prop} : WR C lim d ops n l a σ Q = WR C lim d ops n l a σ Q := rfl
@[congr] theorem WFr_cg {C : Cfg} {d : Nat} {ops : Array Oper} {l : List Oper} {a : Nat → MV} {σ : Sto} {Q : (Nat → MV) → Prop} : WFr C d ops l a σ Q = WFr C d ops l a σ Q := rfl
section
variable {C : Cfg} {lim d : Nat} {a : Nat → MV} {σ : Sto} {x y : Code} {Q : Mv.Ex → (Nat → MV) → Sto → Prop}
theorem sq_rg {id : Nat} {ops : Array Oper} {u : Bool} : W C lim d (.seq (.region id ops u) y) a σ Q ↔ W C lim d (.region id ops u) a σ (andThen (fun a σ => W C lim d y a σ Q) Q) := W_seq
theorem sq_cn {c : Operand} {x x' : Code} : W C lim d (.seq (.cond c x x') y) a σ Q ↔ W C lim d (.cond c x x') a σ (andThen (fun a σ => W C lim d y a σ Q) Q) := W_seq
/-- What the rest is told. -/
theorem seq_cut (P : (Nat → MV) → Sto → Prop) (h2 : ∀ a s, P a s → W C lim d y a s Q) (h1 : W C lim d x a σ (andThen P Q)) : W C lim d (.seq x y) a σ Q := by
  rw [W_seq]
  refine h1.mono fun e a' s' h => ?_
  cases e with
  | nrm => exact h2 a' s' h
  | exit id => exact h
  | ret => exact h
  | goto l => exact h
end
/-- A value is reckoned before it is handed on. -/
def Str {α : Type} (v : α) (k : α → Prop) : Prop := k v
def ev {α : Type} (v : α) : α := v
@[congr] theorem Str_cg {α : Type} {v w : α} {k : α → Prop} (h : v = w) : Str v k = Str w k := by rw [h]
@[go_sem] theorem Str_any {α : Type} (v : α) (k : α → Prop) : Str v k ↔ k v := Iff.rfl
@[go_sem] theorem ev_eq {α : Type} (v : α) : ev v = v := rfl
section
variable {C : Cfg} {lim d : Nat} {a : Nat → MV} {σ : Sto} {ops : Array Oper} {l news : List Oper} {dst : Option Tmp} {ty : TypeId} {pos : String} {aft : Array Edge} {gd : Option (Nat × Bool)} {t : TypeId} {x y : Operand}
section
variable {Q : MV → Sto → Prop}
theorem S1_move : W1 C lim d a ⟨dst, .move x, ty, pos, aft, gd⟩ σ Q ↔ Str (ev (valO a x)) fun v => Q v σ := W1_move
theorem S1_assign : W1 C lim d a ⟨dst, .assign x, ty, pos, aft, gd⟩ σ Q ↔ Str (ev (valO a x)) fun v => Q v σ := W1_assign
theorem S1_alloc (h : C.up t (dstT dst) = 0) : W1 C lim d a ⟨dst, .alloc t, ty, pos, aft, gd⟩ σ Q ↔ Opt (zer C.P t) fun z => Opt z.cells fun cs => Str (ev (allocO σ d (locT C t cs.length dst) cs).1) fun v => Str (ev (allocO σ d (locT C t cs.length dst) cs).2) fun s => Q v s :=
  W1_alloc.trans (by simp only [allocU_z h, Opt_some]; exact Iff.rfl)
theorem S1_box (h : C.up t (dstT dst) = 0) : W1 C lim d a ⟨dst, .box t x, ty, pos, aft, gd⟩ σ Q ↔ Opt (valO a x).cells fun cs => Str (ev (allocO σ d (locT C t cs.length dst) cs).1) fun v => Str (ev (allocO σ d (locT C t cs.length dst) cs).2) fun s => Q v s :=
  W1_box.trans (by simp only [boxU_z h, Opt_some]; exact Iff.rfl)
theorem S1_bsl {n : Nat} {ps : Array (Nat × Operand)} : W1 C lim d a ⟨dst, .buildSlice t n ps, ty, pos, aft, gd⟩ σ Q ↔ Opt (bslO C.P d t n (ps.toList.map fun p => (p.1, valO a p.2)) σ) fun x => Str (ev x.1) fun v => Str (ev x.2) fun s => Q v s := W1_buildSlice
theorem S1_app (h : C.rw t (dstT dst) = none) : W1 C lim d a ⟨dst, .call ⟨.builtin .append, #[x, y], #[t, t]⟩, ty, pos, aft, gd⟩ σ Q ↔ Opt (appO C.P lim d t σ (valO a x) (valO a y)) fun x => Str (ev x.1) fun v => Str (ev x.2) fun s => Q v s := by
  rw [W1_append, appX_n h]; exact Iff.rfl
end
section
variable {Q : (Nat → MV) → Sto → Prop}
theorem SR_move : WR C lim d ops news (⟨dst, .move x, ty, pos, aft, none⟩ :: l) a σ Q ↔ Str (ev (valO a x)) fun v => WR C lim d ops news l (putD a dst v) σ Q := WR_move
theorem SR_nil : WR C lim d ops news [] a σ Q ↔ Opt (evNews C lim d news a σ) fun x => Str (ev x.1) fun a => Str (ev x.2) fun s => Q a s := WR_nil
theorem SR_assign : WR C lim d ops news (⟨dst, .assign x, ty, pos, aft, none⟩ :: l) a σ Q ↔ Opt (evNews C lim d news a σ) fun z => Str (ev z.1) fun a => Str (ev z.2) fun s => WO C lim d ops (⟨dst, .assign x, ty, pos, aft, none⟩ :: l) a s Q := WR_assign
theorem SR_store : WR C lim d ops news (⟨dst, .store t x y, ty, pos, aft, none⟩ :: l) a σ Q ↔ Opt (evNews C lim d news a σ) fun z => Str (ev z.1) fun a => Str (ev z.2) fun s => WO C lim d ops (⟨dst, .store t x y, ty, pos, aft, none⟩ :: l) a s Q := WR_store
theorem SR_callz {f : Operand} {args : Array Operand} {ts : Array TypeId} : WR C lim d ops news (⟨dst, .call ⟨.value f, args, ts⟩, 0, pos, aft, none⟩ :: l) a σ Q ↔ Opt (evNews C lim d news a σ) fun z => Str (ev z.1) fun a => Str (ev z.2) fun s => WO C lim d ops (⟨dst, .call ⟨.value f, args, ts⟩, 0, pos, aft, none⟩ :: l) a s Q := WR_callz
theorem SR_append {args : Array Operand} {ts : Array TypeId} : WR C lim d ops news (⟨dst, .call ⟨.builtin .append, args, ts⟩, ty, pos, aft, none⟩ :: l) a σ Q ↔ Opt (evNews C lim d news a σ) fun z => Str (ev z.1) fun a => Str (ev z.2) fun s => WO C lim d ops (⟨dst, .call ⟨.builtin .append, args, ts⟩, ty, pos, aft, none⟩ :: l) a s Q := WR_append
end
theorem SF_move {Q : (Nat → MV) → Prop} : WFr C d ops (⟨dst, .move x, ty, pos, aft, none⟩ :: l) a σ Q ↔ Str (ev (valO a x)) fun v => WFr C d ops l (putD a dst v) σ Q := WFr_move
end
theorem S_region {C : Cfg} {lim d : Nat} {a : Nat → MV} {σ : Sto} {Q : Mv.Ex → (Nat → MV) → Sto → Prop} {id : Nat} {l : List Oper} : W C lim d (.region id l.toArray false) a σ Q ↔ WO C lim d l.toArray l a σ (Q .nrm) := W_region
theorem S_dr {C : Cfg} {lim d : Nat} {id : Nat} {l : List Oper} (hd : okDraw l.toArray = true) (hk : okNew l.toArray = true) (hh : hotB C l.toArray = false := by kernel_rfl) {a : Nat → MV} {σ : Sto} {Q : Mv.Ex → (Nat → MV) → Sto → Prop} : W C lim d (.region id l.toArray true) a σ Q ↔ WR C lim d l.toArray [] l a σ (Q .nrm) := W_dr hd hk hh
/-- What is to come, out of simp's sight. -/
def Tag {α : Type 1} (_ : α) : Type := Unit
def TagF (_ : MV → Sto → Prop) : Type := Unit
def TagK (_ : Mv.Ex → (Nat → MV) → Sto → Prop) : Type := Unit
class HF (T : Type) where
  q : MV → Sto → Prop
class HK (T : Type) where
  q : Mv.Ex → (Nat → MV) → Sto → Prop
instance hfTag (Q : MV → Sto → Prop) : HF (TagF Q) := ⟨Q⟩
instance hkTag (Q : Mv.Ex → (Nat → MV) → Sto → Prop) : HK (TagK Q) := ⟨Q⟩
def WDh (C : Cfg) (lim d id : Nat) (ops : Array Oper) (a : Nat → MV) (σ : Sto) (T : Type) [i : HK T] : Prop := W C lim d (.region id ops true) a σ i.q
def WLh (C : Cfg) (lim d : Nat) (x : Code) (a : Nat → MV) (σ : Sto) (T : Type) [i : HK T] : Prop := W C lim d (.loop x) a σ i.q
def WFh (C : Cfg) (lim d : Nat) (f : FuncId) (args : List MV) (σ : Sto) (T : Type) [i : HF T] : Prop := WF C lim d f args σ i.q
section
variable {C : Cfg} {lim d : Nat} {a : Nat → MV} {σ : Sto} {id : Nat} {ops : Array Oper} {x : Code} {Q : Mv.Ex → (Nat → MV) → Sto → Prop} {l : List Oper} {f : FuncId} {args : List MV} {P : MV → Sto → Prop}
theorem W_dh : W C lim d (.region id ops true) a σ Q ↔ WDh C lim d id ops a σ (TagK Q) := Iff.rfl
theorem W_lh : W C lim d (.loop x) a σ Q ↔ WLh C lim d x a σ (TagK Q) := Iff.rfl
theorem WF_h : WF C lim d f args σ P ↔ WFh C lim d f args σ (TagF P) := Iff.rfl
theorem D_dr (hd : okDraw l.toArray = true) (hk : okNew l.toArray = true) (hh : hotB C l.toArray = false := by kernel_rfl) : WDh C lim d id l.toArray a σ (TagK Q) ↔ WR C lim d l.toArray [] l a σ (Q .nrm) := W_dr hd hk hh
theorem D_lx (lds : List Operand) (hd : okDraw l.toArray = false) (hl : looseLd l.toArray = lds) (hh : hotB C l.toArray = false := by kernel_rfl) (hup : upB C (l.takeWhile fun o => !isTail o) = true := by kernel_rfl) (hlo : okLoose l.toArray = true := by kernel_rfl) : WDh C lim d id l.toArray a σ (TagK Q) ↔
    WFr C d l.toArray (l.takeWhile fun o => !isTail o) a σ fun a1 => (∀ p ∈ avoidX a1 lds, p.d ≠ d ∨ p.c < σ.ct d) ∧
      Opt (evNews C lim d (l.takeWhile fun o => !isTail o) a1 σ) fun x => Str (ev x.1) fun b => Str (ev x.2) fun s => WT C lim d l.toArray (avoidX a1 lds) (l.dropWhile fun o => !isTail o) b s (Q .nrm) := W_lx lds hd hl hh hup hlo
theorem Ret.wh {v : MV} {σ' : Sto} {lim d : Nat} (h : Ret lim d f args σ v σ') (hq : P v σ') : WFh X lim d f args σ (TagF P) := h.wf hq
theorem loop_h (I : Nat → (Nat → MV) → Sto → Prop)
    (step : ∀ i a σ, I i a σ → W C lim d x a σ (andThen (fun a σ => ∃ j, j < i ∧ I j a σ) Q)) : ∀ i a σ, I i a σ → WLh C lim d x a σ (TagK Q) := loop_ind I step
theorem WL_h : WLh C lim d x a σ (TagK Q) ↔ W C lim d x a σ (andThen (fun a σ => W C lim d (.loop x) a σ Q) Q) := W_loop
end
section
variable {C : Cfg} {lim d : Nat} {a : Nat → MV} {σ : Sto} {ops : Array Oper} {l news : List Oper} {dst : Option Tmp} {ty : TypeId} {pos : String} {aft : Array Edge} {gd : Option (Nat × Bool)} {g : FuncId} {args : List Operand} {ts : Array TypeId}
theorem S1_callf {Q : MV → Sto → Prop} : W1 C lim d a ⟨dst, .call ⟨.value (.func g), args.toArray, ts⟩, ty, pos, aft, gd⟩ σ Q ↔ WFh C lim (d + 1) g (args.map fun x => (valO a x).arg) σ (TagF Q) := W1_callf
theorem SR_callf {Q : (Nat → MV) → Sto → Prop} : WR C lim d ops news (⟨dst, .call ⟨.value (.func g), args.toArray, ts⟩, ty + 1, pos, aft, none⟩ :: l) a σ Q ↔ WFh C (d + 1) (d + 1) g (args.map fun x => (valO a x).arg) σ (TagF fun v _ => WR C lim d ops news l (putD a dst v) σ Q) := WR_callf
theorem SF_callf {Q : (Nat → MV) → Prop} : WFr C d ops (⟨dst, .call ⟨.value (.func g), args.toArray, ts⟩, ty + 1, pos, aft, none⟩ :: l) a σ Q ↔ WFh C (d + 1) (d + 1) g (args.map fun x => (valO a x).arg) σ (TagF fun v _ => WFr C d ops l (putD a dst v) σ Q) := WFr_callf
end
attribute [go_sem ↓] WO_free W1_pk W1_callt WR_pick WR_load WR_build WR_nilCheck WR_binOp WR_unOp WR_convert WR_slice WR_fieldAddr WR_field WR_indexAddr WR_index WR_extract WR_len WR_min WR_max WR_buildSlice WFr_load WFr_build WFr_nilCheck WFr_binOp WFr_unOp WFr_convert WFr_slice WFr_fieldAddr WFr_field WFr_indexAddr WFr_index WFr_extract WFr_len WFr_min WFr_max WFr_buildSlice WT_free S_region W_skip W_label W_exit W_ret W_block WO_nil W1_build W1_load W1_store W1_nilCheck W1_binOp W1_unOp W1_convert W1_slice W1_fieldAddr W1_field W1_indexAddr W1_index W1_extract W1_len W1_min W1_max Opt_some Opt_none Opt_map Opt_bind andThen_nrm andThen_ret andThen_exit andThen_goto W_goto Jmp_nrm Jmp_ret Jmp_exit blk_goto blk_nrm blk_ret blk_exit atEnd_nrm atEnd_ret WR_new WFr_nil WFr_new WT_nil g_load g_fa g_bin g_ia g_ix g_move g_len g_pick g_un g_nil wr_load wr_fa wr_fd wr_bin wr_un wr_ia wr_ix wr_move wr_len wr_nil wr_pick wr_cvt wr_cut wr_call wr_bsl g_call g_bsl g_new g_cut g_cvt W_cnd Cnd_t Cnd_f S1_move S1_assign S1_alloc S1_box S1_bsl S1_app SR_move SR_nil SR_assign SR_store SR_append SR_callz SF_move S1_callf SR_callf SF_callf W_dh W_lh
attribute [go_sem] Bool.true_beq Bool.false_beq Bool.not_true Bool.not_false Bool.false_and Bool.and_false Bool.true_or Bool.or_true Bool.false_or Bool.or_false List.cons_append List.nil_append
@[go_sem] theorem gdT_eq (ops : Array Oper) (a : Nat → MV) (j : Nat) (w : Bool) : gdT ops a j w = ((ops[j]?).bind (·.dst)).bind fun t => gdO w (a t) := rfl
@[go_sem] theorem u4_eq : u4 = [.i .u64, .i .u64, .i .u64, .i .u64] := rfl
attribute [go_sem] ite_bool ite_int List.getElem?_toArray beq_self_eq_true Int.reduceBEq Bool.false_eq_true ite_self
attribute [go_sem] not_false_eq_true if_true if_false and_true true_and Int.le_refl Int.lt_irrefl Int.natCast_zero Int.natCast_one
end Go.Proofs.Tryz.E
