/- Walks: what the functions compute. -/
import Derived.Test.YtclnccgiicgooaaGreatDoorE5
set_option linter.unusedVariables false
set_option linter.unusedSimpArgs false
/- Where two ways meet: one way on, with either's slots. -/
namespace Go.Proofs.Tryz.E
open Go.Mv
section
variable {C : Cfg} {lim d : Nat} {a a1 a2 : Nat → MV} {σ : Sto} {Q : Mv.Ex → (Nat → MV) → Sto → Prop} {x y r : Code} {c : Operand} {b : Bool} {id : Nat} {ops : Array Oper}
def Hold (C : Cfg) (lim d : Nat) (r : Code) (a : Nat → MV) (σ : Sto) (Q : Mv.Ex → (Nat → MV) → Sto → Prop) : Prop := W C lim d r a σ Q
theorem release : Hold C lim d r a σ Q ↔ W C lim d r a σ Q := Iff.rfl
def mrg (b : Bool) (a1 a2 : Nat → MV) : Nat → MV := fun t => if b = true then a1 t else a2 t
theorem mrg_at (t : Nat) : mrg b a1 a2 t = if b = true then a1 t else a2 t := rfl
theorem hold_merge : (if b = true then Hold C lim d r a1 σ Q else Hold C lim d r a2 σ Q) ↔ Hold C lim d r (mrg b a1 a2) σ Q := by
  cases b
  · have : mrg false a1 a2 = a2 := by funext t; simp [mrg]
    simp [this]
  · have : mrg true a1 a2 = a1 := by funext t; simp [mrg]
    simp [this]
theorem sq_cond : W C lim d (.seq (.cond c x y) r) a σ Q ↔ W C lim d (.cond c x y) a σ (andThen (fun a σ => Hold C lim d r a σ Q) Q) := W_seq
theorem sq_block : W C lim d (.seq (.block id x) r) a σ Q ↔ W C lim d (.block id x) a σ (andThen (fun a σ => Hold C lim d r a σ Q) Q) := W_seq
theorem sq_region {u : Bool} : W C lim d (.seq (.region id ops u) r) a σ Q ↔ W C lim d (.region id ops u) a σ (andThen (fun a σ => W C lim d r a σ Q) Q) := W_seq
theorem sq_seq {z : Code} : W C lim d (.seq (.seq x y) z) a σ Q ↔ W C lim d (.seq x y) a σ (andThen (fun a σ => Hold C lim d z a σ Q) Q) := W_seq
theorem sq_loop : W C lim d (.seq (.loop x) r) a σ Q ↔ W C lim d (.loop x) a σ (andThen (fun a σ => W C lim d r a σ Q) Q) := W_seq
theorem sq_skip : W C lim d (.seq .skip r) a σ Q ↔ W C lim d r a σ Q := by rw [W_seq, W_skip]; rfl
theorem ite_bool (p q : Bool) : (if b = true then MV.bool p else MV.bool q) = MV.bool (if b = true then p else q) := by cases b <;> rfl
theorem ite_int (k : IntKind) (p q : Int) : (if b = true then MV.int k p else MV.int k q) = MV.int k (if b = true then p else q) := by cases b <;> rfl
end
end Go.Proofs.Tryz.E
