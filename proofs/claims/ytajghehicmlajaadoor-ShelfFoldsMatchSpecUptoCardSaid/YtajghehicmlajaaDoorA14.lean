/- Abstract values: comparing bools, pointers with nil. No statement of the seat. -/
import Derived.Test.YtajghehicmlajaaDoorA13
import Derived.ChangeKeysEq
namespace Go.Proofs.YtajghehicmlajaaDoor
open Go.RowKit
section
variable {P : Program} {B : Nat} {ops : Array Oper} {o : Oper} {e : Env} {σ : Obs}
theorem eqGuard_bool (op : BinOp) (t : TypeId) (x y : Operand) (a b : Bool) (w : World) : (eqGuard op t x y (.bool a) (.bool b)).run P w = .ok () w := by
  unfold eqGuard; cases op <;> rfl
theorem AOp.beql {t ty : TypeId} {x y : Operand} {a b : Bool} (ho : o.op = .binOp .eql t x y ty) (ht : P.underlying t = some .bool) (hx : e.ev x = .d (.v (.bool a))) (hy : e.ev y = .d (.v (.bool b))) :
    AOp P B ops o e σ (.d (.v (.bool (decide (a = b))))) := .bin ho hx hy fun w => by
  rw [Sem.run_bind, eqGuard_bool]
  have h : (Op.equal t (.bool a) (.bool b)).run P w = .ok (a == b) w := run_equalIn_bool w 9999 t a b ht
  simp only [Result.andThen_ok, binOp, Sem.run_bind, h, Sem.run_pure, Bool.beq_eq_decide_eq]
theorem AOp.bneq {t ty : TypeId} {x y : Operand} {a b : Bool} (ho : o.op = .binOp .neq t x y ty) (ht : P.underlying t = some .bool) (hx : e.ev x = .d (.v (.bool a))) (hy : e.ev y = .d (.v (.bool b))) :
    AOp P B ops o e σ (.d (.v (.bool (decide (a ≠ b))))) := .bin ho hx hy fun w => by
  rw [Sem.run_bind, eqGuard_bool]
  have h : (Op.equal t (.bool a) (.bool b)).run P w = .ok (a == b) w := run_equalIn_bool w 9999 t a b ht
  simp only [Result.andThen_ok, binOp, Sem.run_bind, h, Sem.run_pure]
  cases a <;> cases b <;> rfl
theorem eqGuard_ptr (op : BinOp) (t : TypeId) (x y : Operand) (a b : Option Addr) (w : World) : (eqGuard op t x y (.pointer a) (.pointer b)).run P w = .ok () w := by
  unfold eqGuard; cases op <;> rfl
theorem run_equal_nil {t el : TypeId} (w : World) (a : Option Addr) (ht : P.underlying t = some (.pointer el)) : (Op.equal t (.pointer a) (.pointer none)).run P w = .ok a.isNone w := by
  unfold Op.equal Op.equalIn
  simp only [Op.maxDepth, Sem.run_bind, run_underlying ht, Result.andThen_ok]
  cases a <;> rfl
/-- nil != nil. -/
theorem AOp.nilNe {t ty el : TypeId} {x y : Operand} (ho : o.op = .binOp .neq t x y ty) (ht : P.underlying t = some (.pointer el)) (hx : e.ev x = .d (.v (.pointer none))) (hy : e.ev y = .d (.v (.pointer none))) :
    AOp P B ops o e σ (.d (.v (.bool false))) := .bin ho hx hy fun w => by
  rw [Sem.run_bind, eqGuard_ptr]
  simp only [Result.andThen_ok, binOp, Sem.run_bind, run_equal_nil w none ht, Sem.run_pure]
  rfl
theorem AOp.nilEq {t ty el : TypeId} {x y : Operand} (ho : o.op = .binOp .eql t x y ty) (ht : P.underlying t = some (.pointer el)) (hx : e.ev x = .d (.v (.pointer none))) (hy : e.ev y = .d (.v (.pointer none))) :
    AOp P B ops o e σ (.d (.v (.bool true))) := .bin ho hx hy fun w => by
  rw [Sem.run_bind, eqGuard_ptr]
  simp only [Result.andThen_ok, binOp, Sem.run_bind, run_equal_nil w none ht, Sem.run_pure]
  rfl
/-- A pointer to data != nil. -/
theorem AOp.fpNe {t ty el : TypeId} {x y : Operand} {ds : List D} (ho : o.op = .binOp .neq t x y ty) (ht : P.underlying t = some (.pointer el)) (hx : e.ev x = .d (.fp ds)) (hy : e.ev y = .d (.v (.pointer none))) :
    AOp P B ops o e σ (.d (.v (.bool true))) := .value fun F ρ w a hF hr _ => by
  have h1 := hr x (by rw [ho]; simp [Op.operands])
  have h2 := hr y (by rw [ho]; simp [Op.operands])
  rw [hx] at h1
  rw [hy] at h2
  have h3 := repS_d h1
  refine ⟨.bool true, F, w, ?_, .d (.v _), Ext.refl hF⟩
  unfold execOp
  simp only [ho, repS_v h2]
  generalize a.eval x = v at h3
  cases h3
  rw [Sem.run_bind, Sem.run_bind, eqGuard_ptr]
  simp only [Result.andThen_ok, binOp, Sem.run_bind, run_equal_nil w _ ht, Sem.run_pure]
  rfl
theorem AOp.nilCheck {x : Operand} {ds : List D} (ho : o.op = .nilCheck x) (hx : e.ev x = .d (.fp ds)) : AOp P B ops o e σ (.d (.fp ds)) := .value fun F ρ w a hF hr _ => by
  have h1 := hr x (by rw [ho]; simp [Op.operands])
  rw [hx] at h1
  have h3 := repS_d h1
  refine ⟨a.eval x, F, w, ?_, .d h3, Ext.refl hF⟩
  unfold execOp
  simp only [ho]
  generalize a.eval x = v at h3
  cases h3
  rfl
theorem AOp.nilCheckP {x : Operand} {id off : Nat} (ho : o.op = .nilCheck x) (hx : e.ev x = .ptr id off) : AOp P B ops o e σ (.ptr id off) := .value fun F ρ w a hF hr _ => by
  have h1 := hr x (by rw [ho]; simp [Op.operands])
  rw [hx] at h1
  refine ⟨a.eval x, F, w, ?_, h1, Ext.refl hF⟩
  unfold execOp
  simp only [ho]
  generalize a.eval x = v at h1
  cases h1
  rfl
end
end Go.Proofs.YtajghehicmlajaaDoor
