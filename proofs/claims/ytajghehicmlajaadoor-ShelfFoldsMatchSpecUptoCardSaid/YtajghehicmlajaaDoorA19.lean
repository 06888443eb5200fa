/- Abstract values: halves by shifting. No statement of the seat. -/
import Derived.Test.YtajghehicmlajaaDoorA18
import Derived.Lib.EndianBits
namespace Go.Proofs.YtajghehicmlajaaDoor
open Go.RowKit
set_option linter.unusedVariables false
section
variable {P : Program} {B : Nat} {ops : Array Oper} {o : Oper} {e : Env} {σ : Obs}
/-- A number that fits, turned into another kind. -/
theorem AOp.convSame {s t : TypeId} {x : Operand} {k k0 : IntKind} {n : Int} (ho : o.op = .convert s t x) (hc : convB P s t k = true) (hx : e.ev x = .d (.v (.int k0 n))) (hw : k.wrap n = n) : AOp P B ops o e σ (.d (.v (.int k n))) := by
  have := AOp.convInt (P := P) (B := B) (ops := ops) (σ := σ) ho hc hx
  rwa [hw] at this
theorem wrapU64 {n : Int} (h0 : 0 ≤ n) (h1 : n ≤ 9223372036854775807) : IntKind.u64.wrap n = n := by rw [IntKind.wrap_u64]; omega
/-- n >> 1. -/
theorem AOp.half {t ty : TypeId} {x y : Operand} {a : Int} (ho : o.op = .binOp .shr t x y ty) (hx : e.ev x = .d (.v (.int .u64 a))) (hy : e.ev y = .d (.v (.int .u64 1))) : AOp P B ops o e σ (.d (.v (.int .u64 (a / 2)))) :=
  .bin ho hx hy fun w => by
  rw [Sem.run_bind, eqGuard_int]
  simp only [Result.andThen_ok, binOp, Op.shift]
  have h1 : ¬ ((1 : Int) < 0) := by decide
  rw [if_neg h1]
  have h2 : Min.min (1 : Int).toNat IntKind.u64.bits = 1 := by decide
  rw [h2]
  simp only [Sem.run_pure]
  congr 2
  rw [Int.fdiv_eq_ediv_of_nonneg _ (by decide)]
  rfl
end
end Go.Proofs.YtajghehicmlajaaDoor
