/- Walks over abstract values. Printed by tools/gen.py. No statement of the seat. -/
import Derived.Test.YtpihcfpdaoflbaaA23
import Derived.Test.YtpihcfpdaoflbaaB0
namespace Go.Proofs.Ytpihcfpdaoflbaa
open Go.RowKit
set_option linter.unusedVariables false

/-! Types. -/
namespace TyF0

end TyF0
open TyF0


theorem at_list {α : Type} {l : List α} {f : α → List D} {k : Nat} (h : k < l.length) : (l.map f)[k]? = some (f l[k]) := by simp [h]
theorem SLe.i64 {a b : Int} (h : a = b) : SLe (S.d (D.v (Value.int .i64 a))) (S.d (D.v (Value.int .i64 b))) := SLe.of_eq (by rw [h])


end Go.Proofs.Ytpihcfpdaoflbaa
