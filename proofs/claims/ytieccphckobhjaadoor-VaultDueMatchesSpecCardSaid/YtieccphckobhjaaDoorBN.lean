/- Contracts of the elder walks (names, strings.Compare), told over abstract values. No statement of the seat. -/
import Derived.Test.YtieccphckobhjaaDoorB0
import Derived.Test.YtieccphckobhjaaDoorN2
namespace Go.Proofs.YtieccphckobhjaaDoor
open Go.RowKit

theorem c_pName (s : ByteArray) (hs : s.size ≤ 9223372036854775807) : ACall Tryd.prog 28 [.v (.string s)] (.v (.bool (isName s.data.toList))) :=
  acall_exact (us := [_]) (.of Tryd.func28 (by kernel_rfl) rfl) fun w => pName_any s w hs
theorem c_rName (s : ByteArray) (hs : s.size ≤ 9223372036854775807) : ACall Tryd.prog 80 [.v (.string s)] (.v (.bool (isName s.data.toList))) :=
  acall_exact (us := [_]) (.of Tryd.func80 (by kernel_rfl) rfl) fun w => rName_any s w hs
theorem c_strCmp (a b : ByteArray) : ACall Tryd.prog 82 [.v (.string a), .v (.string b)] (.v (.int .i64 (Lib.compareBytes a.data.toList b.data.toList))) :=
  acall_exact (us := [_, _]) (.of Tryd.func82 (by kernel_rfl) rfl) fun w => by
    have h := Any.strings_Compare Tryd.l106 a b w
    change Calls Tryd.prog 82 #[.string a, .string b] w _ at h
    exact h.mono fun _ _ ⟨h1, h2⟩ => ⟨h1, h2 ▸ Below.refl _ _⟩
end Go.Proofs.YtieccphckobhjaaDoor
