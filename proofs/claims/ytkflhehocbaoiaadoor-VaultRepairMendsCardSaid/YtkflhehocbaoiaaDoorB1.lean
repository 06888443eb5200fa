/- Contracts of the elder walks, told over abstract values. No statement of the seat. -/
import Derived.Test.YtkflhehocbaoiaaDoorB0
import Derived.Test.YtkflhehocbaoiaaDoorN2
namespace Go.Proofs.YtkflhehocbaoiaaDoor
open Go.RowKit

/-- A contract of the elder kind on one slice of bytes. -/
theorem acall_bytes {P : Program} {f : FuncId} {l : List UInt8} {y : Value} (he : Enters P f) (h : ∀ w v, Sl w 1 v l.length (u8s l) → Calls P f #[v] w fun e w' => e = .returned y ∧ Below w.heap.size w w') : ACall P f [.sl (l.map u8D)] (.v y) :=
  ⟨he, fun F w vs hF hv => by
    obtain ⟨v, rfl⟩ : ∃ v, vs = [v] := by
      have := hv.1
      rcases vs with _ | ⟨v, _ | ⟨_, _⟩⟩ <;> simp at this
      exact ⟨v, rfl⟩
    have h1 := hv.2 0 (by simp) (by simp)
    exact (h w v (sl_of_rep l (fun c => .int .u8 (c.toNat : Int)) h1)).mono fun e w' ⟨h1, h2⟩ => ⟨y, F, h1, .v _, Ext.of_below hF h2⟩⟩

theorem c_pName (s : ByteArray) (hs : s.size ≤ 9223372036854775807) : ACall Tryd.prog 20 [.v (.string s)] (.v (.bool (isName s.data.toList))) :=
  acall_exact (us := [_]) (.of Tryd.func20 (by kernel_rfl) rfl) fun w => pName_any s w hs
theorem c_rName (s : ByteArray) (hs : s.size ≤ 9223372036854775807) : ACall Tryd.prog 22 [.v (.string s)] (.v (.bool (isName s.data.toList))) :=
  acall_exact (us := [_]) (.of Tryd.func22 (by kernel_rfl) rfl) fun w => rName_any s w hs
theorem c_pSum (l : List UInt8) : ACall Tryd.prog 32 [.sl (l.map u8D)] (.v (.int .u32 ((fnv l : Nat) : Int))) :=
  acall_bytes (.of Tryd.func32 (by kernel_rfl) rfl) fun w v h => (vSum_any v l w h).mono fun _ _ ⟨h1, h2⟩ => ⟨h1, h2 ▸ Below.refl _ _⟩
theorem c_rSum (l : List UInt8) : ACall Tryd.prog 38 [.sl (l.map u8D)] (.v (.int .u32 ((fnv l : Nat) : Int))) :=
  acall_bytes (.of Tryd.func38 (by kernel_rfl) rfl) fun w v h => (rSum_any v l w h).mono fun _ _ ⟨h1, h2⟩ => ⟨h1, h2 ▸ Below.refl _ _⟩
end Go.Proofs.YtkflhehocbaoiaaDoor
