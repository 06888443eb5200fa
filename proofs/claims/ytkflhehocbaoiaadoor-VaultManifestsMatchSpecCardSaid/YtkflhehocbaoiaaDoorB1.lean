/- Contracts of the elder walks, told over abstract values. No statement of the seat. -/
import Derived.Test.YtkflhehocbaoiaaDoorA11
import Derived.Test.YtkflhehocbaoiaaDoorN2
namespace Go.Proofs.YtkflhehocbaoiaaDoor
open Go.RowKit

/-- One cell an element, each of a plain value: the elder word for it. -/
theorem sl_of_rep {α : Type} {F : Nat → Prop} {w : World} {x : Value} (l : List α) (f : α → Value) (h : Rep F w x (.sl (l.map fun a => [D.v (f a)]))) : Sl w 1 x l.length (l.map f) := by
  refine ⟨by simp, ?_⟩
  rcases rep_sl_sl h with ⟨rfl, h2⟩ | ⟨ad, cap, size, vs, rfl, hc, hm, hF, hs, hcell, hone, hrep⟩
  · have : l = [] := by simpa using h2
    subst this
    exact .inl ⟨rfl, rfl⟩
  · rw [List.length_map] at hc hcell
    refine .inr ⟨ad, cap, by simp, hc, hm, fun i hi => ?_⟩
    rw [List.length_map] at hi
    have hs1 : size = 1 := by rw [← hs i (by simpa using hi)]; simp
    subst hs1
    have h3 := hcell i 0 hi (by omega)
    have h4 := hrep i (by simpa using hi) 0 (by simp)
    simp only [List.getElem_map, List.getElem_cons_zero] at h4
    rw [Nat.mul_one, Nat.add_zero] at h3
    rw [h3, rep_v h4]
    simp

def u8D (c : UInt8) : List D := [.v (.int .u8 (c.toNat : Int))]
def u32D (n : Nat) : List D := [.v (.int .u32 (n : Int))]
def intD (n : Int) : List D := [.v (.int .i64 n)]

theorem at_map {α : Type} {l : List α} {f : α → List D} {k : Nat} (h : k < l.length) : (l.map f)[k]? = some (f l[k]) := by simp [h]

/-- A contract of the elder kind on one slice of bytes. -/
theorem acall_bytes {P : Program} {f : FuncId} {l : List UInt8} {y : Value} (he : Enters P f) (h : ∀ w v, Sl w 1 v l.length (u8s l) → Calls P f #[v] w fun e w' => e = .returned y ∧ Below w.heap.size w w') : ACall P f [.sl (l.map u8D)] (.v y) :=
  ⟨he, fun F w vs hF hv => by
    obtain ⟨v, rfl⟩ : ∃ v, vs = [v] := by
      have := hv.1
      rcases vs with _ | ⟨v, _ | ⟨_, _⟩⟩ <;> simp at this
      exact ⟨v, rfl⟩
    have h1 := hv.2 0 (by simp) (by simp)
    exact (h w v (sl_of_rep l (fun c => .int .u8 (c.toNat : Int)) h1)).mono fun e w' ⟨h1, h2⟩ => ⟨y, F, h1, .v _, Ext.of_below hF h2⟩⟩

theorem c_pName (s : ByteArray) (hs : s.size ≤ 9223372036854775807) : ACall Tryd.prog 20 [.v (.string s)] (.v (.bool (isName s.data.toList))) :=
  acall_exact (us := [_]) (.of Tryd.func20 (by kernel_rfl) rfl) fun w => pName_any s w hs
theorem c_rName (s : ByteArray) (hs : s.size ≤ 9223372036854775807) : ACall Tryd.prog 22 [.v (.string s)] (.v (.bool (isName s.data.toList))) :=
  acall_exact (us := [_]) (.of Tryd.func22 (by kernel_rfl) rfl) fun w => rName_any s w hs
theorem c_pSum (l : List UInt8) : ACall Tryd.prog 32 [.sl (l.map u8D)] (.v (.int .u32 ((fnv l : Nat) : Int))) :=
  acall_bytes (.of Tryd.func32 (by kernel_rfl) rfl) fun w v h => (vSum_any v l w h).mono fun _ _ ⟨h1, h2⟩ => ⟨h1, h2 ▸ Below.refl _ _⟩
theorem c_rSum (l : List UInt8) : ACall Tryd.prog 38 [.sl (l.map u8D)] (.v (.int .u32 ((fnv l : Nat) : Int))) :=
  acall_bytes (.of Tryd.func38 (by kernel_rfl) rfl) fun w v h => (rSum_any v l w h).mono fun _ _ ⟨h1, h2⟩ => ⟨h1, h2 ▸ Below.refl _ _⟩
end Go.Proofs.YtkflhehocbaoiaaDoor
