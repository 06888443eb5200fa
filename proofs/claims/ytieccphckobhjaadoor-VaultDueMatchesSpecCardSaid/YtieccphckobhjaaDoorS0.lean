/- Bytes and sums as values; the fold of a sum. No statement of the seat. -/
import Derived.Test.YtieccphckobhjaaDoorK
namespace Go.Proofs.YtieccphckobhjaaDoor
open Go.RowKit
attribute [local go_sem ↓] run_min_kept run_max_kept

/-- Bytes as values. -/
def u8s (l : List UInt8) : List Value := l.map fun c => .int .u8 (c.toNat : Int)
/-- Sums as values. -/
def u32s (l : List Nat) : List Value := l.map fun (c : Nat) => .int .u32 (c : Int)

theorem u8s_length (l : List UInt8) : (u8s l).length = l.length := by simp [u8s]
theorem u32s_length (l : List Nat) : (u32s l).length = l.length := by simp [u32s]
theorem u8s_getD (l : List UInt8) (k : Nat) (h : k < l.length) : (u8s l).getD k undef = .int .u8 (l[k].toNat : Int) := by
  simp [u8s, List.getD_eq_getElem?_getD, h]
theorem u32s_getD (l : List Nat) (k : Nat) (h : k < l.length) : (u32s l).getD k undef = .int .u32 (l[k] : Int) := by
  simp [u32s, List.getD_eq_getElem?_getD, h]
theorem u8s_cut (l : List UInt8) (a b : Nat) : ((u8s l).drop a).take b = u8s ((l.drop a).take b) := by
  simp [u8s, List.map_take, List.map_drop]

def fstep (x : Nat) (c : UInt8) : Nat := ((x ^^^ c.toNat) * 16777619) % 4294967296
def fseed : Nat := 2166136261
def fnv (l : List UInt8) : Nat := l.foldl fstep fseed

theorem fnv_snoc (l : List UInt8) (c : UInt8) : fnv (l ++ [c]) = fstep (fnv l) c := by unfold fnv; rw [List.foldl_append, List.foldl_cons, List.foldl_nil]
theorem fstep_lt (x : Nat) (c : UInt8) : fstep x c < 4294967296 := by unfold fstep; omega
theorem fnv_lt (l : List UInt8) : fnv l < 4294967296 := by
  rcases List.eq_nil_or_concat l with rfl | ⟨l', c, rfl⟩
  · show fseed < _; unfold fseed; omega
  · rw [List.concat_eq_append, fnv_snoc]; exact fstep_lt _ _

theorem take_snoc {α : Type} (l : List α) (k : Nat) (h : k < l.length) : l.take (k + 1) = l.take k ++ [l[k]] := by
  rw [List.take_succ_eq_append_getElem h]

theorem fstep_u32 (x : Nat) (c : UInt8) (hx : x < 4294967296) : bits .xor .u32 (x : Int) (c.toNat : Int) * 16777619 % 4294967296 = ((fstep x c : Nat) : Int) := by
  rw [u32_xor_nat x c.toNat hx (by have := c.toNat_lt; omega)]
  unfold fstep
  omega
theorem fstep_u64 (x : Nat) (c : UInt8) (hx : x < 4294967296) : bits .xor .u64 (x : Int) (c.toNat : Int) * 16777619 % 4294967296 = ((fstep x c : Nat) : Int) ∧
    0 ≤ bits .xor .u64 (x : Int) (c.toNat : Int) ∧ bits .xor .u64 (x : Int) (c.toNat : Int) < 4294967296 := by
  rw [u64_xor_nat x c.toNat (by omega) (by have := c.toNat_lt; omega)]
  have hlt : x ^^^ c.toNat < 2 ^ 32 := Nat.xor_lt_two_pow (by omega) (by have := c.toNat_lt; omega)
  unfold fstep
  refine ⟨by omega, by omega, by omega⟩

end Go.Proofs.YtieccphckobhjaaDoor
