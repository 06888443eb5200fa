/- What comes in, opened: a slice of bytes. -/
import Derived.Test.YtkflhehocbaoiaaS1
import Derived.ProofKit
import Derived.OpenShut
import Derived.ShutString
import Derived.ChangeOld
import Derived.Below
namespace Go.Proofs.Ytkflhehocbaoiaa
open Go.ChangeShapes Go.WideShapes Go.ChangeAt Go.RowKit
open Go.ChangeMaps (open_string shut_string)

theorem u8_of {n : Int} (h : (Lit.int .u8 n).wf = true) : ((UInt8.ofNat n.toNat).toNat : Int) = n := by
  have h1 : 0 ≤ n ∧ n ≤ 255 := by simpa [Lit.wf, IntKind.min, IntKind.max, IntKind.signed, IntKind.bits] using h
  rw [UInt8.toNat_ofNat']
  omega

/-- A slice of bytes that came in. -/
theorem bytes_in {H : Type} {enc : TypeId × Value → H} {W : World} {base : Nat} {v : Value} {d : DataW H} {p : List MemPlace} (hok : Value.okWide Try.prog W .any base 22 v) (h : DataW.Trod enc Try.prog W 0 (fun _ => true) true 22 v d p) :
    ∃ l : List UInt8, Sl W 1 v l.length (u8s l) := by
  obtain ⟨a0, len0, cap0, rfl⟩ := okWide_slice Try.underlying22 hok
  obtain ⟨fuel, hf⟩ := h
  rcases open_ints Try.underlying22 Try.underlying5 (by kernel_rfl) hf with ⟨hcs, _⟩ | ⟨x, l, c, zs, hcs, _, hl, hm, hz, _, hcell, hwz⟩
  · simp [Value.cells] at hcs
    obtain ⟨rfl, rfl, rfl⟩ := hcs
    exact ⟨[], Sl.nil _ _⟩
  · simp [Value.cells] at hcs
    obtain ⟨rfl, rfl, rfl⟩ := hcs
    have hzl : zs.length = cap0 := by simpa using hz
    refine ⟨(zs.take len0).map fun n => UInt8.ofNat n.toNat, ?_⟩
    have e : u8s ((zs.take len0).map fun n => UInt8.ofNat n.toNat) = (zs.take len0).map (Value.int .u8) := by
      rw [u8s, List.map_map]
      apply List.map_congr_left
      intro n hn
      simp only [Function.comp]
      rw [u8_of (hwz n (List.mem_of_mem_take hn))]
    rw [e]
    have hlen : (zs.take len0).length = len0 := by rw [List.length_take]; omega
    rw [List.length_map, hlen]
    refine ⟨by rw [List.length_map, hlen, Nat.mul_one], .inr ⟨x, cap0, rfl, hl, by unfold maxLen at hm; omega, ?_⟩⟩
    intro i hi
    have hi' : i < zs.length := by simp at hi; omega
    rw [hcell i hi']
    simp [List.getD_eq_getElem?_getD, hi']

end Go.Proofs.Ytkflhehocbaoiaa
