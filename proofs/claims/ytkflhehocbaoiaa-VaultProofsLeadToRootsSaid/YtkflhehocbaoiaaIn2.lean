/- What comes in, opened: a slice of sums. -/
import Derived.Test.YtkflhehocbaoiaaIn
import Derived.Test.YtkflhehocbaoiaaR3
namespace Go.Proofs.Ytkflhehocbaoiaa
open Go.ChangeShapes Go.WideShapes Go.ChangeAt Go.RowKit

theorem sums_in {H : Type} {enc : TypeId × Value → H} {W : World} {base : Nat} {v : Value} {d : DataW H} {p : List MemPlace} (hok : Value.okWide Try.prog W .any base 23 v) (h : DataW.Trod enc Try.prog W 0 (fun _ => true) true 23 v d p) :
    ∃ s : List Nat, Sl W 1 v s.length (u32s s) ∧ Sums32 s := by
  obtain ⟨a0, len0, cap0, rfl⟩ := okWide_slice Try.underlying23 hok
  obtain ⟨fuel, hf⟩ := h
  rcases open_ints Try.underlying23 Try.underlying27 (by kernel_rfl) hf with ⟨hcs, _⟩ | ⟨x, l, c, zs, hcs, _, hl, hm, hz, _, hcell, hwz⟩
  · simp [Value.cells] at hcs
    obtain ⟨rfl, rfl, rfl⟩ := hcs
    exact ⟨[], Sl.nil _ _, fun x hx => by simp at hx⟩
  · simp [Value.cells] at hcs
    obtain ⟨rfl, rfl, rfl⟩ := hcs
    have hzl : zs.length = cap0 := by simpa using hz
    have hb : ∀ n ∈ zs, 0 ≤ n ∧ n < 4294967296 := by
      intro n hn
      have h1 : 0 ≤ n ∧ n ≤ 4294967295 := by simpa [Lit.wf, IntKind.min, IntKind.max, IntKind.signed, IntKind.bits] using hwz n hn
      omega
    refine ⟨(zs.take len0).map Int.toNat, ?_, ?_⟩
    · have e : u32s ((zs.take len0).map Int.toNat) = (zs.take len0).map (Value.int .u32) := by
        rw [u32s, List.map_map]
        apply List.map_congr_left
        intro n hn
        simp only [Function.comp]
        rw [Int.toNat_of_nonneg (hb n (List.mem_of_mem_take hn)).1]
      rw [e]
      have hlen : (zs.take len0).length = len0 := by rw [List.length_take]; omega
      rw [List.length_map, hlen]
      refine ⟨by rw [List.length_map, hlen, Nat.mul_one], .inr ⟨x, cap0, rfl, hl, by unfold maxLen at hm; omega, ?_⟩⟩
      intro i hi
      have hi' : i < zs.length := by simp at hi; omega
      rw [hcell i hi']
      simp [List.getD_eq_getElem?_getD, hi']
    · intro x hx
      obtain ⟨n, hn, rfl⟩ := List.mem_map.1 hx
      have := hb n (List.mem_of_mem_take hn)
      omega
end Go.Proofs.Ytkflhehocbaoiaa
