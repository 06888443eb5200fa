/- What comes in, opened with its weight: sums; partners. -/
import Derived.Test.YtkflhehocbaoiaaRd
import Derived.Test.YtkflhehocbaoiaaR4
namespace Go.Proofs.Ytkflhehocbaoiaa
open Go.ChangeShapes Go.WideShapes Go.ChangeAt Go.RowKit

/-- A slice of elements each of which is one cell, as f says. -/
theorem RS.flat {α : Type} {R : World → List Value → α → Prop} {size : Nat} {w : World} {v : Value} {l : List α} {f : α → List Value} (h : RS R size w v l) (hf : ∀ cs y, R w cs y → cs = f y) : Sl w size v l.length (l.map f).flatten := by
  obtain ⟨css, hl, hs, hr⟩ := h
  have e : css = l.map f := by
    apply List.ext_getElem (by simp [hl])
    intro i h1 h2
    have h3 : i < l.length := by omega
    rw [List.getElem_map]
    exact hf _ _ (hr i _ _ (List.getElem?_eq_getElem h1) (List.getElem?_eq_getElem h3)).2
  rw [← e]; exact hs
theorem RS.all {α : Type} {R : World → List Value → α → Prop} {size : Nat} {w : World} {v : Value} {l : List α} (h : RS R size w v l) : ∀ y ∈ l, ∃ cs, R w cs y := by
  obtain ⟨css, hl, hs, hr⟩ := h
  intro y hy
  obtain ⟨i, hi, rfl⟩ := List.getElem_of_mem hy
  have h1 : i < css.length := by omega
  exact ⟨_, (hr i _ _ (List.getElem?_eq_getElem h1) (List.getElem?_eq_getElem hi)).2⟩
theorem sumB_one {α : Type} (l : List α) : sumB (fun _ => 1) l = l.length := by
  induction l with
  | nil => rfl
  | cons a r ih => simp only [sumB, List.map_cons, List.sum_cons, List.length_cons] at ih ⊢; omega

theorem flat_one (l : List Nat) : (l.map fun n : Nat => [Value.int .u32 (n : Int)]).flatten = u32s l := by
  unfold u32s
  induction l with
  | nil => rfl
  | cons a r ih => simp only [List.map_cons, List.flatten_cons, List.singleton_append, ih]

theorem sums_in_b {H : Type} {enc : TypeId × Value → H} {W : World} {v : Value} {d : DataW H} {p : List MemPlace} (h : DataW.Trod enc Try.prog W 0 (fun _ => true) true 23 v d p) (hv : v.cells.toList = [v]) :
    ∃ s : List Nat, Sl W 1 v s.length (u32s s) ∧ Sums32 s ∧ s.length + 1 ≤ Rows.uptoBulk d := by
  obtain ⟨fuel, hf⟩ := h
  obtain ⟨v', l, he, hrs, hb⟩ := slice_in (fun _ cs (n : Nat) => cs = [.int .u32 (n : Int)] ∧ n < 4294967296) (fun _ => 1) Try.underlying23 (size := 1) (by kernel_rfl) (by decide) (fun n cs x hx _ => by
    obtain ⟨k, rfl, rfl, hw⟩ := DataW.trod_int Try.underlying27 hx
    have h1 : 0 ≤ k ∧ k ≤ 4294967295 := by simpa [Lit.wf, IntKind.min, IntKind.max, IntKind.signed, IntKind.bits] using hw
    exact ⟨k.toNat, ⟨by rw [Int.toNat_of_nonneg h1.1], by omega⟩, by simp [Rows.uptoBulk]⟩) hf
  rw [hv] at he
  simp at he
  subst he
  refine ⟨l, ?_, ?_, by rw [sumB_one] at hb; exact hb⟩
  · have := hrs.flat (f := fun n : Nat => [.int .u32 (n : Int)]) (fun cs y hy => hy.1)
    rwa [flat_one l] at this
  · intro y hy
    obtain ⟨cs, h2⟩ := hrs.all y hy
    exact h2.2

theorem parts_in_b {H : Type} {enc : TypeId × Value → H} {W : World} {v : Value} {d : DataW H} {p : List MemPlace} (h : DataW.Trod enc Try.prog W 0 (fun _ => true) true 32 v d p) (hv : v.cells.toList = [v]) :
    ∃ l : List (Bool × Nat), Sl W 2 v l.length (parts l) ∧ Parts64 l := by
  obtain ⟨fuel, hf⟩ := h
  obtain ⟨v', l, he, hrs, hb⟩ := slice_in (fun _ cs (p : Bool × Nat) => cs = partCells p ∧ p.2 < 18446744073709551616) (fun _ => 1) Try.underlying32 (size := 2) (by kernel_rfl) (by decide) (fun n cs x hx hl => by
    obtain ⟨y0, y1, m, rfl, _, h0, h1⟩ := trod_struct2 (P := Try.prog) (t := 41) Try.underlying41 hx
    match cs, hl with
    | [c0, c1], _ =>
      obtain ⟨b, e0, rfl⟩ := DataW.trod_bool Try.underlying4 h0
      obtain ⟨k, e1, rfl, hw⟩ := DataW.trod_int Try.underlying35 h1
      have k0 : Try.prog.cellsOf 4 = 1 := by kernel_rfl
      have k1 : Try.prog.cellsOf 35 = 1 := by kernel_rfl
      simp only [k0, k1] at e0 e1
      simp at e0 e1
      subst e0; subst e1
      have h1 : 0 ≤ k ∧ k ≤ 18446744073709551615 := by simpa [Lit.wf, IntKind.min, IntKind.max, IntKind.signed, IntKind.bits] using hw
      exact ⟨(b, k.toNat), ⟨by rw [partCells, Int.toNat_of_nonneg h1.1], by show k.toNat < _; omega⟩, by simp [Rows.uptoBulk]⟩) hf
  rw [hv] at he
  simp at he
  subst he
  exact ⟨l, hrs.flat (f := partCells) (fun cs y hy => hy.1), fun y hy => by obtain ⟨cs, h2⟩ := hrs.all y hy; exact h2.2⟩

theorem cells_slice {P : Program} {W : World} {r : Reach} {b0 : Nat} {t e : TypeId} {v : Value} (ht : P.underlying t = some (.slice e)) (hval : Value.okWide P W r b0 t v) : v.cells.toList = [v] := by
  obtain ⟨a, n, c, rfl⟩ := okWide_slice ht hval
  rfl
end Go.Proofs.Ytkflhehocbaoiaa
