/- What comes in, opened: tiers. -/
import Derived.Test.YtpihcfpdaoflbaaRd
import Derived.Test.YtpihcfpdaoflbaaT1
namespace Go.Proofs.Ytpihcfpdaoflbaa
open Go.ChangeShapes Go.WideShapes Go.ChangeAt Go.RowKit

/-- A slice of elements each of which is as f says. -/
theorem RS.flat {α : Type} {R : World → List Value → α → Prop} {size : Nat} {w : World} {v : Value} {l : List α} {f : α → List Value} (h : RS R size w v l) (hf : ∀ cs y, R w cs y → cs = f y) : Sl w size v l.length (l.map f).flatten := by
  obtain ⟨css, hl, hs, hr⟩ := h
  have e : css = l.map f := by
    apply List.ext_getElem (by simp [hl])
    intro i h1 h2
    have h3 : i < l.length := by omega
    rw [List.getElem_map]
    exact hf _ _ (hr i _ _ (List.getElem?_eq_getElem h1) (List.getElem?_eq_getElem h3)).2
  rw [← e]; exact hs
theorem RS.all {α : Type} {R : World → List Value → α → Prop} {size : Nat} {w : World} {v : Value} {l : List α} (h : RS R size w v l) : ∀ y ∈ l, ∃ cs, R w cs y := by
  obtain ⟨css, hl, hs, hr⟩ := h
  intro y hy
  obtain ⟨i, hi, rfl⟩ := List.getElem_of_mem hy
  have h1 : i < css.length := by omega
  exact ⟨_, (hr i _ _ (List.getElem?_eq_getElem h1) (List.getElem?_eq_getElem hi)).2⟩

theorem cells_slice {P : Program} {W : World} {r : Reach} {b0 : Nat} {t e : TypeId} {v : Value} (ht : P.underlying t = some (.slice e)) (hval : Value.okWide P W r b0 t v) : v.cells.toList = [v] := by
  obtain ⟨a, n, c, rfl⟩ := okWide_slice ht hval
  rfl

theorem tiers_open {H : Type} {enc : TypeId × Value → H} {W : World} {v : Value} {d : DataW H} {p : List MemPlace} (h : DataW.Trod enc Try.prog W 0 (fun _ => true) true 29 v d p) (hv : v.cells.toList = [v]) :
    ∃ ts : List (Int × Int), Sl W 2 v ts.length (tcells ts) := by
  obtain ⟨fuel, hf⟩ := h
  obtain ⟨v', l, he, hrs, hb⟩ := slice_in (fun _ cs (p : Int × Int) => cs = [.int .i64 p.1, .int .i64 p.2]) (fun _ => 1) Try.underlying29 (size := 2) (by kernel_rfl) (by decide) (fun n cs x hx hl => by
    obtain ⟨y0, y1, m, rfl, _, h0, h1⟩ := trod_struct2 (P := Try.prog) (t := 42) Try.underlying42 hx
    match cs, hl with
    | [c0, c1], _ =>
      obtain ⟨a, e0, rfl, _⟩ := DataW.trod_int Try.underlying3 h0
      obtain ⟨k, e1, rfl, _⟩ := DataW.trod_int Try.underlying3 h1
      have k0 : Try.prog.cellsOf 3 = 1 := by kernel_rfl
      simp only [k0] at e0 e1
      simp at e0 e1
      subst e0; subst e1
      exact ⟨(a, k), rfl, by simp [Rows.uptoBulk]⟩) hf
  rw [hv] at he
  simp at he
  subst he
  have h2 := hrs.flat (f := fun p : Int × Int => [.int .i64 p.1, .int .i64 p.2]) (fun cs y hy => hy)
  rw [← List.flatMap_def] at h2
  exact ⟨l, h2⟩
end Go.Proofs.Ytpihcfpdaoflbaa
