/- A region that draws its order, whose operations read and whose calls leave old memory alone (they may make blocks): walked once, in the order of the text. -/
import Derived.Test.YtajghehicmlajaaDoorK2
namespace Go.Proofs.YtajghehicmlajaaDoor
open Go.RowKit

/-- A world behind w: old memory is as it was. -/
structure Later (w : World) where
  u : World
  h : Below w.heap.size w u

instance (w : World) : Nonempty (Later w) := ⟨⟨w, Below.refl _ _⟩⟩
theorem Later.cell {w : World} {ad : Addr} {v : Value} (h : w.cell? ad = some v) (n : Later w) : n.u.cell? ad = some v := cell_behind n.h h

theorem wp_region_later {P : Program} {id : Nat} {Q : Exit → Act → World → Prop} {a : Act} {w : World} {l : List Oper} (hm : P.follows .mixedOrders = true) (hB : Region.lexB .any l.toArray = true)
    (h : wpQuiet P l.toArray (fun w' => ∃ n : Later w, w' = n.u) (fun a' => ∀ w', (∃ n : Later w, w' = n.u) → Q .normal a' w') l a) : (Code.region id l.toArray true).wp P Q a w :=
  wp_region_quiet (C := fun w' => ∃ n : Later w, w' = n.u) hm hB ⟨⟨w.drew, (Below.refl _ _).drew⟩, rfl⟩ (by simpa using h)

/-- A callee's contract, met in such a world. -/
theorem Calls.later_of {P : Program} {f : FuncId} {args : Array Value} {w : World} {n : Later w} {v : Value}
    (h : Calls P f args n.u fun e w' => e = .returned v ∧ Below n.u.heap.size n.u w') : Calls P f args n.u fun e w'' => e = .returned v ∧ ∃ m : Later w, w'' = m.u :=
  h.mono fun _ w' ⟨he, hb⟩ => ⟨he, ⟨w', n.h.trans (hb.mono n.h.size)⟩, rfl⟩
theorem Calls.later_same {P : Program} {f : FuncId} {args : Array Value} {w : World} {n : Later w} {v : Value}
    (h : Calls P f args n.u fun e w' => e = .returned v ∧ n.u = w') : Calls P f args n.u fun e w'' => e = .returned v ∧ ∃ m : Later w, w'' = m.u :=
  h.mono fun _ _ ⟨he, hb⟩ => ⟨he, n, hb.symm⟩

/-- A slice in such a world. -/
theorem Sl.laterW {w : World} {size k : Nat} {v : Value} {xs : List Value} (h : Sl w size v k xs) (n : Later w) : Sl n.u size v k xs := h.below n.h (Nat.le_refl _)
end Go.Proofs.YtajghehicmlajaaDoor
