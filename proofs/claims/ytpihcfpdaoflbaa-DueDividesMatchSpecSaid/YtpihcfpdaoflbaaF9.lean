/- Walks over abstract values. Printed by tools/gen.py. No statement of the seat. -/
import Derived.Test.YtpihcfpdaoflbaaF8
namespace Go.Proofs.Ytpihcfpdaoflbaa
open Go.RowKit
set_option linter.unusedVariables false

/-! Types. -/
namespace TyF9

end TyF9
open TyF9


/-- The binary search among run 2 for an element x of run 1, or the other way round: who lies before i is said by lo, who lies from j on by hi. -/
structure Srch {β : Type} (l : List β) (lo hi : β → Prop) (a b i j : Nat) : Prop where
  ai : a ≤ i
  ij : i ≤ j
  jb : j ≤ b
  low : ∀ h y, a ≤ h → h < i → l[h]? = some y → lo y
  high : ∀ h y, j ≤ h → h < b → l[h]? = some y → hi y
theorem Srch.start {β : Type} {l : List β} {lo hi : β → Prop} {a b : Nat} (h : a ≤ b) : Srch l lo hi a b a b := ⟨Nat.le_refl _, h, Nat.le_refl _, fun _ _ _ _ => by omega, fun _ _ _ _ => by omega⟩
theorem Srch.up {β : Type} {l : List β} {lo hi : β → Prop} {a b i j h : Nat} (s : Srch l lo hi a b i j) (h1 : i ≤ h) (h2 : h < j) (hl : ∀ k y, a ≤ k → k ≤ h → l[k]? = some y → lo y) : Srch l lo hi a b (h + 1) j :=
  ⟨by have := s.ai; omega, by omega, s.jb, fun k y q1 q2 => hl k y q1 (by omega), s.high⟩
theorem Srch.dn {β : Type} {l : List β} {lo hi : β → Prop} {a b i j h : Nat} (s : Srch l lo hi a b i j) (h1 : i ≤ h) (h2 : h < j) (hh : ∀ k y, h ≤ k → k < b → l[k]? = some y → hi y) : Srch l lo hi a b i h :=
  ⟨s.ai, h1, by have := s.jb; omega, s.low, hh⟩
theorem mono_up {α : Type} {cmp : α → α → Int} (hc : Pre cmp) {l : List (α × Nat)} {a b h : Nat} {x y0 : α × Nat} (hs : SortedOn cmp l a b) (hb : h < b) (hy : l[h]? = some y0) (ht : tlt cmp y0 x) : ∀ k y, a ≤ k → k ≤ h → l[k]? = some y → tlt cmp y x := fun k y h1 h2 h3 => by
  by_cases e : k = h
  · subst e; rw [hy] at h3; cases h3; exact ht
  · exact tlt_trans hc (hs k h y y0 h1 (by omega) hb h3 hy) ht
theorem mono_dn {α : Type} {cmp : α → α → Int} (hc : Pre cmp) {l : List (α × Nat)} {a b h : Nat} {x y0 : α × Nat} (hs : SortedOn cmp l a b) (ha : a ≤ h) (hy : l[h]? = some y0) (ht : tlt cmp x y0) : ∀ k y, h ≤ k → k < b → l[k]? = some y → tlt cmp x y := fun k y h1 h2 h3 => by
  by_cases e : h = k
  · subst e; rw [hy] at h3; cases h3; exact ht
  · exact tlt_trans hc ht (hs h k y0 y ha (by omega) h2 hy h3)
/-- The search for the cut: c from s on has its partner p - c below it, c before s has not. -/
structure CutS {N0 : Nat} (cmp : Fin N0 → Fin N0 → Int) (l : List (Fin N0 × Nat)) (p lo0 hi0 s r : Nat) : Prop where
  ls : lo0 ≤ s
  sr : s ≤ r
  rh : r ≤ hi0
  low : lo0 < s → ∃ x y, l[s - 1]? = some x ∧ l[p - (s - 1)]? = some y ∧ tlt cmp x y
  high : r < hi0 → ∃ x y, l[r]? = some x ∧ l[p - r]? = some y ∧ tlt cmp y x
theorem CutS.cut {N0 : Nat} {cmp : Fin N0 → Fin N0 → Int} (hc : Pre cmp) {l : List (Fin N0 × Nat)} {a m b mid lo0 hi0 s : Nat} (h1 : SortedOn cmp l a m) (h2 : SortedOn cmp l m b) (hmid : mid = (a + b) / 2) (ham : a < m) (hmb : m < b)
    (hl : (mid < m ∧ lo0 + b = mid + m ∧ hi0 = mid) ∨ (m ≤ mid ∧ lo0 = a ∧ hi0 = m)) (h : CutS cmp l (mid + m - 1) lo0 hi0 s s) : Cut cmp l a m b s (mid + m - s) := by
  have ls := h.ls
  have rh := h.rh
  refine ⟨by omega, by omega, by omega, by omega, fun i j x y q1 q2 q3 q4 hx hy => ?_, fun i j x y q1 q2 q3 q4 hx hy => ?_⟩
  · obtain ⟨u, v, hu, hv, ht⟩ := h.low (by omega)
    have hv2 : l[mid + m - s]? = some v := by rw [← hv]; congr 1; omega
    have e1 : tlt cmp x v := mono_up hc h1 (by omega) hu ht i x q1 (by omega) hx
    exact mono_dn hc h2 (by omega) hv2 e1 j y q3 q4 hy
  · obtain ⟨u, v, hu, hv, ht⟩ := h.high (by omega)
    have hv2 : l[mid + m - s - 1]? = some v := by rw [← hv]; congr 1; omega
    have e1 : tlt cmp y u := mono_up hc h2 (by omega) hv2 ht j y q3 (by omega) hy
    exact mono_dn hc h1 (by omega) hu e1 i x q1 q2 hx


end Go.Proofs.Ytpihcfpdaoflbaa
