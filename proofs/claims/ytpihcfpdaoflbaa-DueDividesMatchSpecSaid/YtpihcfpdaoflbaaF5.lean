/- Walks over abstract values. Printed by tools/gen.py. No statement of the seat. -/
import Derived.Test.YtpihcfpdaoflbaaF4
namespace Go.Proofs.Ytpihcfpdaoflbaa
open Go.RowKit
set_option linter.unusedVariables false

/-! Types. -/
namespace TyF5

end TyF5
open TyF5


variable {α : Type}
/-- After i elements of the insertion sort of a to b. -/
structure Ins (cmp : α → α → Int) (l : List (α × Nat)) (a b : Nat) (c : List (α × Nat)) (i : Nat) : Prop where
  perm : c.Perm l
  out : ∀ p, p < a ∨ i ≤ p → c[p]? = l[p]?
  sorted : SortedOn cmp c a i
  tags : ∀ p x q z, a ≤ p → p < i → i ≤ q → q < b → c[p]? = some x → l[q]? = some z → x.2 < z.2
/-- The element i is on its way down, at j. -/
structure InsJ (cmp : α → α → Int) (l : List (α × Nat)) (a b : Nat) (c : List (α × Nat)) (i j : Nat) : Prop where
  perm : c.Perm l
  out : ∀ p, p < a ∨ i < p → c[p]? = l[p]?
  aj : a ≤ j
  ji : j ≤ i
  at_ : c[j]? = l[i]?
  sorted : ∀ p q x y, a ≤ p → p < q → q ≤ i → q ≠ j → c[p]? = some x → c[q]? = some y → tlt cmp x y
  tags : ∀ p x q z, a ≤ p → p ≤ i → p ≠ j → i ≤ q → q < b → c[p]? = some x → l[q]? = some z → x.2 < z.2
def Incr (l : List (α × Nat)) (a b : Nat) : Prop := ∀ i j x y, a ≤ i → i < j → j < b → l[i]? = some x → l[j]? = some y → x.2 < y.2
theorem Ins.start {cmp : α → α → Int} {l : List (α × Nat)} {a b : Nat} (h : Incr l a b) : Ins cmp l a b l (a + 1) :=
  ⟨List.Perm.refl _, fun _ _ => rfl, fun i j x y h1 h2 h3 => by omega, fun p x q z h1 h2 h3 h4 h5 h6 => h p q x z h1 (by omega) h4 h5 h6⟩
theorem Ins.down {cmp : α → α → Int} {l c : List (α × Nat)} {a b i : Nat} (h : Ins cmp l a b c i) (hai : a < i) : InsJ cmp l a b c i i :=
  ⟨h.perm, fun p hp => h.out p (by omega), by omega, Nat.le_refl _, h.out i (.inr (Nat.le_refl _)), fun p q x y h1 h2 h3 h4 => h.sorted p q x y h1 h2 (by omega), fun p x q z h1 h2 h3 h4 h5 => h.tags p x q z h1 (by omega) h4 h5⟩
theorem InsJ.step {cmp : α → α → Int} {l c : List (α × Nat)} {a b i j : Nat} (h : InsJ cmp l a b c i j) (haj : a < j) (hil : i < c.length) {x y : α × Nat} (hx : c[j]? = some x) (hy : c[j - 1]? = some y) (hlt : tlt cmp x y) : InsJ cmp l a b (sw c j (j - 1)) i (j - 1) := by
  have hji := h.ji
  have g := fun p => sw_get (l := c) (i := j) (j := j - 1) (by omega) (by omega) p
  refine ⟨sw_perm.trans h.perm, fun p hp => ?_, by omega, by omega, ?_, fun p q u v h1 h2 h3 h4 hu hv => ?_, fun p u q z h1 h2 h3 h4 h5 hu hz => ?_⟩
  · rw [g, if_neg (by omega), if_neg (by omega)]; exact h.out p hp
  · rw [g, if_pos rfl]; exact h.at_
  · rw [g] at hu hv
    rw [if_neg h4] at hv
    by_cases e1 : q = j
    · rw [if_pos e1, hy] at hv
      cases hv
      by_cases e2 : p = j - 1
      · rw [if_pos e2, hx] at hu; cases hu; exact hlt
      · rw [if_neg e2, if_neg (by omega)] at hu
        exact h.sorted p (j - 1) _ _ h1 (by omega) (by omega) (by omega) hu hy
    · rw [if_neg e1] at hv
      by_cases e2 : p = j - 1
      · rw [if_pos e2] at hu
        exact h.sorted j q _ _ (by omega) (by omega) h3 e1 hu hv
      · rw [if_neg e2] at hu
        by_cases e3 : p = j
        · rw [if_pos e3] at hu
          exact h.sorted (j - 1) q _ _ (by omega) (by omega) h3 e1 hu hv
        · rw [if_neg e3] at hu
          exact h.sorted p q _ _ h1 h2 h3 e1 hu hv
  · rw [g, if_neg h3] at hu
    by_cases e1 : p = j
    · rw [if_pos e1] at hu
      exact h.tags (j - 1) u q z (by omega) (by omega) (by omega) h4 h5 hu hz
    · rw [if_neg e1] at hu
      exact h.tags p u q z h1 h2 e1 h4 h5 hu hz
theorem InsJ.done {cmp : α → α → Int} (hc : Pre cmp) {l c : List (α × Nat)} {a b i j : Nat} (h : InsJ cmp l a b c i j) (hinc : Incr l a b) (hib : i < b) (hil : b ≤ l.length)
    (hstop : j = a ∨ ∃ x y, c[j]? = some x ∧ c[j - 1]? = some y ∧ ¬ cmp x.1 y.1 < 0) : Ins cmp l a b c (i + 1) := by
  have hji := h.ji
  have haj := h.aj
  refine ⟨h.perm, fun p hp => h.out p (by omega), fun p q x y h1 h2 h3 hx hy => ?_, fun p x q z h1 h2 h3 h4 hx hz => ?_⟩
  · by_cases e : q = j
    · subst e
      rcases hstop with h4 | ⟨u, v, hu, hv, hn⟩
      · omega
      · rw [hy] at hu; cases hu
        have hti : tlt cmp v y := by
          refine .inr ⟨by omega, ?_⟩
          have hz := h.at_
          rw [hy] at hz
          exact h.tags (q - 1) v i y (by omega) (by omega) (by omega) (Nat.le_refl _) hib hv hz.symm
        by_cases e2 : p = q - 1
        · subst e2; rw [hx] at hv; cases hv; exact hti
        · exact tlt_trans hc (h.sorted p (q - 1) x v h1 (by omega) (by omega) (by omega) hx hv) hti
    · exact h.sorted p q x y h1 h2 (by omega) e hx hy
  · by_cases e : p = j
    · subst e
      have hz2 := h.at_
      rw [hx] at hz2
      exact hinc i q x z (by omega) (by omega) h4 hz2.symm hz
    · exact h.tags p x q z h1 (by omega) e (by omega) h4 hx hz


end Go.Proofs.Ytpihcfpdaoflbaa
