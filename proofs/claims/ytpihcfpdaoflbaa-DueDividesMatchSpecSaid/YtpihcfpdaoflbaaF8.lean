/- Walks over abstract values. Printed by tools/gen.py. No statement of the seat. -/
import Derived.Test.YtpihcfpdaoflbaaF7
namespace Go.Proofs.Ytpihcfpdaoflbaa
open Go.RowKit
set_option linter.unusedVariables false

/-! Types. -/
namespace TyF8

end TyF8
open TyF8


variable {α : Type}
theorem rot_up {l : List α} {a k : Nat} (h : a ≤ k) (hk : k + 1 < l.length) : sw (rotl l a (a + 1) (k + 1)) k (k + 1) = rotl l a (a + 1) (k + 2) := by
  apply List.ext_getElem?
  intro p
  have hl : (rotl l a (a + 1) (k + 1)).length = l.length := rotl_len (by omega) (by omega) (by omega)
  rw [sw_get (by omega) (by omega), rotl_get (by omega) (by omega) (by omega) p, rotl_get (by omega) (by omega) (by omega) k, rotl_get (by omega) (by omega) (by omega) (k + 1), rotl_get (by omega) (by omega) (by omega) p]
  by_cases c1 : p = k + 1
  · rw [if_pos c1, if_neg (by omega), if_neg (by omega), if_pos (by omega), if_neg (by omega), if_neg (by omega), if_pos (by omega)]
    congr 1; omega
  · rw [if_neg c1]
    by_cases c2 : p = k
    · rw [if_pos c2, if_neg (by omega), if_neg (by omega), if_neg (by omega), if_neg (by omega), if_pos (by omega)]
      congr 1; omega
    · rw [if_neg c2]
      by_cases c3 : p < a
      · rw [if_pos c3, if_pos c3]
      · rw [if_neg c3, if_neg c3]
        by_cases c4 : p < k
        · rw [if_pos (by omega), if_pos (by omega)]
        · rw [if_neg (by omega), if_neg (by omega), if_neg (by omega), if_neg (by omega)]
theorem rot_down {l : List α} {m k : Nat} (h : k ≤ m) (h0 : 0 < k) (hm : m < l.length) : sw (rotl l k m (m + 1)) k (k - 1) = rotl l (k - 1) m (m + 1) := by
  apply List.ext_getElem?
  intro p
  have hl : (rotl l k m (m + 1)).length = l.length := rotl_len (by omega) (by omega) (by omega)
  rw [sw_get (by omega) (by omega), rotl_get (by omega) (by omega) (by omega) p, rotl_get (by omega) (by omega) (by omega) k, rotl_get (by omega) (by omega) (by omega) (k - 1), rotl_get (by omega) (by omega) (by omega) p]
  by_cases c1 : p = k - 1
  · rw [if_pos c1, if_neg (by omega), if_pos (by omega), if_neg (by omega), if_pos (by omega)]
    congr 1; omega
  · rw [if_neg c1]
    by_cases c2 : p = k
    · rw [if_pos c2, if_pos (by omega), if_neg (by omega), if_neg (by omega), if_pos (by omega)]
      congr 1; omega
    · rw [if_neg c2]
      by_cases c3 : p < k - 1
      · rw [if_pos (by omega), if_pos c3]
      · by_cases c4 : p < m + 1
        · rw [if_neg (by omega), if_neg (by omega), if_pos c4, if_neg (by omega), if_neg (by omega)]
        · rw [if_neg (by omega), if_neg (by omega), if_neg c4, if_neg (by omega), if_neg (by omega)]
/-- One element of run 1, let down among those of run 2. -/
theorem one_up {cmp : α → α → Int} (hc : Pre cmp) {l : List (α × Nat)} {a b i : Nat} (ht : TagsOk l) (hb : b ≤ l.length) (h2 : SortedOn cmp l (a + 1) b) (hi : a + 1 ≤ i) (hib : i ≤ b)
    (hlo : ∀ h x y, a + 1 ≤ h → h < i → l[h]? = some y → l[a]? = some x → tlt cmp y x) (hhi : ∀ h x y, i ≤ h → h < b → l[h]? = some y → l[a]? = some x → tlt cmp x y) : rotl l a (a + 1) i = sortSeg cmp l a b := by
  have g := fun p => rotl_get (l := l) (a := a) (m := a + 1) (b := i) (by omega) hi (by omega) p
  refine sortSeg_eq hc (by omega) ht (rotl_perm (by omega) hi) (fun p hp => ?_) (fun p q x y q1 q2 q3 hp hq => ?_)
  · rw [g]
    rcases hp with hp | hp
    · rw [if_pos hp]
    · rw [if_neg (by omega), if_neg (by omega), if_neg (by omega)]
  · rw [g, if_neg (by omega)] at hp hq
    by_cases c1 : p < a + (i - (a + 1))
    · rw [if_pos c1] at hp
      by_cases c2 : q < a + (i - (a + 1))
      · rw [if_pos c2] at hq; exact h2 _ _ x y (by omega) (by omega) (by omega) hp hq
      · rw [if_neg c2] at hq
        by_cases c3 : q < i
        · rw [if_pos c3, show q - (i - (a + 1)) = a by omega] at hq
          exact hlo _ y x (by omega) (by omega) hp hq
        · rw [if_neg c3] at hq; exact h2 _ _ x y (by omega) (by omega) q3 hp hq
    · rw [if_neg c1] at hp
      rw [if_neg (by omega), if_neg (by omega)] at hq
      by_cases c3 : p < i
      · rw [if_pos c3, show p - (i - (a + 1)) = a by omega] at hp
        exact hhi q x y (by omega) q3 hq hp
      · rw [if_neg c3] at hp; exact h2 _ _ x y (by omega) q2 q3 hp hq
/-- One element of run 2, let up among those of run 1. -/
theorem one_down {cmp : α → α → Int} (hc : Pre cmp) {l : List (α × Nat)} {a m i : Nat} (ht : TagsOk l) (hb : m + 1 ≤ l.length) (h1 : SortedOn cmp l a m) (hi : a ≤ i) (him : i ≤ m)
    (hlo : ∀ h x y, a ≤ h → h < i → l[h]? = some y → l[m]? = some x → tlt cmp y x) (hhi : ∀ h x y, i ≤ h → h < m → l[h]? = some y → l[m]? = some x → tlt cmp x y) : rotl l i m (m + 1) = sortSeg cmp l a (m + 1) := by
  have g := fun p => rotl_get (l := l) (a := i) (m := m) (b := m + 1) him (by omega) (by omega) p
  refine sortSeg_eq hc (by omega) ht (rotl_perm him (by omega)) (fun p hp => ?_) (fun p q x y q1 q2 q3 hp hq => ?_)
  · rw [g]
    rcases hp with hp | hp
    · rw [if_pos (by omega)]
    · rw [if_neg (by omega), if_neg (by omega), if_neg (by omega)]
  · rw [g] at hp hq
    by_cases c1 : p < i
    · rw [if_pos c1] at hp
      by_cases c2 : q < i
      · rw [if_pos c2] at hq; exact h1 _ _ x y q1 q2 (by omega) hp hq
      · rw [if_neg c2] at hq
        by_cases c3 : q < i + (m + 1 - m)
        · rw [if_pos c3, show q + (m - i) = m by omega] at hq
          exact hlo _ y x q1 c1 hp hq
        · rw [if_neg c3, if_pos q3] at hq; exact h1 _ _ x y q1 (by omega) (by omega) hp hq
    · rw [if_neg c1] at hp
      rw [if_neg (by omega), if_neg (by omega), if_pos q3] at hq
      by_cases c3 : p < i + (m + 1 - m)
      · rw [if_pos c3, show p + (m - i) = m by omega] at hp
        exact hhi _ x y (by omega) (by omega) hq hp
      · rw [if_neg c3, if_pos (by omega)] at hp; exact h1 _ _ x y (by omega) (by omega) (by omega) hp hq


end Go.Proofs.Ytpihcfpdaoflbaa
