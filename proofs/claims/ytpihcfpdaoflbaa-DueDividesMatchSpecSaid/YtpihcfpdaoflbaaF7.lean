/- Walks over abstract values. Printed by tools/gen.py. No statement of the seat. -/
import Derived.Test.YtpihcfpdaoflbaaF6
import Derived.Test.YtpihcfpdaoflbaaA19
namespace Go.Proofs.Ytpihcfpdaoflbaa
open Go.RowKit
set_option linter.unusedVariables false

/-! Types. -/
namespace TyF7

end TyF7
open TyF7


variable {α : Type}
/-- The tags of the first run lie below those of the second one. -/
def Cross (l : List (α × Nat)) (a m b : Nat) : Prop := ∀ i j x y, a ≤ i → i < m → m ≤ j → j < b → l[i]? = some x → l[j]? = some y → x.2 < y.2
theorem at_some (l : List α) {i : Nat} (h : i < l.length) : l[i]? = some l[i] := List.getElem?_eq_getElem h
/-- Where the tags are so, an element of run 2 is below one of run 1 if it compares so. -/
theorem cross_lt {cmp : α → α → Int} {x y : α × Nat} (ht : x.2 < y.2) : tlt cmp y x ↔ cmp y.1 x.1 < 0 := by
  unfold tlt
  constructor
  · rintro (h | ⟨_, h⟩)
    · exact h
    · omega
  · exact .inl
theorem cross_ge {cmp : α → α → Int} {x y : α × Nat} (ht : x.2 < y.2) (h : ¬ cmp y.1 x.1 < 0) : tlt cmp x y := .inr ⟨by omega, ht⟩
theorem sortSeg_mem {cmp : α → α → Int} {l : List (α × Nat)} {a b : Nat} (hab : a ≤ b) (hb : b ≤ l.length) {p : Nat} (h1 : a ≤ p) (h2 : p < b) {x : α × Nat} (h : (sortSeg cmp l a b)[p]? = some x) : ∃ q, a ≤ q ∧ q < b ∧ l[q]? = some x := by
  rw [sortSeg_get cmp l hab hb, if_neg (by omega), if_pos h2] at h
  have h3 := List.mem_mergeSort.1 (List.mem_of_getElem? h)
  obtain ⟨k, hk, e⟩ := List.mem_iff_getElem.1 h3
  have hk2 : k < b - a := by rw [List.length_take] at hk; omega
  refine ⟨a + k, by omega, by omega, ?_⟩
  rw [← seg_get l hk2, List.getElem?_eq_getElem hk, e]
theorem rotl_id1 {l : List α} {m b : Nat} (h : m ≤ b) : rotl l m m b = l := by
  unfold rotl
  rw [Nat.sub_self, List.take_zero, List.nil_append]
  exact (split3 l h).symm
theorem rotl_id2 {l : List α} {a m : Nat} (h : a ≤ m) : rotl l a m m = l := by
  unfold rotl
  rw [Nat.sub_self, List.take_zero, List.nil_append]
  exact (split3 l h).symm
/-- What the binary search has found. -/
structure Cut (cmp : α → α → Int) (l : List (α × Nat)) (a m b s e : Nat) : Prop where
  has : a ≤ s
  sm : s ≤ m
  me : m ≤ e
  eb : e ≤ b
  low : ∀ i j x y, a ≤ i → i < s → e ≤ j → j < b → l[i]? = some x → l[j]? = some y → tlt cmp x y
  high : ∀ i j x y, s ≤ i → i < m → m ≤ j → j < e → l[i]? = some x → l[j]? = some y → tlt cmp y x
theorem cut_merge {cmp : α → α → Int} (hc : Pre cmp) {l : List (α × Nat)} {a m b s e : Nat} (ht : TagsOk l) (hb : b ≤ l.length) (h1 : SortedOn cmp l a m) (h2 : SortedOn cmp l m b) (hx : Cross l a m b) (hcut : Cut cmp l a m b s e) :
    SortedOn cmp (rotl l s m e) a s ∧ SortedOn cmp (rotl l s m e) s (s + (e - m)) ∧ Cross (rotl l s m e) a s (s + (e - m)) ∧
    SortedOn cmp (sortSeg cmp (rotl l s m e) a (s + (e - m))) (s + (e - m)) e ∧ SortedOn cmp (sortSeg cmp (rotl l s m e) a (s + (e - m))) e b ∧ Cross (sortSeg cmp (rotl l s m e) a (s + (e - m))) (s + (e - m)) e b ∧
    sortSeg cmp (sortSeg cmp (rotl l s m e) a (s + (e - m))) (s + (e - m)) b = sortSeg cmp l a b := by
  obtain ⟨has, sm, me, eb, low, high⟩ := hcut
  have g := fun p => rotl_get (l := l) sm me (by omega) p
  have hrl : (rotl l s m e).length = l.length := rotl_len sm me (by omega)
  have hrp : (rotl l s m e).Perm l := rotl_perm sm me
  have k1 : SortedOn cmp (rotl l s m e) a s := fun i j x y q1 q2 q3 hi hj => by
    rw [g, if_pos (by omega)] at hi hj
    exact h1 i j x y q1 q2 (by omega) hi hj
  have k2 : SortedOn cmp (rotl l s m e) s (s + (e - m)) := fun i j x y q1 q2 q3 hi hj => by
    rw [g, if_neg (by omega), if_pos (by omega)] at hi hj
    exact h2 _ _ x y (by omega) (by omega) (by omega) hi hj
  have k3 : Cross (rotl l s m e) a s (s + (e - m)) := fun i j x y q1 q2 q3 q4 hi hj => by
    rw [g, if_pos (by omega)] at hi
    rw [g, if_neg (by omega), if_pos (by omega)] at hj
    exact hx _ _ x y q1 (by omega) (by omega) (by omega) hi hj
  have hlr : ∀ p q x y, a ≤ p → p < s + (e - m) → s + (e - m) ≤ q → q < b → (rotl l s m e)[p]? = some x → (rotl l s m e)[q]? = some y → tlt cmp x y := fun p q x y q1 q2 q3 q4 hp hq => by
    rw [g] at hp hq
    rw [if_neg (by omega), if_neg (by omega)] at hq
    by_cases c1 : p < s
    · rw [if_pos c1] at hp
      by_cases c2 : q < e
      · rw [if_pos c2] at hq; exact h1 _ _ x y q1 (by omega) (by omega) hp hq
      · rw [if_neg c2] at hq; exact low _ _ x y q1 c1 (by omega) q4 hp hq
    · rw [if_neg c1, if_pos q2] at hp
      by_cases c2 : q < e
      · rw [if_pos c2] at hq; exact high _ _ y x (by omega) (by omega) (by omega) (by omega) hq hp
      · rw [if_neg c2] at hq; exact h2 _ _ x y (by omega) (by omega) q4 hp hq
  have hm1 : a ≤ s + (e - m) := by omega
  have hm2 : s + (e - m) ≤ b := by omega
  have so := fun p hp => sortSeg_out cmp (rotl l s m e) hm1 (by rw [hrl]; omega) p hp
  have k4 : SortedOn cmp (sortSeg cmp (rotl l s m e) a (s + (e - m))) (s + (e - m)) e := fun i j x y q1 q2 q3 hi hj => by
    rw [so _ (by omega), g, if_neg (by omega), if_neg (by omega), if_pos (by omega)] at hi hj
    exact h1 _ _ x y (by omega) (by omega) (by omega) hi hj
  have k5 : SortedOn cmp (sortSeg cmp (rotl l s m e) a (s + (e - m))) e b := fun i j x y q1 q2 q3 hi hj => by
    rw [so _ (by omega), g, if_neg (by omega), if_neg (by omega), if_neg (by omega)] at hi hj
    exact h2 _ _ x y (by omega) q2 q3 hi hj
  have k6 : Cross (sortSeg cmp (rotl l s m e) a (s + (e - m))) (s + (e - m)) e b := fun i j x y q1 q2 q3 q4 hi hj => by
    rw [so _ (by omega), g, if_neg (by omega), if_neg (by omega), if_pos (by omega)] at hi
    rw [so _ (by omega), g, if_neg (by omega), if_neg (by omega), if_neg (by omega)] at hj
    exact hx _ _ x y (by omega) (by omega) (by omega) q4 hi hj
  refine ⟨k1, k2, k3, k4, k5, k6, ?_⟩
  have ht1 : TagsOk (rotl l s m e) := ht.perm hrp
  have hl1 : (sortSeg cmp (rotl l s m e) a (s + (e - m))).length = l.length := by rw [sortSeg_len cmp _ hm1, hrl]
  have ht2 : TagsOk (sortSeg cmp (rotl l s m e) a (s + (e - m))) := ht1.perm (sortSeg_perm cmp _ hm1)
  have so2 := fun p hp => sortSeg_out cmp (sortSeg cmp (rotl l s m e) a (s + (e - m))) hm2 (by rw [hl1]; omega) p hp
  refine sortSeg_eq hc (by omega) ht ((sortSeg_perm cmp _ hm2).trans ((sortSeg_perm cmp _ hm1).trans hrp)) (fun p hp => ?_) (fun p q x y q1 q2 q3 hp hq => ?_)
  · rw [so2 p (by omega), so p (by omega), g]
    rcases hp with hp | hp
    · rw [if_pos (by omega)]
    · rw [if_neg (by omega), if_neg (by omega), if_neg (by omega)]
  · by_cases c1 : s + (e - m) ≤ p
    · exact sortSeg_sorted hc hm2 (by rw [hl1]; omega) ht2 p q x y c1 q2 q3 hp hq
    · rw [so2 p (.inl (by omega))] at hp
      by_cases c2 : q < s + (e - m)
      · rw [so2 q (.inl c2)] at hq
        exact sortSeg_sorted hc hm1 (by rw [hrl]; omega) ht1 p q x y q1 q2 c2 hp hq
      · obtain ⟨p', u1, u2, u3⟩ := sortSeg_mem hm1 (by rw [hrl]; omega) q1 (by omega) hp
        obtain ⟨q', v1, v2, v3⟩ := sortSeg_mem hm2 (by rw [hl1]; omega) (by omega) q3 hq
        rw [so q' (.inr v1)] at v3
        exact hlr p' q' x y u1 u2 v1 v2 u3 v3


end Go.Proofs.Ytpihcfpdaoflbaa
