/- Walks over abstract values. Printed by tools/gen.py. No statement of the seat. -/
import Derived.Test.YtpihcfpdaoflbaaF3
namespace Go.Proofs.Ytpihcfpdaoflbaa
open Go.RowKit
set_option linter.unusedVariables false

/-! Types. -/
namespace TyF4

end TyF4
open TyF4


variable {α : Type}
def SortedOn (cmp : α → α → Int) (c : List (α × Nat)) (a b : Nat) : Prop := ∀ i j x y, a ≤ i → i < j → j < b → c[i]? = some x → c[j]? = some y → tlt cmp x y
theorem split3 (c : List α) {a b : Nat} (hab : a ≤ b) : c = c.take a ++ ((c.drop a).take (b - a) ++ c.drop b) := by
  rw [show c.drop b = (c.drop a).drop (b - a) by rw [List.drop_drop]; congr 1; omega, List.take_append_drop, List.take_append_drop]
theorem seg_get (c : List α) {a b p : Nat} (hp : p < b - a) : ((c.drop a).take (b - a))[p]? = c[a + p]? := by rw [List.getElem?_take, if_pos hp, List.getElem?_drop]
theorem seg_pairwise {cmp : α → α → Int} {c : List (α × Nat)} {a b : Nat} (hs : SortedOn cmp c a b) : ((c.drop a).take (b - a)).Pairwise (tlt cmp) := by
  rw [List.pairwise_iff_getElem]
  intro i j hi hj hij
  have hi2 : i < b - a := by rw [List.length_take] at hi; omega
  have hj2 : j < b - a := by rw [List.length_take] at hj; omega
  refine hs (a + i) (a + j) _ _ (by omega) (by omega) (by omega) ?_ ?_
  · rw [← seg_get c hi2]; exact List.getElem?_eq_getElem hi
  · rw [← seg_get c hj2]; exact List.getElem?_eq_getElem hj
theorem sortSeg_eq {cmp : α → α → Int} (h : Pre cmp) {l c : List (α × Nat)} {a b : Nat} (hab : a ≤ b) (ht : TagsOk l) (hp : c.Perm l) (hout : ∀ p, p < a ∨ b ≤ p → c[p]? = l[p]?) (hs : SortedOn cmp c a b) : c = sortSeg cmp l a b := by
  have e1 : c.take a = l.take a := List.ext_getElem? fun p => by
    rw [List.getElem?_take, List.getElem?_take]
    by_cases hp : p < a
    · rw [if_pos hp, if_pos hp, hout p (.inl hp)]
    · rw [if_neg hp, if_neg hp]
  have e2 : c.drop b = l.drop b := List.ext_getElem? fun p => by
    rw [List.getElem?_drop, List.getElem?_drop, hout _ (.inr (by omega))]
  have hperm : ((c.drop a).take (b - a)).Perm ((l.drop a).take (b - a)) := by
    have hp2 := hp
    rw [split3 c hab, split3 l hab, e1, e2, List.perm_append_left_iff, List.perm_append_right_iff] at hp2
    exact hp2
  have ht2 : TagsOk ((l.drop a).take (b - a)) := by
    unfold TagsOk at *
    exact (ht.sublist (((List.take_sublist _ _).trans (List.drop_sublist _ _)).map _))
  have hm := mergeSort_tlt h ht2
  have e3 := sorted_unique h (hperm.trans (List.mergeSort_perm _ (tle cmp)).symm) (seg_pairwise hs) hm
  unfold sortSeg
  rw [← e3, ← e1, ← e2]
  exact split3 c hab
theorem sortSeg_perm (cmp : α → α → Int) (l : List (α × Nat)) {a b : Nat} (hab : a ≤ b) : (sortSeg cmp l a b).Perm l := by
  unfold sortSeg
  have : (l.take a ++ ((l.drop a).take (b - a) ++ l.drop b)).Perm l := by rw [← split3 l hab]
  refine List.Perm.trans ?_ this
  rw [List.perm_append_left_iff, List.perm_append_right_iff]
  exact List.mergeSort_perm _ _
theorem sortSeg_len (cmp : α → α → Int) (l : List (α × Nat)) {a b : Nat} (hab : a ≤ b) : (sortSeg cmp l a b).length = l.length := (sortSeg_perm cmp l hab).length_eq
theorem sortSeg_get (cmp : α → α → Int) (l : List (α × Nat)) {a b : Nat} (hab : a ≤ b) (hb : b ≤ l.length) (p : Nat) : (sortSeg cmp l a b)[p]? = if p < a then l[p]? else if p < b then (((l.drop a).take (b - a)).mergeSort (tle cmp))[p - a]? else l[p]? := by
  unfold sortSeg
  have e1 : (l.take a).length = a := by rw [List.length_take]; omega
  have e2 : (((l.drop a).take (b - a)).mergeSort (tle cmp)).length = b - a := by rw [List.length_mergeSort, List.length_take, List.length_drop]; omega
  by_cases c1 : p < a
  · rw [if_pos c1, List.getElem?_append_left (by omega), List.getElem?_take, if_pos c1]
  · rw [if_neg c1, List.getElem?_append_right (by omega), e1]
    by_cases c2 : p < b
    · rw [if_pos c2, List.getElem?_append_left (by omega)]
    · rw [if_neg c2, List.getElem?_append_right (by omega), e2, List.getElem?_drop]
      congr 1; omega
theorem sortSeg_out (cmp : α → α → Int) (l : List (α × Nat)) {a b : Nat} (hab : a ≤ b) (hb : b ≤ l.length) (p : Nat) (hp : p < a ∨ b ≤ p) : (sortSeg cmp l a b)[p]? = l[p]? := by
  rw [sortSeg_get cmp l hab hb]
  rcases hp with hp | hp
  · rw [if_pos hp]
  · rw [if_neg (by omega), if_neg (by omega)]
theorem sortSeg_sorted {cmp : α → α → Int} (h : Pre cmp) {l : List (α × Nat)} {a b : Nat} (hab : a ≤ b) (hb : b ≤ l.length) (ht : TagsOk l) : SortedOn cmp (sortSeg cmp l a b) a b := by
  have ht2 : TagsOk ((l.drop a).take (b - a)) := by
    unfold TagsOk at *
    exact (ht.sublist (((List.take_sublist _ _).trans (List.drop_sublist _ _)).map _))
  have hm := List.pairwise_iff_getElem.1 (mergeSort_tlt h ht2)
  intro i j x y hi hij hj hx hy
  rw [sortSeg_get cmp l hab hb, if_neg (by omega), if_pos (by omega)] at hx hy
  obtain ⟨h1, e1⟩ := List.getElem?_eq_some_iff.1 hx
  obtain ⟨h2, e2⟩ := List.getElem?_eq_some_iff.1 hy
  have := hm (i - a) (j - a) h1 h2 (by omega)
  rw [e1, e2] at this
  exact this
theorem TagsOk.perm {l r : List (α × Nat)} (h : TagsOk l) (hp : r.Perm l) : TagsOk r := (hp.map Prod.snd).nodup_iff.2 h
theorem TagsOk.ne {l : List (α × Nat)} (h : TagsOk l) {i j : Nat} {x y : α × Nat} (hij : i < j) (hx : l[i]? = some x) (hy : l[j]? = some y) : x.2 ≠ y.2 := by
  unfold TagsOk List.Nodup at h
  rw [List.pairwise_map, List.pairwise_iff_getElem] at h
  obtain ⟨h1, e1⟩ := List.getElem?_eq_some_iff.1 hx
  obtain ⟨h2, e2⟩ := List.getElem?_eq_some_iff.1 hy
  have := h i j h1 h2 hij
  rw [e1, e2] at this
  exact this
theorem sw_perm {l : List α} {i j : Nat} : (sw l i j).Perm l := by
  unfold sw
  split
  · rename_i x y hx hy
    obtain ⟨h1, e1⟩ := List.getElem?_eq_some_iff.1 hx
    obtain ⟨h2, e2⟩ := List.getElem?_eq_some_iff.1 hy
    rw [← e1, ← e2]
    exact List.set_set_perm h1 h2
  · exact List.Perm.refl _
theorem swapTo_perm {l : List α} {a b : Nat} : ∀ n, (swapTo l a b n).Perm l
  | 0 => List.Perm.refl _
  | n + 1 => sw_perm.trans (swapTo_perm n)
theorem rotl_perm {l : List α} {a m b : Nat} (h1 : a ≤ m) (h2 : m ≤ b) : (rotl l a m b).Perm l := by
  unfold rotl
  have e : l = l.take a ++ ((l.drop a).take (m - a) ++ ((l.drop m).take (b - m) ++ l.drop b)) := by
    rw [show (l.drop m).take (b - m) ++ l.drop b = l.drop m from (by rw [show l.drop b = (l.drop m).drop (b - m) by rw [List.drop_drop]; congr 1; omega, List.take_append_drop])]
    exact split3 l h1
  conv => rhs; rw [e]
  rw [List.perm_append_left_iff, ← List.append_assoc, ← List.append_assoc, List.perm_append_right_iff]
  exact List.perm_append_comm


end Go.Proofs.Ytpihcfpdaoflbaa
