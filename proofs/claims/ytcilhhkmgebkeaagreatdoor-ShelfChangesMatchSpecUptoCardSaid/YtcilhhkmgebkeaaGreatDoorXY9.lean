/- Walks and laws over abstract values, merged by tools/merge.py. No statement of the seat. -/
import Derived.Test.YtcilhhkmgebkeaaGreatDoorXY8

namespace Go.Proofs.YtcilhhkmgebkeaaGreatDoor
open Go.RowKit
set_option linter.unusedVariables false

/-! Types. -/
namespace TyLZ

end TyLZ
open TyLZ


set_option linter.unusedVariables false

open Go.Lib
/-- What the library's sort does to a row of numbers of the caller's. -/
theorem row_intsT {B : Nat} {F : Nat → Prop} {ρ : Nat → Value} {w : World} {id e : Nat} {xs : List Int} (h : ObOk B F ρ w id (.row e 1 (xs.map intD))) :
    (ρ id = .slice none 0 0 ∧ xs = []) ∨ ∃ g cap cur, ρ id = .slice (some ⟨g, 0, none⟩) xs.length cap ∧ B ≤ g ∧ w.heap[g]? = some (.cells cur e (0, 0)) ∧ xs.length ≤ cap ∧ cap ≤ maxLen ∧ cur.size = cap ∧ (∀ i, (hi : i < xs.length) → cur[i]? = some (.int .i64 xs[i])) ∧ ¬ F g := by
  obtain ⟨ys, h1, h2, h3, h4⟩ := h
  have hl : (xs.map intD).length = xs.length := List.length_map ..
  rw [hl] at h1
  have h1' : w.ownsRow B e 1 (ρ id) xs.length (flat ys xs.length 1) := h1
  rcases h1'.2 with ⟨h5, h6⟩ | ⟨g, cap, cur, h5, h6, h7, h8, h9, h10, h11⟩
  · exact .inl ⟨h5, List.eq_nil_of_length_eq_zero h6⟩
  · refine .inr ⟨g, cap, cur, h5, h6, h7, h8, h9, by rw [h10, Nat.mul_one], fun i hi => ?_, h4 g (by rw [h5]; rfl)⟩
    have hc := row_cell h1' h5 h7 hi (show 0 < 1 by omega)
    rw [cell_of_row w g (i * 1 + 0) cur e (0, 0) h7, Nat.mul_one, Nat.add_zero] at hc
    have h12 := (h3 i (by rw [hl]; exact hi) 0 (by simp [intD])).2
    simp only [List.getElem_map, intD, List.getElem_cons_zero] at h12
    rw [hc, rep_v h12]
theorem ints_rowT {B : Nat} {F : Nat → Prop} {ρ : Nat → Value} {w : World} {id e g cap : Nat} {cur : Array Value} {xs : List Int} (h5 : ρ id = .slice (some ⟨g, 0, none⟩) xs.length cap) (h6 : B ≤ g) (h7 : w.heap[g]? = some (.cells cur e (0, 0))) (h8 : xs.length ≤ cap) (h9 : cap ≤ maxLen) (h10 : cur.size = cap)
    (hc : ∀ i, (hi : i < xs.length) → cur[i]? = some (.int .i64 xs[i])) (hF : ¬ F g) : ObOk B F ρ w id (.row e 1 (xs.map intD)) := by
  have hl : (xs.map intD).length = xs.length := List.length_map ..
  refine ⟨fun i _ => .int .i64 (xs.getD i 0), ?_, fun i hi => by simp [intD], fun i hi j hj => ⟨rfl, ?_⟩, fun g' hg' => ?_⟩
  · rw [hl]
    refine ⟨flat_length _ _ _, .inr ⟨g, cap, cur, h5, h6, h7, h8, h9, by rw [h10, Nat.mul_one], ?_⟩⟩
    apply List.ext_getElem?
    intro p
    by_cases hp : p < xs.length
    · have := flatten_get (fun i _ => Value.int .i64 (xs.getD i 0)) 1 xs.length p 0 hp (by omega)
      rw [Nat.mul_one, Nat.add_zero] at this
      rw [this, Nat.mul_one, List.getElem?_take, if_pos hp, Array.getElem?_toList, hc p hp]
      simp [List.getD_eq_getElem?_getD, List.getElem?_eq_getElem hp]
    · rw [List.getElem?_eq_none (by rw [List.length_take]; omega)]
      exact (List.getElem?_eq_none (by have := flat_length (fun i _ => Value.int .i64 (xs.getD i 0)) xs.length 1; unfold flat at this; rw [this]; omega)).symm
  · rw [hl] at hi
    simp only [List.getElem_map, intD] at hj ⊢
    obtain rfl : j = 0 := by simpa using hj
    simp only [List.getElem_cons_zero, List.getD_eq_getElem?_getD, List.getElem?_eq_getElem hi, Option.getD_some]
    exact .v _
  · rw [h5] at hg'
    simp [blk] at hg'
    subst hg'
    exact hF
theorem repSL_oneI {F : Nat → Prop} {ρ : Nat → Value} {w : World} {vs : List Value} {id : Nat} (h : RepSL F ρ w vs [.own id]) : vs = [ρ id] := by
  obtain ⟨v, rfl⟩ : ∃ v, vs = [v] := by
    match vs, h.1 with
    | [v], _ => exact ⟨v, rfl⟩
  have h1 := h.2 0 (by simp) (by simp)
  simp only [List.getElem_cons_zero] at h1
  cases h1
  rfl
/-- The world behind such a call: the row's cells hold ys (and more, up to its old end). -/
theorem put_blockI {w : World} {g n e cap : Nat} {cur : Array Value} {os : Array Obj} {zs : List Int} (h : w.heap[g]? = some (.cells cur e (0, 0))) :
    (Sort.grow (Sort.putRow (Value.int .i64) (Sort.ahead w n) g 0 zs.toArray) os).heap[g]? = some (.cells (Sort.putCells (Value.int .i64) 0 zs.toArray cur) e (0, 0)) ∧
    (∀ k, k < w.heap.size → k ≠ g → (Sort.grow (Sort.putRow (Value.int .i64) (Sort.ahead w n) g 0 zs.toArray) os).heap[k]? = w.heap[k]?) := by
  have hg : g < w.heap.size := (Array.getElem?_eq_some_iff.1 h).1
  have hs : ∀ k, k < w.heap.size → (Sort.grow (Sort.putRow (Value.int .i64) (Sort.ahead w n) g 0 zs.toArray) os).heap[k]? = (Sort.putRow (Value.int .i64) (Sort.ahead w n) g 0 zs.toArray).heap[k]? := fun k hk => Sort.heap_grow_old _ _ (by rw [Sort.size_putRow]; exact hk)
  refine ⟨?_, fun k hk hne => ?_⟩
  · rw [hs g hg]
    show (w.heap.modify g _)[g]? = _
    rw [Array.getElem?_modify, if_pos rfl, h]
    rfl
  · rw [hs k hk]
    show (w.heap.modify g _)[k]? = _
    rw [Array.getElem?_modify, if_neg (Ne.symm hne)]
theorem put_cellsI (zs : List Int) (cur : Array Value) (hl : zs.length ≤ cur.size) (i : Nat) (hi : i < zs.length) : (Sort.putCells (Value.int .i64) 0 zs.toArray cur)[i]? = some (.int .i64 zs[i]) := by
  unfold Sort.putCells
  rw [Array.getElem?_mapIdx, Array.getElem?_eq_getElem (by omega), Option.map_some, if_pos ⟨Nat.zero_le _, by simpa using hi⟩]
  simp [hi]
theorem holds_ints {w : World} {g e cap : Nat} {cur : Array Value} {xs : List Int} (h7 : w.heap[g]? = some (.cells cur e (0, 0))) (hc : ∀ i, (hi : i < xs.length) → cur[i]? = some (.int .i64 xs[i])) : Sort.Holds (Value.int .i64) w g 0 xs.toArray := by
  intro j hj
  have hj' : j < xs.length := by simpa using hj
  rw [Nat.zero_add, cell_of_row w g j cur e (0, 0) h7, hc j hj']
  refine ⟨by simp [hj'], ?_⟩
  unfold World.frozen?
  rw [h7]
  simp
theorem c_sortInt (xs : List Int) (hn : xs.length < 4611686018427387904) (e : Nat) : RCall Tryz.prog 49 e 1 (xs.map intD) ((ksort xs).map intD) [] (.tup []) := by
  intro id
  refine ⟨.of Tryz.func49 (by kernel_rfl) rfl, fun F ρ B w vs hF hB hσ hv => ?_⟩
  obtain rfl := repSL_oneI hv
  have hsl : (ksort xs).length = xs.length := by unfold ksort; exact List.length_mergeSort _
  rcases row_intsT (hσ.ok _ (List.mem_singleton.2 rfl)) with ⟨h1, h2⟩ | ⟨g, cap, cur, h5, h6, h7, h8, h9, h10, h11, h12⟩
  · subst h2
    rw [h1]
    have h := AnyM.slices_Sort_int_none Tryz.sortMI none 0 w
    change Calls Tryz.prog 49 #[.slice none 0 0] w _ at h
    refine h.mono fun e' w' ⟨he, hw⟩ => ?_
    subst hw
    refine ⟨_, F, ρ, he, .tup [] [] rfl (fun i h1 => by simp at h1), fun _ hb => hb, fun _ hb => .inl hb, hF, Kept.refl _ _, ?_, ?_, fun _ _ => rfl⟩
    · have : (ksort ([] : List Int)).map intD = ([] : List Int).map intD := by unfold ksort; rw [List.mergeSort_nil]
      rw [this]
      exact hσ
    intro p hp g hg
    have : p = (id, .row e 1 ((ksort ([] : List Int)).map intD)) := by simpa using hp
    subst this
    rw [h1] at hg
    simp [blk] at hg
  rw [h5]
  have hg : g < w.heap.size := (Array.getElem?_eq_some_iff.1 h7).1
  have h := AnyM.slices_Sort_int Tryz.sortMI g 0 cap xs w (holds_ints (cap := cap) h7 h11) hg hn
  change Calls Tryz.prog 49 #[.slice (some ⟨g, 0, none⟩) xs.length cap] w _ at h
  refine h.mono fun e' w' ⟨he, n, os, hw⟩ => ?_
  obtain ⟨hb1, hb2⟩ := put_blockI (n := n) (os := os) (zs := ksort xs) (cap := cap) h7
  have hw2 : w' = Sort.grow (Sort.putRow (Value.int .i64) (Sort.ahead w n) g 0 (ksort xs).toArray) os := hw
  have hsz : w.heap.size ≤ w'.heap.size := by rw [hw2, Sort.size_grow, Sort.size_putRow]; exact Nat.le_add_right _ _
  have hob : ownB [(id, Ob.row e 1 (xs.map intD))] ρ g := ⟨_, List.mem_singleton.2 rfl, by rw [h5]; rfl⟩
  refine ⟨_, F, ρ, he, .tup [] [] rfl (fun i h1 => by simp at h1), fun _ hb => hb, fun _ hb => .inl hb, fun b hb => Nat.lt_of_lt_of_le (hF b hb) hsz, ⟨by rw [hw2]; rfl, by rw [hw2]; rfl, by rw [hw2]; rfl, hsz, fun k hk hne => ?_⟩, ?_, ?_, fun _ _ => rfl⟩
  · rw [hw2]
    exact hb2 k hk (fun he => hne (.inr (he ▸ hob)))
  · refine ⟨fun p hp => ?_, fun p hp q hq hne => ?_, fun p hp q hq _ => ?_⟩
    · have : p = (id, .row e 1 ((ksort xs).map intD)) := by simpa using hp
      subst this
      exact ints_rowT (by rw [hsl]; exact h5) h6 (by rw [hw2]; exact hb1) (by rw [hsl]; exact h8) h9 (by simp [Sort.putCells, h10]) (fun i hi => put_cellsI _ _ (by rw [hsl, h10]; exact h8) i hi) h12
    · have h1 : p = (id, .row e 1 ((ksort xs).map intD)) := by simpa using hp
      have h2 : q = (id, .row e 1 ((ksort xs).map intD)) := by simpa using hq
      rw [h1, h2] at hne
      exact absurd rfl hne
    have h1 : p = (id, .row e 1 ((ksort xs).map intD)) := by simpa using hp
    have h2 : q = (id, .row e 1 ((ksort xs).map intD)) := by simpa using hq
    rw [h1, h2]
  intro p hp g' hg'
  have : p = (id, .row e 1 ((ksort xs).map intD)) := by simpa using hp
  subst this
  exact .inr ⟨_, List.mem_singleton.2 rfl, hg'⟩
/-- slices.Compact takes the row; what it returns is data. -/
theorem c_compactI (xs : List Int) (hn : xs.length ≤ 9223372036854775807) (e id : Nat) : XCall Tryz.prog 50 [.own id] [(id, .row e 1 (xs.map intD))] [] (fun _ => false) (.sl ((compact xs).map intD)) := by
  refine ⟨.of Tryz.func50 (by kernel_rfl) rfl, fun F ρ B w vs hF hB hσ hv => ?_⟩
  obtain rfl := repSL_oneI hv
  have hnil : ∀ {B : Nat} {F : Nat → Prop} {w : World}, ObsOk B F ρ w [] := ⟨fun p hp => (nomatch hp), fun p hp => (nomatch hp), fun p hp => (nomatch hp)⟩
  rcases row_intsT (hσ.ok _ (List.mem_singleton.2 rfl)) with ⟨h1, h2⟩ | ⟨g, cap, cur, h5, h6, h7, h8, h9, h10, h11, h12⟩
  · subst h2
    rw [h1]
    have h := Any.slices_Compact_int_empty Tryz.b20 none 0 w
    change Calls Tryz.prog 50 #[.slice none 0 0] w _ at h
    refine h.mono fun e' w' ⟨he, hw⟩ => ?_
    subst hw
    exact ⟨_, F, ρ, he, .nil, fun _ hb => hb, fun _ hb => .inl hb, hF, Kept.refl _ _, hnil, fun p hp => (nomatch hp), fun _ _ => rfl⟩
  rw [h5]
  have hg : g < w.heap.size := (Array.getElem?_eq_some_iff.1 h7).1
  have h := Any.slices_Compact_int Tryz.b20 g 0 cap xs w (holds_ints (cap := cap) h7 h11) hn h8
  change Calls Tryz.prog 50 #[.slice (some ⟨g, 0, none⟩) xs.length cap] w _ at h
  refine h.mono fun e' w' ⟨he, n, hw⟩ => ?_
  obtain ⟨hb1, hb2⟩ := put_blockI (n := n) (os := #[]) (zs := compact xs ++ List.replicate (xs.length - (compact xs).length) 0) (cap := cap) h7
  have hw2 : w' = Sort.grow (Sort.putRow (Value.int .i64) (Sort.ahead w n) g 0 (compact xs ++ List.replicate (xs.length - (compact xs).length) 0).toArray) #[] := by rw [Sort.grow_empty]; exact hw
  have hsz : w.heap.size ≤ w'.heap.size := by rw [hw2, Sort.size_grow, Sort.size_putRow]; exact Nat.le_add_right _ _
  have hob : ownB [(id, Ob.row e 1 (xs.map intD))] ρ g := ⟨_, List.mem_singleton.2 rfl, by rw [h5]; rfl⟩
  have hcl := compact_length_le xs
  have hl : ((compact xs).map intD).length = (compact xs).length := List.length_map ..
  have hr : Rep (fun b => F b ∨ b = g) w' (.slice (some ⟨g, 0, none⟩) ((compact xs).map intD).length cap) (.sl ((compact xs).map intD)) := by
    refine .sl ⟨g, 0, none⟩ cap 1 _ (fun i _ => .int .i64 ((compact xs).getD i 0)) (by rw [hl]; omega) (by unfold maxLen at h9; omega) (fun _ => .inr rfl) (fun i hi => by simp [intD]) (fun i j hi hj => ?_) (fun _ _ _ _ => rfl) (fun i hi j hj => ?_)
    · rw [hl] at hi
      obtain rfl : j = 0 := by omega
      rw [addr_add, Nat.mul_one, Nat.add_zero, Nat.zero_add, hw2, cell_of_row _ g i _ e (0, 0) hb1, put_cellsI _ _ (by rw [List.length_append, List.length_replicate, h10]; omega) i (by rw [List.length_append]; omega)]
      rw [List.getElem_append_left hi]
      simp [List.getD_eq_getElem?_getD, List.getElem?_eq_getElem hi]
    rw [hl] at hi
    simp only [List.getElem_map, intD] at hj ⊢
    obtain rfl : j = 0 := by simpa using hj
    simp only [List.getElem_cons_zero, List.getD_eq_getElem?_getD, List.getElem?_eq_getElem hi, Option.getD_some]
    exact .v _
  rw [hl] at hr
  refine ⟨_, _, ρ, he, hr, fun _ hb => .inl hb, fun b hb => ?_, fun b hb => ?_, ⟨by rw [hw2]; rfl, by rw [hw2]; rfl, by rw [hw2]; rfl, hsz, fun k hk hne => ?_⟩, hnil, fun p hp => (nomatch hp), fun _ _ => rfl⟩
  · rcases hb with hb | rfl
    · exact .inl hb
    exact .inr (.inr hob)
  · rcases hb with hb | rfl
    · exact Nat.lt_of_lt_of_le (hF b hb) hsz
    exact Nat.lt_of_lt_of_le hg hsz
  rw [hw2]
  exact hb2 k hk (fun he => hne (.inr (he ▸ hob)))
/-- Strictly rising. -/
def Rise {α : Type} (lt : α → α → Bool) (l : List α) : Prop := l.Pairwise fun x y => lt x y = true
section
variable {α : Type} [DecidableEq α] [Inhabited α]
theorem mem_upTo (d : Array α) : ∀ m x, x ∈ compactUpTo d m ↔ ∃ j, j < m ∧ d[j]! = x
  | 0, x => by simp [compactUpTo]
  | m + 1, x => by
    rw [compactUpTo_succ, List.mem_append, mem_upTo d m x]
    constructor
    · rintro (⟨j, h1, h2⟩ | h)
      · exact ⟨j, by omega, h2⟩
      · by_cases hk : keeps d m = true
        · rw [if_pos hk, List.mem_singleton] at h
          exact ⟨m, by omega, h.symm⟩
        · rw [if_neg hk] at h; cases h
    · rintro ⟨j, h1, h2⟩
      by_cases hj : j < m
      · exact .inl ⟨j, hj, h2⟩
      · obtain rfl : j = m := by omega
        by_cases hk : keeps d j = true
        · exact .inr (by rw [if_pos hk, List.mem_singleton, h2])
        · have hk' : keeps d j = false := by simpa using hk
          unfold keeps at hk'
          rw [decide_eq_false_iff_not] at hk'
          have hj0 : j ≠ 0 := fun e => hk' (.inl e)
          have he : d[j]! = d[j - 1]! := Decidable.not_not.1 fun e => hk' (.inr e)
          exact .inl ⟨j - 1, by omega, by rw [← he, h2]⟩
theorem mem_compact (l : List α) (x : α) : x ∈ compact l ↔ x ∈ l := by
  unfold compact
  rw [mem_upTo]
  constructor
  · rintro ⟨j, h1, h2⟩
    rw [← h2]
    simp [h1]
  · intro h
    obtain ⟨j, h1, h2⟩ := List.mem_iff_getElem.1 h
    exact ⟨j, h1, by simp [h1, h2]⟩
theorem rise_upTo {lt : α → α → Bool} (htr : ∀ x y z, lt x y = true → lt y z = true → lt x z = true) (htot : ∀ x y, lt x y = false → lt y x = false → x = y) (d : Array α) (hs : ∀ i j, i < j → j < d.size → lt d[j]! d[i]! = false) : ∀ m, m ≤ d.size → Rise lt (compactUpTo d m)
  | 0, _ => by simp [compactUpTo, Rise]
  | m + 1, hm => by
    rw [compactUpTo_succ]
    have ih := rise_upTo htr htot d hs m (by omega)
    by_cases hk : keeps d m = true
    · rw [if_pos hk]
      refine List.pairwise_append.2 ⟨ih, by simp, fun x hx y hy => ?_⟩
      obtain rfl := List.mem_singleton.1 hy
      obtain ⟨j, h1, rfl⟩ := (mem_upTo d m x).1 hx
      unfold keeps at hk
      rw [decide_eq_true_eq] at hk
      have hne : d[m]! ≠ d[m - 1]! := hk.resolve_left (by omega)
      have a1 : lt d[m - 1]! d[m]! = true := by
        cases h : lt d[m - 1]! d[m]! with
        | true => rfl
        | false => exact absurd (htot _ _ (hs (m - 1) m (by omega) (by omega)) h) hne
      by_cases hj : j = m - 1
      · rw [hj]; exact a1
      · cases h : lt d[j]! d[m - 1]! with
        | true => exact htr _ _ _ h a1
        | false => rw [htot _ _ h (hs j (m - 1) (by omega) (by omega))]; exact a1
    · rw [if_neg hk, List.append_nil]; exact ih
theorem rise_compact {lt : α → α → Bool} (htr : ∀ x y z, lt x y = true → lt y z = true → lt x z = true) (htot : ∀ x y, lt x y = false → lt y x = false → x = y) (l : List α) (hs : l.Pairwise fun x y => lt y x = false) : Rise lt (compact l) := by
  refine rise_upTo htr htot _ (fun i j hij hj => ?_) _ (by simp)
  have hj' : j < l.length := by simpa using hj
  have := List.pairwise_iff_getElem.1 hs i j (by omega) hj' hij
  simpa [show i < l.length by omega, hj'] using this
end

def kcomp (l : List Int) : List Int := compact (ksort l)
theorem mem_kcomp (l : List Int) (x : Int) : x ∈ kcomp l ↔ x ∈ l := by unfold kcomp; rw [mem_compact]; exact (ksort_perm l).mem_iff
theorem kcomp_ris (l : List Int) : (kcomp l).Pairwise fun x y => x < y := by
  have h := rise_compact (lt := fun x y : Int => decide (x < y)) (fun _ _ _ h1 h2 => by simp only [decide_eq_true_eq] at *; omega) (fun x y h1 h2 => by simp only [decide_eq_false_iff_not] at *; omega) (ksort l) ((ksort_le l).imp fun {a b} h => by simp only [decide_eq_false_iff_not]; omega)
  exact h.imp fun h => by simpa using h
theorem kcomp_eq {l r : List Int} (hr : r.Pairwise fun x y => x < y) (hm : ∀ x, x ∈ r ↔ x ∈ l) : kcomp l = r := by
  have nd : ∀ {l : List Int}, (l.Pairwise fun x y => x < y) → l.Nodup := fun h => h.imp fun {a b} hab e => by omega
  have hp : (kcomp l).Perm r := (List.perm_ext_iff_of_nodup (nd (kcomp_ris l)) (nd hr)).2 fun x => by rw [mem_kcomp, hm]
  exact List.Perm.eq_of_pairwise (le := fun x y : Int => x < y) (fun a b _ _ h3 h4 => by omega) (kcomp_ris l) hr hp
end Go.Proofs.YtcilhhkmgebkeaaGreatDoor


namespace Go.Proofs.YtcilhhkmgebkeaaGreatDoor
open Go.RowKit
set_option linter.unusedVariables false

/-! Types. -/
namespace TyMA
theorem ag_25 : AggT Tryz.prog 25 2 := .of (by kernel_rfl)
theorem ag_28 : AggT Tryz.prog 28 4 := .of (by kernel_rfl)
theorem bu_25 : StructT Tryz.prog 25 (fun i => (#[(0, 1), (1, 1)] : Array (Nat × Nat))[i]?) [(.slice none 0 0), (.slice none 0 0)] := .of (by kernel_rfl) (by kernel_rfl) (by decide)
theorem bu_28 : StructT Tryz.prog 28 (fun i => (#[(0, 1), (1, 1), (2, 1), (3, 1)] : Array (Nat × Nat))[i]?) [(.slice none 0 0), (.slice none 0 0), (.slice none 0 0), (.slice none 0 0)] := .of (by kernel_rfl) (by kernel_rfl) (by decide)
theorem sz_25 : ∀ w, (sizeOf 25).run Tryz.prog w = .ok 2 w := SizeT.of (by kernel_rfl)
theorem sz_28 : ∀ w, (sizeOf 28).run Tryz.prog w = .ok 4 w := SizeT.of (by kernel_rfl)
theorem zt_25 : (Tryz.prog.info? 25).bind (·.zero) = some (.agg #[(.slice none 0 0), (.slice none 0 0)]) := by kernel_rfl
theorem zt_28 : (Tryz.prog.info? 28).bind (·.zero) = some (.agg #[(.slice none 0 0), (.slice none 0 0), (.slice none 0 0), (.slice none 0 0)]) := by kernel_rfl
end TyMA
open TyMA

set_option maxRecDepth 100000 in
set_option maxHeartbeats 1000000 in
theorem c_rApply (c : Ctl) (x : Chg) (hc : CtlOk c) (hx : ChgOk x) (hp : x.put.length ≤ 1048576) (ha : x.add.length ≤ 1048576) : ACallT Tryz.prog MaxT 14 [.agg c.ds, .agg x.ds] (.tup [.agg (applyR c x).1.ds, .agg (applyR c x).2.1.ds, .v (.int .i64 (applyR c x).2.2)]) := by
  refine acall_ofRT (n := 39) (ds' := [.agg (applyR c x).1.ds, .agg (applyR c x).2.1.ds, .v (.int .i64 (applyR c x).2.2)]) Tryz.func14 rfl (by kernel_rfl) rfl [.cell 4 25, .cell 5 28, .tmp 6] rfl rfl ?_
  intro B w0 F0 hT
  refine AWP.seq (AWP.region ?_)
  refine AOps.sA (AOp.box rfl rfl rfl) ?_
  refine AOps.sA (AOp.box rfl rfl rfl) ?_
  refine AOps.alloc 101 rfl rfl rfl rfl zt_25 rfl rfl rfl ?_
  refine AOps.alloc 102 rfl rfl rfl rfl zt_28 rfl rfl rfl ?_
  refine AOps.aA (.nil ?_)
  refine AWP.seq ?_
  refine AWP.seq (AWP.region ?_)
  refine AOps.sA (AOp.loadAgg rfl ag_25 rfl rfl) ?_
  -- wants the world
  refine AOps.callT rfl rfl rfl hT maxT_stays rfl (.cons (ArgOk.rfl' rfl) .nil) (c_rChk c hc) ?_
  refine AOps.aA (.nil ?_)
  refine AWP.seq (AWP.region ?_)
  refine AOps.mA ?_
  refine AOps.sA (AOp.neq rfl rfl rfl) (.nil ?_)
  refine AWP.cond rfl (fun h1 => ?_) (fun h1 => ?_)
  · replace h1 := of_decide_eq_true h1
    rw [applyR_c (by first | exact h1 | omega)]
    refine AWP.seq (AWP.region ?_)
    refine AOps.sA (AOp.build rfl bu_25 .nil rfl) ?_
    refine AOps.sA (AOp.build rfl bu_28 .nil rfl) ?_
    refine AOps.mA ?_
    refine AOps.store rfl rfl rfl sz_25 rfl (.tail _ (.head _)) rfl rfl rfl (Nat.le_of_ble_eq_true rfl) ?_
    refine AOps.store rfl rfl rfl sz_28 rfl (.head _) rfl rfl rfl (Nat.le_of_ble_eq_true rfl) ?_
    refine AOps.aA (.nil ?_)
    refine AWP.ret ?_
    refine ⟨RetR.agg rfl (.tail _ (.head _)) ag_25 rfl (.cons (by first | exact CellD.nil | exact CellD.d | exact CellD.eq (by simp) | (refine CellD.own (by first | exact .head _ | exact .tail _ (.head _)) ?_; rfl)) (.cons (by first | exact CellD.nil | exact CellD.d | exact CellD.eq (by simp) | (refine CellD.own (by first | exact .head _ | exact .tail _ (.head _)) ?_; rfl)) .nil)), RetR.agg rfl (.head _) ag_28 rfl (.cons (by first | exact CellD.nil | exact CellD.d | exact CellD.eq (by simp) | (refine CellD.own (by first | exact .head _ | exact .tail _ (.head _)) ?_; rfl)) (.cons (by first | exact CellD.nil | exact CellD.d | exact CellD.eq (by simp) | (refine CellD.own (by first | exact .head _ | exact .tail _ (.head _)) ?_; rfl)) (.cons (by first | exact CellD.nil | exact CellD.d | exact CellD.eq (by simp) | (refine CellD.own (by first | exact .head _ | exact .tail _ (.head _)) ?_; rfl)) (.cons (by first | exact CellD.nil | exact CellD.d | exact CellD.eq (by simp) | (refine CellD.own (by first | exact .head _ | exact .tail _ (.head _)) ?_; rfl)) .nil)))), RetD.eq rfl ?_, trivial⟩
    all_goals (rfl)
  replace h1 := of_decide_eq_false h1
  have k0 : chkF c = 0 := (by first | exact h1 | omega)
  refine AWP.skip ?_
  refine AWP.seq ?_
  refine AWP.seq (AWP.region ?_)
  refine AOps.sA (AOp.loadAgg rfl ag_28 rfl rfl) ?_
  refine AOps.sA (AOp.call rfl (.cons (ArgOk.rfl' rfl) .nil) (c_rCC x hp ha)) ?_
  refine AOps.aA (.nil ?_)
  refine AWP.seq (AWP.region ?_)
  refine AOps.mA ?_
  refine AOps.sA (AOp.neq rfl rfl rfl) (.nil ?_)
  refine AWP.cond rfl (fun h2 => ?_) (fun h2 => ?_)
  · replace h2 := of_decide_eq_true h2
    rw [applyR_x k0 (by first | exact h2 | omega)]
    refine AWP.seq (AWP.region ?_)
    refine AOps.sA (AOp.build rfl bu_25 .nil rfl) ?_
    refine AOps.sA (AOp.build rfl bu_28 .nil rfl) ?_
    refine AOps.mA ?_
    refine AOps.store rfl rfl rfl sz_25 rfl (.tail _ (.head _)) rfl rfl rfl (Nat.le_of_ble_eq_true rfl) ?_
    refine AOps.store rfl rfl rfl sz_28 rfl (.head _) rfl rfl rfl (Nat.le_of_ble_eq_true rfl) ?_
    refine AOps.aA (.nil ?_)
    refine AWP.ret ?_
    refine ⟨RetR.agg rfl (.tail _ (.head _)) ag_25 rfl (.cons (by first | exact CellD.nil | exact CellD.d | exact CellD.eq (by simp) | (refine CellD.own (by first | exact .head _ | exact .tail _ (.head _)) ?_; rfl)) (.cons (by first | exact CellD.nil | exact CellD.d | exact CellD.eq (by simp) | (refine CellD.own (by first | exact .head _ | exact .tail _ (.head _)) ?_; rfl)) .nil)), RetR.agg rfl (.head _) ag_28 rfl (.cons (by first | exact CellD.nil | exact CellD.d | exact CellD.eq (by simp) | (refine CellD.own (by first | exact .head _ | exact .tail _ (.head _)) ?_; rfl)) (.cons (by first | exact CellD.nil | exact CellD.d | exact CellD.eq (by simp) | (refine CellD.own (by first | exact .head _ | exact .tail _ (.head _)) ?_; rfl)) (.cons (by first | exact CellD.nil | exact CellD.d | exact CellD.eq (by simp) | (refine CellD.own (by first | exact .head _ | exact .tail _ (.head _)) ?_; rfl)) (.cons (by first | exact CellD.nil | exact CellD.d | exact CellD.eq (by simp) | (refine CellD.own (by first | exact .head _ | exact .tail _ (.head _)) ?_; rfl)) .nil)))), RetD.eq rfl ?_, trivial⟩
    all_goals (rfl)
  replace h2 := of_decide_eq_false h2
  have x0 : chgF x = 0 := (by first | exact h2 | omega)
  refine AWP.skip ?_
  refine AWP.seq (AWP.region ?_)
  refine AOps.sA (AOp.loadAgg rfl ag_25 rfl rfl) ?_
  refine AOps.sA (AOp.loadAgg rfl ag_28 rfl rfl) ?_
  refine AOps.sA (AOp.call rfl (.cons (ArgOk.rfl' rfl) (.cons (ArgOk.rfl' rfl) .nil)) (c_chgd c x (catOk k0).lim (limX x0))) ?_
  refine AOps.alloc 103 rfl rfl rfl rfl zt_25 rfl rfl rfl ?_
  refine AOps.store rfl rfl rfl sz_25 rfl (.head _) rfl rfl rfl (Nat.le_of_ble_eq_true rfl) ?_
  refine AOps.freezeCells 9 (ds := (chgdC c x).ds) rfl (.head _) (.nil ?_)
  refine AWP.seq ?_
  refine AWP.seq (AWP.region ?_)
  refine AOps.sA (AOp.loadAgg rfl ag_25 rfl rfl) ?_
  -- wants the world
  refine AOps.callT rfl rfl rfl hT maxT_stays rfl (.cons (ArgOk.rfl' rfl) .nil) (c_rChk _ (chgd_ok hc hx)) ?_
  refine AOps.aA (.nil ?_)
  refine AWP.seq (AWP.region ?_)
  refine AOps.mA ?_
  refine AOps.sA (AOp.neq rfl rfl rfl) (.nil ?_)
  refine AWP.cond rfl (fun h3 => ?_) (fun h3 => ?_)
  · replace h3 := of_decide_eq_true h3
    rw [applyR_o k0 x0 (by first | exact h3 | omega)]
    refine AWP.seq (AWP.region ?_)
    refine AOps.sA (AOp.build rfl bu_25 .nil rfl) ?_
    refine AOps.sA (AOp.build rfl bu_28 .nil rfl) ?_
    refine AOps.mA ?_
    refine AOps.store rfl rfl rfl sz_25 rfl (.tail _ (.head _)) rfl rfl rfl (Nat.le_of_ble_eq_true rfl) ?_
    refine AOps.store rfl rfl rfl sz_28 rfl (.head _) rfl rfl rfl (Nat.le_of_ble_eq_true rfl) ?_
    refine AOps.aA (.nil ?_)
    refine AWP.ret ?_
    refine ⟨RetR.agg rfl (.tail _ (.head _)) ag_25 rfl (.cons (by first | exact CellD.nil | exact CellD.d | exact CellD.eq (by simp) | (refine CellD.own (by first | exact .head _ | exact .tail _ (.head _)) ?_; rfl)) (.cons (by first | exact CellD.nil | exact CellD.d | exact CellD.eq (by simp) | (refine CellD.own (by first | exact .head _ | exact .tail _ (.head _)) ?_; rfl)) .nil)), RetR.agg rfl (.head _) ag_28 rfl (.cons (by first | exact CellD.nil | exact CellD.d | exact CellD.eq (by simp) | (refine CellD.own (by first | exact .head _ | exact .tail _ (.head _)) ?_; rfl)) (.cons (by first | exact CellD.nil | exact CellD.d | exact CellD.eq (by simp) | (refine CellD.own (by first | exact .head _ | exact .tail _ (.head _)) ?_; rfl)) (.cons (by first | exact CellD.nil | exact CellD.d | exact CellD.eq (by simp) | (refine CellD.own (by first | exact .head _ | exact .tail _ (.head _)) ?_; rfl)) (.cons (by first | exact CellD.nil | exact CellD.d | exact CellD.eq (by simp) | (refine CellD.own (by first | exact .head _ | exact .tail _ (.head _)) ?_; rfl)) .nil)))), RetD.eq rfl ?_, trivial⟩
    all_goals (rfl)
  replace h3 := of_decide_eq_false h3
  have o0 : chkF (chgdC c x) = 0 := (by first | exact h3 | omega)
  rw [applyR_0 k0 x0 o0]
  refine AWP.skip ?_
  refine AWP.seq ?_
  refine AWP.drawTail 4 (by kernel_rfl) (by kernel_rfl) (by kernel_rfl) ?_
  refine DRun.sA (AOp.loadAgg rfl ag_25 rfl rfl) ?_
  refine DRun.sA (AOp.loadAgg rfl ag_25 rfl rfl) ?_
  refine DRun.sA (AOp.loadAgg rfl ag_25 rfl rfl) ?_
  refine DRun.sA (AOp.call rfl (.cons (ArgOk.rfl' rfl) (.cons (ArgOk.rfl' rfl) .nil)) (c_btw (chgdC c x) c (catOk o0).lim (catOk k0).lim)) ?_
  refine DRun.nil ?_
  refine AOps.store rfl rfl rfl sz_25 rfl (.tail _ (.head _)) rfl rfl rfl (Nat.le_of_ble_eq_true rfl) ?_
  refine AOps.store rfl rfl rfl sz_28 rfl (.head _) rfl rfl rfl (Nat.le_of_ble_eq_true rfl) ?_
  refine AOps.aA (.nil ?_)
  refine AWP.ret ?_
  refine ⟨RetR.agg rfl (.tail _ (.head _)) ag_25 rfl (.cons (by first | exact CellD.nil | exact CellD.d | exact CellD.eq (by simp) | (refine CellD.own (by first | exact .head _ | exact .tail _ (.head _)) ?_; rfl)) (.cons (by first | exact CellD.nil | exact CellD.d | exact CellD.eq (by simp) | (refine CellD.own (by first | exact .head _ | exact .tail _ (.head _)) ?_; rfl)) .nil)), RetR.agg rfl (.head _) ag_28 rfl (.cons (by first | exact CellD.nil | exact CellD.d | exact CellD.eq (by simp) | (refine CellD.own (by first | exact .head _ | exact .tail _ (.head _)) ?_; rfl)) (.cons (by first | exact CellD.nil | exact CellD.d | exact CellD.eq (by simp) | (refine CellD.own (by first | exact .head _ | exact .tail _ (.head _)) ?_; rfl)) (.cons (by first | exact CellD.nil | exact CellD.d | exact CellD.eq (by simp) | (refine CellD.own (by first | exact .head _ | exact .tail _ (.head _)) ?_; rfl)) (.cons (by first | exact CellD.nil | exact CellD.d | exact CellD.eq (by simp) | (refine CellD.own (by first | exact .head _ | exact .tail _ (.head _)) ?_; rfl)) .nil)))), RetD.eq rfl ?_, trivial⟩
  all_goals (rfl)

end Go.Proofs.YtcilhhkmgebkeaaGreatDoor


namespace Go.Proofs.YtcilhhkmgebkeaaGreatDoor
open Go.RowKit
set_option linter.unusedVariables false
section
variable {cx : Cx} {ops : Array Oper} {o : Oper} {rest : List Oper} {e : Env} {σ : Obs} {Q : Post}
theorem AOps.build4 {t dst : Nat} {x0 x1 x2 x3 : Operand} {s0 s1 s2 s3 : S} {places : Nat → Option (Nat × Nat)} {z0 z1 z2 z3 : Value} (id : Nat) (hg : o.guard = none) (ht : o.dst = some dst) (hdn : Nat.blt dst cx.N = true) (ho : o.op = .build t #[(0, x0), (1, x1), (2, x2), (3, x3)]) (T : StructT cx.P t places [z0, z1, z2, z3])
    (hp0 : places 0 = some (0, 1)) (hp1 : places 1 = some (1, 1)) (hp2 : places 2 = some (2, 1)) (hp3 : places 3 = some (3, 1)) (e0 : e.ev x0 = s0) (e1 : e.ev x1 = s1) (e2 : e.ev x2 = s2) (e3 : e.ev x3 = s3) (o0 : OneS σ s0) (o1 : OneS σ s1) (o2 : OneS σ s2) (o3 : OneS σ s3) (hid : Obs.fresh id σ = true)
    (k : AOps cx ops rest ((e.kill id).put (some dst) (.own id)) ((id, .val ([s0, s1, s2, s3].map (S.kill id))) :: Obs.kill id σ) Q) (hfx : cx.free id = true := by rfl) : AOps cx ops (o :: rest) e σ Q := by
  intro a w ⟨F, ρ, hr⟩
  have cell : ∀ {x : Operand} {s : S}, e.ev x = s → OneS σ s → ∃ c, (a.eval x).cells = #[c] ∧ c.oneCell' = true ∧ RepS F ρ w c s := fun {x s} hx h => by
    have r1 := ev_rep (e := e) (x := x) (a := a) (fun t _ => hr.env t)
    rw [hx] at r1
    exact h.cell hr.obs r1
  obtain ⟨c0, a0, b0, r0⟩ := cell e0 o0
  obtain ⟨c1, a1, b1, r1⟩ := cell e1 o1
  obtain ⟨c2, a2, b2, r2⟩ := cell e2 o2
  obtain ⟨c3, a3, b3, r3⟩ := cell e3 o3
  refine wpList_plain hg fun K hK => ?_
  unfold Oper.wp execOp
  simp only [ho, Sem.run_bind]
  rw [T.run w]
  have hfill : Instr.fill places [z0, z1, z2, z3].toArray (Array.map (fun p => (p.1, a.eval p.2)) #[(0, x0), (1, x1), (2, x2), (3, x3)]).toList = some #[c0, c1, c2, c3] := by
    simp [Instr.fill, hp0, hp1, hp2, hp3, a0, a1, a2, a3]
  rw [hfill]
  simp only [Result.andThen_ok, Sem.run_pure]
  obtain ⟨ρ', h8⟩ := hr.newObF (id := id) (dst := dst) (ob := .val ([s0, s1, s2, s3].map (S.kill id))) (v := .agg #[c0, c1, c2, c3]) (Obs.fresh_spec hid) (by simpa [Nat.blt_eq] using hdn) (Ext.refl hr.lt) (by
    refine ⟨[c0, c1, c2, c3], by simp, rfl, fun m hm hm' => ?_⟩
    match m, hm with
    | 0, _ => exact ⟨b0, r0.kill id (fun i hi => by simp [hi])⟩
    | 1, _ => exact ⟨b1, r1.kill id (fun i hi => by simp [hi])⟩
    | 2, _ => exact ⟨b2, r2.kill id (fun i hi => by simp [hi])⟩
    | 3, _ => exact ⟨b3, r3.kill id (fun i hi => by simp [hi])⟩) (fun g hg => by simp [blk] at hg) hfx
  have := k _ _ ⟨F, ρ', h8⟩
  rw [← ht] at this
  exact hK _ _ this
end
section
variable {cx : Cx} {ops : Array Oper} {σ : Obs} {Φ : List Fg} {e : Env} {Qe : Env → Prop} {o : Oper} {l : List Oper}
/-- What a part of the struct is, whatever the region has made so far. -/
def PartG (ops : Array Oper) (σ : Obs) (Φ : List Fg) (o : Oper) (e : Env) (s : S) : Prop := ∀ τ : Obs, (∀ p ∈ σ, p ∈ τ) → (∀ g ∈ Φ, (∃ t, t ∈ o.looksAt ops ∧ (e t).killP g.chg ≠ e t) → ∀ p ∈ g.obs, p ∈ τ) → OneS τ s
theorem PartG.d {x : D} (h1 : x.one = true) (h2 : x.parts = [x]) : PartG ops σ Φ o e (.d x) := fun _ _ _ => .d h1 h2
theorem PartG.own {i ee size : Nat} {els : List (List D)} {g : Fg} (hg : g ∈ Φ) {t : Nat} (ht : t ∈ o.looksAt ops) (hk : (e t).killP g.chg ≠ e t) (hm : (i, Ob.row ee size els) ∈ g.obs) : PartG ops σ Φ o e (.own i) := fun _ _ h => .own (h g hg ⟨t, ht, hk⟩ _ hm)
theorem YRun.build4 {t : Nat} {x0 x1 x2 x3 : Operand} {s0 s1 s2 s3 : S} {places : Nat → Option (Nat × Nat)} {z0 z1 z2 z3 : Value} (id : Nat) (f : Fg) (hf : f ∈ Φ) (hg : GW ops o e true) (hgn : o.guard = none) (ht : o.dst = some f.dst) (hd : Nat.blt f.dst cx.N = true) (ho : o.op = .build t #[(0, x0), (1, x1), (2, x2), (3, x3)]) (T : StructT cx.P t places [z0, z1, z2, z3])
    (hp0 : places 0 = some (0, 1)) (hp1 : places 1 = some (1, 1)) (hp2 : places 2 = some (2, 1)) (hp3 : places 3 = some (3, 1)) (e0 : e.ev x0 = s0) (e1 : e.ev x1 = s1) (e2 : e.ev x2 = s2) (e3 : e.ev x3 = s3) (o0 : PartG ops σ Φ o e s0) (o1 : PartG ops σ Φ o e s1) (o2 : PartG ops σ Φ o e s2) (o3 : PartG ops σ Φ o e s3)
    (hob : f.obs = [(id, .val ([s0, s1, s2, s3].map (S.kill id)))]) (hs : f.s0 = .own id) (hc : f.chg = fun n => Nat.beq n id) (k : YRun cx ops σ Φ l (e.put (some f.dst) f.s0) Qe) (hob2 : HoldsG (fun f' => f'.dst ≠ f.dst → Obs.killP f'.chg f.obs = f.obs ∨ ∃ t, t ∈ o.looksAt ops ∧ (e t).killP f'.chg ≠ e t) Φ) (hfx : cx.free id = true := by rfl) : YRun cx ops σ Φ (o :: l) e Qe :=
  ⟨by unfold DstOk; rw [ht]; exact hd, _, .inl ⟨hg, .inl ⟨f, hf, ⟨ht, fun y τ hτ hΦ he hfr => by
    have hev : ∀ {x : Operand} {n : Nat}, (n, x) ∈ [(0, x0), (1, x1), (2, x2), (3, x3)] → y.ev x = e.ev x := fun {x n} hx => ev_same fun t hxt => he t (looks_op (by
      rw [ho, ← hxt]; simp only [Op.operands]; exact List.mem_map_of_mem (f := fun p : Nat × Operand => p.2) hx))
    have hfr' : Obs.fresh id τ = true := fresh_ids fun p hp => by have := hfr p hp; rw [hc] at this; exact this
    exact AOps.build4 id hgn ht hd ho T hp0 hp1 hp2 hp3 ((hev (n := 0) (.head _)).trans e0) ((hev (n := 1) (.tail _ (.head _))).trans e1) ((hev (n := 2) (.tail _ (.tail _ (.head _)))).trans e2) ((hev (n := 3) (.tail _ (.tail _ (.tail _ (.head _))))).trans e3) (o0 τ hτ hΦ) (o1 τ hτ hΦ) (o2 τ hτ hΦ) (o3 τ hτ hΦ) hfr' (.nil ⟨by rw [hs, hc, killPE_one], by rw [hob, hc, killPObs_one]; rfl⟩) hfx⟩, rfl, hob2.all⟩⟩, by rw [ht]; exact k⟩
end
theorem killP_false (s : S) : s.killP (fun _ => false) = s := by
  have hc : ∀ l : List Cap, Cap.anyP (fun _ => false) l = false := fun l => by
    induction l with
    | nil => rfl
    | cons c l ih => cases c <;> exact ih
  cases s with
  | d x => rfl
  | own i => rfl
  | ptr i off => rfl
  | clo f caps => simp only [S.killP, hc]
theorem killPOb_false (o : Ob) : o.killP (fun _ => false) = o := by
  have hm : ∀ l : List S, l.map (S.killP fun _ => false) = l := fun l => (List.map_congr_left fun s _ => killP_false s).trans (List.map_id l)
  cases o with
  | row e n els => rfl
  | cells ss => show Ob.cells _ = Ob.cells _; rw [hm]
  | cellsT e ss => show Ob.cellsT _ _ = Ob.cellsT _ _; rw [hm]
  | map M => rfl
  | rowS e n els => show Ob.rowS _ _ _ = Ob.rowS _ _ _; rw [(List.map_congr_left fun ss _ => hm ss).trans (List.map_id els)]
  | bts l => rfl
  | val ss => show Ob.val _ = Ob.val _; rw [hm]
  | iter M d => rfl
theorem killPObs_false : ∀ (σ : Obs), Obs.killP (fun _ => false) σ = σ
  | [] => rfl
  | p :: l => by show (p.1, p.2.killP fun _ => false) :: Obs.killP _ l = _; rw [killPObs_false l, killPOb_false]
section
variable {cx : Cx} {ops : Array Oper} {Φ : List Fc} {o : Oper} {e : Env} {σ : Obs}
/-- A call that takes what it gets, in its own place among those that make. -/
theorem GE.take {f : FuncId} {xs : List Operand} {ts : Array TypeId} {ss : List S} {σc σ' : Obs} {d : D} {dst : Nat} (hg : o.guard = none) (ht : o.dst = some dst) (hd : Nat.blt dst cx.N = true)
    (ho : o.op = .call { callee := .value (.func f), args := xs.toArray, argTypes := ts }) (ha : ArgsS e xs ss) (h : XCall cx.P f ss σc [] (fun _ => false) d) (hin : AllIn σ σc) (hσ : Obs.dels σc σ = σ') : GE cx ops Φ o e σ [(dst, .d d)] σ' := fun e0 h1 _ _ => by
  have hev : ∀ x ∈ xs, e0.ev x = e.ev x := fun x hx => ev_same fun t hxt => h1 t (looks_op (by rw [ho, ← hxt]; simp [Op.operands, Call.operands, hx]))
  have ha0 : ArgsS e0 xs ss := by
    have key : ∀ (xs : List Operand) (ss : List S), (∀ x ∈ xs, e0.ev x = e.ev x) → ArgsS e xs ss → ArgsS e0 xs ss := by
      intro xs
      induction xs with
      | nil => intro ss _ h; cases ss <;> exact h
      | cons x xs ih =>
        intro ss hx h
        cases ss with
        | nil => exact h
        | cons s ss => exact ⟨by rw [hx x List.mem_cons_self]; exact h.1, ih ss (fun y hy => hx y (List.mem_cons_of_mem _ hy)) h.2⟩
    exact key xs ss hev ha
  have hK : e0.killP (fun _ => false) = e0 := funext fun t => killP_false _
  refine AOps.callX hg (by unfold DstOk; rw [ht]; exact hd) ho ha0 h hin (allIds_of fun p _ => rfl) rfl (fun _ h => by cases h) (.nil ⟨?_, ?_⟩)
  · rw [hK, ht]; rfl
  · rw [killPObs_false]; exact hσ
end
end Go.Proofs.YtcilhhkmgebkeaaGreatDoor


namespace Go.Proofs.YtcilhhkmgebkeaaGreatDoor
open Go.RowKit
set_option linter.unusedVariables false

/-! Types. -/
namespace TyMB

end TyMB
open TyMB


set_option linter.unusedSimpArgs false
section
variable {α : Type} {f : α → Int}
/-- l with the first n of E put in, but for those whose numbers are in g. -/
def psK (f : α → Int) (l : List α) (g : List Int) (E : List α) (n : Nat) : List α := putsF f l (kpTo f g E n)
theorem psK_all (l : List α) (g : List Int) (E : List α) : psK f l g E E.length = putsF f l (E.filter (kp f g)) := by unfold psK; rw [kpTo_all]
theorem psK_yes {l E : List α} {g : List Int} {n : Nat} (h : n < E.length) (hn : ¬ f E[n] ∈ g) : psK f l g E (n + 1) = putF f (psK f l g E n) E[n] := by
  unfold psK
  rw [kp_yes h hn]
  unfold putsF
  rw [List.foldl_append]; rfl
theorem psK_no {l E : List α} {g : List Int} {n : Nat} (h : n < E.length) (hn : f E[n] ∈ g) : psK f l g E (n + 1) = psK f l g E n := by unfold psK; rw [kp_no h hn]
theorem psK_len (l : List α) (g : List Int) (E : List α) (n : Nat) : (psK f l g E n).length ≤ l.length + E.length := by
  have h1 := putsF_len (f := f) (kpTo f g E n) l
  have h2 := kpTo_len (f := f) g E n
  unfold psK; omega
end
/-- l with the first n of E behind it, but for those in g. -/
def dK (l g E : List Int) (n : Nat) : List Int := l ++ kpTo (fun n => n) g E n
theorem dK_0 (l g E : List Int) : dK l g E 0 = l := by unfold dK kpTo; simp
theorem dK_yes {l g E : List Int} {n : Nat} (h : n < E.length) (hn : ¬ E[n] ∈ g) : dK l g E (n + 1) = dK l g E n ++ [E[n]] := by unfold dK; rw [kp_yes (f := fun n => n) h hn, List.append_assoc]
theorem dK_no {l g E : List Int} {n : Nat} (h : n < E.length) (hn : E[n] ∈ g) : dK l g E (n + 1) = dK l g E n := by unfold dK; rw [kp_no (f := fun n => n) h hn]
theorem dK_len (l g E : List Int) (n : Nat) : (dK l g E n).length ≤ l.length + E.length := by
  have h2 := kpTo_len (f := fun n : Int => n) g E n
  unfold dK; rw [List.length_append]; omega
theorem dK_mem {l g E : List Int} {k : Int} : k ∈ dK l g E E.length ↔ k ∈ l ∨ k ∈ E ∧ ¬ k ∈ g := by
  unfold dK
  rw [kpTo_all, List.mem_append, List.mem_filter]
  unfold kp
  simp
abbrev gT (y : Chg) : List Int := y.put.map Thg.id ++ y.drop
abbrev gM (y : Chg) : List Int := y.add.map Mvd.src ++ y.back
abbrev pK (x y : Chg) (n : Nat) : List Thg := psK Thg.id y.put (gT y) x.put n
abbrev aK (x y : Chg) (n : Nat) : List Mvd := psK Mvd.src y.add (gM y) x.add n
abbrev dpK (x y : Chg) (n : Nat) : List Int := dK y.drop (y.put.map Thg.id) x.drop n
abbrev bkK (x y : Chg) (n : Nat) : List Int := dK y.back (y.add.map Mvd.src) x.back n
def compR (x y : Chg) : Chg := ⟨pK x y x.put.length, kcomp (dpK x y x.drop.length), aK x y x.add.length, kcomp (bkK x y x.back.length)⟩
def composeR (x y : Chg) : Chg × Int := if chgF x = 0 then (if chgF y = 0 then (if chgF (compR x y) = 0 then (compR x y, 0) else (zX, chgF (compR x y))) else (zX, chgF y)) else (zX, chgF x)
theorem compR_x {x y : Chg} (h : chgF x ≠ 0) : composeR x y = (zX, chgF x) := if_neg h
theorem compR_y {x y : Chg} (h : chgF x = 0) (h2 : chgF y ≠ 0) : composeR x y = (zX, chgF y) := by unfold composeR; rw [if_pos h, if_neg h2]
theorem compR_b {x y : Chg} (h : chgF x = 0) (h2 : chgF y = 0) (h3 : chgF (compR x y) ≠ 0) : composeR x y = (zX, chgF (compR x y)) := by unfold composeR; rw [if_pos h, if_pos h2, if_neg h3]
theorem compR_0 {x y : Chg} (h : chgF x = 0) (h2 : chgF y = 0) (h3 : chgF (compR x y) = 0) : composeR x y = (compR x y, 0) := by unfold composeR; rw [if_pos h, if_pos h2, if_pos h3]
section
variable {β : Type}
theorem comp_vals {P Q : GL β} {l m : List Int} (hP : NkG P) (hQ : NkG Q) (hl : UpL l) (hm : UpL m) (k : Int) : findG (valsG (putAll (xE P l) (xE Q m))) k = if k ∈ m then none else match findG Q k with | some v => some v | none => if k ∈ l then none else findG P k := by
  rw [valsG_find (putAll_nk (xE_nk _ _)), putAll_find (xE_nk _ _), xE_find hQ hm, xE_find hP hl]
  by_cases h : k ∈ m
  · rw [if_pos h, if_pos h]; rfl
  · rw [if_neg h, if_neg h]
    cases findG Q k with
    | some v => rfl
    | none =>
      show (if k ∈ l then some none else (findG P k).map some).join = if k ∈ l then none else findG P k
      by_cases h2 : k ∈ l
      · rw [if_pos h2, if_pos h2]; rfl
      · rw [if_neg h2, if_neg h2]; cases findG P k <;> rfl
theorem comp_gone {P Q : GL β} {l m : List Int} (hP : NkG P) (hQ : NkG Q) (hl : UpL l) (hm : UpL m) (k : Int) : k ∈ noneG (putAll (xE P l) (xE Q m)) ↔ k ∈ m ∨ k ∈ l ∧ findG Q k = none := by
  rw [noneG_mem, putAll_find (xE_nk _ _), xE_find hQ hm, xE_find hP hl]
  by_cases h : k ∈ m
  · rw [if_pos h]; simp [h]
  · rw [if_neg h]
    cases hq : findG Q k with
    | some v => simp [h]
    | none =>
      show (if k ∈ l then some none else (findG P k).map some) = some none ↔ _
      by_cases h2 : k ∈ l
      · rw [if_pos h2]; simp [h2]
      · rw [if_neg h2]; cases findG P k <;> simp [h, h2]
end
theorem comp_eq {x y : Chg} (hx : chgF x = 0) (hy : chgF y = 0) : compR x y = compX x y := by
  have kx := xOk hx
  have ky := xOk hy
  have rT : RisBy Thg.id y.put := risT_by.1 ky.put
  have rM : RisBy Mvd.src y.add := risM_by.1 ky.add
  have hI : IdT (cmpT x y) := (IdT.xE _ _).put (IdT.xE _ _)
  have nT : NkG (cmpT x y) := putAll_nk (xE_nk _ _)
  have nM : NkG (cmpM x y) := putAll_nk (xE_nk _ _)
  have hdT : ∀ (l : List Thg) (k : Int), findBy Thg.id l k = findG (idxL l) k := fun l k => findBy_T l k
  have hdM : ∀ (l : List Mvd) (k : Int), (findBy Mvd.src l k).map (·.dst) = findG (mvL l) k := fun l k => findBy_M l k
  have inT : ∀ k, findG (idxL y.put) k = none ↔ ¬ k ∈ y.put.map Thg.id := fun k => by
    rw [← hdT]
    refine ⟨fun h hh => ?_, fun h => findBy_none.2 fun a ha he => h (List.mem_map.2 ⟨a, ha, he⟩)⟩
    obtain ⟨t, ht, he⟩ := List.mem_map.1 hh
    exact findBy_none.1 h t ht he
  have inM : ∀ k, findG (mvL y.add) k = none ↔ ¬ k ∈ y.add.map Mvd.src := fun k => by
    rw [← hdM, Option.map_eq_none_iff]
    refine ⟨fun h hh => ?_, fun h => findBy_none.2 fun a ha he => h (List.mem_map.2 ⟨a, ha, he⟩)⟩
    obtain ⟨t, ht, he⟩ := List.mem_map.1 hh
    exact findBy_none.1 h t ht he
  have e1 : pK x y x.put.length = (compX x y).put := by
    refine risBy_ext (f := Thg.id) (by unfold pK psK; exact putsF_ris _ rT) (risT_by.1 (by show RiK (idxL (chgO (cmpT x y) (cmpM x y)).put); rw [chgO_put nT hI]; exact valsG_ri nT)) fun k => ?_
    rw [hdT (compX x y).put]
    show findBy Thg.id (psK Thg.id y.put (gT y) x.put x.put.length) k = findG (idxL (chgO (cmpT x y) (cmpM x y)).put) k
    rw [chgO_put nT hI, comp_vals kx.put.nk ky.put.nk kx.drop ky.drop, psK_all, putsF_find k _ ((risT_by.1 kx.put).sublist List.filter_sublist) rT, kp_find, hdT, hdT]
    cases hq : findG (idxL y.put) k with
    | some t =>
      have hi : k ∈ y.put.map Thg.id := Classical.byContradiction fun h => by rw [(inT k).2 h] at hq; cases hq
      rw [if_pos (List.mem_append.2 (.inl hi)), if_neg (xNo hy hq)]
    | none =>
      have hi := (inT k).1 hq
      by_cases hm : k ∈ y.drop
      · rw [if_pos (List.mem_append.2 (.inr hm)), if_pos hm]
      · rw [if_neg (fun hh => (List.mem_append.1 hh).elim hi hm), if_neg hm]
        cases hp : findG (idxL x.put) k with
        | some t => exact (if_neg (xNo hx hp)).symm
        | none => show none = if k ∈ x.drop then none else none; split <;> rfl
  have e2 : kcomp (dpK x y x.drop.length) = (compX x y).drop := kcomp_eq (noneG_up nT) fun k => by
    show k ∈ noneG (putAll (xE (idxL x.put) x.drop) (xE (idxL y.put) y.drop)) ↔ _
    rw [comp_gone kx.put.nk ky.put.nk kx.drop ky.drop, dK_mem, inT]
  have e3 : aK x y x.add.length = (compX x y).add := by
    refine findM_ext (by unfold aK psK; exact putsF_ris _ rM) (risM_by.1 (by show RiK (mvL (chgO (cmpT x y) (cmpM x y)).add); rw [chgO_add]; exact valsG_ri nM)) fun k => ?_
    rw [hdM (compX x y).add]
    show (findBy Mvd.src (psK Mvd.src y.add (gM y) x.add x.add.length) k).map (·.dst) = findG (mvL (chgO (cmpT x y) (cmpM x y)).add) k
    rw [chgO_add, comp_vals kx.add.nk ky.add.nk kx.back ky.back, psK_all, putsF_find k _ ((risM_by.1 kx.add).sublist List.filter_sublist) rM, kp_find, ← hdM y.add, ← hdM x.add]
    cases hq : findBy Mvd.src y.add k with
    | some t =>
      have hq2 : findG (mvL y.add) k = some t.dst := by rw [← hdM, hq]; rfl
      have hi : k ∈ y.add.map Mvd.src := Classical.byContradiction fun h => by rw [(inM k).2 h] at hq2; cases hq2
      rw [if_pos (List.mem_append.2 (.inl hi)), if_neg (xNoM hy hq2)]; rfl
    | none =>
      have hi := (inM k).1 (by rw [← hdM, hq]; rfl)
      by_cases hm : k ∈ y.back
      · rw [if_pos (List.mem_append.2 (.inr hm)), if_pos hm]; rfl
      · rw [if_neg (fun hh => (List.mem_append.1 hh).elim hi hm), if_neg hm]
        cases hp : findBy Mvd.src x.add k with
        | some t => exact (if_neg (xNoM (k := k) (n := t.dst) hx (by rw [← hdM, hp]; rfl))).symm
        | none => show none = if k ∈ x.back then none else none; split <;> rfl
  have e4 : kcomp (bkK x y x.back.length) = (compX x y).back := kcomp_eq (noneG_up nM) fun k => by
    show k ∈ noneG (putAll (xE (mvL x.add) x.back) (xE (mvL y.add) y.back)) ↔ _
    rw [comp_gone kx.add.nk ky.add.nk kx.back ky.back, dK_mem, inM]
  unfold compR
  rw [e1, e2, e3, e4]
theorem comp_same (x y : Chg) : composeV x y = composeR x y := by
  unfold composeV composeR
  split
  · rename_i hx
    split
    · rename_i hy; rw [comp_eq hx hy]
    · rfl
  · rfl
theorem swap_obs {a b : Nat × Ob} {l : Obs} : ∀ p ∈ a :: b :: l, p ∈ b :: a :: l := fun p h => (List.Perm.swap b a l).mem_iff.1 h


end Go.Proofs.YtcilhhkmgebkeaaGreatDoor


namespace Go.Proofs.YtcilhhkmgebkeaaGreatDoor
open Go.RowKit
set_option linter.unusedVariables false

/-! Types. -/
namespace TyMC
theorem ag_28 : AggT Tryz.prog 28 4 := .of (by kernel_rfl)
theorem ag_46 : AggT Tryz.prog 46 2 := .of (by kernel_rfl)
theorem ag_67 : AggT Tryz.prog 67 7 := .of (by kernel_rfl)
theorem bu_28 : StructT Tryz.prog 28 (fun i => (#[(0, 1), (1, 1), (2, 1), (3, 1)] : Array (Nat × Nat))[i]?) [(.slice none 0 0), (.slice none 0 0), (.slice none 0 0), (.slice none 0 0)] := .of (by kernel_rfl) (by kernel_rfl) (by decide)
theorem et_22 : ElemTy Tryz.prog 22 67 7 88 (.agg #[(.int .i64 0), (.int .i64 0), (.string ⟨#[]⟩), (.string ⟨#[]⟩), (.int .i64 0), (.int .i64 0), (.slice none 0 0)]) := ⟨by kernel_rfl, by kernel_rfl, by kernel_rfl, by decide⟩
theorem et_23 : ElemTy Tryz.prog 23 46 2 16 (.agg #[(.int .i64 0), (.int .i64 0)]) := ⟨by kernel_rfl, by kernel_rfl, by kernel_rfl, by decide⟩
theorem et_26 : ElemTy Tryz.prog 26 3 1 8 (.int .i64 0) := ⟨by kernel_rfl, by kernel_rfl, by kernel_rfl, by decide⟩
theorem fo_28_0 : fieldOff Tryz.prog 28 0 = some 0 := by kernel_rfl
theorem fo_28_1 : fieldOff Tryz.prog 28 1 = some 1 := by kernel_rfl
theorem fo_28_2 : fieldOff Tryz.prog 28 2 = some 2 := by kernel_rfl
theorem fo_28_3 : fieldOff Tryz.prog 28 3 = some 3 := by kernel_rfl
theorem fo_46_0 : fieldOff Tryz.prog 46 0 = some 0 := by kernel_rfl
theorem fo_67_0 : fieldOff Tryz.prog 67 0 = some 0 := by kernel_rfl
theorem sc_22 : Scal Tryz.prog 22 := .of (by kernel_rfl)
theorem sc_23 : Scal Tryz.prog 23 := .of (by kernel_rfl)
theorem sc_26 : Scal Tryz.prog 26 := .of (by kernel_rfl)
theorem sc_3 : Scal Tryz.prog 3 := .of (by kernel_rfl)
theorem sz_22 : ∀ w, (sizeOf 22).run Tryz.prog w = .ok 1 w := SizeT.of (by kernel_rfl)
theorem sz_23 : ∀ w, (sizeOf 23).run Tryz.prog w = .ok 1 w := SizeT.of (by kernel_rfl)
theorem sz_26 : ∀ w, (sizeOf 26).run Tryz.prog w = .ok 1 w := SizeT.of (by kernel_rfl)
theorem sz_28 : ∀ w, (sizeOf 28).run Tryz.prog w = .ok 4 w := SizeT.of (by kernel_rfl)
theorem sz_46 : ∀ w, (sizeOf 46).run Tryz.prog w = .ok 2 w := SizeT.of (by kernel_rfl)
theorem sz_67 : ∀ w, (sizeOf 67).run Tryz.prog w = .ok 7 w := SizeT.of (by kernel_rfl)
theorem zt_28 : (Tryz.prog.info? 28).bind (·.zero) = some (.agg #[(.slice none 0 0), (.slice none 0 0), (.slice none 0 0), (.slice none 0 0)]) := by kernel_rfl
theorem zt_46 : (Tryz.prog.info? 46).bind (·.zero) = some (.agg #[(.int .i64 0), (.int .i64 0)]) := by kernel_rfl
theorem zt_67 : (Tryz.prog.info? 67).bind (·.zero) = some (.agg #[(.int .i64 0), (.int .i64 0), (.string ⟨#[]⟩), (.string ⟨#[]⟩), (.int .i64 0), (.int .i64 0), (.slice none 0 0)]) := by kernel_rfl
end TyMC
open TyMC

set_option maxRecDepth 100000 in
set_option maxHeartbeats 8000000 in
theorem c_rComp (x y : Chg) (hp : x.put.length ≤ 1048576) (ha : x.add.length ≤ 1048576) (hp2 : y.put.length ≤ 1048576) (ha2 : y.add.length ≤ 1048576) : ACall Tryz.prog 17 [.agg x.ds, .agg y.ds] (.tup [.agg (composeR x y).1.ds, .v (.int .i64 (composeR x y).2)]) := by
  refine acall_ofR (n := 158) (ds' := [.agg (composeR x y).1.ds, .v (.int .i64 (composeR x y).2)]) Tryz.func17 rfl (by kernel_rfl) rfl [.cell 4 28, .tmp 5] rfl rfl ?_
  intro B w0 F0 fr
  refine AWP.seq (AWP.region ?_)
  refine AOps.sA (AOp.box rfl rfl rfl) ?_
  refine AOps.sA (AOp.box rfl rfl rfl) ?_
  refine AOps.alloc 101 rfl rfl rfl rfl zt_28 rfl rfl rfl ?_
  refine AOps.aA (.nil ?_)
  refine AWP.seq ?_
  refine AWP.seq (AWP.region ?_)
  refine AOps.sA (AOp.loadAgg rfl ag_28 rfl rfl) ?_
  refine AOps.sA (AOp.call rfl (.cons (ArgOk.rfl' rfl) .nil) (c_rCC x hp ha)) ?_
  refine AOps.aA (.nil ?_)
  refine AWP.seq (AWP.region ?_)
  refine AOps.mA ?_
  refine AOps.sA (AOp.neq rfl rfl rfl) (.nil ?_)
  refine AWP.cond rfl (fun h1 => ?_) (fun h1 => ?_)
  · replace h1 := of_decide_eq_true h1
    rw [compR_x (by first | exact h1 | omega)]
    refine AWP.seq (AWP.region ?_)
    refine AOps.sA (AOp.build rfl bu_28 .nil rfl) ?_
    refine AOps.mA ?_
    refine AOps.store rfl rfl rfl sz_28 rfl (.head _) rfl rfl rfl (Nat.le_of_ble_eq_true rfl) ?_
    refine AOps.aA (.nil ?_)
    refine AWP.ret ?_
    refine ⟨RetR.agg rfl (.head _) ag_28 rfl (.cons (by first | exact CellD.nil | exact CellD.d | exact CellD.eq (by simp) | (refine CellD.own (by first | exact .head _ | exact .tail _ (.head _)) ?_; rfl)) (.cons (by first | exact CellD.nil | exact CellD.d | exact CellD.eq (by simp) | (refine CellD.own (by first | exact .head _ | exact .tail _ (.head _)) ?_; rfl)) (.cons (by first | exact CellD.nil | exact CellD.d | exact CellD.eq (by simp) | (refine CellD.own (by first | exact .head _ | exact .tail _ (.head _)) ?_; rfl)) (.cons (by first | exact CellD.nil | exact CellD.d | exact CellD.eq (by simp) | (refine CellD.own (by first | exact .head _ | exact .tail _ (.head _)) ?_; rfl)) .nil)))), RetD.eq rfl ?_, trivial⟩
    all_goals (rfl)
  replace h1 := of_decide_eq_false h1
  have kx0 : chgF x = 0 := (by first | exact h1 | omega)
  refine AWP.skip ?_
  refine AWP.seq ?_
  refine AWP.seq (AWP.region ?_)
  refine AOps.sA (AOp.loadAgg rfl ag_28 rfl rfl) ?_
  refine AOps.sA (AOp.call rfl (.cons (ArgOk.rfl' rfl) .nil) (c_rCC y hp2 ha2)) ?_
  refine AOps.aA (.nil ?_)
  refine AWP.seq (AWP.region ?_)
  refine AOps.mA ?_
  refine AOps.sA (AOp.neq rfl rfl rfl) (.nil ?_)
  refine AWP.cond rfl (fun h2 => ?_) (fun h2 => ?_)
  · replace h2 := of_decide_eq_true h2
    rw [compR_y kx0 (by first | exact h2 | omega)]
    refine AWP.seq (AWP.region ?_)
    refine AOps.sA (AOp.build rfl bu_28 .nil rfl) ?_
    refine AOps.mA ?_
    refine AOps.store rfl rfl rfl sz_28 rfl (.head _) rfl rfl rfl (Nat.le_of_ble_eq_true rfl) ?_
    refine AOps.aA (.nil ?_)
    refine AWP.ret ?_
    refine ⟨RetR.agg rfl (.head _) ag_28 rfl (.cons (by first | exact CellD.nil | exact CellD.d | exact CellD.eq (by simp) | (refine CellD.own (by first | exact .head _ | exact .tail _ (.head _)) ?_; rfl)) (.cons (by first | exact CellD.nil | exact CellD.d | exact CellD.eq (by simp) | (refine CellD.own (by first | exact .head _ | exact .tail _ (.head _)) ?_; rfl)) (.cons (by first | exact CellD.nil | exact CellD.d | exact CellD.eq (by simp) | (refine CellD.own (by first | exact .head _ | exact .tail _ (.head _)) ?_; rfl)) (.cons (by first | exact CellD.nil | exact CellD.d | exact CellD.eq (by simp) | (refine CellD.own (by first | exact .head _ | exact .tail _ (.head _)) ?_; rfl)) .nil)))), RetD.eq rfl ?_, trivial⟩
    all_goals (rfl)
  replace h2 := of_decide_eq_false h2
  have ky0 : chgF y = 0 := (by first | exact h2 | omega)
  obtain ⟨l1, l2, l3, l4⟩ := limX kx0
  obtain ⟨l5, l6, l7, l8⟩ := limX ky0
  refine AWP.skip ?_
  refine AWP.seq ?_
  refine AWP.draw (by kernel_rfl) (by kernel_rfl) ?_
  refine DRun.sA (AOp.loadAgg rfl ag_28 rfl rfl) ?_
  refine DRun.sA (AOp.call rfl (.cons (ArgOk.rfl' rfl) .nil) (c_putIds y hp2)) ?_
  refine DRun.sA (AOp.loadAgg rfl ag_28 rfl rfl) ?_
  refine DRun.sA (AOp.call rfl (.cons (ArgOk.rfl' rfl) .nil) (c_addIds y ha2)) ?_
  refine DRun.sA (AOp.assignD rfl rfl) ?_
  refine DRun.sA (AOp.assignD rfl rfl) ?_
  refine DRun.nil ?_
  refine AWP.seq ?_
  refine AWP.weaken (e' := Env.of [(2, .d (.fp x.ds)), (3, .d (.fp y.ds)), (4, .ptr 101 0), (8, .d (.sl ((y.put.map Thg.id).map intD))), (9, .d (.sl ((y.add.map Mvd.src).map intD)))]) (σ' := [(101, .cells [.d (.v (.slice none 0 0)), .d (.v (.slice none 0 0)), .d (.v (.slice none 0 0)), .d (.v (.slice none 0 0))])]) (Sub.less ⟨SLe.refl _, SLe.refl _, SLe.refl _, SLe.refl _, SLe.refl _, trivial⟩ (fun p h => h)) ?_
  refine AWP.drawGroups 14 [⟨48, .own 300, [(300, .val [.d (.sl (y.put.map Thg.ds)), .own 202, .d (.sl (y.add.map Mvd.ds)), .own 204])], fun n => Nat.beq n 300⟩, ⟨41, .own 202, [(202, .row 3 1 (y.drop.map intD))], fun n => Nat.beq n 202⟩, ⟨47, .own 204, [(204, .row 3 1 (y.back.map intD))], fun n => Nat.beq n 204⟩, ⟨10, .ptr 102 0, [(102, .cells [.d (.v (.slice none 0 0)), .d (.v (.slice none 0 0)), .d (.v (.slice none 0 0)), .d (.v (.slice none 0 0))])], fun n => Nat.beq n 102⟩] (by
    constructor
    · intro f hf g hg h; simp only [List.mem_cons, List.not_mem_nil, or_false] at hf hg; rcases hf with rfl | rfl | rfl | rfl <;> rcases hg with rfl | rfl | rfl | rfl <;> first | rfl | (exfalso; dsimp only at h; omega)
    · intro f hf; simp only [List.mem_cons, List.not_mem_nil, or_false] at hf; rcases hf with rfl | rfl | rfl | rfl <;> exact ⟨rfl, by intro h; cases h⟩
    · intro f hf g hg hne; simp only [List.mem_cons, List.not_mem_nil, or_false] at hf hg; rcases hf with rfl | rfl | rfl | rfl <;> rcases hg with rfl | rfl | rfl | rfl <;> first | exact absurd rfl hne | exact ⟨rfl, fun p hp => by (simp only [List.mem_cons, List.not_mem_nil, or_false] at hp; subst hp; rfl)⟩
    · intro f hf p hp; simp only [List.mem_cons, List.not_mem_nil, or_false] at hf hp; rcases hf with rfl | rfl | rfl | rfl <;> subst hp <;> rfl
    intro f hf; simp only [List.mem_cons, List.not_mem_nil, or_false] at hf; rcases hf with rfl | rfl | rfl | rfl <;> rfl) (by kernel_rfl) (by kernel_rfl) (by kernel_rfl) (by kernel_rfl) ?_
  refine YRun.step rfl rfl rfl (AOp.fieldAddr rfl fo_28_0 rfl) ?_ rfl ⟨.inl rfl, .inl rfl, .inl rfl, .inl rfl, trivial⟩
  refine YRun.step rfl rfl rfl (AOp.load rfl sc_22 rfl) ?_ rfl ⟨.inl rfl, .inl rfl, .inl rfl, .inl rfl, trivial⟩
  refine YRun.step rfl rfl rfl (AOp.call rfl (.cons (ArgOk.rfl' rfl) .nil) (c_clThg y.put (by omega)).toA) ?_ rfl ⟨.inl rfl, .inl rfl, .inl rfl, .inl rfl, trivial⟩
  refine YRun.step rfl rfl rfl (AOp.fieldAddr rfl fo_28_1 rfl) ?_ rfl ⟨.inl rfl, .inl rfl, .inl rfl, .inl rfl, trivial⟩
  refine YRun.step rfl rfl rfl (AOp.load rfl sc_26 rfl) ?_ rfl ⟨.inl rfl, .inl rfl, .inl rfl, .inl rfl, trivial⟩
  refine YRun.callO 202 _ (.tail _ (.head _)) rfl rfl rfl rfl rfl (.cons (ArgOk.rfl' rfl) .nil) (c_clInt y.drop (by omega)) rfl rfl rfl ?_
  refine YRun.step rfl rfl rfl (AOp.fieldAddr rfl fo_28_2 rfl) ?_ rfl ⟨.inl rfl, .inl rfl, .inl rfl, .inl rfl, trivial⟩
  refine YRun.step rfl rfl rfl (AOp.load rfl sc_23 rfl) ?_ rfl ⟨.inl rfl, .inl rfl, .inl rfl, .inl rfl, trivial⟩
  refine YRun.step rfl rfl rfl (AOp.call rfl (.cons (ArgOk.rfl' rfl) .nil) (c_clMvd y.add (by omega)).toA) ?_ rfl ⟨.inl rfl, .inl rfl, .inl rfl, .inl rfl, trivial⟩
  refine YRun.step rfl rfl rfl (AOp.fieldAddr rfl fo_28_3 rfl) ?_ rfl ⟨.inl rfl, .inl rfl, .inl rfl, .inl rfl, trivial⟩
  refine YRun.step rfl rfl rfl (AOp.load rfl sc_26 rfl) ?_ rfl ⟨.inl rfl, .inl rfl, .inl rfl, .inl rfl, trivial⟩
  refine YRun.callO 204 _ (.tail _ (.tail _ (.head _))) rfl rfl rfl rfl rfl (.cons (ArgOk.rfl' rfl) .nil) (c_clInt y.back (by omega)) rfl rfl rfl ?_
  refine YRun.build4 300 _ (.head _) rfl rfl rfl rfl rfl bu_28 rfl rfl rfl rfl rfl rfl rfl rfl (.d rfl rfl) (.own (.tail _ (.head _)) (t := 41) (.tail _ (.head _)) S.noConfusion (.head _)) (.d rfl rfl) (.own (.tail _ (.tail _ (.head _))) (t := 47) (.tail _ (.tail _ (.tail _ (.head _)))) S.noConfusion (.head _)) rfl rfl rfl ?_ ⟨fun h => absurd rfl h, fun _ => .inr ⟨41, (.tail _ (.head _)), S.noConfusion⟩, fun _ => .inr ⟨47, (.tail _ (.tail _ (.tail _ (.head _)))), S.noConfusion⟩, fun _ => .inl rfl, trivial⟩
  refine YRun.alloc 102 _ (.tail _ (.tail _ (.tail _ (.head _)))) rfl rfl rfl rfl rfl zt_28 rfl rfl rfl rfl rfl ?_
  refine YRun.nil ⟨rfl, rfl, rfl, rfl, trivial⟩ ?_
  refine AOps.eff rfl rfl (EOp.storeVal (ss' := [.d (.sl (y.put.map Thg.ds)), .own 202, .d (.sl (y.add.map Mvd.ds)), .own 204]) rfl rfl sz_28 rfl (.tail _ (.tail _ (.tail _ (.head _)))) rfl (.head _) rfl (Nat.le_refl 4)) (.nil ?_)
  refine AWP.seq ?_
  refine AWP.seq ?_
  refine AWP.weaken (e' := Env.of [(2, .d (.fp x.ds)), (3, .d (.fp y.ds)), (4, .ptr 101 0), (8, .d (.sl ((y.put.map Thg.id).map intD))), (9, .d (.sl ((y.add.map Mvd.src).map intD))), (10, .ptr 102 0)]) (σ' := [(202, .row 3 1 (y.drop.map intD)), (204, .row 3 1 (y.back.map intD)), (102, .cells [.d (.sl (y.put.map Thg.ds)), .own 202, .d (.sl (y.add.map Mvd.ds)), .own 204]), (101, .cells [.d (.v (.slice none 0 0)), .d (.v (.slice none 0 0)), .d (.v (.slice none 0 0)), .d (.v (.slice none 0 0))])]) (Sub.less ⟨SLe.refl _, SLe.refl _, SLe.refl _, SLe.refl _, SLe.refl _, SLe.refl _, trivial⟩ (fun p h => .tail _ h)) ?_
  refine AWP.region ?_
  refine AOps.sA (AOp.fieldAddr rfl fo_28_0 rfl) ?_
  refine AOps.sA (AOp.load rfl sc_22 rfl) ?_
  refine AOps.sA (AOp.lenSl rfl et_22.ht rfl) ?_
  refine AOps.mA (.nil ?_)
  refine AWP.block ?_
  refine AWP.loop (G := Nat) (fun k => Env.of [(52, .d (.v (.int .i64 (k : Int)))), (50, .d (.sl (x.put.map Thg.ds))), (51, .d (.v (.int .i64 ((x.put.map Thg.ds).length : Int)))), (2, .d (.fp x.ds)), (3, .d (.fp y.ds)), (4, .ptr 101 0), (8, .d (.sl ((y.put.map Thg.id).map intD))), (9, .d (.sl ((y.add.map Mvd.src).map intD))), (10, .ptr 102 0)]) (fun k => [(202, .row 3 1 (y.drop.map intD)), (204, .row 3 1 (y.back.map intD)), (102, .cells [.d (.sl ((pK x y k).map Thg.ds)), .own 202, .d (.sl (y.add.map Mvd.ds)), .own 204]), (101, .cells [.d (.v (.slice none 0 0)), .d (.v (.slice none 0 0)), .d (.v (.slice none 0 0)), .d (.v (.slice none 0 0))])]) (fun k => k ≤ x.put.length) (fun k => x.put.length - k) 0 (Nat.zero_le _) (Sub.less ⟨(SLe.of_eq rfl), SLe.refl _, SLe.refl _, SLe.refl _, SLe.refl _, SLe.refl _, SLe.refl _, SLe.refl _, SLe.refl _, trivial⟩ (obs_e (by first | rfl | (simp only [dK_0])))) ?_
  intro k hk
  refine AWP.seq (AWP.region ?_)
  refine AOps.sA (AOp.lss rfl rfl rfl) (.nil ?_)
  refine AWP.seq ?_
  refine AWP.cond rfl (fun h3 => ?_) (fun h3 => ?_)
  · replace h3 := of_decide_eq_true h3
    rw [List.length_map] at h3
    have hlt : k < x.put.length := by omega
    have hq : (pK x y k).length ≤ _ := psK_len _ _ _ k
    refine AWP.skip ?_
    refine AWP.seq ?_
    refine AWP.block ?_
    refine AWP.seq (AWP.region ?_)
    refine AOps.sA (AOp.indexAddr rfl et_22 rfl rfl k rfl (at_lst hlt) rfl) ?_
    refine AOps.sA (AOp.loadAgg rfl ag_67 rfl rfl) ?_
    refine AOps.alloc 112 rfl rfl rfl rfl zt_67 rfl rfl rfl ?_
    refine AOps.store rfl rfl rfl sz_67 rfl (.head _) rfl rfl rfl (Nat.le_of_ble_eq_true rfl) ?_
    refine AOps.freezeCells 12 (ds := x.put[k].ds) rfl (.head _) (.nil ?_)
    refine AWP.seq (AWP.region ?_)
    refine AOps.mA ?_
    refine AOps.sA (AOp.fieldAddr rfl fo_67_0 rfl) ?_
    refine AOps.sA (AOp.load rfl sc_3 rfl) ?_
    refine AOps.sA (AOp.call rfl (.cons (ArgOk.rfl' rfl) (.cons (ArgOk.rfl' rfl) .nil)) (c_containsInt _ _)) ?_
    refine AOps.sA (AOp.not rfl rfl) ?_
    refine AOps.mA ?_
    refine AOps.split 61 rfl (fun g4 => ?_) (fun g4 => ?_)
    · replace g4 := bnot_t g4; replace g4 := of_decide_eq_false g4
      have w1 := g4
      refine AOps.sG (AOp.fieldAddr rfl fo_28_1 rfl) ?_
      refine AOps.sG (AOp.load rfl sc_26 rfl) ?_
      refine AOps.sG (AOp.fieldAddr rfl fo_67_0 rfl) ?_
      refine AOps.sG (AOp.load rfl sc_3 rfl) ?_
      refine AOps.sG (AOp.call rfl (.cons (ArgOk.rfl' rfl) (.cons (ArgOk.rfl' rfl) .nil)) (c_containsInt _ _)) ?_
      refine AOps.sG (AOp.not rfl rfl) ?_
      refine AOps.sA (AOp.pickT rfl rfl rfl) (.nil ?_)
      refine AWP.cond rfl (fun h5 => ?_) (fun h5 => ?_)
      · replace h5 := bnot_t h5; replace h5 := of_decide_eq_false h5
        have HB : pK x y (k + 1) = putF Thg.id (pK x y k) x.put[k] := psK_yes hlt (fun hh => (List.mem_append.1 hh).elim w1 h5)
        refine AWP.region ?_
        refine AOps.sA (AOp.fieldAddrP rfl fo_28_0 rfl) ?_
        refine AOps.sA (AOp.loadP rfl sc_22 rfl (.tail _ (.tail _ (.head _))) rfl) ?_
        refine AOps.sA (AOp.loadAgg rfl ag_67 rfl rfl) ?_
        refine AOps.sA (AOp.call rfl (.cons (ArgOk.rfl' rfl) (.cons (ArgOk.rfl' rfl) .nil)) (c_putT (pK x y k) x.put[k] (by omega))) ?_
        refine AOps.sA (AOp.fieldAddrP rfl fo_28_0 rfl) ?_
        refine AOps.store rfl rfl rfl sz_22 rfl (.tail _ (.tail _ (.head _))) rfl rfl rfl (Nat.le_of_ble_eq_true rfl) (.nil ?_)
        refine AWP.region ?_
        refine AOps.sA (AOp.add64 rfl rfl rfl (by omega) (by omega)) ?_
        refine AOps.mA (.nil ?_)
        refine ⟨k + 1, (by dsimp only; omega), (by dsimp only; omega), Sub.less ⟨(SLe.of_eq rfl), SLe.refl _, SLe.refl _, SLe.refl _, SLe.refl _, SLe.refl _, SLe.refl _, SLe.refl _, SLe.refl _, trivial⟩ (obs_e (by dsimp only; rw [HB]; first | done | (rw [List.map_append]; rfl) | rfl))⟩
      replace h5 := bnot_f h5; replace h5 := of_decide_eq_true h5
      have HB : pK x y (k + 1) = pK x y k := by first | exact HB | exact psK_no hlt (List.mem_append.2 (.inr (by first | exact h5 | exact Decidable.not_not.1 h5)))
      refine AWP.skip ?_
      refine AWP.region ?_
      refine AOps.sA (AOp.add64 rfl rfl rfl (by omega) (by omega)) ?_
      refine AOps.mA (.nil ?_)
      refine ⟨k + 1, (by dsimp only; omega), (by dsimp only; omega), Sub.less ⟨(SLe.of_eq rfl), SLe.refl _, SLe.refl _, SLe.refl _, SLe.refl _, SLe.refl _, SLe.refl _, SLe.refl _, SLe.refl _, trivial⟩ (obs_e (by dsimp only; rw [HB]; first | done | (rw [List.map_append]; rfl) | rfl))⟩
    replace g4 := bnot_f g4; replace g4 := of_decide_eq_true g4
    have w1 := g4
    have HB : pK x y (k + 1) = pK x y k := psK_no hlt (List.mem_append.2 (.inl (by first | exact g4 | exact Decidable.not_not.1 g4)))
    refine AOps.pA ?_
    refine AOps.pA ?_
    refine AOps.pA ?_
    refine AOps.pA ?_
    refine AOps.pA ?_
    refine AOps.pA ?_
    refine AOps.sA (AOp.pickF rfl rfl rfl) (.nil ?_)
    refine AWP.cond rfl (fun h => nomatch h) (fun _ => ?_)
    refine AWP.skip ?_
    refine AWP.region ?_
    refine AOps.sA (AOp.add64 rfl rfl rfl (by omega) (by omega)) ?_
    refine AOps.mA (.nil ?_)
    refine ⟨k + 1, (by dsimp only; omega), (by dsimp only; omega), Sub.less ⟨(SLe.of_eq rfl), SLe.refl _, SLe.refl _, SLe.refl _, SLe.refl _, SLe.refl _, SLe.refl _, SLe.refl _, SLe.refl _, trivial⟩ (obs_e (by dsimp only; rw [HB]; first | done | (rw [List.map_append]; rfl) | rfl))⟩
  replace h3 := of_decide_eq_false h3
  rw [List.length_map] at h3
  obtain rfl : k = x.put.length := by omega
  
  refine AWP.exit ?_
  refine AWP.seq ?_
  refine AWP.seq (AWP.region ?_)
  refine AOps.sA (AOp.fieldAddr rfl fo_28_1 rfl) ?_
  refine AOps.sA (AOp.load rfl sc_26 rfl) ?_
  refine AOps.sA (AOp.lenSl rfl et_26.ht rfl) ?_
  refine AOps.mA (.nil ?_)
  refine AWP.block ?_
  refine AWP.loop (G := Nat) (fun j => Env.of [(78, .d (.v (.int .i64 (j : Int)))), (76, .d (.sl (x.drop.map intD))), (77, .d (.v (.int .i64 ((x.drop.map intD).length : Int)))), (2, .d (.fp x.ds)), (3, .d (.fp y.ds)), (4, .ptr 101 0), (8, .d (.sl ((y.put.map Thg.id).map intD))), (9, .d (.sl ((y.add.map Mvd.src).map intD))), (10, .ptr 102 0)]) (fun j => [(202, .row 3 1 ((dpK x y j).map intD)), (204, .row 3 1 (y.back.map intD)), (102, .cells [.d (.sl ((pK x y x.put.length).map Thg.ds)), .own 202, .d (.sl (y.add.map Mvd.ds)), .own 204]), (101, .cells [.d (.v (.slice none 0 0)), .d (.v (.slice none 0 0)), .d (.v (.slice none 0 0)), .d (.v (.slice none 0 0))])]) (fun j => j ≤ x.drop.length) (fun j => x.drop.length - j) 0 (Nat.zero_le _) (Sub.less ⟨(SLe.of_eq rfl), SLe.refl _, SLe.refl _, SLe.refl _, SLe.refl _, SLe.refl _, SLe.refl _, SLe.refl _, SLe.refl _, trivial⟩ (obs_e (by first | rfl | (simp only [dK_0])))) ?_
  intro j hj
  refine AWP.seq (AWP.region ?_)
  refine AOps.sA (AOp.lss rfl rfl rfl) (.nil ?_)
  refine AWP.seq ?_
  refine AWP.cond rfl (fun h6 => ?_) (fun h6 => ?_)
  · replace h6 := of_decide_eq_true h6
    rw [List.length_map] at h6
    have hlt : j < x.drop.length := by omega
    have hq : (dpK x y j).length ≤ _ := dK_len _ _ _ j
    refine AWP.skip ?_
    refine AWP.seq ?_
    refine AWP.block ?_
    refine AWP.seq (AWP.region ?_)
    refine AOps.sA (AOp.indexAddr rfl et_26 rfl rfl j rfl (at_lst hlt) rfl) ?_
    refine AOps.sA (AOp.load rfl sc_3 rfl) ?_
    refine AOps.aA (.nil ?_)
    refine AWP.seq (AWP.region ?_)
    refine AOps.mA ?_
    refine AOps.mA ?_
    refine AOps.sA (AOp.call rfl (.cons (ArgOk.rfl' rfl) (.cons (ArgOk.rfl' rfl) .nil)) (c_containsInt _ _)) ?_
    refine AOps.sA (AOp.not rfl rfl) (.nil ?_)
    refine AWP.cond rfl (fun h7 => ?_) (fun h7 => ?_)
    · replace h7 := bnot_t h7; replace h7 := of_decide_eq_false h7
      have HB : dpK x y (j + 1) = dpK x y j ++ [x.drop[j]] := dK_yes hlt h7
      refine AWP.region ?_
      refine AOps.sA (AOp.fieldAddrP rfl fo_28_1 rfl) ?_
      refine AOps.sA (AOp.loadP rfl sc_26 rfl (.tail _ (.tail _ (.head _))) rfl) ?_
      refine AOps.mA ?_
      refine AOps.sA (AOp.buildSlice rfl et_26 (.cons rfl rfl rfl .nil) rfl (by decide)) ?_
      -- append 90
      refine AOps.append rfl rfl rfl rfl et_26 rfl (.head _) rfl (fun y hy => by obtain rfl := List.mem_singleton.1 hy; rfl) (by simp; omega) (by simp; omega) ?_
      refine AOps.sA (AOp.fieldAddrP rfl fo_28_1 rfl) ?_
      refine AOps.storeS rfl rfl rfl sz_26 rfl (.tail _ (.tail _ (.head _))) rfl (.head _) (Nat.le_of_ble_eq_true rfl) (.nil ?_)
      refine AWP.region ?_
      refine AOps.sA (AOp.add64 rfl rfl rfl (by omega) (by omega)) ?_
      refine AOps.mA (.nil ?_)
      refine ⟨j + 1, (by dsimp only; omega), (by dsimp only; omega), Sub.less ⟨(SLe.of_eq rfl), SLe.refl _, SLe.refl _, SLe.refl _, SLe.refl _, SLe.refl _, SLe.refl _, SLe.refl _, SLe.refl _, trivial⟩ (obs_e (by dsimp only; rw [HB]; first | done | (rw [List.map_append]; rfl) | rfl))⟩
    replace h7 := bnot_f h7; replace h7 := of_decide_eq_true h7
    have HB : dpK x y (j + 1) = dpK x y j := dK_no hlt (by first | exact h7 | exact Decidable.not_not.1 h7)
    refine AWP.skip ?_
    refine AWP.region ?_
    refine AOps.sA (AOp.add64 rfl rfl rfl (by omega) (by omega)) ?_
    refine AOps.mA (.nil ?_)
    refine ⟨j + 1, (by dsimp only; omega), (by dsimp only; omega), Sub.less ⟨(SLe.of_eq rfl), SLe.refl _, SLe.refl _, SLe.refl _, SLe.refl _, SLe.refl _, SLe.refl _, SLe.refl _, SLe.refl _, trivial⟩ (obs_e (by dsimp only; rw [HB]; first | done | (rw [List.map_append]; rfl) | rfl))⟩
  replace h6 := of_decide_eq_false h6
  rw [List.length_map] at h6
  obtain rfl : j = x.drop.length := by omega
  
  refine AWP.exit ?_
  refine AWP.seq ?_
  refine AWP.seq (AWP.region ?_)
  refine AOps.sA (AOp.fieldAddr rfl fo_28_2 rfl) ?_
  refine AOps.sA (AOp.load rfl sc_23 rfl) ?_
  refine AOps.sA (AOp.lenSl rfl et_23.ht rfl) ?_
  refine AOps.mA (.nil ?_)
  refine AWP.block ?_
  refine AWP.loop (G := Nat) (fun m => Env.of [(96, .d (.v (.int .i64 (m : Int)))), (94, .d (.sl (x.add.map Mvd.ds))), (95, .d (.v (.int .i64 ((x.add.map Mvd.ds).length : Int)))), (2, .d (.fp x.ds)), (3, .d (.fp y.ds)), (4, .ptr 101 0), (8, .d (.sl ((y.put.map Thg.id).map intD))), (9, .d (.sl ((y.add.map Mvd.src).map intD))), (10, .ptr 102 0)]) (fun m => [(202, .row 3 1 ((dpK x y x.drop.length).map intD)), (204, .row 3 1 (y.back.map intD)), (102, .cells [.d (.sl ((pK x y x.put.length).map Thg.ds)), .own 202, .d (.sl ((aK x y m).map Mvd.ds)), .own 204]), (101, .cells [.d (.v (.slice none 0 0)), .d (.v (.slice none 0 0)), .d (.v (.slice none 0 0)), .d (.v (.slice none 0 0))])]) (fun m => m ≤ x.add.length) (fun m => x.add.length - m) 0 (Nat.zero_le _) (Sub.less ⟨(SLe.of_eq rfl), SLe.refl _, SLe.refl _, SLe.refl _, SLe.refl _, SLe.refl _, SLe.refl _, SLe.refl _, SLe.refl _, trivial⟩ (obs_e (by first | rfl | (simp only [dK_0])))) ?_
  intro m hm
  refine AWP.seq (AWP.region ?_)
  refine AOps.sA (AOp.lss rfl rfl rfl) (.nil ?_)
  refine AWP.seq ?_
  refine AWP.cond rfl (fun h8 => ?_) (fun h8 => ?_)
  · replace h8 := of_decide_eq_true h8
    rw [List.length_map] at h8
    have hlt : m < x.add.length := by omega
    have hq : (aK x y m).length ≤ _ := psK_len _ _ _ m
    refine AWP.skip ?_
    refine AWP.seq ?_
    refine AWP.block ?_
    refine AWP.seq (AWP.region ?_)
    refine AOps.sA (AOp.indexAddr rfl et_23 rfl rfl m rfl (at_lst hlt) rfl) ?_
    refine AOps.sA (AOp.loadAgg rfl ag_46 rfl rfl) ?_
    refine AOps.alloc 116 rfl rfl rfl rfl zt_46 rfl rfl rfl ?_
    refine AOps.store rfl rfl rfl sz_46 rfl (.head _) rfl rfl rfl (Nat.le_of_ble_eq_true rfl) ?_
    refine AOps.freezeCells 16 (ds := x.add[m].ds) rfl (.head _) (.nil ?_)
    refine AWP.seq (AWP.region ?_)
    refine AOps.mA ?_
    refine AOps.sA (AOp.fieldAddr rfl fo_46_0 rfl) ?_
    refine AOps.sA (AOp.load rfl sc_3 rfl) ?_
    refine AOps.sA (AOp.call rfl (.cons (ArgOk.rfl' rfl) (.cons (ArgOk.rfl' rfl) .nil)) (c_containsInt _ _)) ?_
    refine AOps.sA (AOp.not rfl rfl) ?_
    refine AOps.mA ?_
    refine AOps.split 105 rfl (fun g9 => ?_) (fun g9 => ?_)
    · replace g9 := bnot_t g9; replace g9 := of_decide_eq_false g9
      have w1 := g9
      refine AOps.sG (AOp.fieldAddr rfl fo_28_3 rfl) ?_
      refine AOps.sG (AOp.load rfl sc_26 rfl) ?_
      refine AOps.sG (AOp.fieldAddr rfl fo_46_0 rfl) ?_
      refine AOps.sG (AOp.load rfl sc_3 rfl) ?_
      refine AOps.sG (AOp.call rfl (.cons (ArgOk.rfl' rfl) (.cons (ArgOk.rfl' rfl) .nil)) (c_containsInt _ _)) ?_
      refine AOps.sG (AOp.not rfl rfl) ?_
      refine AOps.sA (AOp.pickT rfl rfl rfl) (.nil ?_)
      refine AWP.cond rfl (fun h10 => ?_) (fun h10 => ?_)
      · replace h10 := bnot_t h10; replace h10 := of_decide_eq_false h10
        have HB : aK x y (m + 1) = putF Mvd.src (aK x y m) x.add[m] := psK_yes hlt (fun hh => (List.mem_append.1 hh).elim w1 h10)
        refine AWP.region ?_
        refine AOps.sA (AOp.fieldAddrP rfl fo_28_2 rfl) ?_
        refine AOps.sA (AOp.loadP rfl sc_23 rfl (.tail _ (.tail _ (.head _))) rfl) ?_
        refine AOps.sA (AOp.loadAgg rfl ag_46 rfl rfl) ?_
        refine AOps.sA (AOp.call rfl (.cons (ArgOk.rfl' rfl) (.cons (ArgOk.rfl' rfl) .nil)) (c_putM (aK x y m) x.add[m] (by omega))) ?_
        refine AOps.sA (AOp.fieldAddrP rfl fo_28_2 rfl) ?_
        refine AOps.store rfl rfl rfl sz_23 rfl (.tail _ (.tail _ (.head _))) rfl rfl rfl (Nat.le_of_ble_eq_true rfl) (.nil ?_)
        refine AWP.region ?_
        refine AOps.sA (AOp.add64 rfl rfl rfl (by omega) (by omega)) ?_
        refine AOps.mA (.nil ?_)
        refine ⟨m + 1, (by dsimp only; omega), (by dsimp only; omega), Sub.less ⟨(SLe.of_eq rfl), SLe.refl _, SLe.refl _, SLe.refl _, SLe.refl _, SLe.refl _, SLe.refl _, SLe.refl _, SLe.refl _, trivial⟩ (obs_e (by dsimp only; rw [HB]; first | done | (rw [List.map_append]; rfl) | rfl))⟩
      replace h10 := bnot_f h10; replace h10 := of_decide_eq_true h10
      have HB : aK x y (m + 1) = aK x y m := by first | exact HB | exact psK_no hlt (List.mem_append.2 (.inr (by first | exact h10 | exact Decidable.not_not.1 h10)))
      refine AWP.skip ?_
      refine AWP.region ?_
      refine AOps.sA (AOp.add64 rfl rfl rfl (by omega) (by omega)) ?_
      refine AOps.mA (.nil ?_)
      refine ⟨m + 1, (by dsimp only; omega), (by dsimp only; omega), Sub.less ⟨(SLe.of_eq rfl), SLe.refl _, SLe.refl _, SLe.refl _, SLe.refl _, SLe.refl _, SLe.refl _, SLe.refl _, SLe.refl _, trivial⟩ (obs_e (by dsimp only; rw [HB]; first | done | (rw [List.map_append]; rfl) | rfl))⟩
    replace g9 := bnot_f g9; replace g9 := of_decide_eq_true g9
    have w1 := g9
    have HB : aK x y (m + 1) = aK x y m := psK_no hlt (List.mem_append.2 (.inl (by first | exact g9 | exact Decidable.not_not.1 g9)))
    refine AOps.pA ?_
    refine AOps.pA ?_
    refine AOps.pA ?_
    refine AOps.pA ?_
    refine AOps.pA ?_
    refine AOps.pA ?_
    refine AOps.sA (AOp.pickF rfl rfl rfl) (.nil ?_)
    refine AWP.cond rfl (fun h => nomatch h) (fun _ => ?_)
    refine AWP.skip ?_
    refine AWP.region ?_
    refine AOps.sA (AOp.add64 rfl rfl rfl (by omega) (by omega)) ?_
    refine AOps.mA (.nil ?_)
    refine ⟨m + 1, (by dsimp only; omega), (by dsimp only; omega), Sub.less ⟨(SLe.of_eq rfl), SLe.refl _, SLe.refl _, SLe.refl _, SLe.refl _, SLe.refl _, SLe.refl _, SLe.refl _, SLe.refl _, trivial⟩ (obs_e (by dsimp only; rw [HB]; first | done | (rw [List.map_append]; rfl) | rfl))⟩
  replace h8 := of_decide_eq_false h8
  rw [List.length_map] at h8
  obtain rfl : m = x.add.length := by omega
  
  refine AWP.exit ?_
  refine AWP.seq ?_
  refine AWP.seq ?_
  refine AWP.obs (σ' := [(204, .row 3 1 (y.back.map intD)), (202, .row 3 1 ((dpK x y x.drop.length).map intD)), (102, .cells [.d (.sl ((pK x y x.put.length).map Thg.ds)), .own 202, .d (.sl ((aK x y x.add.length).map Mvd.ds)), .own 204]), (101, .cells [.d (.v (.slice none 0 0)), .d (.v (.slice none 0 0)), .d (.v (.slice none 0 0)), .d (.v (.slice none 0 0))])]) swap_obs ?_
  refine AWP.region ?_
  refine AOps.sA (AOp.fieldAddr rfl fo_28_3 rfl) ?_
  refine AOps.sA (AOp.load rfl sc_26 rfl) ?_
  refine AOps.sA (AOp.lenSl rfl et_26.ht rfl) ?_
  refine AOps.mA (.nil ?_)
  refine AWP.block ?_
  refine AWP.loop (G := Nat) (fun n => Env.of [(122, .d (.v (.int .i64 (n : Int)))), (120, .d (.sl (x.back.map intD))), (121, .d (.v (.int .i64 ((x.back.map intD).length : Int)))), (2, .d (.fp x.ds)), (3, .d (.fp y.ds)), (4, .ptr 101 0), (8, .d (.sl ((y.put.map Thg.id).map intD))), (9, .d (.sl ((y.add.map Mvd.src).map intD))), (10, .ptr 102 0)]) (fun n => [(204, .row 3 1 ((bkK x y n).map intD)), (202, .row 3 1 ((dpK x y x.drop.length).map intD)), (102, .cells [.d (.sl ((pK x y x.put.length).map Thg.ds)), .own 202, .d (.sl ((aK x y x.add.length).map Mvd.ds)), .own 204]), (101, .cells [.d (.v (.slice none 0 0)), .d (.v (.slice none 0 0)), .d (.v (.slice none 0 0)), .d (.v (.slice none 0 0))])]) (fun n => n ≤ x.back.length) (fun n => x.back.length - n) 0 (Nat.zero_le _) (Sub.less ⟨(SLe.of_eq rfl), SLe.refl _, SLe.refl _, SLe.refl _, SLe.refl _, SLe.refl _, SLe.refl _, SLe.refl _, SLe.refl _, trivial⟩ (obs_e (by first | rfl | (simp only [dK_0])))) ?_
  intro n hn
  refine AWP.seq (AWP.region ?_)
  refine AOps.sA (AOp.lss rfl rfl rfl) (.nil ?_)
  refine AWP.seq ?_
  refine AWP.cond rfl (fun h11 => ?_) (fun h11 => ?_)
  · replace h11 := of_decide_eq_true h11
    rw [List.length_map] at h11
    have hlt : n < x.back.length := by omega
    have hq : (bkK x y n).length ≤ _ := dK_len _ _ _ n
    refine AWP.skip ?_
    refine AWP.seq ?_
    refine AWP.block ?_
    refine AWP.seq (AWP.region ?_)
    refine AOps.sA (AOp.indexAddr rfl et_26 rfl rfl n rfl (at_lst hlt) rfl) ?_
    refine AOps.sA (AOp.load rfl sc_3 rfl) ?_
    refine AOps.aA (.nil ?_)
    refine AWP.seq (AWP.region ?_)
    refine AOps.mA ?_
    refine AOps.mA ?_
    refine AOps.sA (AOp.call rfl (.cons (ArgOk.rfl' rfl) (.cons (ArgOk.rfl' rfl) .nil)) (c_containsInt _ _)) ?_
    refine AOps.sA (AOp.not rfl rfl) (.nil ?_)
    refine AWP.cond rfl (fun h12 => ?_) (fun h12 => ?_)
    · replace h12 := bnot_t h12; replace h12 := of_decide_eq_false h12
      have HB : bkK x y (n + 1) = bkK x y n ++ [x.back[n]] := dK_yes hlt h12
      refine AWP.region ?_
      refine AOps.sA (AOp.fieldAddrP rfl fo_28_3 rfl) ?_
      refine AOps.sA (AOp.loadP rfl sc_26 rfl (.tail _ (.tail _ (.head _))) rfl) ?_
      refine AOps.mA ?_
      refine AOps.sA (AOp.buildSlice rfl et_26 (.cons rfl rfl rfl .nil) rfl (by decide)) ?_
      -- append 134
      refine AOps.append rfl rfl rfl rfl et_26 rfl (.head _) rfl (fun y hy => by obtain rfl := List.mem_singleton.1 hy; rfl) (by simp; omega) (by simp; omega) ?_
      refine AOps.sA (AOp.fieldAddrP rfl fo_28_3 rfl) ?_
      refine AOps.storeS rfl rfl rfl sz_26 rfl (.tail _ (.tail _ (.head _))) rfl (.head _) (Nat.le_of_ble_eq_true rfl) (.nil ?_)
      refine AWP.region ?_
      refine AOps.sA (AOp.add64 rfl rfl rfl (by omega) (by omega)) ?_
      refine AOps.mA (.nil ?_)
      refine ⟨n + 1, (by dsimp only; omega), (by dsimp only; omega), Sub.less ⟨(SLe.of_eq rfl), SLe.refl _, SLe.refl _, SLe.refl _, SLe.refl _, SLe.refl _, SLe.refl _, SLe.refl _, SLe.refl _, trivial⟩ (obs_e (by dsimp only; rw [HB]; first | done | (rw [List.map_append]; rfl) | rfl))⟩
    replace h12 := bnot_f h12; replace h12 := of_decide_eq_true h12
    have HB : bkK x y (n + 1) = bkK x y n := dK_no hlt (by first | exact h12 | exact Decidable.not_not.1 h12)
    refine AWP.skip ?_
    refine AWP.region ?_
    refine AOps.sA (AOp.add64 rfl rfl rfl (by omega) (by omega)) ?_
    refine AOps.mA (.nil ?_)
    refine ⟨n + 1, (by dsimp only; omega), (by dsimp only; omega), Sub.less ⟨(SLe.of_eq rfl), SLe.refl _, SLe.refl _, SLe.refl _, SLe.refl _, SLe.refl _, SLe.refl _, SLe.refl _, SLe.refl _, trivial⟩ (obs_e (by dsimp only; rw [HB]; first | done | (rw [List.map_append]; rfl) | rfl))⟩
  replace h11 := of_decide_eq_false h11
  rw [List.length_map] at h11
  obtain rfl : n = x.back.length := by omega
  have q1 : (pK x y x.put.length).length ≤ _ := psK_len _ _ _ _
  have q2 : (dpK x y x.drop.length).length ≤ _ := dK_len _ _ _ _
  have q3 : (aK x y x.add.length).length ≤ _ := psK_len _ _ _ _
  have q4 : (bkK x y x.back.length).length ≤ _ := dK_len _ _ _ _
  refine AWP.exit ?_
  refine AWP.seq (AWP.region ?_)
  refine AOps.sA (AOp.fieldAddrP rfl fo_28_1 rfl) ?_
  refine AOps.sA (AOp.loadP rfl sc_26 rfl (.tail _ (.tail _ (.head _))) rfl) ?_
  -- turns 202
  refine AOps.callX rfl rfl rfl (.cons (SLe.refl _) .nil) ((c_sortInt (dpK x y x.drop.length) (by omega) 3) 202) ⟨(.tail _ (.head _)), trivial⟩ rfl rfl (fun _ h => nomatch h) ?_
  refine AOps.nil ?_
  refine AWP.seq (AWP.region ?_)
  refine AOps.sA (AOp.fieldAddrP rfl fo_28_3 rfl) ?_
  refine AOps.sA (AOp.loadP rfl sc_26 rfl (.tail _ (.tail _ (.head _))) rfl) ?_
  -- turns 204
  refine AOps.callX rfl rfl rfl (.cons (SLe.refl _) .nil) ((c_sortInt (bkK x y x.back.length) (by omega) 3) 204) ⟨(.tail _ (.head _)), trivial⟩ rfl rfl (fun _ h => nomatch h) ?_
  refine AOps.nil ?_
  refine AWP.seq ?_
  refine AWP.weaken (e' := Env.of [(4, .ptr 101 0), (10, .ptr 102 0)]) (σ' := [(204, .row 3 1 ((ksort (bkK x y x.back.length)).map intD)), (202, .row 3 1 ((ksort (dpK x y x.drop.length)).map intD)), (102, .cells [.d (.sl ((pK x y x.put.length).map Thg.ds)), .own 202, .d (.sl ((aK x y x.add.length).map Mvd.ds)), .own 204]), (101, .cells [.d (.v (.slice none 0 0)), .d (.v (.slice none 0 0)), .d (.v (.slice none 0 0)), .d (.v (.slice none 0 0))])]) (Sub.less ⟨SLe.refl _, SLe.refl _, trivial⟩ (fun p h => h)) ?_
  refine AWP.drawLTail 7 [] [(2, [145]), (5, [148])] (fun σ : Obs => (102, Ob.cells [.d (.sl ((pK x y x.put.length).map Thg.ds)), .own 202, .d (.sl ((aK x y x.add.length).map Mvd.ds)), .own 204]) ∈ σ) (by kernel_rfl) (by kernel_rfl) (by kernel_rfl) (by kernel_rfl) ?_
  refine LRun.step rfl rfl rfl (.tail _ (.tail _ (.head _))) (fun τ hτ => AOp.fieldAddrP rfl fo_28_1 rfl) ?_ rfl trivial
  refine LRun.step rfl rfl rfl (.tail _ (.tail _ (.head _))) (fun τ hτ => AOp.loadP rfl sc_26 rfl hτ rfl) ?_ rfl trivial
  refine LRun.eff rfl rfl (.tail _ (.tail _ (.head _))) (.tail _ (.head _)) (GE.take rfl rfl rfl rfl (.cons (SLe.refl _) .nil) (c_compactI (ksort (dpK x y x.drop.length)) (by rw [(ksort_perm _).length_eq]; omega) 3 202) ⟨(.tail _ (.head _)), trivial⟩ rfl) ?_ (fun p hp f hf => nomatch hf)
  refine LRun.step rfl rfl rfl (.tail _ (.head _)) (fun τ hτ => AOp.fieldAddrP rfl fo_28_3 rfl) ?_ rfl trivial
  refine LRun.step rfl rfl rfl (.tail _ (.head _)) (fun τ hτ => AOp.loadP rfl sc_26 rfl hτ rfl) ?_ rfl trivial
  refine LRun.eff rfl rfl (.tail _ (.head _)) (.head _) (GE.take rfl rfl rfl rfl (.cons (SLe.refl _) .nil) (c_compactI (ksort (bkK x y x.back.length)) (by rw [(ksort_perm _).length_eq]; omega) 3 204) ⟨.head _, trivial⟩ rfl) ?_ (fun p hp f hf => nomatch hf)
  refine LRun.step rfl rfl rfl (.head _) (fun τ hτ => AOp.fieldAddrP rfl fo_28_1 rfl) ?_ rfl trivial
  refine LRun.nil ?_
  refine AOps.store rfl rfl rfl sz_26 rfl (.head _) rfl rfl rfl (Nat.le_of_ble_eq_true rfl) ?_
  refine AOps.sA (AOp.fieldAddrP rfl fo_28_3 rfl) ?_
  refine AOps.store rfl rfl rfl sz_26 rfl (.head _) rfl rfl rfl (Nat.le_of_ble_eq_true rfl) (.nil ?_)
  refine AWP.seq ?_
  refine AWP.seq ?_
  refine AWP.weaken (e' := Env.of [(4, .ptr 101 0), (10, .ptr 102 0)]) (σ' := [(102, .cells [.d (.sl ((pK x y x.put.length).map Thg.ds)), .d (.sl ((kcomp (dpK x y x.drop.length)).map intD)), .d (.sl ((aK x y x.add.length).map Mvd.ds)), .d (.sl ((kcomp (bkK x y x.back.length)).map intD))]), (101, .cells [.d (.v (.slice none 0 0)), .d (.v (.slice none 0 0)), .d (.v (.slice none 0 0)), .d (.v (.slice none 0 0))])]) (Sub.less ⟨SLe.refl _, SLe.refl _, trivial⟩ (fun p h => h)) ?_
  refine AWP.freezeCells 10 (ds := (compR x y).ds) rfl (.head _) ?_
  refine AWP.region ?_
  refine AOps.sA (AOp.loadAgg rfl ag_28 rfl rfl) ?_
  refine AOps.sA (AOp.call rfl (.cons (ArgOk.rfl' rfl) .nil) (c_rCC (compR x y) (show (pK x y x.put.length).length ≤ 1048576 by omega) (show (aK x y x.add.length).length ≤ 1048576 by omega))) ?_
  refine AOps.aA (.nil ?_)
  refine AWP.seq (AWP.region ?_)
  refine AOps.mA ?_
  refine AOps.sA (AOp.neq rfl rfl rfl) (.nil ?_)
  refine AWP.cond rfl (fun h13 => ?_) (fun h13 => ?_)
  · replace h13 := of_decide_eq_true h13
    rw [compR_b kx0 ky0 (by first | exact h13 | omega)]
    refine AWP.seq (AWP.region ?_)
    refine AOps.sA (AOp.build rfl bu_28 .nil rfl) ?_
    refine AOps.mA ?_
    refine AOps.store rfl rfl rfl sz_28 rfl (.head _) rfl rfl rfl (Nat.le_of_ble_eq_true rfl) ?_
    refine AOps.aA (.nil ?_)
    refine AWP.ret ?_
    refine ⟨RetR.agg rfl (.head _) ag_28 rfl (.cons (by first | exact CellD.nil | exact CellD.d | exact CellD.eq (by simp) | (refine CellD.own (by first | exact .head _ | exact .tail _ (.head _)) ?_; rfl)) (.cons (by first | exact CellD.nil | exact CellD.d | exact CellD.eq (by simp) | (refine CellD.own (by first | exact .head _ | exact .tail _ (.head _)) ?_; rfl)) (.cons (by first | exact CellD.nil | exact CellD.d | exact CellD.eq (by simp) | (refine CellD.own (by first | exact .head _ | exact .tail _ (.head _)) ?_; rfl)) (.cons (by first | exact CellD.nil | exact CellD.d | exact CellD.eq (by simp) | (refine CellD.own (by first | exact .head _ | exact .tail _ (.head _)) ?_; rfl)) .nil)))), RetD.eq rfl ?_, trivial⟩
    all_goals (rfl)
  replace h13 := of_decide_eq_false h13
  rw [compR_0 kx0 ky0 (by first | exact h13 | omega)]
  refine AWP.skip ?_
  refine AWP.seq (AWP.region ?_)
  refine AOps.sA (AOp.loadAgg rfl ag_28 rfl rfl) ?_
  refine AOps.store rfl rfl rfl sz_28 rfl (.head _) rfl rfl rfl (Nat.le_of_ble_eq_true rfl) ?_
  refine AOps.aA (.nil ?_)
  refine AWP.ret ?_
  refine ⟨RetR.agg rfl (.head _) ag_28 rfl (.cons (by first | exact CellD.nil | exact CellD.d | exact CellD.eq (by simp) | (refine CellD.own (by first | exact .head _ | exact .tail _ (.head _)) ?_; rfl)) (.cons (by first | exact CellD.nil | exact CellD.d | exact CellD.eq (by simp) | (refine CellD.own (by first | exact .head _ | exact .tail _ (.head _)) ?_; rfl)) (.cons (by first | exact CellD.nil | exact CellD.d | exact CellD.eq (by simp) | (refine CellD.own (by first | exact .head _ | exact .tail _ (.head _)) ?_; rfl)) (.cons (by first | exact CellD.nil | exact CellD.d | exact CellD.eq (by simp) | (refine CellD.own (by first | exact .head _ | exact .tail _ (.head _)) ?_; rfl)) .nil)))), RetD.eq rfl ?_, trivial⟩
  all_goals (rfl)

end Go.Proofs.YtcilhhkmgebkeaaGreatDoor


namespace Go.Proofs.YtcilhhkmgebkeaaGreatDoor
open Go.RowKit
set_option linter.unusedVariables false

/-! Types. -/
namespace TyMD
theorem ag_25 : AggT Tryz.prog 25 2 := .of (by kernel_rfl)
theorem ag_28 : AggT Tryz.prog 28 4 := .of (by kernel_rfl)
theorem sz_25 : ∀ w, (sizeOf 25).run Tryz.prog w = .ok 2 w := SizeT.of (by kernel_rfl)
theorem sz_28 : ∀ w, (sizeOf 28).run Tryz.prog w = .ok 4 w := SizeT.of (by kernel_rfl)
theorem zt_25 : (Tryz.prog.info? 25).bind (·.zero) = some (.agg #[(.slice none 0 0), (.slice none 0 0)]) := by kernel_rfl
theorem zt_28 : (Tryz.prog.info? 28).bind (·.zero) = some (.agg #[(.slice none 0 0), (.slice none 0 0), (.slice none 0 0), (.slice none 0 0)]) := by kernel_rfl
end TyMD
open TyMD

set_option maxRecDepth 100000 in
set_option maxHeartbeats 1000000 in
theorem lawChgs (c : Ctl) (x y : Chg) (hc : CtlOk c) (hx : XIn x) (hy : XIn y) (hp : x.put.length ≤ 1048576) (ha : x.add.length ≤ 1048576) (hp2 : y.put.length ≤ 1048576) (ha2 : y.add.length ≤ 1048576) : ACallT Tryz.prog MaxT 6 [.agg c.ds, .agg x.ds, .agg y.ds] (.v (.bool true)) := by
  refine acall_ofT (n := 72) (ds' := [.v (.bool true)]) Tryz.func6 rfl (by kernel_rfl) rfl [6] rfl rfl ?_
  intro B w0 F0 hT
  have HS := apply_same c x
  have HC := comp_same x y
  refine AWP.seq (AWP.region ?_)
  refine AOps.sA (AOp.box rfl rfl rfl) ?_
  refine AOps.sA (AOp.box rfl rfl rfl) ?_
  refine AOps.sA (AOp.box rfl rfl rfl) ?_
  refine AOps.aA (.nil ?_)
  refine AWP.seq (AWP.region ?_)
  refine AOps.sA (AOp.loadAgg rfl ag_25 rfl rfl) ?_
  refine AOps.sA (AOp.loadAgg rfl ag_28 rfl rfl) ?_
  -- wants the world
  refine AOps.callT rfl rfl rfl hT maxT_stays rfl (.cons (ArgOk.rfl' rfl) (.cons (ArgOk.rfl' rfl) .nil)) (c_pApply c x hc hx) ?_
  refine AOps.mA ?_
  refine AOps.sA (AOp.extract rfl rfl rfl) ?_
  refine AOps.sA (AOp.extract rfl rfl rfl) ?_
  refine AOps.sA (AOp.extract rfl rfl rfl) ?_
  refine AOps.alloc 101 rfl rfl rfl rfl zt_25 rfl rfl rfl ?_
  refine AOps.alloc 102 rfl rfl rfl rfl zt_28 rfl rfl rfl ?_
  refine AOps.store rfl rfl rfl sz_25 rfl (.tail _ (.head _)) rfl rfl rfl (Nat.le_of_ble_eq_true rfl) ?_
  refine AOps.freezeCells 7 (ds := (applyV c x).1.ds) rfl (.tail _ (.head _)) ?_
  refine AOps.store rfl rfl rfl sz_28 rfl (.head _) rfl rfl rfl (Nat.le_of_ble_eq_true rfl) ?_
  refine AOps.aA (.nil ?_)
  refine AWP.seq (AWP.region ?_)
  refine AOps.sA (AOp.loadAgg rfl ag_25 rfl rfl) ?_
  refine AOps.sA (AOp.loadAgg rfl ag_28 rfl rfl) ?_
  -- wants the world
  refine AOps.callT rfl rfl rfl hT maxT_stays rfl (.cons (ArgOk.rfl' rfl) (.cons (ArgOk.rfl' rfl) .nil)) (c_rApply c x hc hx.ok hp ha) ?_
  refine AOps.mA ?_
  refine AOps.sA (AOp.extract rfl rfl rfl) ?_
  refine AOps.sA (AOp.extract rfl rfl rfl) ?_
  refine AOps.sA (AOp.extract rfl rfl rfl) ?_
  refine AOps.alloc 103 rfl rfl rfl rfl zt_25 rfl rfl rfl ?_
  refine AOps.alloc 104 rfl rfl rfl rfl zt_28 rfl rfl rfl ?_
  refine AOps.store rfl rfl rfl sz_25 rfl (.tail _ (.head _)) rfl rfl rfl (Nat.le_of_ble_eq_true rfl) ?_
  refine AOps.freezeCells 10 (ds := (applyR c x).1.ds) rfl (.tail _ (.head _)) ?_
  refine AOps.store rfl rfl rfl sz_28 rfl (.head _) rfl rfl rfl (Nat.le_of_ble_eq_true rfl) ?_
  refine AOps.aA (.nil ?_)
  refine AWP.seq ?_
  refine AWP.seq ?_
  refine AWP.draw (by kernel_rfl) (by kernel_rfl) ?_
  refine DRun.sA (AOp.loadAgg rfl ag_28 rfl rfl) ?_
  refine DRun.sA (AOp.call rfl (.cons (ArgOk.rfl' rfl) .nil) (c_pCC x)) ?_
  refine DRun.sA (AOp.loadAgg rfl ag_28 rfl rfl) ?_
  refine DRun.sA (AOp.call rfl (.cons (ArgOk.rfl' rfl) .nil) (c_rCC x hp ha)) ?_
  refine DRun.sA (AOp.neq rfl rfl rfl) ?_
  refine DRun.sA (AOp.moveD rfl rfl) ?_
  refine DRun.split 32 rfl (fun g1 => ?_) (fun g1 => ?_)
  · replace g1 := of_decide_eq_true g1
    exact absurd rfl g1
  replace g1 := of_decide_eq_false g1
  refine DRun.sG (AOp.moveD rfl rfl) ?_
  refine DRun.sG (AOp.moveD rfl rfl) ?_
  refine DRun.sG (AOp.neq rfl rfl rfl) ?_
  refine DRun.sA (AOp.pickF rfl rfl rfl) ?_
  refine DRun.sA (AOp.moveD rfl rfl) ?_
  refine DRun.split 37 rfl (fun g2 => ?_) (fun g2 => ?_)
  · replace g2 := of_decide_eq_true g2
    exact absurd (by rw [HS]) g2
  replace g2 := of_decide_eq_false g2
  refine DRun.sG (AOp.loadAgg rfl ag_25 rfl rfl) ?_
  refine DRun.sG (AOp.loadAgg rfl ag_25 rfl rfl) ?_
  refine DRun.sG (AOp.call rfl (.cons (ArgOk.rfl' rfl) (.cons (ArgOk.rfl' rfl) .nil)) (c_sameC _ _)) ?_
  refine DRun.sG (AOp.not rfl rfl) ?_
  refine DRun.sA (AOp.pickF rfl rfl rfl) ?_
  refine DRun.sA (AOp.moveD rfl rfl) ?_
  refine DRun.split 43 rfl (fun g3 => ?_) (fun g3 => ?_)
  · replace g3 := bnot_t g3; replace g3 := of_decide_eq_false g3
    exact absurd (by rw [HS]) g3
  replace g3 := bnot_f g3; replace g3 := of_decide_eq_true g3
  refine DRun.sG (AOp.loadPU rfl ag_28 rfl (.tail _ (.head _)) rfl rfl) ?_
  refine DRun.sG (AOp.loadPU rfl ag_28 rfl (.head _) rfl rfl) ?_
  refine DRun.sG (AOp.call rfl (.cons (ArgOk.rfl' rfl) (.cons (ArgOk.rfl' rfl) .nil)) (c_sameX (applyV c x).2.1 (applyR c x).2.1)) ?_
  refine DRun.sG (AOp.not rfl rfl) ?_
  refine DRun.sA (AOp.pickF rfl rfl rfl) ?_
  refine DRun.nil ?_
  refine AWP.cond rfl (fun h4 => ?_) (fun h4 => ?_)
  · replace h4 := bnot_t h4; replace h4 := of_decide_eq_false h4
    exact absurd (show (applyV c x).2.1 = (applyR c x).2.1 by rw [HS]) h4
  replace h4 := bnot_f h4; replace h4 := of_decide_eq_true h4
  refine AWP.skip ?_
  refine AWP.seq (AWP.region ?_)
  refine AOps.sA (AOp.loadAgg rfl ag_28 rfl rfl) ?_
  refine AOps.sA (AOp.loadAgg rfl ag_28 rfl rfl) ?_
  refine AOps.sA (AOp.call rfl (.cons (ArgOk.rfl' rfl) (.cons (ArgOk.rfl' rfl) .nil)) (c_pComp x y hx hy)) ?_
  refine AOps.mA ?_
  refine AOps.sA (AOp.extract rfl rfl rfl) ?_
  refine AOps.sA (AOp.extract rfl rfl rfl) ?_
  refine AOps.store rfl rfl rfl sz_28 rfl (.tail _ (.head _)) rfl rfl rfl (Nat.le_of_ble_eq_true rfl) ?_
  refine AOps.aA (.nil ?_)
  refine AWP.seq (AWP.region ?_)
  refine AOps.sA (AOp.loadAgg rfl ag_28 rfl rfl) ?_
  refine AOps.sA (AOp.loadAgg rfl ag_28 rfl rfl) ?_
  refine AOps.sA (AOp.call rfl (.cons (ArgOk.rfl' rfl) (.cons (ArgOk.rfl' rfl) .nil)) (c_rComp x y hp ha hp2 ha2)) ?_
  refine AOps.mA ?_
  refine AOps.sA (AOp.extract rfl rfl rfl) ?_
  refine AOps.sA (AOp.extract rfl rfl rfl) ?_
  refine AOps.store rfl rfl rfl sz_28 rfl (.head _) rfl rfl rfl (Nat.le_of_ble_eq_true rfl) ?_
  refine AOps.aA (.nil ?_)
  refine AWP.seq (AWP.region ?_)
  refine AOps.mA ?_
  refine AOps.mA ?_
  refine AOps.sA (AOp.eql rfl rfl rfl) ?_
  refine AOps.mA ?_
  refine AOps.split 64 rfl (fun g5 => ?_) (fun g5 => ?_)
  · replace g5 := of_decide_eq_true g5
    refine AOps.sG (AOp.loadPU rfl ag_28 rfl (.tail _ (.head _)) rfl rfl) ?_
    refine AOps.sG (AOp.loadPU rfl ag_28 rfl (.head _) rfl rfl) ?_
    refine AOps.sG (AOp.call rfl (.cons (ArgOk.rfl' rfl) (.cons (ArgOk.rfl' rfl) .nil)) (c_sameX (composeV x y).1 (composeR x y).1)) ?_
    refine AOps.sA (AOp.pickT rfl rfl rfl) ?_
    refine AOps.mA ?_
    refine AOps.split 69 rfl (fun g6 => ?_) (fun g6 => ?_)
    · replace g6 := of_decide_eq_true g6
      refine AOps.sG (AOp.call rfl .nil c_awake) ?_
      refine AOps.sA (AOp.pickT rfl rfl rfl) ?_
      refine AOps.aA (.nil ?_)
      refine AWP.ret ?_
      refine ⟨RetD.eq rfl ?_, trivial⟩
      all_goals (first | rfl | simp)
    replace g6 := of_decide_eq_false g6
    exact absurd (show (composeV x y).1 = (composeR x y).1 by rw [HC]) g6
  replace g5 := of_decide_eq_false g5
  exact absurd (by rw [HC]) g5

end Go.Proofs.YtcilhhkmgebkeaaGreatDoor
