/- Walks over abstract values. Printed by tools/gen.py. No statement of the seat. -/
import Derived.Test.YtpihcfpdaoflbaaF11
namespace Go.Proofs.Ytpihcfpdaoflbaa
open Go.RowKit
set_option linter.unusedVariables false

/-! Types. -/
namespace TyG1

end TyG1
open TyG1


/-! What Divide comes to. -/
def rowF (f : Nat → Int) (n : Nat) : List (List D) := (List.range n).map fun i => intD (f i)
theorem rowF_len (f : Nat → Int) (n : Nat) : (rowF f n).length = n := by unfold rowF; simp
theorem rowF_at {f : Nat → Int} {n k : Nat} (h : k < n) : (rowF f n)[k]? = some (intD (f k)) := by unfold rowF; simp [h]
theorem rowF_congr {f g : Nat → Int} {n : Nat} (h : ∀ i, i < n → f i = g i) : rowF f n = rowF g n := by
  unfold rowF
  exact List.map_congr_left fun i hi => by rw [h i (List.mem_range.1 hi)]
theorem rowF_set {f g : Nat → Int} {n k : Nat} {v : Int} (hk : k < n) (h : ∀ i, i < n → g i = if i = k then v else f i) : (rowF f n).set k (intD v) = rowF g n := by
  apply List.ext_getElem?
  intro i
  rw [List.getElem?_set, rowF_len]
  by_cases e : k = i
  · subst e
    rw [if_pos rfl, if_pos hk, rowF_at hk, h k hk, if_pos rfl]
  · rw [if_neg e]
    by_cases hi : i < n
    · rw [rowF_at hi, rowF_at hi, h i hi, if_neg (Ne.symm e)]
    · rw [List.getElem?_eq_none (by rw [rowF_len]; omega), List.getElem?_eq_none (by rw [rowF_len]; omega)]
theorem rowF_zero (n : Nat) : List.replicate n (intD 0) = rowF (fun _ => 0) n := by
  unfold rowF
  rw [List.map_const', List.length_range]
def inR (lo hi x : Int) : Bool := decide (lo ≤ x ∧ x ≤ hi)
def divFault (t : Int) (ws : List Int) : Int :=
  if (ws.length : Int) = 0 then 9 else if 500 < (ws.length : Int) then 2 else if ¬ (0 ≤ t ∧ t ≤ 1000000000) then 1 else if ∃ w ∈ ws, ¬ (0 ≤ w ∧ w ≤ 1000000000) then 1 else if ws.sum = 0 then 13 else 0
def wAt (ws : List Int) (i : Nat) : Int := ws.getD i 0
def qAt (t : Int) (ws : List Int) (i : Nat) : Int := t * wAt ws i / ws.sum
def rAt (t : Int) (ws : List Int) (i : Nat) : Int := t * wAt ws i % ws.sum
def leftTo (t : Int) (ws : List Int) (k : Nat) : Int := t - ((List.range k).map (qAt t ws)).sum
def cmpF (t : Int) (ws : List Int) {n : Nat} (i k : Fin n) : Int := if rAt t ws k < rAt t ws i then -1 else if rAt t ws i < rAt t ws k then 1 else 0
theorem pre_cmpF (t : Int) (ws : List Int) (n : Nat) : Pre (cmpF t ws (n := n)) := by
  constructor
  · intro x y h
    unfold cmpF at *
    split at h
    · rw [if_neg (by omega), if_pos (by assumption)]; decide
    · split at h <;> simp at h
  · intro x y z h1 h2
    unfold cmpF at *
    by_cases h3 : rAt t ws x < rAt t ws y
    · rw [if_pos h3] at h1; simp at h1
    · by_cases h4 : rAt t ws y < rAt t ws z
      · rw [if_pos h4] at h2; simp at h2
      · rw [if_neg (by omega)]; split <;> decide
def idL (n : Nat) : List (Fin n × Nat) := (List.finRange n).map fun i => (i, i.val)
theorem idL_len (n : Nat) : (idL n).length = n := by unfold idL; simp
theorem idL_incr (n : Nat) : (idL n).Pairwise (fun x y => x.2 < y.2) := by
  unfold idL
  rw [List.pairwise_map]
  refine List.pairwise_iff_getElem.2 fun i j hi hj hij => ?_
  simpa using hij
theorem idL_incr' (n b : Nat) : Incr (idL n) 0 b := fun i j x y _ hij _ hx hy => by
  obtain ⟨h1, e1⟩ := List.getElem?_eq_some_iff.1 hx
  obtain ⟨h2, e2⟩ := List.getElem?_eq_some_iff.1 hy
  rw [← e1, ← e2]
  exact List.pairwise_iff_getElem.1 (idL_incr n) i j h1 h2 hij
theorem idL_tags (n : Nat) : TagsOk (idL n) := by
  unfold TagsOk
  rw [List.Nodup, List.pairwise_map]
  exact (idL_incr n).imp fun h => by omega
theorem idL_row (n : Nat) : (idL n).map fds = rowF (fun i => (i : Int)) n := by
  apply List.ext_getElem?
  intro i
  by_cases hi : i < n
  · rw [rowF_at hi]
    unfold idL
    simp [hi, fds, intD]
  · rw [List.getElem?_eq_none (by rw [List.length_map, idL_len]; omega), List.getElem?_eq_none (by rw [rowF_len]; omega)]
/-- The order in which what is left is given. -/
def ordL (t : Int) (ws : List Int) : List (Fin ws.length × Nat) := sortSeg (cmpF t ws) (idL ws.length) 0 (idL ws.length).length
def pick (t : Int) (ws : List Int) (j : Nat) : List Nat := ((ordL t ws).take j).map fun p => p.1.val
theorem ordL_perm (t : Int) (ws : List Int) : (ordL t ws).Perm (idL ws.length) := sortSeg_perm _ _ (Nat.zero_le _)
theorem ordL_len (t : Int) (ws : List Int) : (ordL t ws).length = ws.length := by rw [(ordL_perm t ws).length_eq, idL_len]
theorem ordL_tag {t : Int} {ws : List Int} {p : Fin ws.length × Nat} (h : p ∈ ordL t ws) : p.2 = p.1.val := by
  have := (ordL_perm t ws).subset h
  unfold idL at this
  obtain ⟨i, _, rfl⟩ := List.mem_map.1 this
  rfl
theorem ordL_all {t : Int} {ws : List Int} {i : Nat} (h : i < ws.length) : ∃ m, ∃ hm : m < (ordL t ws).length, (ordL t ws)[m].1.val = i := by
  have : ((⟨i, h⟩ : Fin ws.length), i) ∈ ordL t ws := (ordL_perm t ws).symm.subset (List.mem_map.2 ⟨⟨i, h⟩, by simp, rfl⟩)
  obtain ⟨m, hm, e⟩ := List.mem_iff_getElem.1 this
  exact ⟨m, hm, by rw [e]⟩
theorem ordL_inj {t : Int} {ws : List Int} {m k : Nat} (hm : m < (ordL t ws).length) (hk : k < (ordL t ws).length) (h : (ordL t ws)[m].1.val = (ordL t ws)[k].1.val) : m = k := by
  have ht : TagsOk (ordL t ws) := (idL_tags ws.length).perm (ordL_perm t ws)
  unfold TagsOk at ht
  have h1 : ((ordL t ws).map Prod.snd)[m]'(by simpa using hm) = ((ordL t ws).map Prod.snd)[k]'(by simpa using hk) := by
    rw [List.getElem_map, List.getElem_map, ordL_tag (List.getElem_mem hm), ordL_tag (List.getElem_mem hk), h]
  exact (List.getElem_inj ht).1 h1
theorem ordL_sorted {t : Int} {ws : List Int} {m k : Nat} (hmk : m < k) (hk : k < (ordL t ws).length) : rAt t ws (ordL t ws)[k].1.val < rAt t ws ((ordL t ws)[m]'(by omega)).1.val ∨ (rAt t ws (ordL t ws)[k].1.val ≤ rAt t ws ((ordL t ws)[m]'(by omega)).1.val ∧ ((ordL t ws)[m]'(by omega)).1.val < (ordL t ws)[k].1.val) := by
  have hs : SortedOn (cmpF t ws) (ordL t ws) 0 (idL ws.length).length := sortSeg_sorted (pre_cmpF t ws ws.length) (Nat.zero_le _) (Nat.le_refl _) (idL_tags _)
  have hl := ordL_len t ws
  have h := hs m k _ _ (Nat.zero_le _) hmk (by rw [idL_len]; omega) (List.getElem?_eq_getElem (by omega)) (List.getElem?_eq_getElem hk)
  unfold tlt cmpF at h
  rw [ordL_tag (List.getElem_mem _), ordL_tag (List.getElem_mem hk)] at h
  rcases h with h | ⟨h1, h2⟩
  · left
    split at h
    · assumption
    · split at h <;> simp at h
  · right
    refine ⟨?_, h2⟩
    by_cases h3 : rAt t ws ((ordL t ws)[m]'(by omega)).1.val < rAt t ws (ordL t ws)[k].1.val
    · rw [if_pos h3] at h1; simp at h1
    · omega
theorem pick_succ {t : Int} {ws : List Int} {j : Nat} (hj : j < (ordL t ws).length) : pick t ws (j + 1) = pick t ws j ++ [(ordL t ws)[j].1.val] := by
  unfold pick; rw [List.take_add_one, List.getElem?_eq_getElem hj, Option.toList_some, List.map_append]; rfl
theorem mem_pick {t : Int} {ws : List Int} {j i : Nat} : i ∈ pick t ws j ↔ ∃ m, ∃ hm : m < (ordL t ws).length, m < j ∧ (ordL t ws)[m].1.val = i := by
  unfold pick
  rw [List.mem_map]
  constructor
  · rintro ⟨p, hp, rfl⟩
    obtain ⟨m, hm, e⟩ := List.mem_take_iff_getElem.1 hp
    exact ⟨m, by omega, by omega, by rw [e]⟩
  · rintro ⟨m, hm, hmj, rfl⟩
    exact ⟨_, List.mem_take_iff_getElem.2 ⟨m, by omega, rfl⟩, rfl⟩
theorem pick_new {t : Int} {ws : List Int} {j : Nat} (hj : j < (ordL t ws).length) : ¬ (ordL t ws)[j].1.val ∈ pick t ws j := fun h => by
  obtain ⟨m, hm, hmj, e⟩ := mem_pick.1 h
  have := ordL_inj hm hj e
  omega
def outF (t : Int) (ws : List Int) (j i : Nat) : Int := qAt t ws i + if i ∈ pick t ws j then 1 else 0
def restF (t : Int) (ws : List Int) (j i : Nat) : Int := if i ∈ pick t ws j then -1 else rAt t ws i
theorem pick_mem_succ {t : Int} {ws : List Int} {j i : Nat} (hj : j < (ordL t ws).length) : i ∈ pick t ws (j + 1) ↔ i ∈ pick t ws j ∨ i = (ordL t ws)[j].1.val := by rw [pick_succ hj, List.mem_append, List.mem_singleton]
theorem outF_succ {t : Int} {ws : List Int} {j : Nat} (hj : j < (ordL t ws).length) (i : Nat) : outF t ws (j + 1) i = if i = (ordL t ws)[j].1.val then outF t ws j (ordL t ws)[j].1.val + 1 else outF t ws j i := by
  unfold outF
  by_cases h : i = (ordL t ws)[j].1.val
  · subst h
    rw [if_pos rfl, if_pos ((pick_mem_succ hj).2 (.inr rfl)), if_neg (pick_new hj)]
    omega
  · rw [if_neg h]
    by_cases h2 : i ∈ pick t ws j
    · rw [if_pos h2, if_pos ((pick_mem_succ hj).2 (.inl h2))]
    · rw [if_neg h2, if_neg (fun h3 => ((pick_mem_succ hj).1 h3).elim h2 h)]
theorem restF_succ {t : Int} {ws : List Int} {j : Nat} (hj : j < (ordL t ws).length) (i : Nat) : restF t ws (j + 1) i = if i = (ordL t ws)[j].1.val then -1 else restF t ws j i := by
  unfold restF
  by_cases h : i = (ordL t ws)[j].1.val
  · rw [if_pos h, if_pos ((pick_mem_succ hj).2 (.inr h))]
  · rw [if_neg h]
    by_cases h2 : i ∈ pick t ws j
    · rw [if_pos h2, if_pos ((pick_mem_succ hj).2 (.inl h2))]
    · rw [if_neg h2, if_neg (fun h3 => ((pick_mem_succ hj).1 h3).elim h2 h)]
/-- The first of the greatest. -/
def FstMax (f : Nat → Int) (n b : Nat) : Prop := ∀ i, i < n → f i < f b ∨ (f i ≤ f b ∧ b ≤ i)
theorem fstMax_one {f : Nat → Int} {n a b : Nat} (ha : a < n) (hb : b < n) (h1 : FstMax f n a) (h2 : FstMax f n b) : a = b := by
  have := h1 b hb
  have := h2 a ha
  omega
theorem rAt_nonneg {t : Int} {ws : List Int} (hS : 0 < ws.sum) (i : Nat) : 0 ≤ rAt t ws i := Int.emod_nonneg _ (by omega)
theorem next_max {t : Int} {ws : List Int} (hS : 0 < ws.sum) {j : Nat} (hj : j < (ordL t ws).length) : FstMax (restF t ws j) ws.length (ordL t ws)[j].1.val := fun i hi => by
  have hr : restF t ws j (ordL t ws)[j].1.val = rAt t ws (ordL t ws)[j].1.val := if_neg (pick_new hj)
  have h0 := rAt_nonneg (t := t) hS (ordL t ws)[j].1.val
  rw [hr]
  by_cases h2 : i ∈ pick t ws j
  · left
    unfold restF
    rw [if_pos h2]; omega
  · obtain ⟨m, hm, e⟩ := ordL_all (t := t) hi
    have hmj : ¬ m < j := fun h => h2 (mem_pick.2 ⟨m, hm, h, e⟩)
    unfold restF
    rw [if_neg h2]
    by_cases hje : m = j
    · subst hje
      right
      rw [e]
      exact ⟨Int.le_refl _, Nat.le_refl _⟩
    · have h3 := ordL_sorted (t := t) (ws := ws) (m := j) (k := m) (by omega) hm
      rw [e] at h3
      omega


end Go.Proofs.Ytpihcfpdaoflbaa
