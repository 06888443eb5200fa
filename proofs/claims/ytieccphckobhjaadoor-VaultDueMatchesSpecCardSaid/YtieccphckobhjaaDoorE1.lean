/- Walks over abstract values. Printed by tools/gen.py. No statement of the seat. -/
import Derived.Test.YtieccphckobhjaaDoorT11
import Derived.Test.YtieccphckobhjaaDoorA20
namespace Go.Proofs.YtieccphckobhjaaDoor
open Go.RowKit
set_option linter.unusedVariables false

/-! Types. -/
namespace TyE1

end TyE1
open TyE1


structure CpyOk (v : Vlt) (c : Cpy) : Prop where
  item : 0 ≤ itemIdx v c.item
  carr : 0 ≤ carrIdx v c.carrier
  frm : c.frm = ⟨#[]⟩ ∨ 0 ≤ carrIdx v c.frm
  ne : c.frm ≠ c.carrier
  day : 0 ≤ c.day ∧ c.day ≤ 200000
  last : c.day ≤ c.last ∧ c.last ≤ 200000
  gen : 1 ≤ c.gen ∧ c.gen ≤ 100
  form : decide (c.gen = 1) = decide (c.frm = ⟨#[]⟩)
  bad : ffst (badFault (itemBlocks v c.item) c.bad) c.bad.length = 0
theorem cpyOk_of {v : Vlt} {c : Cpy} {b : Option Cpy} (h : cpyFault v c b = 0) : CpyOk v c ∧ ∀ d, b = some d → cpyCmp d c < 0 := by
  unfold cpyFault at h
  by_cases h1 : itemIdx v c.item < 0 ∨ carrIdx v c.carrier < 0
  · rw [if_pos h1] at h; simp at h
  rw [if_neg h1] at h
  by_cases h2 : ∃ d, b = some d ∧ 0 ≤ cpyCmp d c
  · rw [if_pos h2] at h; simp at h
  rw [if_neg h2] at h
  by_cases h3 : c.frm ≠ ⟨#[]⟩ ∧ carrIdx v c.frm < 0
  · rw [if_pos h3] at h; simp at h
  rw [if_neg h3] at h
  by_cases h4 : c.frm = c.carrier
  · rw [if_pos h4] at h; simp at h
  rw [if_neg h4] at h
  by_cases h5 : ¬ (0 ≤ c.day ∧ c.day ≤ 200000) ∨ ¬ (c.day ≤ c.last ∧ c.last ≤ 200000) ∨ ¬ (1 ≤ c.gen ∧ c.gen ≤ 100)
  · rw [if_pos h5] at h; simp at h
  rw [if_neg h5] at h
  by_cases h6 : decide (c.gen = 1) ≠ decide (c.frm = ⟨#[]⟩)
  · rw [if_pos h6] at h; simp at h
  rw [if_neg h6] at h
  refine ⟨⟨by omega, by omega, ?_, h4, by omega, by omega, by omega, Decidable.not_not.1 h6, h⟩, fun d hd => by
    by_cases hh : cpyCmp d c < 0
    · exact hh
    · exact absurd ⟨d, hd, by omega⟩ h2⟩
  by_cases h7 : c.frm = ⟨#[]⟩
  · exact .inl h7
  · right
    by_cases h8 : carrIdx v c.frm < 0
    · exact absurd ⟨h7, h8⟩ h3
    · omega
structure VOk (v : Vlt) : Prop where
  ni : v.items.length ≤ 30
  nc : v.carrs.length ≤ 16
  np : v.copies.length ≤ 200
  items : ffst (itemFault v.items) v.items.length = 0
  carrs : ffst (carrFault v.carrs) v.carrs.length = 0
  cps : ffst (cpyFaultAt v) v.copies.length = 0
  cpy : ∀ c ∈ v.copies, CpyOk v c
  order : ∀ k (h : k + 1 < v.copies.length), cpyCmp v.copies[k] v.copies[k + 1] < 0
  room : ∀ x ∈ v.carrs, usedOn v x.name ≤ x.room
theorem vok_of {v : Vlt} (h : checkV v = 0) : VOk v := by
  unfold checkV at h
  by_cases h1 : largeV v
  · rw [if_pos h1] at h; simp at h
  rw [if_neg h1] at h
  by_cases h2 : ffst (itemFault v.items) v.items.length ≠ 0
  · rw [if_pos h2] at h; exact absurd h h2
  rw [if_neg h2] at h
  by_cases h3 : ffst (carrFault v.carrs) v.carrs.length ≠ 0
  · rw [if_pos h3] at h; exact absurd h h3
  rw [if_neg h3] at h
  by_cases h4 : ffst (cpyFaultAt v) v.copies.length ≠ 0
  · rw [if_pos h4] at h; exact absurd h h4
  rw [if_neg h4] at h
  by_cases h5 : overFull v = true
  · rw [if_pos h5] at h; simp at h
  have h4' := Decidable.not_not.1 h4
  unfold largeV at h1
  refine ⟨by omega, by omega, by omega, Decidable.not_not.1 h2, Decidable.not_not.1 h3, h4', fun c hc => ?_, fun k hk => ?_, fun x hx => ?_⟩
  · obtain ⟨k, hk, rfl⟩ := List.mem_iff_getElem.1 hc
    have h6 := ffst_all _ h4' k hk
    by_cases h0 : 0 < k
    · rw [cpyFaultAt_some hk h0] at h6; exact (cpyOk_of h6).1
    · rw [cpyFaultAt_none hk h0] at h6; exact (cpyOk_of h6).1
  · have h6 := ffst_all _ h4' (k + 1) hk
    rw [cpyFaultAt_some hk (Nat.succ_pos k)] at h6
    exact (cpyOk_of h6).2 _ rfl
  · refine Int.not_lt.1 fun hh => h5 ?_
    unfold overFull
    exact List.any_eq_true.2 ⟨x, hx, decide_eq_true hh⟩
structure POk (p : Pol) : Prop where
  copies : 1 ≤ p.copies ∧ p.copies ≤ 16
  places : 1 ≤ p.places ∧ p.places ≤ p.copies
  kinds : 1 ≤ p.kinds ∧ p.kinds ≤ p.copies
  every : 1 ≤ p.every ∧ p.every ≤ 200000
  old : 1 ≤ p.old ∧ p.old ≤ 200000
  gens : 1 ≤ p.gens ∧ p.gens ≤ 100
theorem pok_of {p : Pol} (h : polFault p = 0) : POk p := by
  unfold polFault at h
  split at h
  · simp at h
  · exact ⟨by omega, by omega, by omega, by omega, by omega, by omega⟩
/-- The error of a vault and a policy. -/
def bothFault (v : Vlt) (p : Pol) : Int := if checkV v ≠ 0 then checkV v else polFault p
theorem both_v {v : Vlt} {p : Pol} (h : checkV v ≠ 0) : bothFault v p = checkV v := if_pos h
theorem both_p {v : Vlt} {p : Pol} (h : checkV v = 0) : bothFault v p = polFault p := if_neg (fun hh => hh h)
theorem both_ok {v : Vlt} {p : Pol} (h : bothFault v p = 0) : VOk v ∧ POk p := by
  unfold bothFault at h
  by_cases h1 : checkV v ≠ 0
  · rw [if_pos h1] at h; exact absurd h h1
  · rw [if_neg h1] at h; exact ⟨vok_of (Decidable.not_not.1 h1), pok_of h⟩
def dayFault (v : Vlt) (p : Pol) (day : Int) : Int := if bothFault v p ≠ 0 then bothFault v p else if 0 ≤ day ∧ day ≤ 200000 then 0 else 1
deriving instance DecidableEq for Tsk



/-! What is due. -/
section
variable (frm every to : Int)
def fstD (c : Cpy) : Int := max frm (c.last + every)
def cntD (c : Cpy) : Nat := if fstD frm every c < to then ((to - 1 - fstD frm every c) / every + 1).toNat else 0
def dayD (c : Cpy) (k : Nat) : Int := fstD frm every c + k * every
def elD (c : Cpy) (i k : Nat) : Tsk × Nat := (⟨dayD frm every c k, c.item, c.carrier⟩, i * 1000000 + (dayD frm every c k).toNat)
def tagC (c : Cpy) (i : Nat) : List (Tsk × Nat) := (List.range (cntD frm every to c)).map (elD frm every c i)
def tagTo (l : List Cpy) (n : Nat) : List (Tsk × Nat) := (List.range n).flatMap fun i => match l[i]? with | none => [] | some c => tagC frm every to c i
def manyTo (l : List Cpy) (n : Nat) : Nat := ((l.take n).map (cntD frm every to)).sum
end
def cmpT (a b : Tsk) : Int := if a.day < b.day then -1 else if b.day < a.day then 1 else 0
theorem pre_cmpT : Pre cmpT := by
  constructor
  · intro x y h
    unfold cmpT at *
    split at h
    · rw [if_neg (by omega), if_pos (by assumption)]; decide
    · split at h <;> simp at h
  · intro x y z h1 h2
    unfold cmpT at *
    by_cases h3 : y.day < x.day
    · rw [if_pos h3] at h1; simp at h1
    · by_cases h4 : z.day < y.day
      · rw [if_pos h4] at h2; simp at h2
      · rw [if_neg (by omega)]; split <;> decide
def dueAll (v : Vlt) (p : Pol) (frm to : Int) : List (Tsk × Nat) := tagTo frm p.every to v.copies v.copies.length
def dueL (v : Vlt) (p : Pol) (frm to : Int) : List (Tsk × Nat) := sortSeg cmpT (dueAll v p frm to) 0 (dueAll v p frm to).length
def spanFault (frm to : Int) : Int := if ¬ (0 ≤ frm ∧ frm ≤ 200000) ∨ ¬ (frm ≤ to ∧ to ≤ 200001) then 1 else 0
def dueFault (v : Vlt) (p : Pol) (frm to : Int) : Int :=
  if bothFault v p ≠ 0 then bothFault v p else if spanFault frm to ≠ 0 then 1 else if 20000 < (manyTo frm p.every to v.copies v.copies.length : Int) then 2 else 0
def dueR (v : Vlt) (p : Pol) (frm to : Int) : List Tsk := if dueFault v p frm to = 0 then (dueL v p frm to).map Prod.fst else []
theorem dueR_tds (v : Vlt) (p : Pol) (frm to : Int) (h : dueFault v p frm to = 0) : (dueR v p frm to).map Tsk.ds = (dueL v p frm to).map tds := by
  unfold dueR; rw [if_pos h, List.map_map]; rfl
section
variable {frm every to : Int}
theorem cnt_iff (he : 1 ≤ every) (c : Cpy) (j : Nat) : dayD frm every c j < to ↔ j < cntD frm every to c := by
  unfold cntD dayD
  generalize fstD frm every c = f
  have hj : 0 ≤ (j : Int) * every := Int.mul_nonneg (by omega) (by omega)
  by_cases h : f < to
  · rw [if_pos h]
    have h1 : (j : Int) ≤ (to - 1 - f) / every ↔ (j : Int) * every ≤ to - 1 - f := Int.le_ediv_iff_mul_le (by omega)
    have h2 : 0 ≤ (to - 1 - f) / every := Int.ediv_nonneg (by omega) (by omega)
    omega
  · rw [if_neg h]; omega
theorem cnt_alt (he : 1 ≤ every) (c : Cpy) (h : fstD frm every c < to) : (to - fstD frm every c + every - 1) / every = (cntD frm every to c : Int) ∧ (to - 1 - fstD frm every c) / every + 1 = (cntD frm every to c : Int) := by
  unfold cntD
  rw [if_pos h]
  generalize fstD frm every c = f at *
  have h2 : 0 ≤ (to - 1 - f) / every := Int.ediv_nonneg (by omega) (by omega)
  have h3 : to - f + every - 1 = (to - 1 - f) + 1 * every := by omega
  rw [h3, Int.add_mul_ediv_right _ _ (by omega)]
  omega
theorem cnt_none (c : Cpy) (h : ¬ fstD frm every c < to) : cntD frm every to c = 0 := by unfold cntD; rw [if_neg h]
theorem manyTo_succ {l : List Cpy} {k : Nat} (hk : k < l.length) : manyTo frm every to l (k + 1) = manyTo frm every to l k + cntD frm every to l[k] := by
  unfold manyTo
  rw [List.take_add_one, List.getElem?_eq_getElem hk, Option.toList_some, List.map_append, List.sum_append]
  simp
theorem manyTo_le {l : List Cpy} : ∀ {k n : Nat}, k ≤ n → n ≤ l.length → manyTo frm every to l k ≤ manyTo frm every to l n
  | k, 0, h, _ => by rw [show k = 0 by omega]; exact Nat.le_refl _
  | k, n + 1, h, hn => by
    by_cases e : k = n + 1
    · rw [e]; exact Nat.le_refl _
    · rw [manyTo_succ (show n < l.length by omega)]
      have := manyTo_le (l := l) (k := k) (n := n) (by omega) (by omega)
      omega
theorem tagTo_succ {l : List Cpy} {k : Nat} (hk : k < l.length) : tagTo frm every to l (k + 1) = tagTo frm every to l k ++ tagC frm every to l[k] k := by
  unfold tagTo
  rw [List.range_succ, List.flatMap_append, List.flatMap_cons, List.flatMap_nil, List.append_nil, List.getElem?_eq_getElem hk]
theorem tagC_len (c : Cpy) (i : Nat) : (tagC frm every to c i).length = cntD frm every to c := by unfold tagC; simp
theorem tagTo_len {l : List Cpy} : ∀ {k : Nat}, k ≤ l.length → (tagTo frm every to l k).length = manyTo frm every to l k
  | 0, _ => by simp [tagTo, manyTo]
  | k + 1, h => by rw [tagTo_succ (by omega), List.length_append, tagTo_len (by omega), tagC_len, manyTo_succ (by omega)]
theorem tagC_next (c : Cpy) (i : Nat) {j : Nat} (hj : j < cntD frm every to c) : (tagC frm every to c i).take (j + 1) = (tagC frm every to c i).take j ++ [elD frm every c i j] := by
  rw [List.take_add_one, List.getElem?_eq_getElem (by rw [tagC_len]; exact hj), Option.toList_some]
  unfold tagC
  rw [List.getElem_map, List.getElem_range]
theorem mem_tagTo {l : List Cpy} {n : Nat} {x : Tsk × Nat} : x ∈ tagTo frm every to l n ↔ ∃ i c k, i < n ∧ l[i]? = some c ∧ k < cntD frm every to c ∧ x = elD frm every c i k := by
  unfold tagTo
  rw [List.mem_flatMap]
  constructor
  · rintro ⟨i, hi, hx⟩
    cases hc : l[i]? with
    | none => rw [hc] at hx; simp at hx
    | some c =>
      rw [hc] at hx
      unfold tagC at hx
      obtain ⟨k, hk, rfl⟩ := List.mem_map.1 hx
      exact ⟨i, c, k, List.mem_range.1 hi, hc, List.mem_range.1 hk, rfl⟩
  · rintro ⟨i, c, k, hi, hc, hk, rfl⟩
    refine ⟨i, List.mem_range.2 hi, ?_⟩
    rw [hc]
    exact List.mem_map.2 ⟨k, List.mem_range.2 hk, rfl⟩
theorem day_bound (he : 1 ≤ every) (hf : 0 ≤ frm) (ht : to ≤ 200001) {c : Cpy} {k : Nat} (hk : k < cntD frm every to c) : 0 ≤ dayD frm every c k ∧ dayD frm every c k ≤ 200000 := by
  have h1 := (cnt_iff he c k).2 hk
  have h2 : 0 ≤ (k : Int) * every := Int.mul_nonneg (by omega) (by omega)
  unfold dayD fstD at *
  omega
theorem day_lt (he : 1 ≤ every) {c : Cpy} {k j : Nat} (h : k < j) : dayD frm every c k < dayD frm every c j := by
  unfold dayD
  have : ((k : Int) + 1) * every ≤ (j : Int) * every := Int.mul_le_mul_of_nonneg_right (by omega) (by omega)
  rw [Int.add_mul, Int.one_mul] at this
  omega
theorem tag_incr (he : 1 ≤ every) (hf : 0 ≤ frm) (ht : to ≤ 200001) {l : List Cpy} : ∀ n, (tagTo frm every to l n).Pairwise (fun x y => x.2 < y.2)
  | 0 => by simp [tagTo]
  | n + 1 => by
    have ih := tag_incr he hf ht (l := l) n
    have hs : tagTo frm every to l (n + 1) = tagTo frm every to l n ++ (match l[n]? with | none => [] | some c => tagC frm every to c n) := by
      unfold tagTo
      rw [List.range_succ, List.flatMap_append, List.flatMap_cons, List.flatMap_nil, List.append_nil]
    rw [hs, List.pairwise_append]
    refine ⟨ih, ?_, fun x hx y hy => ?_⟩
    · cases l[n]? with
      | none => exact .nil
      | some c =>
        unfold tagC
        rw [List.pairwise_map]
        refine List.Pairwise.imp_of_mem (fun {a b} ha hb hab => ?_) List.pairwise_lt_range
        have h1 := day_bound he hf ht (List.mem_range.1 ha)
        have h2 := day_lt (frm := frm) (c := c) he hab
        unfold elD
        omega
    · obtain ⟨i, c, k, hi, hc, hk, rfl⟩ := mem_tagTo.1 hx
      cases hn : l[n]? with
      | none => rw [hn] at hy; simp at hy
      | some c2 =>
        rw [hn] at hy
        unfold tagC at hy
        obtain ⟨j, hj, rfl⟩ := List.mem_map.1 hy
        have h1 := day_bound he hf ht hk
        have h2 := day_bound he hf ht (List.mem_range.1 hj)
        unfold elD
        dsimp only
        omega
theorem incr_of {α : Type} {l : List (α × Nat)} (h : l.Pairwise (fun x y => x.2 < y.2)) (b : Nat) : Incr l 0 b := fun i j x y _ hij _ hx hy => by
  obtain ⟨h1, e1⟩ := List.getElem?_eq_some_iff.1 hx
  obtain ⟨h2, e2⟩ := List.getElem?_eq_some_iff.1 hy
  rw [← e1, ← e2]
  exact List.pairwise_iff_getElem.1 h i j h1 h2 hij
theorem tags_of {α : Type} {l : List (α × Nat)} (h : l.Pairwise (fun x y => x.2 < y.2)) : TagsOk l := by
  unfold TagsOk
  rw [List.Nodup, List.pairwise_map]
  exact h.imp fun h => by omega
end


end Go.Proofs.YtieccphckobhjaaDoor
