/- Walks over abstract values. Printed by tools/gen.py. No statement of the seat. -/
import Derived.Test.YtieccphckobhjaaDoorB2
import Derived.Test.YtieccphckobhjaaDoorBN
namespace Go.Proofs.YtieccphckobhjaaDoor
open Go.RowKit
set_option linter.unusedVariables false

/-! Types. -/
namespace TyC1

end TyC1
open TyC1


structure Item where
  name : ByteArray
  blocks : Int
structure Carr where
  name : ByteArray
  place : ByteArray
  kind : ByteArray
  made : Int
  room : Int
structure Cpy where
  item : ByteArray
  carrier : ByteArray
  frm : ByteArray
  day : Int
  last : Int
  gen : Int
  bad : List Int
structure Vlt where
  items : List Item
  carrs : List Carr
  copies : List Cpy
structure Pol where
  copies : Int
  places : Int
  kinds : Int
  every : Int
  old : Int
  gens : Int
def Item.ds (x : Item) : List D := [.v (.string x.name), .v (.int .i64 x.blocks)]
def Carr.ds (x : Carr) : List D := [.v (.string x.name), .v (.string x.place), .v (.string x.kind), .v (.int .i64 x.made), .v (.int .i64 x.room)]
def Cpy.ds (x : Cpy) : List D := [.v (.string x.item), .v (.string x.carrier), .v (.string x.frm), .v (.int .i64 x.day), .v (.int .i64 x.last), .v (.int .i64 x.gen), .sl (x.bad.map intD)]
def Vlt.ds (v : Vlt) : List D := [.sl (v.items.map Item.ds), .sl (v.carrs.map Carr.ds), .sl (v.copies.map Cpy.ds)]
def Pol.ds (p : Pol) : List D := [.v (.int .i64 p.copies), .v (.int .i64 p.places), .v (.int .i64 p.kinds), .v (.int .i64 p.every), .v (.int .i64 p.old), .v (.int .i64 p.gens)]
theorem at_list {α : Type} {l : List α} {f : α → List D} {k : Nat} (h : k < l.length) : (l.map f)[k]? = some (f l[k]) := by simp [h]
/-- The first fault of n. -/
def ffst (f : Nat → Int) : Nat → Int
  | 0 => 0
  | n + 1 => if ffst f n = 0 then f n else ffst f n
theorem ffst_next {f : Nat → Int} {k : Nat} (h : ffst f k = 0) (h2 : f k = 0) : ffst f (k + 1) = 0 := by simp [ffst, h, h2]
theorem ffst_hit {f : Nat → Int} {k : Nat} (h : ffst f k = 0) (h2 : f k ≠ 0) : ∀ n, k < n → ffst f n = f k
  | 0, hn => by omega
  | n + 1, hn => by
    unfold ffst
    by_cases hk : k = n
    · subst hk; rw [if_pos h]
    · rw [ffst_hit h h2 n (by omega), if_neg h2]
theorem ffst_all {f : Nat → Int} : ∀ n, ffst f n = 0 → ∀ k, k < n → f k = 0
  | 0, _, k, hk => by omega
  | n + 1, h, k, hk => by
    unfold ffst at h
    by_cases hn : ffst f n = 0
    · rw [if_pos hn] at h
      by_cases hk2 : k = n
      · rw [hk2]; exact h
      · exact ffst_all n hn k (by omega)
    · rw [if_neg hn] at h; exact absurd h hn
/-- The number of the first one; -1: there is none. -/
def idxBy {α : Type} (p : α → Bool) (l : List α) : Int := if l.any p then (l.findIdx p : Int) else -1
theorem idxBy_yes {α : Type} {p : α → Bool} {l : List α} {k : Nat} (hk : k < l.length) (h : ∀ c ∈ l.take k, p c = false) (h2 : p l[k] = true) : idxBy p l = k := by
  have hm : l.any p = true := List.any_eq_true.2 ⟨_, List.getElem_mem hk, h2⟩
  unfold idxBy
  rw [if_pos hm]
  congr 1
  rw [List.findIdx_eq hk]
  refine ⟨h2, fun j hj => ?_⟩
  have := h l[j] (List.mem_take_iff_getElem.2 ⟨j, by omega, rfl⟩)
  simpa using this
theorem idxBy_no {α : Type} {p : α → Bool} {l : List α} (h : ∀ c ∈ l.take l.length, p c = false) : idxBy p l = -1 := by
  unfold idxBy
  rw [if_neg]
  intro hx
  obtain ⟨c, hc, hp⟩ := List.any_eq_true.1 hx
  have := h c (by rw [List.take_length]; exact hc)
  rw [hp] at this; simp at this
theorem idxBy_some {α : Type} {p : α → Bool} {l : List α} (h : 0 ≤ idxBy p l) : ∃ k, ∃ hk : k < l.length, idxBy p l = (k : Int) ∧ p l[k] = true := by
  unfold idxBy at h ⊢
  by_cases hm : l.any p = true
  · rw [if_pos hm]
    have hlt : l.findIdx p < l.length := by
      rw [List.findIdx_lt_length]
      obtain ⟨c, hc, hp⟩ := List.any_eq_true.1 hm
      exact ⟨c, hc, hp⟩
    exact ⟨_, hlt, rfl, List.findIdx_getElem⟩
  · rw [if_neg hm] at h; omega
theorem idxBy_lt {α : Type} (p : α → Bool) (l : List α) : -1 ≤ idxBy p l ∧ idxBy p l < l.length ∨ l = [] ∧ idxBy p l = -1 := by
  by_cases h : 0 ≤ idxBy p l
  · obtain ⟨k, hk, e, _⟩ := idxBy_some h
    left; omega
  · have h1 : -1 ≤ idxBy p l := by unfold idxBy; split <;> omega
    by_cases hl : l = []
    · right; exact ⟨hl, by omega⟩
    · left
      have : 0 < l.length := List.length_pos_iff.2 hl
      omega
theorem take_false' {α : Type} {p : α → Bool} {l : List α} {k : Nat} (hk : k < l.length) (h : ∀ c ∈ l.take k, p c = false) (h2 : p l[k] = false) : ∀ c ∈ l.take (k + 1), p c = false := by
  intro c hc
  rw [List.take_add_one, List.getElem?_eq_getElem hk] at hc
  simp only [Option.toList_some, List.mem_append, List.mem_singleton] at hc
  rcases hc with h1 | h1
  · exact h c h1
  · rw [h1]; exact h2
theorem sum_take {α : Type} (f : α → Int) {l : List α} {k : Nat} (hk : k < l.length) : ((l.take (k + 1)).map f).sum = ((l.take k).map f).sum + f l[k] := by
  rw [List.take_add_one, List.getElem?_eq_getElem hk, Option.toList_some, List.map_append, List.sum_append, List.map_cons, List.map_nil, List.sum_cons, List.sum_nil, Int.add_zero]
theorem sum_bound {α : Type} (f : α → Int) (lo hi : Int) (h0 : lo ≤ 0) (h1 : 0 ≤ hi) : ∀ l : List α, (∀ x ∈ l, lo ≤ f x ∧ f x ≤ hi) → lo * l.length ≤ (l.map f).sum ∧ (l.map f).sum ≤ hi * l.length
  | [], _ => by simp
  | a :: l, h => by
    have h2 := sum_bound f lo hi h0 h1 l (fun x hx => h x (List.mem_cons_of_mem _ hx))
    have h3 := h a List.mem_cons_self
    simp only [List.map_cons, List.sum_cons, List.length_cons, Int.natCast_add, Int.natCast_one, Int.mul_add, Int.mul_one]
    omega
def itemIdx (v : Vlt) (nm : ByteArray) : Int := idxBy (fun x => decide (x.name = nm)) v.items
def carrIdx (v : Vlt) (nm : ByteArray) : Int := idxBy (fun x => decide (x.name = nm)) v.carrs
def sle (a b : ByteArray) : Bool := Op.bytesLess a.toList b.toList || decide (a = b)
def nameOk (s : ByteArray) : Bool := isName s.data.toList
def itemFault (l : List Item) (k : Nat) : Int :=
  if h : k < l.length then
    if nameOk l[k].name = false then 5 else if 0 < k ∧ sle l[k].name (l[k-1]'(by omega)).name = true then 8 else if 1 ≤ l[k].blocks ∧ l[k].blocks ≤ 1000 then 0 else 1
  else 0
theorem itemFault_5 {l : List Item} {k : Nat} (hk : k < l.length) (h : nameOk l[k].name = false) : itemFault l k = 5 := by unfold itemFault; rw [dif_pos hk, if_pos h]
theorem itemFault_8 {l : List Item} {k : Nat} (hk : k < l.length) (h : nameOk l[k].name = true) (h2 : 0 < k) (h3 : sle l[k].name (l[k-1]'(by omega)).name = true) : itemFault l k = 8 := by
  unfold itemFault; rw [dif_pos hk, if_neg (by rw [h]; simp), if_pos ⟨h2, h3⟩]
theorem itemFault_1 {l : List Item} {k : Nat} (hk : k < l.length) (h : nameOk l[k].name = true) (h2 : 0 < k → sle l[k].name (l[k-1]'(by omega)).name = false) (h3 : ¬ (1 ≤ l[k].blocks ∧ l[k].blocks ≤ 1000)) : itemFault l k = 1 := by
  unfold itemFault; rw [dif_pos hk, if_neg (by rw [h]; simp), if_neg (fun hh => by have := h2 hh.1; rw [hh.2] at this; simp at this), if_neg h3]
theorem itemFault_0 {l : List Item} {k : Nat} (hk : k < l.length) (h : nameOk l[k].name = true) (h2 : 0 < k → sle l[k].name (l[k-1]'(by omega)).name = false) (h3 : 1 ≤ l[k].blocks ∧ l[k].blocks ≤ 1000) : itemFault l k = 0 := by
  unfold itemFault; rw [dif_pos hk, if_neg (by rw [h]; simp), if_neg (fun hh => by have := h2 hh.1; rw [hh.2] at this; simp at this), if_pos h3]
theorem itemFault_ok {l : List Item} {k : Nat} (hk : k < l.length) (h : itemFault l k = 0) : nameOk l[k].name = true ∧ 1 ≤ l[k].blocks ∧ l[k].blocks ≤ 1000 := by
  unfold itemFault at h
  rw [dif_pos hk] at h
  by_cases h1 : nameOk l[k].name = false
  · rw [if_pos h1] at h; simp at h
  · rw [if_neg h1] at h
    refine ⟨by simpa using h1, ?_⟩
    by_cases h2 : 0 < k ∧ sle l[k].name (l[k-1]'(by omega)).name = true
    · rw [if_pos h2] at h; simp at h
    · rw [if_neg h2] at h
      by_cases h3 : 1 ≤ l[k].blocks ∧ l[k].blocks ≤ 1000
      · exact h3
      · rw [if_neg h3] at h; simp at h
def carrFault (l : List Carr) (k : Nat) : Int :=
  if h : k < l.length then
    if nameOk l[k].name = false ∨ nameOk l[k].place = false ∨ nameOk l[k].kind = false then 5 else if 0 < k ∧ sle l[k].name (l[k-1]'(by omega)).name = true then 8
    else if ¬ (0 ≤ l[k].made ∧ l[k].made ≤ 200000) ∨ ¬ (0 ≤ l[k].room ∧ l[k].room ≤ 1000000) then 1 else 0
  else 0
theorem carrFault_5 {l : List Carr} {k : Nat} (hk : k < l.length) (h : nameOk l[k].name = false ∨ nameOk l[k].place = false ∨ nameOk l[k].kind = false) : carrFault l k = 5 := by unfold carrFault; rw [dif_pos hk, if_pos h]
theorem carrFault_8 {l : List Carr} {k : Nat} (hk : k < l.length) (h : nameOk l[k].name = true ∧ nameOk l[k].place = true ∧ nameOk l[k].kind = true) (h2 : 0 < k) (h3 : sle l[k].name (l[k-1]'(by omega)).name = true) : carrFault l k = 8 := by
  unfold carrFault; rw [dif_pos hk, if_neg (by rw [h.1, h.2.1, h.2.2]; simp), if_pos ⟨h2, h3⟩]
theorem carrFault_1 {l : List Carr} {k : Nat} (hk : k < l.length) (h : nameOk l[k].name = true ∧ nameOk l[k].place = true ∧ nameOk l[k].kind = true) (h2 : 0 < k → sle l[k].name (l[k-1]'(by omega)).name = false) (h3 : ¬ (0 ≤ l[k].made ∧ l[k].made ≤ 200000) ∨ ¬ (0 ≤ l[k].room ∧ l[k].room ≤ 1000000)) : carrFault l k = 1 := by
  unfold carrFault; rw [dif_pos hk, if_neg (by rw [h.1, h.2.1, h.2.2]; simp), if_neg (fun hh => by have := h2 hh.1; rw [hh.2] at this; simp at this), if_pos h3]
theorem carrFault_0 {l : List Carr} {k : Nat} (hk : k < l.length) (h : nameOk l[k].name = true ∧ nameOk l[k].place = true ∧ nameOk l[k].kind = true) (h2 : 0 < k → sle l[k].name (l[k-1]'(by omega)).name = false) (h3 : 0 ≤ l[k].made ∧ l[k].made ≤ 200000) (h4 : 0 ≤ l[k].room ∧ l[k].room ≤ 1000000) : carrFault l k = 0 := by
  unfold carrFault; rw [dif_pos hk, if_neg (by rw [h.1, h.2.1, h.2.2]; simp), if_neg (fun hh => by have := h2 hh.1; rw [hh.2] at this; simp at this), if_neg (fun hh => hh.elim (fun h5 => h5 h3) (fun h5 => h5 h4))]
theorem carrFault_ok {l : List Carr} {k : Nat} (hk : k < l.length) (h : carrFault l k = 0) : nameOk l[k].name = true ∧ (0 ≤ l[k].made ∧ l[k].made ≤ 200000) ∧ 0 ≤ l[k].room ∧ l[k].room ≤ 1000000 := by
  unfold carrFault at h
  rw [dif_pos hk] at h
  by_cases h1 : nameOk l[k].name = false ∨ nameOk l[k].place = false ∨ nameOk l[k].kind = false
  · rw [if_pos h1] at h; simp at h
  · rw [if_neg h1] at h
    refine ⟨?_, ?_⟩
    · cases hn : nameOk l[k].name with
      | true => rfl
      | false => exact absurd (.inl hn) h1
    · by_cases h2 : 0 < k ∧ sle l[k].name (l[k-1]'(by omega)).name = true
      · rw [if_pos h2] at h; simp at h
      · rw [if_neg h2] at h
        by_cases h3 : ¬ (0 ≤ l[k].made ∧ l[k].made ≤ 200000) ∨ ¬ (0 ≤ l[k].room ∧ l[k].room ≤ 1000000)
        · rw [if_pos h3] at h; simp at h
        · omega
def strCmp (a b : ByteArray) : Int := Lib.compareBytes a.data.toList b.data.toList
def cpyCmp (a b : Cpy) : Int := if a.item = b.item then strCmp a.carrier b.carrier else strCmp a.item b.item
theorem compareBytes_self : ∀ l : List UInt8, Lib.compareBytes l l = 0
  | [] => rfl
  | a :: l => by unfold Lib.compareBytes; simp [compareBytes_self l]
theorem compareBytes_zero : ∀ l r : List UInt8, Lib.compareBytes l r = 0 → l = r
  | [], [], _ => rfl
  | [], _ :: _, h => by simp [Lib.compareBytes] at h
  | _ :: _, [], h => by simp [Lib.compareBytes] at h
  | a :: l, b :: r, h => by
    unfold Lib.compareBytes at h
    by_cases h1 : a < b
    · rw [if_pos h1] at h; simp at h
    · rw [if_neg h1] at h
      by_cases h2 : b < a
      · rw [if_pos h2] at h; simp at h
      · rw [if_neg h2] at h
        have : a = b := UInt8.le_antisymm (UInt8.not_lt.1 h2) (UInt8.not_lt.1 h1)
        rw [this, compareBytes_zero l r h]
theorem strCmp_zero {a b : ByteArray} : strCmp a b = 0 ↔ a = b := by
  constructor
  · intro h
    have := compareBytes_zero _ _ h
    obtain ⟨⟨x⟩⟩ := a
    obtain ⟨⟨y⟩⟩ := b
    simpa using this
  · rintro rfl; exact compareBytes_self _
def badFault (blocks : Int) (l : List Int) (k : Nat) : Int :=
  if h : k < l.length then if ¬ (0 ≤ l[k] ∧ l[k] ≤ blocks - 1) then 1 else if 0 < k ∧ l[k] ≤ l[k-1]'(by omega) then 8 else 0 else 0
theorem badFault_1 {n : Int} {l : List Int} {k : Nat} (hk : k < l.length) (h : ¬ (0 ≤ l[k] ∧ l[k] ≤ n - 1)) : badFault n l k = 1 := by unfold badFault; rw [dif_pos hk, if_pos h]
theorem badFault_8 {n : Int} {l : List Int} {k : Nat} (hk : k < l.length) (h : 0 ≤ l[k] ∧ l[k] ≤ n - 1) (h2 : 0 < k) (h3 : l[k] ≤ l[k-1]'(by omega)) : badFault n l k = 8 := by
  unfold badFault; rw [dif_pos hk, if_neg (fun hh => hh h), if_pos ⟨h2, h3⟩]
theorem badFault_0 {n : Int} {l : List Int} {k : Nat} (hk : k < l.length) (h : 0 ≤ l[k] ∧ l[k] ≤ n - 1) (h2 : 0 < k → ¬ l[k] ≤ l[k-1]'(by omega)) : badFault n l k = 0 := by
  unfold badFault; rw [dif_pos hk, if_neg (fun hh => hh h), if_neg (fun hh => h2 hh.1 hh.2)]
def itemBlocks (v : Vlt) (nm : ByteArray) : Int := ((v.items[(itemIdx v nm).toNat]?).map Item.blocks).getD 0
theorem itemBlocks_at {v : Vlt} {nm : ByteArray} {k : Nat} (hk : k < v.items.length) (e : itemIdx v nm = k) : itemBlocks v nm = v.items[k].blocks := by
  unfold itemBlocks
  rw [e, Int.toNat_natCast, List.getElem?_eq_getElem hk]
  rfl
def cpyFault (v : Vlt) (c : Cpy) (before : Option Cpy) : Int :=
  if itemIdx v c.item < 0 ∨ carrIdx v c.carrier < 0 then 9
  else if (∃ b, before = some b ∧ 0 ≤ cpyCmp b c) then 8
  else if c.frm ≠ ⟨#[]⟩ ∧ carrIdx v c.frm < 0 then 9
  else if c.frm = c.carrier then 12
  else if ¬ (0 ≤ c.day ∧ c.day ≤ 200000) ∨ ¬ (c.day ≤ c.last ∧ c.last ≤ 200000) ∨ ¬ (1 ≤ c.gen ∧ c.gen ≤ 100) then 1
  else if decide (c.gen = 1) ≠ decide (c.frm = ⟨#[]⟩) then 3
  else ffst (badFault (itemBlocks v c.item) c.bad) c.bad.length
def cpyFaultAt (v : Vlt) (k : Nat) : Int := if h : k < v.copies.length then cpyFault v v.copies[k] (if 0 < k then some (v.copies[k-1]'(by omega)) else none) else 0
theorem cpyFaultAt_none {v : Vlt} {k : Nat} (h : k < v.copies.length) (h0 : ¬ 0 < k) : cpyFaultAt v k = cpyFault v v.copies[k] none := by unfold cpyFaultAt; rw [dif_pos h, if_neg h0]
theorem cpyFaultAt_some {v : Vlt} {k : Nat} (h : k < v.copies.length) (h0 : 0 < k) : cpyFaultAt v k = cpyFault v v.copies[k] (some (v.copies[k-1]'(by omega))) := by unfold cpyFaultAt; rw [dif_pos h, if_pos h0]
def okItems (v : Vlt) : Prop := ∀ x ∈ v.items, 1 ≤ x.blocks ∧ x.blocks ≤ 1000
def useOf (v : Vlt) (nm : ByteArray) (c : Cpy) : Int := if c.carrier = nm then itemBlocks v c.item else 0
def usedTo (v : Vlt) (nm : ByteArray) (k : Nat) : Int := ((v.copies.take k).map (useOf v nm)).sum
def usedOn (v : Vlt) (nm : ByteArray) : Int := usedTo v nm v.copies.length
theorem usedTo_yes {v : Vlt} {nm : ByteArray} {k : Nat} (hk : k < v.copies.length) (h : v.copies[k].carrier = nm) : usedTo v nm (k + 1) = usedTo v nm k + itemBlocks v v.copies[k].item := by
  unfold usedTo; rw [sum_take _ hk]; unfold useOf; rw [if_pos h]
theorem usedTo_no {v : Vlt} {nm : ByteArray} {k : Nat} (hk : k < v.copies.length) (h : ¬ v.copies[k].carrier = nm) : usedTo v nm (k + 1) = usedTo v nm k := by
  unfold usedTo; rw [sum_take _ hk]; unfold useOf; rw [if_neg h, Int.add_zero]
theorem itemBlocks_bound {v : Vlt} (hv : okItems v) (nm : ByteArray) : 0 ≤ itemBlocks v nm ∧ itemBlocks v nm ≤ 1000 := by
  unfold itemBlocks
  cases h : v.items[(itemIdx v nm).toNat]? with
  | none => simp
  | some x =>
    have := hv x (List.mem_of_getElem? h)
    simp
    omega
theorem usedTo_bound {v : Vlt} (hv : okItems v) (nm : ByteArray) (k : Nat) : 0 ≤ usedTo v nm k ∧ usedTo v nm k ≤ 1000 * (k : Int) := by
  have h := sum_bound (useOf v nm) 0 1000 (by omega) (by omega) (v.copies.take k) (fun x _ => by
    unfold useOf
    split
    · exact itemBlocks_bound hv _
    · omega)
  have h2 : (v.copies.take k).length ≤ k := by rw [List.length_take]; omega
  unfold usedTo
  omega
def overFull (v : Vlt) : Bool := v.carrs.any fun x => decide (x.room < usedOn v x.name)
theorem overFull_yes {v : Vlt} {k : Nat} (hk : k < v.carrs.length) (h : v.carrs[k].room < usedOn v v.carrs[k].name) : overFull v = true := List.any_eq_true.2 ⟨_, List.getElem_mem hk, decide_eq_true h⟩
theorem overFull_no {v : Vlt} (h : ∀ c ∈ v.carrs.take v.carrs.length, decide (c.room < usedOn v c.name) = false) : overFull v = false := by
  unfold overFull
  rw [List.any_eq_false]
  intro x hx
  have := h x (by rw [List.take_length]; exact hx)
  simpa using this
def largeV (v : Vlt) : Prop := 30 < (v.items.length : Int) ∨ 16 < (v.carrs.length : Int) ∨ 200 < (v.copies.length : Int)
instance (v : Vlt) : Decidable (largeV v) := by unfold largeV; infer_instance
def checkV (v : Vlt) : Int :=
  if largeV v then 2
  else if ffst (itemFault v.items) v.items.length ≠ 0 then ffst (itemFault v.items) v.items.length
  else if ffst (carrFault v.carrs) v.carrs.length ≠ 0 then ffst (carrFault v.carrs) v.carrs.length
  else if ffst (cpyFaultAt v) v.copies.length ≠ 0 then ffst (cpyFaultAt v) v.copies.length
  else if overFull v = true then 2 else 0
theorem check_items {v : Vlt} {k : Nat} {c : Int} (hl : ¬ largeV v) (hk : k < v.items.length) (h : ffst (itemFault v.items) k = 0) (hf : itemFault v.items k = c) (hc : c ≠ 0) : checkV v = c := by
  have h1 : ffst (itemFault v.items) v.items.length = c := by rw [ffst_hit h (by rw [hf]; exact hc) _ hk, hf]
  unfold checkV; rw [if_neg hl, h1, if_pos hc]
theorem check_carrs {v : Vlt} {k : Nat} {c : Int} (hl : ¬ largeV v) (hi : ffst (itemFault v.items) v.items.length = 0) (hk : k < v.carrs.length) (h : ffst (carrFault v.carrs) k = 0) (hf : carrFault v.carrs k = c) (hc : c ≠ 0) : checkV v = c := by
  have h1 : ffst (carrFault v.carrs) v.carrs.length = c := by rw [ffst_hit h (by rw [hf]; exact hc) _ hk, hf]
  unfold checkV; rw [if_neg hl, hi, if_neg (by decide), h1, if_pos hc]
theorem check_copies {v : Vlt} {k : Nat} {c : Int} (hl : ¬ largeV v) (hi : ffst (itemFault v.items) v.items.length = 0) (hr : ffst (carrFault v.carrs) v.carrs.length = 0) (hk : k < v.copies.length) (h : ffst (cpyFaultAt v) k = 0) (hf : cpyFaultAt v k = c) (hc : c ≠ 0) : checkV v = c := by
  have h1 : ffst (cpyFaultAt v) v.copies.length = c := by rw [ffst_hit h (by rw [hf]; exact hc) _ hk, hf]
  unfold checkV; rw [if_neg hl, hi, if_neg (by decide), hr, if_neg (by decide), h1, if_pos hc]
theorem check_over {v : Vlt} (hl : ¬ largeV v) (hi : ffst (itemFault v.items) v.items.length = 0) (hr : ffst (carrFault v.carrs) v.carrs.length = 0) (hp : ffst (cpyFaultAt v) v.copies.length = 0) : checkV v = if overFull v = true then 2 else 0 := by
  unfold checkV; rw [if_neg hl, hi, if_neg (by decide), hr, if_neg (by decide), hp, if_neg (by decide)]
theorem okItems_of {v : Vlt} (hi : ffst (itemFault v.items) v.items.length = 0) : okItems v := fun x hx => by
  obtain ⟨k, hk, rfl⟩ := List.mem_iff_getElem.1 hx
  exact (itemFault_ok hk (ffst_all _ hi k hk)).2
theorem cpyFault_idx {v : Vlt} {c : Cpy} {b : Option Cpy} (h : cpyFault v c b = 0) : 0 ≤ itemIdx v c.item ∧ 0 ≤ carrIdx v c.carrier := by
  unfold cpyFault at h
  by_cases h1 : itemIdx v c.item < 0 ∨ carrIdx v c.carrier < 0
  · rw [if_pos h1] at h; simp at h
  · omega
def okCopies (v : Vlt) : Prop := ∀ c ∈ v.copies, 0 ≤ itemIdx v c.item ∧ 0 ≤ carrIdx v c.carrier
theorem okCopies_of {v : Vlt} (hp : ffst (cpyFaultAt v) v.copies.length = 0) : okCopies v := fun x hx => by
  obtain ⟨k, hk, rfl⟩ := List.mem_iff_getElem.1 hx
  have h := ffst_all _ hp k hk
  by_cases h0 : 0 < k
  · rw [cpyFaultAt_some hk h0] at h; exact cpyFault_idx h
  · rw [cpyFaultAt_none hk h0] at h; exact cpyFault_idx h
theorem carrNames {v : Vlt} (hr : ffst (carrFault v.carrs) v.carrs.length = 0) : ∀ x ∈ v.carrs, nameOk x.name = true := fun x hx => by
  obtain ⟨k, hk, rfl⟩ := List.mem_iff_getElem.1 hx
  exact (carrFault_ok hk (ffst_all _ hr k hk)).1
theorem carr_ne {v : Vlt} (hr : ∀ x ∈ v.carrs, nameOk x.name = true) {nm : ByteArray} (h : 0 ≤ carrIdx v nm) : nm ≠ ⟨#[]⟩ := by
  rintro rfl
  obtain ⟨k, hk, _, hp⟩ := idxBy_some h
  have h1 := hr _ (List.getElem_mem hk)
  rw [of_decide_eq_true hp] at h1
  simp [nameOk, isName] at h1
/-- The strings are no longer than any can be. -/
def smallV (v : Vlt) : Prop := (∀ x ∈ v.items, x.name.size ≤ 9223372036854775807) ∧ ∀ x ∈ v.carrs, x.name.size ≤ 9223372036854775807 ∧ x.place.size ≤ 9223372036854775807 ∧ x.kind.size ≤ 9223372036854775807
def polFault (p : Pol) : Int :=
  if ¬ (1 ≤ p.copies ∧ p.copies ≤ 16) ∨ ¬ (1 ≤ p.places ∧ p.places ≤ p.copies) ∨ ¬ (1 ≤ p.kinds ∧ p.kinds ≤ p.copies) ∨ ¬ (1 ≤ p.every ∧ p.every ≤ 200000) ∨ ¬ (1 ≤ p.old ∧ p.old ≤ 200000) ∨ ¬ (1 ≤ p.gens ∧ p.gens ≤ 100) then 1 else 0


end Go.Proofs.YtieccphckobhjaaDoor
