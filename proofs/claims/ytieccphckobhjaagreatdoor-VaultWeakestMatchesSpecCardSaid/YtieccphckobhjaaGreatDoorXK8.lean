/- Walks and laws over abstract values, merged by tools/merge.py. No statement of the seat. -/
import Derived.Shelf.Spec.SlicesInsertGrow
import Derived.Deep.RegionLaw
import Derived.Laws.NewBlocks
import Derived.Test.YtieccphckobhjaaGreatDoorXK7

namespace Go.Proofs.YtieccphckobhjaaGreatDoor
open Go.RowKit
set_option linter.unusedVariables false

/-! Types. -/
namespace TyL2
theorem ag_26 : AggT Tryz.prog 26 3 := .of (by kernel_rfl)
theorem ag_59 : AggT Tryz.prog 59 5 := .of (by kernel_rfl)
theorem ag_65 : AggT Tryz.prog 65 7 := .of (by kernel_rfl)
theorem et_159 : ElemTy Tryz.prog 159 9 1 16 (.string ⟨#[]⟩) := ⟨by kernel_rfl, by kernel_rfl, by kernel_rfl, by decide⟩
theorem et_23 : ElemTy Tryz.prog 23 59 5 64 (.agg #[(.string ⟨#[]⟩), (.string ⟨#[]⟩), (.string ⟨#[]⟩), (.int .i64 0), (.int .i64 0)]) := ⟨by kernel_rfl, by kernel_rfl, by kernel_rfl, by decide⟩
theorem et_24 : ElemTy Tryz.prog 24 65 7 96 (.agg #[(.string ⟨#[]⟩), (.string ⟨#[]⟩), (.string ⟨#[]⟩), (.int .i64 0), (.int .i64 0), (.int .i64 0), (.slice none 0 0)]) := ⟨by kernel_rfl, by kernel_rfl, by kernel_rfl, by decide⟩
theorem et_63 : ElemTy Tryz.prog 63 3 1 8 (.int .i64 0) := ⟨by kernel_rfl, by kernel_rfl, by kernel_rfl, by decide⟩
theorem fo_59_1 : fieldOff Tryz.prog 59 1 = some 1 := by kernel_rfl
theorem fo_59_2 : fieldOff Tryz.prog 59 2 = some 2 := by kernel_rfl
theorem fo_65_1 : fieldOff Tryz.prog 65 1 = some 1 := by kernel_rfl
theorem fo_65_5 : fieldOff Tryz.prog 65 5 = some 5 := by kernel_rfl
theorem fo_65_6 : fieldOff Tryz.prog 65 6 = some 6 := by kernel_rfl
theorem sc_3 : Scal Tryz.prog 3 := .of (by kernel_rfl)
theorem sc_63 : Scal Tryz.prog 63 := .of (by kernel_rfl)
theorem sc_9 : Scal Tryz.prog 9 := .of (by kernel_rfl)
theorem sz_59 : ∀ w, (sizeOf 59).run Tryz.prog w = .ok 5 w := SizeT.of (by kernel_rfl)
theorem sz_65 : ∀ w, (sizeOf 65).run Tryz.prog w = .ok 7 w := SizeT.of (by kernel_rfl)
theorem zt_59 : (Tryz.prog.info? 59).bind (·.zero) = some (.agg #[(.string ⟨#[]⟩), (.string ⟨#[]⟩), (.string ⟨#[]⟩), (.int .i64 0), (.int .i64 0)]) := by kernel_rfl
theorem zt_65 : (Tryz.prog.info? 65).bind (·.zero) = some (.agg #[(.string ⟨#[]⟩), (.string ⟨#[]⟩), (.string ⟨#[]⟩), (.int .i64 0), (.int .i64 0), (.int .i64 0), (.slice none 0 0)]) := by kernel_rfl
end TyL2
open TyL2


end Go.Proofs.YtieccphckobhjaaGreatDoor


namespace Go.Proofs.YtieccphckobhjaaGreatDoor
open Go.RowKit
set_option linter.unusedVariables false

/-! Types. -/
namespace TyL3
theorem ag_26 : AggT Tryz.prog 26 3 := .of (by kernel_rfl)
end TyL3
open TyL3


def addL (E : List Lck) (b : Bool) (y : Lck) : List Lck := if b = true then E ++ [y] else E
def lackCpy (v : Vlt) (p : Pol) (day : Int) (c : Cpy) : List Lck :=
  addL (addL (addL (addL [] (decide ((c.bad.length : Int) > 0)) ⟨c.item, c.carrier, 4, (c.bad.length : Int)⟩) (oldB p day (carrAt v c.carrier)) ⟨c.item, c.carrier, 5, 0⟩) (decide (c.gen > p.gens)) ⟨c.item, c.carrier, 6, 0⟩) (decide (day - c.last > p.every)) ⟨c.item, c.carrier, 7, 0⟩
def cpyTo (v : Vlt) (p : Pol) (day : Int) (it : ByteArray) (k : Nat) : List Lck := ((copiesOf v it).take k).flatMap (lackCpy v p day)
def cpyAll (v : Vlt) (p : Pol) (day : Int) (it : ByteArray) : List Lck := (copiesOf v it).flatMap (lackCpy v p day)
def rCpyTo (v : Vlt) (p : Pol) (day : Int) (it : ByteArray) (k : Nat) : List Lck := (v.copies.take k).flatMap fun c => if c.item = it then lackCpy v p day c else []
def numsOf (p : Pol) (l : List Carr) : List Int := [lackC p l, lackP p l, lackK p l]
def headE (nm : ByteArray) (x : Int × Nat) : List Lck := if x.1 > 0 then [⟨nm, ⟨#[]⟩, 1 + (x.2 : Int), x.1⟩] else []
def headTo (nm : ByteArray) (l : List Int) (k : Nat) : List Lck := (l.zipIdx.take k).flatMap (headE nm)
def itemL (v : Vlt) (p : Pol) (day : Int) (x : Item) : List Lck := headTo x.name (numsOf p (goodOnes v x.name p day)) 3 ++ cpyAll v p day x.name
def itemsTo (v : Vlt) (p : Pol) (day : Int) (k : Nat) : List Lck := (v.items.take k).flatMap (itemL v p day)
def lacksR (v : Vlt) (p : Pol) (day : Int) : List Lck := if dayFault v p day = 0 then itemsTo v p day v.items.length else []
end Go.Proofs.YtieccphckobhjaaGreatDoor


namespace Go.Proofs.YtieccphckobhjaaGreatDoor
open Go.RowKit
set_option linter.unusedVariables false

/-! Types. -/
namespace TyL4a
theorem ag_26 : AggT Tryz.prog 26 3 := .of (by kernel_rfl)
theorem ag_59 : AggT Tryz.prog 59 5 := .of (by kernel_rfl)
theorem ag_65 : AggT Tryz.prog 65 7 := .of (by kernel_rfl)
theorem et_23 : ElemTy Tryz.prog 23 59 5 64 (.agg #[(.string ⟨#[]⟩), (.string ⟨#[]⟩), (.string ⟨#[]⟩), (.int .i64 0), (.int .i64 0)]) := ⟨by kernel_rfl, by kernel_rfl, by kernel_rfl, by decide⟩
theorem et_24 : ElemTy Tryz.prog 24 65 7 96 (.agg #[(.string ⟨#[]⟩), (.string ⟨#[]⟩), (.string ⟨#[]⟩), (.int .i64 0), (.int .i64 0), (.int .i64 0), (.slice none 0 0)]) := ⟨by kernel_rfl, by kernel_rfl, by kernel_rfl, by decide⟩
theorem et_63 : ElemTy Tryz.prog 63 3 1 8 (.int .i64 0) := ⟨by kernel_rfl, by kernel_rfl, by kernel_rfl, by decide⟩
theorem fo_26_1 : fieldOff Tryz.prog 26 1 = some 1 := by kernel_rfl
theorem fo_26_2 : fieldOff Tryz.prog 26 2 = some 2 := by kernel_rfl
theorem fo_65_0 : fieldOff Tryz.prog 65 0 = some 0 := by kernel_rfl
theorem fo_65_1 : fieldOff Tryz.prog 65 1 = some 1 := by kernel_rfl
theorem fo_65_5 : fieldOff Tryz.prog 65 5 = some 5 := by kernel_rfl
theorem fo_65_6 : fieldOff Tryz.prog 65 6 = some 6 := by kernel_rfl
theorem sc_23 : Scal Tryz.prog 23 := .of (by kernel_rfl)
theorem sc_24 : Scal Tryz.prog 24 := .of (by kernel_rfl)
theorem sc_3 : Scal Tryz.prog 3 := .of (by kernel_rfl)
theorem sc_63 : Scal Tryz.prog 63 := .of (by kernel_rfl)
theorem sc_9 : Scal Tryz.prog 9 := .of (by kernel_rfl)
theorem sz_59 : ∀ w, (sizeOf 59).run Tryz.prog w = .ok 5 w := SizeT.of (by kernel_rfl)
theorem sz_65 : ∀ w, (sizeOf 65).run Tryz.prog w = .ok 7 w := SizeT.of (by kernel_rfl)
theorem zt_59 : (Tryz.prog.info? 59).bind (·.zero) = some (.agg #[(.string ⟨#[]⟩), (.string ⟨#[]⟩), (.string ⟨#[]⟩), (.int .i64 0), (.int .i64 0)]) := by kernel_rfl
theorem zt_65 : (Tryz.prog.info? 65).bind (·.zero) = some (.agg #[(.string ⟨#[]⟩), (.string ⟨#[]⟩), (.string ⟨#[]⟩), (.int .i64 0), (.int .i64 0), (.int .i64 0), (.slice none 0 0)]) := by kernel_rfl
end TyL4a
open TyL4a

end Go.Proofs.YtieccphckobhjaaGreatDoor


namespace Go.Proofs.YtieccphckobhjaaGreatDoor
open Go.RowKit
set_option linter.unusedVariables false

/-! Types. -/
namespace TyW4
theorem ag_65 : AggT Tryz.prog 65 7 := .of (by kernel_rfl)
theorem et_24 : ElemTy Tryz.prog 24 65 7 96 (.agg #[(.string ⟨#[]⟩), (.string ⟨#[]⟩), (.string ⟨#[]⟩), (.int .i64 0), (.int .i64 0), (.int .i64 0), (.slice none 0 0)]) := ⟨by kernel_rfl, by kernel_rfl, by kernel_rfl, by decide⟩
theorem et_63 : ElemTy Tryz.prog 63 3 1 8 (.int .i64 0) := ⟨by kernel_rfl, by kernel_rfl, by kernel_rfl, by decide⟩
theorem fo_26_2 : fieldOff Tryz.prog 26 2 = some 2 := by kernel_rfl
theorem fo_65_0 : fieldOff Tryz.prog 65 0 = some 0 := by kernel_rfl
theorem fo_65_5 : fieldOff Tryz.prog 65 5 = some 5 := by kernel_rfl
theorem fo_65_6 : fieldOff Tryz.prog 65 6 = some 6 := by kernel_rfl
theorem sc_24 : Scal Tryz.prog 24 := .of (by kernel_rfl)
theorem sc_3 : Scal Tryz.prog 3 := .of (by kernel_rfl)
theorem sc_63 : Scal Tryz.prog 63 := .of (by kernel_rfl)
theorem sc_9 : Scal Tryz.prog 9 := .of (by kernel_rfl)
theorem sz_65 : ∀ w, (sizeOf 65).run Tryz.prog w = .ok 7 w := SizeT.of (by kernel_rfl)
theorem zt_65 : (Tryz.prog.info? 65).bind (·.zero) = some (.agg #[(.string ⟨#[]⟩), (.string ⟨#[]⟩), (.string ⟨#[]⟩), (.int .i64 0), (.int .i64 0), (.int .i64 0), (.slice none 0 0)]) := by kernel_rfl
end TyW4
open TyW4


def srcNow (v : Vlt) (it : ByteArray) (b : Int) (c : Cpy) : Bool := decide (c.item = it) && (decide ((c.bad.length : Int) = 0) && (decide (b < 0) || decide (c.gen < (v.copies.getD b.toNat zC).gen)))
/-- The number of the best source among the first copies; -1: none. -/
def srcI (v : Vlt) (it : ByteArray) : Nat → Int
  | 0 => -1
  | k + 1 => match v.copies[k]? with | none => srcI v it k | some c => if srcNow v it (srcI v it k) c = true then (k : Int) else srcI v it k
end Go.Proofs.YtieccphckobhjaaGreatDoor


namespace Go.Proofs.YtieccphckobhjaaGreatDoor
open Go.RowKit
set_option linter.unusedVariables false

/-! Types. -/
namespace TyW5
end TyW5
open TyW5


def enoughB (p : Pol) (l : List Carr) : Bool := decide (lackC p l = 0) && (decide (lackP p l = 0) && decide (lackK p l = 0))
end Go.Proofs.YtieccphckobhjaaGreatDoor


namespace Go.Proofs.YtieccphckobhjaaGreatDoor
open Go.RowKit
set_option linter.unusedVariables false

end Go.Proofs.YtieccphckobhjaaGreatDoor


namespace Go.Proofs.YtieccphckobhjaaGreatDoor
open Go.RowKit
set_option linter.unusedVariables false

/-! Types. -/
namespace TyW6

end TyW6
open TyW6


def carrN (v : Vlt) (i : Nat) : Carr := v.carrs.getD i ⟨⟨#[]⟩, ⟨#[]⟩, ⟨#[]⟩, 0, 0⟩
def candB (v : Vlt) (p : Pol) (x : Item) (room : List Int) (day : Int) (k : Nat) (c : Carr) : Bool := decide (copyIdx v x.name c.name < 0) && (!oldB p day c && decide (room.getD k 0 ≥ x.blocks))
/-- The carriers, by number, to which an item may be copied. -/
def candTo (v : Vlt) (p : Pol) (x : Item) (room : List Int) (day : Int) : Nat → List Nat
  | 0 => []
  | k + 1 => candTo v p x room day k ++ (if candB v p x room day k (carrN v k) = true then [k] else [])
def cand (v : Vlt) (p : Pol) (x : Item) (room : List Int) (day : Int) : List Nat := candTo v p x room day v.carrs.length
/-- The good ones' carriers, with those of a choice. -/
def withL (v : Vlt) (good : List Carr) (l ch : List Nat) : List Carr := good ++ ch.map fun i => carrN v (l.getD i 0)
def tgtC (v : Vlt) (p : Pol) (x : Item) (room : List Int) (day : Int) : Option (List Nat) := chosenC (cand v p x room day).length fun ch => enoughB p (withL v (goodOnes v x.name p day) (cand v p x room day) ch)
def noTgt (v : Vlt) (p : Pol) (x : Item) (day : Int) : Bool := decide (srcI v x.name v.copies.length < 0) || (decide ((v.copies.getD (srcI v x.name v.copies.length).toNat zC).gen ≥ p.gens) || enoughB p (goodOnes v x.name p day))
/-- The numbers of the carriers to which an item is to be copied. -/
def tgtR (v : Vlt) (p : Pol) (x : Item) (room : List Int) (day : Int) : List Nat := if noTgt v p x day = true then [] else ((tgtC v p x room day).getD []).map fun i => (cand v p x room day).getD i 0
theorem cl_triple2 {a b c id id2 : Nat} {s s' s'' : S} {sl sl2 : List Nat} (ha : sl.contains a = true) (hb : sl.contains b = true) (hc : sl.contains c = true) (h1 : s.kill id2 = s) (h2 : s'.kill id2 = s') (h3 : s''.kill id2 = s'') : ∀ p ∈ [(a, s), (b, s'), (c, s'')], ∀ f ∈ [(⟨id, sl⟩ : Fc), ⟨id2, sl2⟩], f.slots.contains p.1 = true ∨ p.2.kill f.id = p.2 := by
  intro p hp f hf
  rcases List.mem_cons.1 hf with rfl | hf
  · refine .inl ?_
    rcases List.mem_cons.1 hp with rfl | hp
    · exact ha
    · rcases List.mem_cons.1 hp with rfl | hp
      · exact hb
      · obtain rfl := List.mem_singleton.1 hp; exact hc
  · obtain rfl := List.mem_singleton.1 hf
    refine .inr ?_
    rcases List.mem_cons.1 hp with rfl | hp
    · exact h1
    · rcases List.mem_cons.1 hp with rfl | hp
      · exact h2
      · obtain rfl := List.mem_singleton.1 hp; exact h3
theorem cl_triple2' {a b c id id2 : Nat} {s s' s'' : S} {sl sl2 : List Nat} (ha : sl.contains a = true) (hb : sl.contains b = true) (hc : sl.contains c = true) (h1 : s.kill id2 = s) (h2 : s'.kill id2 = s') (h3 : s''.kill id2 = s'') : ∀ p ∈ [(a, s), (b, s'), (c, s'')], ∀ f ∈ [(⟨id2, sl2⟩ : Fc), ⟨id, sl⟩], f.slots.contains p.1 = true ∨ p.2.kill f.id = p.2 := fun p hp f hf =>
  cl_triple2 ha hb hc h1 h2 h3 p hp f (by
    rcases List.mem_cons.1 hf with rfl | hf
    · exact .tail _ (.head _)
    · obtain rfl := List.mem_singleton.1 hf; exact .head _)


end Go.Proofs.YtieccphckobhjaaGreatDoor


namespace Go.Proofs.YtieccphckobhjaaGreatDoor
open Go.RowKit
set_option linter.unusedVariables false

/-! Types. -/
namespace TyW7
theorem ag_26 : AggT Tryz.prog 26 3 := .of (by kernel_rfl)
theorem ag_59 : AggT Tryz.prog 59 5 := .of (by kernel_rfl)
theorem et_23 : ElemTy Tryz.prog 23 59 5 64 (.agg #[(.string ⟨#[]⟩), (.string ⟨#[]⟩), (.string ⟨#[]⟩), (.int .i64 0), (.int .i64 0)]) := ⟨by kernel_rfl, by kernel_rfl, by kernel_rfl, by decide⟩
theorem et_24 : ElemTy Tryz.prog 24 65 7 96 (.agg #[(.string ⟨#[]⟩), (.string ⟨#[]⟩), (.string ⟨#[]⟩), (.int .i64 0), (.int .i64 0), (.int .i64 0), (.slice none 0 0)]) := ⟨by kernel_rfl, by kernel_rfl, by kernel_rfl, by decide⟩
theorem et_63 : ElemTy Tryz.prog 63 3 1 8 (.int .i64 0) := ⟨by kernel_rfl, by kernel_rfl, by kernel_rfl, by decide⟩
theorem fo_26_1 : fieldOff Tryz.prog 26 1 = some 1 := by kernel_rfl
theorem fo_26_2 : fieldOff Tryz.prog 26 2 = some 2 := by kernel_rfl
theorem fo_59_0 : fieldOff Tryz.prog 59 0 = some 0 := by kernel_rfl
theorem fo_62_0 : fieldOff Tryz.prog 62 0 = some 0 := by kernel_rfl
theorem fo_62_1 : fieldOff Tryz.prog 62 1 = some 1 := by kernel_rfl
theorem fo_65_5 : fieldOff Tryz.prog 65 5 = some 5 := by kernel_rfl
theorem sc_23 : Scal Tryz.prog 23 := .of (by kernel_rfl)
theorem sc_24 : Scal Tryz.prog 24 := .of (by kernel_rfl)
theorem sc_3 : Scal Tryz.prog 3 := .of (by kernel_rfl)
theorem sc_9 : Scal Tryz.prog 9 := .of (by kernel_rfl)
theorem sz_59 : ∀ w, (sizeOf 59).run Tryz.prog w = .ok 5 w := SizeT.of (by kernel_rfl)
theorem zt_59 : (Tryz.prog.info? 59).bind (·.zero) = some (.agg #[(.string ⟨#[]⟩), (.string ⟨#[]⟩), (.string ⟨#[]⟩), (.int .i64 0), (.int .i64 0)]) := by kernel_rfl
end TyW7
open TyW7


theorem take_next {l : List Nat} {j : Nat} (h : j < l.length) : l.take (j + 1) = l.take j ++ [l[j]] := by rw [List.take_add_one, List.getElem?_eq_getElem h]; rfl
/-- The search, or its end. -/
def Again (n m : Nat) (P : List Nat → Bool) (g : List Nat × Bool) : Prop := if g.2 = true then Vld n g.1 ∧ g.1.length = m ∧ srch n P (List.range m) = srch n P g.1 else srch n P (List.range m) = none
theorem Again.next {n m : Nat} {P : List Nat → Bool} {l : List Nat} (h : Vld n l ∧ l.length = m ∧ srch n P (List.range m) = srch n P l) (hP : P l = false) : Again n m P ((nextC n l).getD l, (nextC n l).isSome) := by
  unfold nextC
  cases hp : pivot n l l.length with
  | none => exact h.2.2.trans (srch_end h.1 hP hp)
  | some k => exact ⟨bump_vld h.1 hp, by show (bump l k).length = m; rw [bump_len (by have := (pivot_lt hp).1; omega)]; exact h.2.1, h.2.2.trans (srch_next h.1 hP hp)⟩
theorem again_less {n : Nat} {l : List Nat} (hv : Vld n l) : (if ((nextC n l).isSome) = true then leftC n ((nextC n l).getD l) + 1 else 0) < leftC n l + 1 := by
  unfold nextC
  cases hp : pivot n l l.length with
  | none => exact Nat.succ_pos _
  | some k => have := leftC_next hv hp; show leftC n (bump l k) + 1 < _; omega


end Go.Proofs.YtieccphckobhjaaGreatDoor


namespace Go.Proofs.YtieccphckobhjaaGreatDoor
open Go.RowKit
set_option linter.unusedVariables false

/-! Types. -/
namespace TyW8

end TyW8
open TyW8


def IncC (l : List Nat) : Prop := ∀ i j, i < j → j < l.length → l.getD i 0 < l.getD j 0
theorem range_inc (m : Nat) : IncC (List.range m) := fun i j hij hj => by
  rw [List.length_range] at hj
  rw [numAt (by rw [List.length_range]; omega), numAt (by rw [List.length_range]; omega), List.getElem_range, List.getElem_range]
  exact hij
theorem bump_inc {l : List Nat} {k : Nat} (h : IncC l) (hk : k < l.length) : IncC (bump l k) := fun i j hij hj => by
  rw [bump_len (by omega)] at hj
  show (bumpTo l k l.length).getD i 0 < (bumpTo l k l.length).getD j 0
  rw [bumpTo_at (by omega) (Nat.le_refl _) (by omega), bumpTo_at (by omega) (Nat.le_refl _) hj]
  by_cases h1 : j < k
  · rw [if_pos (by omega), if_pos h1]; exact h i j hij hj
  · rw [if_neg h1, if_pos hj]
    by_cases h2 : i < k
    · rw [if_pos h2]
      have := h i k h2 hk
      omega
    · rw [if_neg h2, if_pos (by omega)]
      omega
theorem srchN_spec {n : Nat} {P : List Nat → Bool} : ∀ {f : Nat} {l r : List Nat}, Vld n l → IncC l → srchN n P f l = some r → P r = true ∧ Vld n r ∧ IncC r ∧ r.length = l.length
  | 0, _, _, _, _, h => by cases h
  | f + 1, l, r, hv, hi, h => by
    unfold srchN at h
    by_cases hp : P l = true
    · rw [if_pos hp] at h
      cases h
      exact ⟨hp, hv, hi, rfl⟩
    · rw [if_neg hp] at h
      unfold nextC at h
      cases hq : pivot n l l.length with
      | none => rw [hq] at h; cases h
      | some k =>
        rw [hq] at h
        have hk := (pivot_lt hq).1
        have := srchN_spec (bump_vld hv hq) (bump_inc hi hk) h
        rw [bump_len (by omega)] at this
        exact this
theorem chosenTo_spec {n : Nat} {P : List Nat → Bool} {r : List Nat} : ∀ {m : Nat}, m ≤ n + 1 → chosenTo n P m = some r → P r = true ∧ Vld n r ∧ IncC r
  | 0, _, h => by cases h
  | m + 1, hm, h => by
    have h : (chosenTo n P m).or (srch n P (List.range m)) = some r := h
    cases hc : chosenTo n P m with
    | some q =>
      rw [hc] at h
      have e : q = r := by simpa using h
      subst e
      exact chosenTo_spec (by omega) hc
    | none =>
      rw [hc] at h
      have h2 : srch n P (List.range m) = some r := by simpa using h
      obtain ⟨a, b, c, _⟩ := srchN_spec (range_vld (by omega)) (range_inc m) h2
      exact ⟨a, b, c⟩
theorem chosen_spec {n : Nat} {P : List Nat → Bool} {r : List Nat} (h : chosenC n P = some r) : P r = true ∧ Vld n r ∧ IncC r := chosenTo_spec (Nat.le_refl _) h
end Go.Proofs.YtieccphckobhjaaGreatDoor


namespace Go.Proofs.YtieccphckobhjaaGreatDoor
open Go.RowKit
set_option linter.unusedVariables false

/-! Types. -/
namespace TyW9

end TyW9
open TyW9


structure Tfr where
  item : ByteArray
  frm : ByteArray
  to : ByteArray
def Tfr.ds (t : Tfr) : List D := [.v (.string t.item), .v (.string t.frm), .v (.string t.to)]
def roomR (v : Vlt) : List Int := v.carrs.map fun c => c.room - usedOn v c.name
def take1 (v : Vlt) (x : Item) (s : List Int × List Tfr) (i : Nat) : List Int × List Tfr := (s.1.set i (s.1.getD i 0 - x.blocks), s.2 ++ [⟨x.name, (v.copies.getD (srcI v x.name v.copies.length).toNat zC).carrier, (carrN v i).name⟩])
def planItem (v : Vlt) (p : Pol) (day : Int) (s : List Int × List Tfr) (x : Item) : List Int × List Tfr := (tgtR v p x s.1 day).foldl (take1 v x) s
def planTo (v : Vlt) (p : Pol) (day : Int) (k : Nat) : List Int × List Tfr := (v.items.take k).foldl (planItem v p day) (roomR v, [])
def planR (v : Vlt) (p : Pol) (day : Int) : List Tfr := if dayFault v p day = 0 then (planTo v p day v.items.length).2 else []
structure PB (v : Vlt) (s : List Int × List Tfr) (c : Nat) : Prop where
  len : s.1.length = v.carrs.length
  out : s.2.length ≤ c
  room : ∀ i, -((c : Int) * 1000) ≤ s.1.getD i 0 ∧ s.1.getD i 0 ≤ 1000000
end Go.Proofs.YtieccphckobhjaaGreatDoor


namespace Go.Proofs.YtieccphckobhjaaGreatDoor
open Go.RowKit
set_option linter.unusedVariables false

/-! Types. -/
namespace TyW10
theorem ag_26 : AggT Tryz.prog 26 3 := .of (by kernel_rfl)
theorem ag_59 : AggT Tryz.prog 59 5 := .of (by kernel_rfl)
theorem ag_62 : AggT Tryz.prog 62 2 := .of (by kernel_rfl)
theorem et_22 : ElemTy Tryz.prog 22 62 2 24 (.agg #[(.string ⟨#[]⟩), (.int .i64 0)]) := ⟨by kernel_rfl, by kernel_rfl, by kernel_rfl, by decide⟩
theorem et_23 : ElemTy Tryz.prog 23 59 5 64 (.agg #[(.string ⟨#[]⟩), (.string ⟨#[]⟩), (.string ⟨#[]⟩), (.int .i64 0), (.int .i64 0)]) := ⟨by kernel_rfl, by kernel_rfl, by kernel_rfl, by decide⟩
theorem et_24 : ElemTy Tryz.prog 24 65 7 96 (.agg #[(.string ⟨#[]⟩), (.string ⟨#[]⟩), (.string ⟨#[]⟩), (.int .i64 0), (.int .i64 0), (.int .i64 0), (.slice none 0 0)]) := ⟨by kernel_rfl, by kernel_rfl, by kernel_rfl, by decide⟩
theorem et_63 : ElemTy Tryz.prog 63 3 1 8 (.int .i64 0) := ⟨by kernel_rfl, by kernel_rfl, by kernel_rfl, by decide⟩
theorem fo_26_0 : fieldOff Tryz.prog 26 0 = some 0 := by kernel_rfl
theorem fo_26_1 : fieldOff Tryz.prog 26 1 = some 1 := by kernel_rfl
theorem fo_26_2 : fieldOff Tryz.prog 26 2 = some 2 := by kernel_rfl
theorem fo_59_0 : fieldOff Tryz.prog 59 0 = some 0 := by kernel_rfl
theorem fo_59_4 : fieldOff Tryz.prog 59 4 = some 4 := by kernel_rfl
theorem fo_62_0 : fieldOff Tryz.prog 62 0 = some 0 := by kernel_rfl
theorem fo_62_1 : fieldOff Tryz.prog 62 1 = some 1 := by kernel_rfl
theorem fo_65_1 : fieldOff Tryz.prog 65 1 = some 1 := by kernel_rfl
theorem sc_22 : Scal Tryz.prog 22 := .of (by kernel_rfl)
theorem sc_23 : Scal Tryz.prog 23 := .of (by kernel_rfl)
theorem sc_24 : Scal Tryz.prog 24 := .of (by kernel_rfl)
theorem sc_3 : Scal Tryz.prog 3 := .of (by kernel_rfl)
theorem sc_9 : Scal Tryz.prog 9 := .of (by kernel_rfl)
theorem sz_3 : ∀ w, (sizeOf 3).run Tryz.prog w = .ok 1 w := SizeT.of (by kernel_rfl)
theorem sz_59 : ∀ w, (sizeOf 59).run Tryz.prog w = .ok 5 w := SizeT.of (by kernel_rfl)
theorem sz_62 : ∀ w, (sizeOf 62).run Tryz.prog w = .ok 2 w := SizeT.of (by kernel_rfl)
theorem zt_59 : (Tryz.prog.info? 59).bind (·.zero) = some (.agg #[(.string ⟨#[]⟩), (.string ⟨#[]⟩), (.string ⟨#[]⟩), (.int .i64 0), (.int .i64 0)]) := by kernel_rfl
theorem zt_62 : (Tryz.prog.info? 62).bind (·.zero) = some (.agg #[(.string ⟨#[]⟩), (.int .i64 0)]) := by kernel_rfl
end TyW10
open TyW10


def roomF (v : Vlt) (k : Nat) : List (List D) := ((v.carrs.take k).map fun c => intD (c.room - usedOn v c.name)) ++ List.replicate (v.carrs.length - k) (intD 0)
end Go.Proofs.YtieccphckobhjaaGreatDoor


namespace Go.Proofs.YtieccphckobhjaaGreatDoor
open Go.RowKit
set_option linter.unusedVariables false

/-! Types. -/
namespace TyW11
theorem ag_26 : AggT Tryz.prog 26 3 := .of (by kernel_rfl)
theorem ag_65 : AggT Tryz.prog 65 7 := .of (by kernel_rfl)
theorem et_24 : ElemTy Tryz.prog 24 65 7 96 (.agg #[(.string ⟨#[]⟩), (.string ⟨#[]⟩), (.string ⟨#[]⟩), (.int .i64 0), (.int .i64 0), (.int .i64 0), (.slice none 0 0)]) := ⟨by kernel_rfl, by kernel_rfl, by kernel_rfl, by decide⟩
theorem et_63 : ElemTy Tryz.prog 63 3 1 8 (.int .i64 0) := ⟨by kernel_rfl, by kernel_rfl, by kernel_rfl, by decide⟩
theorem fo_65_5 : fieldOff Tryz.prog 65 5 = some 5 := by kernel_rfl
theorem fo_65_6 : fieldOff Tryz.prog 65 6 = some 6 := by kernel_rfl
theorem sc_3 : Scal Tryz.prog 3 := .of (by kernel_rfl)
theorem sc_63 : Scal Tryz.prog 63 := .of (by kernel_rfl)
theorem sz_65 : ∀ w, (sizeOf 65).run Tryz.prog w = .ok 7 w := SizeT.of (by kernel_rfl)
theorem zt_65 : (Tryz.prog.info? 65).bind (·.zero) = some (.agg #[(.string ⟨#[]⟩), (.string ⟨#[]⟩), (.string ⟨#[]⟩), (.int .i64 0), (.int .i64 0), (.int .i64 0), (.slice none 0 0)]) := by kernel_rfl
end TyW11
open TyW11


def zCpyD : List D := [.v (.string ⟨#[]⟩), .v (.string ⟨#[]⟩), .v (.string ⟨#[]⟩), .v (.int .i64 0), .v (.int .i64 0), .v (.int .i64 0), .v (.slice none 0 0)]
def genO : Option Cpy → Int
  | none => 0
  | some c => c.gen
def bestD : Option Cpy → List D
  | none => zCpyD
  | some c => c.ds
def srcP (b : Option Cpy) (c : Cpy) : Option Cpy := if (decide ((c.bad.length : Int) = 0) && (decide (genO b = 0) || decide (c.gen < genO b))) = true then some c else b
def srcO (v : Vlt) (it : ByteArray) (k : Nat) : Option Cpy := ((copiesOf v it).take k).foldl srcP none
end Go.Proofs.YtieccphckobhjaaGreatDoor


namespace Go.Proofs.YtieccphckobhjaaGreatDoor
open Go.RowKit
set_option linter.unusedVariables false

/-! Types. -/
namespace TyW12
theorem ag_59 : AggT Tryz.prog 59 5 := .of (by kernel_rfl)
theorem et_23 : ElemTy Tryz.prog 23 59 5 64 (.agg #[(.string ⟨#[]⟩), (.string ⟨#[]⟩), (.string ⟨#[]⟩), (.int .i64 0), (.int .i64 0)]) := ⟨by kernel_rfl, by kernel_rfl, by kernel_rfl, by decide⟩
theorem et_63 : ElemTy Tryz.prog 63 3 1 8 (.int .i64 0) := ⟨by kernel_rfl, by kernel_rfl, by kernel_rfl, by decide⟩
theorem sc_23 : Scal Tryz.prog 23 := .of (by kernel_rfl)
theorem sc_3 : Scal Tryz.prog 3 := .of (by kernel_rfl)
end TyW12
open TyW12


def tgAt (tg : List Carr) (i : Nat) : Carr := tg.getD i ⟨⟨#[]⟩, ⟨#[]⟩, ⟨#[]⟩, 0, 0⟩
def allC (gd tg : List Carr) (l : List Nat) : List Carr := gd ++ l.map (tgAt tg)
end Go.Proofs.YtieccphckobhjaaGreatDoor


namespace Go.Proofs.YtieccphckobhjaaGreatDoor
open Go.RowKit
set_option linter.unusedVariables false

/-! Types. -/
namespace TyW13

end TyW13
open TyW13


def srcF (it : ByteArray) (b : Option Cpy) (c : Cpy) : Option Cpy := if ofItem it c = true then srcP b c else b
end Go.Proofs.YtieccphckobhjaaGreatDoor


namespace Go.Proofs.YtieccphckobhjaaGreatDoor
open Go.RowKit
set_option linter.unusedVariables false

/-! Types. -/
namespace TyW14

end TyW14
open TyW14


end Go.Proofs.YtieccphckobhjaaGreatDoor


namespace Go.Proofs.YtieccphckobhjaaGreatDoor
open Go.RowKit Go.Shelf
set_option linter.unusedVariables false

section
variable {cx : Cx} {e : Env} {σ : Obs} {Q : Post}
end

section
variable {cx : Cx} {ops : Array Oper} {o : Oper} {rest : List Oper} {e : Env} {σ : Obs} {Q : Post}
end
end Go.Proofs.YtieccphckobhjaaGreatDoor


namespace Go.Proofs.YtieccphckobhjaaGreatDoor
open Go.RowKit Go.Shelf Go.Lib
set_option linter.unusedVariables false
set_option linter.unusedSimpArgs false

/-- What Insert does with an own row of copies. -/
structure InsEndC (B : Nat) (w : World) (v : Value) (n : Nat) (ys : List Value) (v' : Value) (w' : World) : Prop where
  own : w'.ownsRow B 65 7 v' n ys
  turn : Turn w w' (blk v)
  new : ∀ g, blk v' = some g → blk v = some g ∨ w.heap.size ≤ g

def zcpyV : Value := (Value.agg #[(.string ⟨#[]⟩), (.string ⟨#[]⟩), (.string ⟨#[]⟩), (.int .i64 0), (.int .i64 0), (.int .i64 0), (.slice none 0 0)])
end Go.Proofs.YtieccphckobhjaaGreatDoor


namespace Go.Proofs.YtieccphckobhjaaGreatDoor
open Go.RowKit Go.Shelf
set_option linter.unusedVariables false

section
variable {cx : Cx} {ops : Array Oper} {o : Oper} {rest : List Oper} {e : Env} {σ : Obs} {Q : Post}
end
end Go.Proofs.YtieccphckobhjaaGreatDoor


namespace Go.Proofs.YtieccphckobhjaaGreatDoor
open Go.RowKit
set_option linter.unusedVariables false

/-! Types. -/
namespace TyW15

end TyW15
open TyW15


/-- In order. -/
def SL (l : List Cpy) : Prop := ∀ i j (hi : i < l.length) (hj : j < l.length), i < j → cpyCmp l[i] l[j] < 0
def insC (l : List Cpy) (c : Cpy) : List Cpy := l.take (posC l (keyC c.item c.carrier)) ++ [c] ++ l.drop (posC l (keyC c.item c.carrier))
/-- What the copies keep, while transfers are made. -/
structure TS (v : Vlt) (l : List Cpy) : Prop where
  ord : SL l
  it : ∀ c ∈ l, 0 ≤ itemIdx v c.item
  ca : ∀ c ∈ l, 0 ≤ carrIdx v c.carrier
  gen : ∀ c ∈ l, 1 ≤ c.gen ∧ c.gen ≤ 100
theorem TS.of {v : Vlt} (h : VOk v) : TS v v.copies := ⟨h.lt, fun c hc => (h.cpy c hc).item, fun c hc => (h.cpy c hc).carr, fun c hc => (h.cpy c hc).gen⟩
def pairC (c : Cpy) : List UInt8 × List UInt8 := (c.item.data.toList, c.carrier.data.toList)
theorem raw_inj {a b : ByteArray} (h : a.data.toList = b.data.toList) : a = b := by
  cases a; cases b
  congr 1
  exact Array.toList_inj.1 h
/-- The copy that a transfer copies, and the one that it makes. -/
def tfrFrom (v : Vlt) (t : Tfr) : Cpy := v.copies.getD (copyIdx v t.item t.frm).toNat zC
def tfrNew (v : Vlt) (t : Tfr) (day : Int) : Cpy := ⟨t.item, t.to, t.frm, day, day, (tfrFrom v t).gen + 1, []⟩
def tfrFault (v : Vlt) (t : Tfr) (day : Int) : Int :=
  if itemIdx v t.item < 0 ∨ copyIdx v t.item t.frm < 0 ∨ carrIdx v t.to < 0 then 9 else if 0 ≤ copyIdx v t.item t.to then 7
  else if 0 < (tfrFrom v t).bad.length then 11 else if day < (tfrFrom v t).day ∨ (tfrFrom v t).gen = 100 then 1
  else if (carrAt v t.to).room < usedOn v t.to + itemBlocks v t.item then 2 else 0
def tfrC (v : Vlt) (l : List Cpy) (t : Tfr) (day : Int) : List Cpy := insC l (tfrNew (withC v l) t day)
def applyTo (v : Vlt) (day : Int) : List Tfr → List Cpy → Int × List Cpy
  | [], l => (0, l)
  | t :: ts, l => if tfrFault (withC v l) t day ≠ 0 then (tfrFault (withC v l) t day, l) else applyTo v day ts (tfrC v l t day)
def applyFault (v : Vlt) (ts : List Tfr) (day : Int) : Int :=
  if checkV v ≠ 0 then checkV v else if ¬ (0 ≤ day ∧ day ≤ 200000) then 1 else if (applyTo v day ts v.copies).1 ≠ 0 then (applyTo v day ts v.copies).1 else if 200 < (applyTo v day ts v.copies).2.length then 2 else 0
def applyV (v : Vlt) (ts : List Tfr) (day : Int) : Vlt := if applyFault v ts day = 0 then withC v (applyTo v day ts v.copies).2 else ⟨[], [], []⟩
/-- Where Apply stands. -/
def ApS (v : Vlt) (ts : List Tfr) (day : Int) (g : Nat × List Cpy) : Prop := g.1 ≤ ts.length ∧ TS v g.2 ∧ applyTo v day ts v.copies = applyTo v day (ts.drop g.1) g.2
theorem ApS.all {v : Vlt} {ts : List Tfr} {day : Int} {l : List Cpy} (h : ApS v ts day (ts.length, l)) : applyTo v day ts v.copies = (0, l) := by
  rw [h.2.2]
  show applyTo v day (ts.drop ts.length) l = _
  rw [List.drop_length]
  rfl


end Go.Proofs.YtieccphckobhjaaGreatDoor


namespace Go.Proofs.YtieccphckobhjaaGreatDoor
open Go.RowKit
set_option linter.unusedVariables false

/-! Types. -/
namespace TyW16

end TyW16
open TyW16


/-- Room by name. -/
def roomM (v : Vlt) (r : List Int) : List (Value × D) := List.zipWith (fun (c : Carr) (n : Int) => (Value.string c.name, D.v (.int .i64 n))) v.carrs r
end Go.Proofs.YtieccphckobhjaaGreatDoor
