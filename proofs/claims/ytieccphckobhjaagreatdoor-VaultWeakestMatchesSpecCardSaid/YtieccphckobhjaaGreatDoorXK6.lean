/- Walks and laws over abstract values, merged by tools/merge.py. No statement of the seat. -/
import Derived.WalkKit
import Derived.Ground.NamesProg
import Derived.Shelf.Sort.Plain
import Derived.Shelf.Slices.In.SortNone
import Derived.Test.YtieccphckobhjaaGreatDoorProg
import Derived.Test.YtieccphckobhjaaGreatDoorXK5

namespace Go.Proofs.YtieccphckobhjaaGreatDoor
open Go.RowKit
set_option linter.unusedVariables false

/-! Types. -/
namespace TyP1
theorem et_63 : ElemTy Tryz.prog 63 3 1 8 (.int .i64 0) := ⟨by kernel_rfl, by kernel_rfl, by kernel_rfl, by decide⟩
theorem sc_3 : Scal Tryz.prog 3 := .of (by kernel_rfl)
end TyP1
open TyP1


/-- The binary search: the number to which it comes. -/
def bsr (lt : Nat → Bool) (i j : Nat) : Nat := if h : i < j then (if lt ((i + j) / 2) = true then bsr lt ((i + j) / 2 + 1) j else bsr lt i ((i + j) / 2)) else i
termination_by j - i
decreasing_by all_goals omega
def ltI (l : List Int) (x : Int) (k : Nat) : Bool := decide (l.getD k 0 < x)
def posI (l : List Int) (x : Int) : Nat := bsr (ltI l x) 0 l.length
def hasI (l : List Int) (x : Int) : Bool := decide (posI l x < l.length) && decide (l.getD (posI l x) 0 = x)
end Go.Proofs.YtieccphckobhjaaGreatDoor


namespace Go.Proofs.YtieccphckobhjaaGreatDoor
open Go.RowKit
set_option linter.unusedVariables false

/-! Types. -/
namespace TyP2
theorem ag_65 : AggT Tryz.prog 65 7 := .of (by kernel_rfl)
theorem et_24 : ElemTy Tryz.prog 24 65 7 96 (.agg #[(.string ⟨#[]⟩), (.string ⟨#[]⟩), (.string ⟨#[]⟩), (.int .i64 0), (.int .i64 0), (.int .i64 0), (.slice none 0 0)]) := ⟨by kernel_rfl, by kernel_rfl, by kernel_rfl, by decide⟩
theorem fo_26_2 : fieldOff Tryz.prog 26 2 = some 2 := by kernel_rfl
theorem sc_24 : Scal Tryz.prog 24 := .of (by kernel_rfl)
end TyP2
open TyP2


def zC : Cpy := ⟨⟨#[]⟩, ⟨#[]⟩, ⟨#[]⟩, 0, 0, 0, []⟩
def keyC (it ca : ByteArray) : Cpy := { zC with item := it, carrier := ca }
def ltC (l : List Cpy) (t : Cpy) (k : Nat) : Bool := decide (cpyCmp (l.getD k zC) t < 0)
def posC (l : List Cpy) (t : Cpy) : Nat := bsr (ltC l t) 0 l.length
def hasC (l : List Cpy) (t : Cpy) : Bool := decide (posC l t < l.length) && decide (cpyCmp (l.getD (posC l t) zC) t = 0)
end Go.Proofs.YtieccphckobhjaaGreatDoor


namespace Go.Proofs.YtieccphckobhjaaGreatDoor
open Go.RowKit
set_option linter.unusedVariables false

/-! Types. -/
namespace TyP3
theorem ag_65 : AggT Tryz.prog 65 7 := .of (by kernel_rfl)
theorem et_24 : ElemTy Tryz.prog 24 65 7 96 (.agg #[(.string ⟨#[]⟩), (.string ⟨#[]⟩), (.string ⟨#[]⟩), (.int .i64 0), (.int .i64 0), (.int .i64 0), (.slice none 0 0)]) := ⟨by kernel_rfl, by kernel_rfl, by kernel_rfl, by decide⟩
theorem fo_65_0 : fieldOff Tryz.prog 65 0 = some 0 := by kernel_rfl
theorem fo_65_1 : fieldOff Tryz.prog 65 1 = some 1 := by kernel_rfl
theorem fo_65_6 : fieldOff Tryz.prog 65 6 = some 6 := by kernel_rfl
theorem sc_3 : Scal Tryz.prog 3 := .of (by kernel_rfl)
theorem sc_63 : Scal Tryz.prog 63 := .of (by kernel_rfl)
theorem sc_9 : Scal Tryz.prog 9 := .of (by kernel_rfl)
end TyP3
open TyP3


theorem idx_any {α : Type} {p : α → Bool} {l : List α} : decide (idxBy p l ≥ 0) = l.any p := by
  cases h : l.any p with
  | true => unfold idxBy; rw [if_pos h]; simp
  | false => unfold idxBy; rw [if_neg (by rw [h]; simp)]; decide
/-- Is the block right in another copy of the same item? -/
def whole1 (c : Cpy) (n : Int) (x : Cpy) : Bool := decide (x.item = c.item) && (decide (x.carrier ≠ c.carrier) && !decide (n ∈ x.bad))


end Go.Proofs.YtieccphckobhjaaGreatDoor


namespace Go.Proofs.YtieccphckobhjaaGreatDoor
open Go.RowKit
set_option linter.unusedVariables false

/-! Types. -/
namespace TyP4

end TyP4
open TyP4


def cpyS (b : Nat) (c : Cpy) : List S := [.d (.v (.string c.item)), .d (.v (.string c.carrier)), .d (.v (.string c.frm)), .d (.v (.int .i64 c.day)), .d (.v (.int .i64 c.last)), .d (.v (.int .i64 c.gen)), .own b]
/-- The copies as cells: the damaged blocks of each lie in an own row, numbered from b on. -/
def cpysS : Nat → List Cpy → List (List S)
  | _, [] => []
  | b, c :: l => cpyS b c :: cpysS (b + 1) l
def badsD (l : List Cpy) : List (List (List D)) := l.map fun c => c.bad.map intD
def famC (l : List Cpy) : Obs := fam 3 1 1000 (badsD l)
def vaultS (v : Vlt) : List S := [.d (.sl (v.items.map Item.ds)), .d (.sl (v.carrs.map Carr.ds)), .own 101]
/-- The copies of a vault of the program's own, as objects. -/
def vObs (l : List Cpy) : Obs := (101, .rowS 65 7 (cpysS 1000 l)) :: famC l
end Go.Proofs.YtieccphckobhjaaGreatDoor


namespace Go.Proofs.YtieccphckobhjaaGreatDoor
open Go.RowKit
set_option linter.unusedVariables false

/-! Types. -/
namespace TyP5

end TyP5
open TyP5


structure Hrm where
  day : Int
  item : ByteArray
  carrier : ByteArray
  block : Int
def Hrm.ds (h : Hrm) : List D := [.v (.int .i64 h.day), .v (.string h.item), .v (.string h.carrier), .v (.int .i64 h.block)]
def insI (l : List Int) (x : Int) : List Int := if hasI l x = true then l else l.take (posI l x) ++ [x] ++ l.drop (posI l x)
def harmC (l : List Cpy) (h : Hrm) : List Cpy := if hasC l (keyC h.item h.carrier) = true then l.modify (posC l (keyC h.item h.carrier)) (fun c => { c with bad := insI c.bad h.block }) else l
def harm0 (v : Vlt) : Obs := (100, .val (vaultS v)) :: vObs v.copies
end Go.Proofs.YtieccphckobhjaaGreatDoor


namespace Go.Proofs.YtieccphckobhjaaGreatDoor
open Go.RowKit
set_option linter.unusedVariables false

/-! Types. -/
namespace TyP6

end TyP6
open TyP6


/-- Is block n of copy c right in another copy of the same item? -/
def fixB (l : List Cpy) (c : Cpy) (n : Int) : Bool := l.any (whole1 c n)
def stillI (l : List Cpy) (c : Cpy) : List Int := c.bad.filter fun n => !fixB l c n
structure Dn where
  day : Int
  item : ByteArray
  carrier : ByteArray
  fixed : Int
  lost : Int
def Dn.ds (d : Dn) : List D := [.v (.int .i64 d.day), .v (.string d.item), .v (.string d.carrier), .v (.int .i64 d.fixed), .v (.int .i64 d.lost)]
def doneC (l : List Cpy) (c : Cpy) (day : Int) : Dn := ⟨day, c.item, c.carrier, ((c.bad.filter (fixB l c)).length : Int), ((stillI l c).length : Int)⟩
def checkedC (l : List Cpy) (k : Nat) (day : Int) : List Cpy := l.modify k fun c => { c with bad := stillI l c, last := day }
/-- The first j damaged blocks. -/
def stillTo (l : List Cpy) (c : Cpy) (j : Nat) : List Int := (c.bad.take j).filter fun n => !fixB l c n
def fixTo (l : List Cpy) (c : Cpy) (j : Nat) : Nat := ((c.bad.take j).filter (fixB l c)).length
end Go.Proofs.YtieccphckobhjaaGreatDoor


namespace Go.Proofs.YtieccphckobhjaaGreatDoor
open Go.RowKit
set_option linter.unusedVariables false

/-! Types. -/
namespace TyQ1

end TyQ1
open TyQ1


/-- Damaged blocks as they must be. -/
def SBad (n : Int) (l : List Int) : Prop := l.Pairwise (· < ·) ∧ ∀ x ∈ l, 0 ≤ x ∧ x ≤ n - 1
/-! What is right of a vault stays right. -/
/-- The vault with other copies. -/
def withC (v : Vlt) (l : List Cpy) : Vlt := { v with copies := l }
/-- A harm that may come. -/
structure HrmOk (v : Vlt) (h : Hrm) : Prop where
  item : 0 ≤ itemIdx v h.item
  carr : 0 ≤ carrIdx v h.carrier
  blk : 0 ≤ h.block ∧ h.block ≤ itemBlocks v h.item - 1
/-! A day. -/
def chk1 (every day : Int) (s : List Cpy × List Dn) (k : Nat) : List Cpy × List Dn :=
  match s.1[k]? with
  | none => s
  | some c => if c.last + every > day then s else (checkedC s.1 k day, s.2 ++ [doneC s.1 c day])
def chkTo (every day : Int) (s : List Cpy × List Dn) : Nat → List Cpy × List Dn
  | 0 => s
  | k + 1 => chk1 every day (chkTo every day s k) k
def dayH (hs : List Hrm) (day : Int) : List Hrm := hs.takeWhile fun h => decide (h.day = day)
structure St where
  l : List Cpy
  hs : List Hrm
  o : List Dn
def day1 (every : Int) (s : St) (day : Int) : St :=
  ⟨(chkTo every day ((dayH s.hs day).foldl harmC s.l, s.o) s.l.length).1, s.hs.drop (dayH s.hs day).length, (chkTo every day ((dayH s.hs day).foldl harmC s.l, s.o) s.l.length).2⟩
def liveTo (every frm : Int) (s : St) : Nat → St
  | 0 => s
  | n + 1 => day1 every (liveTo every frm s n) (frm + n)
/-! All of Live. -/
def harmFault (v : Vlt) (frm to : Int) (hs : List Hrm) (k : Nat) : Int :=
  if h : k < hs.length then
    if ¬ (frm ≤ hs[k].day ∧ hs[k].day ≤ to - 1) then 1
    else if itemIdx v hs[k].item < 0 ∨ carrIdx v hs[k].carrier < 0 then 9
    else if ¬ (0 ≤ hs[k].block ∧ hs[k].block ≤ itemBlocks v hs[k].item - 1) then 1
    else if 0 < k ∧ hs[k].day < (hs[k - 1]'(by omega)).day then 8 else 0
  else 0
def harmsFault (v : Vlt) (frm to : Int) (hs : List Hrm) : Int := if 1000 < (hs.length : Int) then 2 else ffst (harmFault v frm to hs) hs.length
def liveS (v : Vlt) (p : Pol) (frm to : Int) (hs : List Hrm) : St := liveTo p.every frm ⟨v.copies, hs, []⟩ (to - frm).toNat
def liveFault (v : Vlt) (p : Pol) (frm to : Int) (hs : List Hrm) : Int :=
  if bothFault v p ≠ 0 then bothFault v p
  else if ¬ (0 ≤ frm ∧ frm ≤ 200000) ∨ ¬ (frm ≤ to ∧ to ≤ 200001) then 1
  else if harmsFault v frm to hs ≠ 0 then harmsFault v frm to hs
  else if 20000 < (liveS v p frm to hs).o.length then 2 else 0
def liveV (v : Vlt) (p : Pol) (frm to : Int) (hs : List Hrm) : Vlt := if liveFault v p frm to hs = 0 then withC v (liveS v p frm to hs).l else ⟨[], [], []⟩
def liveO (v : Vlt) (p : Pol) (frm to : Int) (hs : List Hrm) : List Dn := if liveFault v p frm to hs = 0 then (liveS v p frm to hs).o else []
/-- Harms that are right. -/
structure HsOk (v : Vlt) (frm to : Int) (hs : List Hrm) : Prop where
  len : hs.length ≤ 1000
  ok : ∀ h ∈ hs, HrmOk v h
  day : ∀ h ∈ hs, frm ≤ h.day ∧ h.day ≤ to - 1
  sorted : hs.Pairwise fun a b => a.day ≤ b.day
end Go.Proofs.YtieccphckobhjaaGreatDoor


namespace Go.Proofs.YtieccphckobhjaaGreatDoor
open Go.RowKit
set_option linter.unusedVariables false

/-! Types. -/
namespace TyQ2

end TyQ2
open TyQ2


structure LvOk (v : Vlt) (p : Pol) (frm to : Int) (hs : List Hrm) : Prop where
  vv : VOk v
  pp : POk p
  both : bothFault v p = 0
  fr : 0 ≤ frm ∧ frm ≤ 200000
  tt : frm ≤ to ∧ to ≤ 200001
  hh : HsOk v frm to hs
  out : (liveS v p frm to hs).o.length ≤ 20000
end Go.Proofs.YtieccphckobhjaaGreatDoor


namespace Go.Proofs.YtieccphckobhjaaGreatDoor
open Go.RowKit
set_option linter.unusedVariables false

/-! Types. -/
namespace TyQ3

end TyQ3
open TyQ3


theorem cb_trans : ∀ (a b c : List UInt8), Lib.compareBytes a b < 0 → Lib.compareBytes b c < 0 → Lib.compareBytes a c < 0
  | [], [], c, h, _ => by simp [Lib.compareBytes] at h
  | [], _ :: _, [], _, h => by simp [Lib.compareBytes] at h
  | [], _ :: _, _ :: _, _, _ => by simp [Lib.compareBytes]
  | _ :: _, [], _, h, _ => by simp [Lib.compareBytes] at h
  | _ :: _, _ :: _, [], _, h => by simp [Lib.compareBytes] at h
  | x :: a, y :: b, z :: c, h1, h2 => by
    unfold Lib.compareBytes at h1 h2 ⊢
    by_cases hxz : x < z
    · rw [if_pos hxz]; decide
    · rw [if_neg hxz]
      by_cases hxy : x < y
      · by_cases hyz : y < z
        · exact absurd (UInt8.lt_trans hxy hyz) hxz
        · rw [if_neg hyz] at h2
          by_cases hzy : z < y
          · rw [if_pos hzy] at h2; simp at h2
          · have : y = z := UInt8.le_antisymm (UInt8.not_lt.1 hzy) (UInt8.not_lt.1 hyz)
            exact absurd (this ▸ hxy) hxz
      · rw [if_neg hxy] at h1
        by_cases hyx : y < x
        · rw [if_pos hyx] at h1; simp at h1
        · rw [if_neg hyx] at h1
          have e : x = y := UInt8.le_antisymm (UInt8.not_lt.1 hyx) (UInt8.not_lt.1 hxy)
          subst e
          rw [if_neg hxz] at h2
          by_cases hzx : z < x
          · rw [if_pos hzx] at h2; simp at h2
          · rw [if_neg hzx] at h2 ⊢
            exact cb_trans a b c h1 h2
theorem strCmp_trans {a b c : ByteArray} (h1 : strCmp a b < 0) (h2 : strCmp b c < 0) : strCmp a c < 0 := cb_trans _ _ _ h1 h2
theorem strCmp_self (a : ByteArray) : strCmp a a = 0 := strCmp_zero.2 rfl
theorem cpyCmp_trans {a b c : Cpy} (h1 : cpyCmp a b < 0) (h2 : cpyCmp b c < 0) : cpyCmp a c < 0 := by
  unfold cpyCmp at *
  by_cases e1 : a.item = b.item
  · rw [if_pos e1] at h1
    by_cases e2 : b.item = c.item
    · rw [if_pos e2] at h2
      rw [if_pos (e1.trans e2)]
      exact strCmp_trans h1 h2
    · rw [if_neg e2] at h2
      rw [if_neg (fun e => e2 (e1.symm.trans e)), e1]
      exact h2
  · rw [if_neg e1] at h1
    by_cases e2 : b.item = c.item
    · rw [if_pos e2] at h2
      rw [if_neg (fun e => e1 (e.trans e2.symm)), ← e2]
      exact h1
    · rw [if_neg e2] at h2
      have h3 := strCmp_trans h1 h2
      rw [if_neg (fun e => by rw [e, strCmp_self] at h3; omega)]
      exact h3
theorem VOk.lt {v : Vlt} (h : VOk v) : ∀ i j (hi : i < v.copies.length) (hj : j < v.copies.length), i < j → cpyCmp v.copies[i] v.copies[j] < 0 := by
  intro i j hi hj hij
  obtain ⟨d, rfl⟩ : ∃ d, j = i + d + 1 := ⟨j - i - 1, by omega⟩
  clear hij
  induction d with
  | zero => exact h.order i hj
  | succ d ih => exact cpyCmp_trans (ih (by omega)) (h.order (i + d + 1) hj)
/-! Who is safe. -/
def copyIdx (v : Vlt) (it ca : ByteArray) : Int := idxBy (fun x : Cpy => decide (x.item = it) && decide (x.carrier = ca)) v.copies
def isHit (v : Vlt) (p : Pol) (it : ByteArray) (f h : Hrm) : Bool := decide (h.item = it) && (decide (h.day ≥ f.day) && (decide (h.day < f.day + p.every) && decide (copyIdx v it h.carrier ≥ 0)))
def addCa (v : Vlt) (p : Pol) (it : ByteArray) (f : Hrm) (acc : List ByteArray) (h : Hrm) : List ByteArray := if isHit v p it f h = true ∧ h.carrier ∉ acc then acc ++ [h.carrier] else acc
def hitC (v : Vlt) (p : Pol) (it : ByteArray) (f : Hrm) (hs : List Hrm) : List ByteArray := hs.foldl (addCa v p it f) []
def cpSafe (p : Pol) (frm : Int) (c : Cpy) : Bool := decide (c.bad = []) && (decide (c.last < frm) && decide (frm ≤ c.last + p.every))
def nOf (v : Vlt) (it : ByteArray) : Nat := (v.copies.filter fun c => decide (c.item = it)).length
def isSafe (v : Vlt) (p : Pol) (frm : Int) (hs : List Hrm) (it : ByteArray) : Bool :=
  (v.copies.all fun c => !decide (c.item = it) || cpSafe p frm c) && ((hs.all fun f => decide ((hitC v p it f hs).length < nOf v it)) && decide (0 < nOf v it))
/-- The copies stay where they are. -/
def Same (l m : List Cpy) : Prop := l.length = m.length ∧ ∀ i (h1 : i < l.length) (h2 : i < m.length), l[i].item = m[i].item ∧ l[i].carrier = m[i].carrier
/-- What holds of the copies of a safe item, in the course of day d: at the beginning of it (lim = d - 1), and from the harms on (lim = d). -/
def Fine (p : Pol) (hs : List Hrm) (it : ByteArray) (d : Int) (c : Cpy) : Prop := c.item = it → (c.bad = [] ∨ ∃ h ∈ hs, h.item = it ∧ h.carrier = c.carrier ∧ c.last < h.day ∧ h.day ≤ d) ∧ c.last ≤ d ∧ d ≤ c.last + p.every
def Pre (p : Pol) (hs : List Hrm) (it : ByteArray) (d : Int) (l : List Cpy) : Prop := ∀ c ∈ l, Fine p hs it d c ∧ (c.item = it → c.last < d)
def Mid (p : Pol) (hs : List Hrm) (it : ByteArray) (d : Int) (l : List Cpy) (k : Nat) : Prop := ∀ i (hi : i < l.length), Fine p hs it d l[i] ∧ (k ≤ i → l[i].item = it → l[i].last < d) ∧ (i < k → l[i].item = it → d + 1 ≤ l[i].last + p.every)
structure SafeC (v : Vlt) (p : Pol) (frm : Int) (hs : List Hrm) (it : ByteArray) : Prop where
  cp : ∀ c ∈ v.copies, c.item = it → c.bad = [] ∧ c.last < frm ∧ frm ≤ c.last + p.every
  few : ∀ f ∈ hs, (hitC v p it f hs).length < nOf v it
  pos : 0 < nOf v it
end Go.Proofs.YtieccphckobhjaaGreatDoor


namespace Go.Proofs.YtieccphckobhjaaGreatDoor
open Go.RowKit
set_option linter.unusedVariables false

/-! Types. -/
namespace TyR1

end TyR1
open TyR1


section
variable (frm every : Int)
def dueAt (c : Cpy) (d : Int) : Prop := fstD frm every c ≤ d ∧ (d - fstD frm every c) % every = 0
instance (c : Cpy) (d : Int) : Decidable (dueAt frm every c d) := by unfold dueAt; infer_instance
def dayTag1 (d : Int) (c : Cpy) (j : Nat) : List (Tsk × Nat) := if dueAt frm every c d then [(⟨d, c.item, c.carrier⟩, j * 1000000 + d.toNat)] else []
/-- What is due on a day, of the first n copies. -/
def dayTag (l : List Cpy) (d : Int) : Nat → List (Tsk × Nat)
  | 0 => []
  | n + 1 => dayTag l d n ++ (match l[n]? with | none => [] | some c => dayTag1 frm every d c n)
def allTag (l : List Cpy) : Nat → List (Tsk × Nat)
  | 0 => []
  | n + 1 => allTag l n ++ dayTag frm every l (frm + n) l.length
end
section
variable {frm every to : Int}
end
/-! When a copy is due. -/
/-- The copy c at the beginning of day d, which was c0 at first. -/
def CI (frm every d : Int) (c0 c : Cpy) : Prop := c.item = c0.item ∧ c.carrier = c0.carrier ∧ ((c.last = c0.last ∧ d ≤ fstD frm every c0) ∨ ∃ m : Nat, c.last = fstD frm every c0 + m * every ∧ c.last < d ∧ d ≤ c.last + every)
/-! The reference's run over the tasks. -/
def keyIdx (l : List Cpy) (it ca : ByteArray) : Nat := l.findIdx fun x => decide (x.item = it) && decide (x.carrier = ca)
def upTo (hs : List Hrm) (d : Int) : List Hrm := hs.takeWhile fun h => decide (h.day ≤ d)
def refT (s : St) (t : Tsk) : St :=
  ⟨checkedC ((upTo s.hs t.day).foldl harmC s.l) (keyIdx ((upTo s.hs t.day).foldl harmC s.l) t.item t.carrier) t.day, s.hs.drop (upTo s.hs t.day).length,
    s.o ++ [doneC ((upTo s.hs t.day).foldl harmC s.l) (((upTo s.hs t.day).foldl harmC s.l).getD (keyIdx ((upTo s.hs t.day).foldl harmC s.l) t.item t.carrier) zC) t.day]⟩
/-- How the copies stand in the course of day d, behind k checks. -/
def MidCI (frm every d : Int) (l0 l : List Cpy) (k : Nat) : Prop := l.length = l0.length ∧ ∀ i (h1 : i < l.length) (h2 : i < l0.length), if i < k then CI frm every (d + 1) l0[i] l[i] else CI frm every d l0[i] l[i]
end Go.Proofs.YtieccphckobhjaaGreatDoor


namespace Go.Proofs.YtieccphckobhjaaGreatDoor
open Go.RowKit
set_option linter.unusedVariables false

/-! Types. -/
namespace TyR2

end TyR2
open TyR2


def sortI (l : List Int) : List Int := l.mergeSort fun a b => decide (a ≤ b)
/-- What the reference's harmed does. -/
def harmR (v : Vlt) (h : Hrm) : List Cpy :=
  if copyIdx v h.item h.carrier < 0 then v.copies
  else if h.block ∈ (v.copies.getD (copyIdx v h.item h.carrier).toNat zC).bad then v.copies
  else v.copies.set (copyIdx v h.item h.carrier).toNat { v.copies.getD (copyIdx v h.item h.carrier).toNat zC with bad := sortI ((v.copies.getD (copyIdx v h.item h.carrier).toNat zC).bad ++ [h.block]) }
/-- Is the block right in a copy of another number, of the same item? -/
def wholeR (l : List Cpy) (i : Nat) (n : Int) : Bool := (List.range l.length).any fun k => !decide (k = i) && (decide ((l.getD k zC).item = (l.getD i zC).item) && !decide (n ∈ (l.getD k zC).bad))
def leftR (l : List Cpy) (i : Nat) : List Int := (l.getD i zC).bad.filter fun b => !wholeR l i b
/-- What the reference's checked does. -/
def chkR (l : List Cpy) (i : Nat) (day : Int) : List Cpy := l.set i { l.getD i zC with bad := leftR l i, last := day }
def dnR (l : List Cpy) (i : Nat) (day : Int) : Dn := ⟨day, (l.getD i zC).item, (l.getD i zC).carrier, ((l.getD i zC).bad.length : Int) - ((leftR l i).length : Int), ((leftR l i).length : Int)⟩
end Go.Proofs.YtieccphckobhjaaGreatDoor


namespace Go.Proofs
open Go.Shelf
def Tryz.l189_ren : Go.Shelf.Ren := ⟨fun | 189 => 103 | 125 => 108 | 257 => 127 | 128 => 136 | 129 => 137 | 294 => 150 | 295 => 151 | 296 => 152 | 297 => 153 | 298 => 154 | 299 => 155 | 216 => 121 | 300 => 156 | 301 => 157 | 328 => 179 | 329 => 159 | 330 => 160 | 331 => 180 | 332 => 181 | 215 => 109 | 343 => 190 | n => n, fun | 28 => 63 | 3 => 3 | 46 => 156 | 0 => 0 | 51 => 91 | 53 => 180 | 4 => 4 | 183 => 173 | 182 => 172 | 131 => 73 | 5 => 5 | 9 => 9 | 218 => 195 | 222 => 199 | 228 => 215 | 229 => 216 | n => n, fun | n => n⟩
end Go.Proofs


namespace Go.Proofs.YtieccphckobhjaaGreatDoor
open Go.RowKit
set_option linter.unusedVariables false

/-- f returns a struct whose parts are as ss', some of them own objects; the object vid is that struct. -/
def XSCall (P : Program) (f : FuncId) (ss : List S) (σ σ' : Obs) (chg : Nat → Bool) (s : S) : Prop := Enters P f ∧
  ∀ (F : Nat → Prop) (ρ : Nat → Value) (B : Nat) (w : World) (vs : List Value), (∀ b, F b → b < w.heap.size) → B ≤ w.heap.size → ObsOk B F ρ w σ → RepSL F ρ w vs ss →
    Calls P f vs.toArray w fun e w' => ∃ v F' ρ', e = .returned v ∧ RepS F' ρ' w' v s ∧ XEnd B F ρ w σ F' ρ' w' σ' chg

def RetXC (b : Nat) (ds : List D) (σ' : Obs) : Post := fun ex e σ => match ex with
  | .ret => (∃ cid, e b = .ptr cid 0 ∧ (cid, Ob.cells (ds.map S.d)) ∈ σ) ∧ AllIn σ σ'
  | .normal => (∃ cid, e b = .ptr cid 0 ∧ (cid, Ob.cells (ds.map S.d)) ∈ σ) ∧ AllIn σ σ'
  | _ => False
def RetXV (b vid : Nat) (ss' : List S) (σr : Obs) : Post := fun ex e σ => match ex with
  | .ret => (∃ cid ssr, e b = .ptr cid 0 ∧ (cid, Ob.cells ssr) ∈ σ ∧ ssr.map (S.kill vid) = ss' ∧ Obs.fresh vid σr = true ∧ Obs.kill vid σr = σr) ∧ AllIn σ σr
  | .normal => (∃ cid ssr, e b = .ptr cid 0 ∧ (cid, Ob.cells ssr) ∈ σ ∧ ssr.map (S.kill vid) = ss' ∧ Obs.fresh vid σr = true ∧ Obs.kill vid σr = σr) ∧ AllIn σ σr
  | _ => False
section
variable {cx : Cx} {ops : Array Oper} {o : Oper} {rest : List Oper} {e : Env} {σ : Obs} {Q : Post}
end
end Go.Proofs.YtieccphckobhjaaGreatDoor


namespace Go.Proofs.YtieccphckobhjaaGreatDoor
open Go.RowKit
set_option linter.unusedVariables false

/-- One step; sl: who reads objects, ef: who writes them. -/
def HStep (cx : Cx) (ops : Array Oper) (sl ef : Nat → Bool) (I : Obs → Prop) (k : Nat) (o : Oper) (e : Env) (σ : Obs) (e' : Env) (σ' : Obs) : Prop :=
  (GW ops o e true ∧ ∃ s, ((sl k = true ∧ AOp cx.P cx.B ops o e σ s) ∨ (I σ ∧ ∀ τ, I τ → AOp cx.P cx.B ops o e τ s)) ∧ e' = e.put o.dst s ∧ σ' = σ) ∨
  (GW ops o e false ∧ e' = e.put o.dst (.d (.v undef)) ∧ σ' = σ) ∨
  (GW ops o e true ∧ ef k = true ∧ o.dst = none ∧ EOp cx ops o e σ σ' ∧ e' = e ∧ I σ ∧ I σ')

def HRun (cx : Cx) (ops : Array Oper) (sl ef : Nat → Bool) (I : Obs → Prop) : Nat → List Oper → Env → Obs → (Env → Obs → Prop) → Prop
  | _, [], e, σ, Q => Q e σ
  | k, o :: l, e, σ, Q => DstOk cx.N o ∧ ∃ e' σ', HStep cx ops sl ef I k o e σ e' σ' ∧ HRun cx ops sl ef I (k + 1) l e' σ' Q

def anyH (cx : Cx) (ops : Array Oper) (sl ef : Nat → Bool) (I : Obs → Prop) (Q : Env → Obs → Prop) : Nat → Array Bool → Env → Obs → Prop
  | 0, listed, e, σ => Region.ready .any ops listed = [] ∧ Q e σ
  | fuel + 1, listed, e, σ => (Region.ready .any ops listed = [] → Q e σ) ∧
      ∀ i ∈ Region.ready .any ops listed, ∀ o, ops[i]? = some o → ∃ e' σ', HStep cx ops sl ef I i o e σ e' σ' ∧ anyH cx ops sl ef I Q fuel (listed.setIfInBounds i true) e' σ'

section
variable {cx : Cx} {ops : Array Oper} {o : Oper} {rest : List Oper} {e : Env} {σ : Obs} {sl ef : Nat → Bool} {I : Obs → Prop} {n : Nat} {l : List Oper} {Q : Env → Obs → Prop}
theorem HRun.nil (h : Q e σ) : HRun cx ops sl ef I n [] e σ Q := h
end
end Go.Proofs.YtieccphckobhjaaGreatDoor


namespace Go.Proofs.YtieccphckobhjaaGreatDoor
open Go.RowKit
set_option linter.unusedVariables false

/-- What the operation gives depends on x's value alone; or it gives nothing. -/
def PureOp (P : Program) (o : Oper) (x : Operand) : Prop := ∀ u : Value, (∃ v, ∀ (a : Act) (w : World), a.eval x = u → (execOp a.eval o).run P w = .ok (.value v) w) ∨
  (∀ (a : Act) (w : World) (K : Act → World → Prop) (Q : Exit → Act → World → Prop), (∀ e a w, e ≠ .normal → ¬ Q e a w) → a.eval x = u → ¬ o.wp P a w K Q)
theorem PureOp.move {P : Program} {o : Oper} {x : Operand} (h : o.op = .move x) : PureOp P o x := fun u => .inl ⟨u, fun a w hx => by
  unfold execOp
  simp only [h, hx, Sem.run_pure]⟩
theorem PureOp.extract {P : Program} {o : Oper} {x : Operand} {i : Nat} (h : o.op = .extract x i) : PureOp P o x := fun u => by
  by_cases hu : ∃ vs v, u = .tuple vs ∧ vs[i]? = some v
  · obtain ⟨vs, v, rfl, hv⟩ := hu
    refine .inl ⟨v, fun a w hx => ?_⟩
    unfold execOp
    simp only [h, hx, Instr.extract, hv, Sem.run_bind, Sem.run_pure, Result.andThen_ok]
  · refine .inr fun a w K Q hQ hx hw => ?_
    unfold Oper.wp execOp at hw
    simp only [h, hx] at hw
    cases u with
    | tuple vs =>
      cases hv : vs[i]? with
      | some v => exact hu ⟨vs, v, rfl, hv⟩
      | none => simp only [Instr.extract, hv, Sem.run_bind] at hw; exact hw
    | _ => simp only [Instr.extract, Sem.run_bind] at hw; exact hw
/-- From k on each one waits for all before it, but for those of L ahead of k. -/
def Region.chainLB (ops : Array Oper) (L : Nat → Bool) (k : Nat) : Bool := Region.downB ops && Nat.ble k ops.size && (List.range (ops.size - 1)).all fun j =>
  (L j && Nat.blt j k) || (List.range ops.size).any fun m => Nat.blt j m && (Nat.ble m k || Nat.ble m (j + 1)) && (!(L m) || Nat.ble k m) && Region.edge ops m j
structure ChainL (ops : Array Oper) (L : Nat → Bool) (k : Nat) : Prop where
  down : Region.downB ops = true
  le : k ≤ ops.size
  next : ∀ j, (L j = false ∨ k ≤ j) → j < ops.size - 1 → ∃ m, j < m ∧ (m ≤ k ∨ m ≤ j + 1) ∧ (L m = false ∨ k ≤ m) ∧ Region.edge ops m j = true
theorem ChainL.of {ops : Array Oper} {L : Nat → Bool} {k : Nat} (h : Region.chainLB ops L k = true) : ChainL ops L k := by
  unfold Region.chainLB at h
  simp only [Bool.and_eq_true] at h
  obtain ⟨⟨h1, h2⟩, h3⟩ := h
  refine ⟨h1, Nat.le_of_ble_eq_true h2, fun j hL hj => ?_⟩
  have h4 := List.all_eq_true.1 h3 j (List.mem_range.2 hj)
  rw [Bool.or_eq_true] at h4
  rcases h4 with h4 | h4
  · simp only [Bool.and_eq_true, Nat.blt_eq] at h4
    rcases hL with hL | hL
    · rw [hL] at h4; simp at h4
    · omega
  · obtain ⟨m, _, hm⟩ := List.any_eq_true.1 h4
    simp only [Bool.and_eq_true, Bool.or_eq_true, Nat.blt_eq, Bool.not_eq_true'] at hm
    exact ⟨m, hm.1.1.1, hm.1.1.2.imp Nat.le_of_ble_eq_true Nat.le_of_ble_eq_true, hm.1.2.imp id Nat.le_of_ble_eq_true, hm.2⟩
section
variable {P : Program} {ops : Array Oper} {Q Q0 : Exit → Act → World → Prop} {k : Nat} {L : Nat → Bool}
/-- The operations of L: pure, unguarded, apart from whoever is not bound to come after. -/
structure LateOk (P : Program) (ops : Array Oper) (L : Nat → Bool) (k : Nat) : Prop where
  op : ∀ i, L i = true → i < k → ∃ oi x d, ops[i]? = some oi ∧ PureOp P oi x ∧ (∀ t, x = .tmp t → t ∈ oi.looksAt ops) ∧ oi.dst = some d ∧ oi.guard = none
  sel : ∀ (j : Nat) (oj : Oper), ops[j]? = some oj → notSelect oj = true
  apart : ∀ i oi, L i = true → i < k → ops[i]? = some oi → ∀ (j : Nat) (oj : Oper), ops[j]? = some oj → j ≠ i → (∀ e ∈ oj.after, Region.binds .any e = true → e.on ≠ i) → (∀ e ∈ oi.after, Region.binds .any e = true → e.on ≠ j) → oi.apart ops oj = true
end
/-- The late ones, by a look at them. -/
def pureB (o : Oper) : Bool := (match o.op with | .move _ => true | .extract _ _ => true | _ => false) && o.guard.isNone && o.dst.isSome
theorem pureB_spec {P : Program} {ops : Array Oper} {o : Oper} (h : pureB o = true) : ∃ x d, PureOp P o x ∧ (∀ t, x = .tmp t → t ∈ o.looksAt ops) ∧ o.dst = some d ∧ o.guard = none := by
  unfold pureB at h
  simp only [Bool.and_eq_true] at h
  obtain ⟨⟨h1, h2⟩, h3⟩ := h
  obtain ⟨d, hd⟩ := Option.isSome_iff_exists.1 h3
  have hg : o.guard = none := by simpa using h2
  cases hop : o.op with
  | move x => exact ⟨x, d, .move hop, fun t ht => looks_op (by rw [hop, ht]; simp [Op.operands]), hd, hg⟩
  | extract x i => exact ⟨x, d, .extract hop, fun t ht => looks_op (by rw [hop, ht]; simp [Op.operands]), hd, hg⟩
  | _ => rw [hop] at h1; simp at h1
def lateB (ops : Array Oper) (L : List Nat) (k : Nat) : Bool := (ops.toList.all notSelect) && L.all fun i => Nat.blt i k && ((ops[i]?).map fun oi => pureB oi && (List.range ops.size).all fun j => Nat.beq j i || Region.edge ops j i || Region.edge ops i j || ((ops[j]?).map fun oj => oi.apart ops oj).getD true).getD false
theorem LateOk.of {P : Program} {ops : Array Oper} {L : List Nat} {k : Nat} (h : lateB ops L k = true) : LateOk P ops (fun i => L.contains i) k := by
  unfold lateB at h
  simp only [Bool.and_eq_true] at h
  have hL : ∀ i, L.contains i = true → ∃ oi, ops[i]? = some oi ∧ pureB oi = true ∧ ∀ j oj, ops[j]? = some oj → j ≠ i → (∀ e ∈ oj.after, Region.binds .any e = true → e.on ≠ i) → (∀ e ∈ oi.after, Region.binds .any e = true → e.on ≠ j) → oi.apart ops oj = true := fun i hi => by
    have h1 := List.all_eq_true.1 h.2 i (List.contains_iff_mem.1 hi)
    simp only [Bool.and_eq_true] at h1
    cases ho : ops[i]? with
    | none => rw [ho] at h1; simp at h1
    | some oi =>
      rw [ho] at h1
      simp only [Option.map_some, Option.getD_some, Bool.and_eq_true] at h1
      refine ⟨oi, rfl, h1.2.1, fun j oj hj hji hn hn2 => ?_⟩
      have h2 := List.all_eq_true.1 h1.2.2 j (List.mem_range.2 (Array.getElem?_eq_some_iff.1 hj).1)
      rw [hj] at h2
      simp only [Option.map_some, Option.getD_some, Bool.or_eq_true] at h2
      rcases h2 with ((h2 | h2) | h2) | h2
      · exact absurd (Nat.eq_of_beq_eq_true h2) hji
      · obtain ⟨o, ho2, e, he, hb, heq⟩ := Region.edge_spec h2
        rw [hj] at ho2; cases ho2
        exact absurd heq (hn e he hb)
      · obtain ⟨o, ho2, e, he, hb, heq⟩ := Region.edge_spec h2
        rw [ho] at ho2; cases ho2
        exact absurd heq (hn2 e he hb)
      · exact h2
  refine ⟨fun i hi _ => ?_, fun j oj hj => List.all_eq_true.1 h.1 oj (by simpa using Array.mem_of_getElem? hj), fun i oi hi _ hoi j oj hj hji hn hn2 => ?_⟩
  · obtain ⟨oi, h1, h2, _⟩ := hL i hi
    obtain ⟨x, d, h3, h4, h5, h6⟩ := pureB_spec (P := P) (ops := ops) h2
    exact ⟨oi, x, d, h1, h3, h4, h5, h6⟩
  · obtain ⟨oi', h1, _, h3⟩ := hL i hi
    rw [hoi] at h1; cases h1
    exact h3 j oj hj hji hn hn2
def QN (Q : Post) : Post := fun ex e σ => match ex with | .normal => Q .normal e σ | _ => False
end Go.Proofs.YtieccphckobhjaaGreatDoor


namespace Go.Proofs.YtieccphckobhjaaGreatDoor
open Go.RowKit
set_option linter.unusedVariables false

def Env.puts (e : Env) : List (Nat × S) → Env
  | [] => e
  | p :: l => Env.puts (e.put (some p.1) p.2) l
theorem puts_other {t : Nat} : ∀ {l : List (Nat × S)} {e : Env}, t ∉ l.map Prod.fst → Env.puts e l t = e t
  | [], _, _ => rfl
  | p :: l, e, h => by
    simp only [List.map_cons, List.mem_cons, not_or] at h
    unfold Env.puts
    rw [puts_other h.2, Env.put_other _ _ _ _ h.1]
theorem puts_put {dst : Option Nat} {s : S} : ∀ {l : List (Nat × S)} {e : Env}, (∀ d, dst = some d → d ∉ l.map Prod.fst) → Env.puts (e.put dst s) l = (Env.puts e l).put dst s
  | [], _, _ => rfl
  | p :: l, e, h => by
    unfold Env.puts
    rw [Env.put_comm e dst (some p.1) s p.2 (fun d hd he => h d hd (by rw [← Option.some.inj he]; simp)), puts_put fun d hd hm => h d hd (by simp only [List.map_cons, List.mem_cons]; exact .inr hm)]
/-- An object that the region makes, and the slots that may hold it. -/
structure Fc where
  id : Nat
  slots : List Nat
def Clean (Φ : List Fc) (e : Env) : Prop := ∀ f ∈ Φ, ∀ t, f.slots.contains t = false → (e t).kill f.id = e t
def QE (e1 : Env) (σ1 : Obs) : Post := fun ex e σ => match ex with | .normal => e = e1 ∧ σ = σ1 | _ => False
/-- An operation that makes or turns objects: the slots that it sets, the objects behind it. -/
def GE (cx : Cx) (ops : Array Oper) (Φ : List Fc) (o : Oper) (e : Env) (σ : Obs) (si : List (Nat × S)) (σ' : Obs) : Prop :=
  ∀ e0 : Env, (∀ t, t ∈ o.looksAt ops → e0 t = e t) → (∀ t, t ∈ si.map Prod.fst → e0 t = e t) → Clean Φ e0 → AOps cx ops [o] e0 σ (QE (Env.puts e0 si) σ')
def LStep (cx : Cx) (ops : Array Oper) (Φ : List Fc) (ef : Nat → Bool) (K : Nat → List Nat) (I : Obs → Prop) (k : Nat) (o : Oper) (e : Env) (σ : Obs) (e' : Env) (σ' : Obs) : Prop :=
  (GW ops o e true ∧ ef k = false ∧ ∃ s, I σ ∧ (∀ τ, I τ → AOp cx.P cx.B ops o e τ s) ∧ (∀ f ∈ Φ, (∃ t, o.dst = some t ∧ f.slots.contains t = true) ∨ s.kill f.id = s) ∧ e' = e.put o.dst s ∧ σ' = σ) ∨
  (GW ops o e false ∧ ef k = false ∧ e' = e.put o.dst (.d (.v undef)) ∧ σ' = σ) ∨
  (GW ops o e true ∧ ef k = true ∧ I σ ∧ I σ' ∧ ∃ si, si.map Prod.fst = K k ∧ GE cx ops Φ o e σ si σ' ∧ (∀ p ∈ si, ∀ f ∈ Φ, f.slots.contains p.1 = true ∨ p.2.kill f.id = p.2) ∧ e' = Env.puts e si)
def LRun (cx : Cx) (ops : Array Oper) (Φ : List Fc) (ef : Nat → Bool) (K : Nat → List Nat) (I : Obs → Prop) : Nat → List Oper → Env → Obs → (Env → Obs → Prop) → Prop
  | _, [], e, σ, Q => Q e σ
  | k, o :: l, e, σ, Q => DstOk cx.N o ∧ ∃ e' σ', LStep cx ops Φ ef K I k o e σ e' σ' ∧ LRun cx ops Φ ef K I (k + 1) l e' σ' Q
def anyL (cx : Cx) (ops : Array Oper) (Φ : List Fc) (ef : Nat → Bool) (K : Nat → List Nat) (I : Obs → Prop) (Q : Env → Obs → Prop) : Nat → Array Bool → Env → Obs → Prop
  | 0, listed, e, σ => Region.ready .any ops listed = [] ∧ Q e σ
  | fuel + 1, listed, e, σ => (Region.ready .any ops listed = [] → Q e σ) ∧
      ∀ i ∈ Region.ready .any ops listed, ∀ o, ops[i]? = some o → ∃ e' σ', LStep cx ops Φ ef K I i o e σ e' σ' ∧ anyL cx ops Φ ef K I Q fuel (listed.setIfInBounds i true) e' σ'
/-- The slots of one are none of the other's. -/
def keysOkB (ops : Array Oper) (K : Nat → List Nat) (i j : Nat) (oi oj : Oper) : Bool :=
  ((K i).all fun k => !((oj.looksAt ops).contains k) && neDst oj k) && ((K j).all fun k => !((oi.looksAt ops).contains k) && neDst oi k) && (!(K i).any fun k => (K j).contains k)
theorem keysOk_l {ops : Array Oper} {K : Nat → List Nat} {i j : Nat} {oi oj : Oper} (h : keysOkB ops K i j oi oj = true) : ∀ k ∈ K i, k ∉ oj.looksAt ops ∧ oj.dst ≠ some k := fun k hk => by
  unfold keysOkB at h
  simp only [Bool.and_eq_true] at h
  have h1 := List.all_eq_true.1 h.1.1 k hk
  simp only [Bool.and_eq_true, Bool.not_eq_true', List.contains_eq_mem, decide_eq_false_iff_not] at h1
  exact ⟨h1.1, neDst_spec h1.2⟩
theorem keysOk_r {ops : Array Oper} {K : Nat → List Nat} {i j : Nat} {oi oj : Oper} (h : keysOkB ops K i j oi oj = true) : ∀ k ∈ K j, k ∉ oi.looksAt ops ∧ oi.dst ≠ some k := fun k hk => by
  unfold keysOkB at h
  simp only [Bool.and_eq_true] at h
  have h1 := List.all_eq_true.1 h.1.2 k hk
  simp only [Bool.and_eq_true, Bool.not_eq_true', List.contains_eq_mem, decide_eq_false_iff_not] at h1
  exact ⟨h1.1, neDst_spec h1.2⟩
theorem GE.same {cx : Cx} {ops : Array Oper} {Φ : List Fc} {o : Oper} {e e' : Env} {σ σ' : Obs} {si : List (Nat × S)} (h : GE cx ops Φ o e σ si σ') (h1 : ∀ t, t ∈ o.looksAt ops → e' t = e t) (h2 : ∀ t, t ∈ si.map Prod.fst → e' t = e t) : GE cx ops Φ o e' σ si σ' :=
  fun e0 k1 k2 k3 => h e0 (fun t ht => (k1 t ht).trans (h1 t ht)) (fun t ht => (k2 t ht).trans (h2 t ht)) k3
theorem anyL_first {cx : Cx} {ops : Array Oper} {Φ : List Fc} {ef : Nat → Bool} {K : Nat → List Nat} {I : Obs → Prop} (hK : ∀ k, ef k = false → K k = []) {Q : Env → Obs → Prop} {i : Nat} {oi : Oper} (hi : ops[i]? = some oi) (late : Nat → Bool)
    (hclos : ∀ j oj, ops[j]? = some oj → late j = true → ∃ e ∈ oj.after, Region.binds .any e = true ∧ (e.on = i ∨ late e.on = true)) :
    ∀ (fuel : Nat) (listed : Array Bool) (e : Env) (σ : Obs) (e1 : Env) (σ1 : Obs), (∀ j, late j = true → listed.getD j false = false) →
      (∀ j oj, ops[j]? = some oj → j ≠ i → listed.getD j true = false → (∀ e ∈ oj.after, Region.binds .any e = true → e.on ≠ i) → oi.apart ops oj = true ∧ (late j = false → (ef i = false ∨ ef j = false) ∧ keysOkB ops K i j oi oj = true)) →
      i ∈ Region.ready .any ops listed → LStep cx ops Φ ef K I i oi e σ e1 σ1 → anyL cx ops Φ ef K I Q fuel (listed.setIfInBounds i true) e1 σ1 → anyL cx ops Φ ef K I Q (fuel + 1) listed e σ := by
  intro fuel
  induction fuel with
  | zero =>
    intro listed e σ e1 σ1 _ _ hr hy H
    refine ⟨fun h => (by rw [h] at hr; cases hr), fun j hj o ho => ?_⟩
    by_cases hji : j = i
    · subst hji
      rw [hi] at ho; cases ho
      exact ⟨e1, σ1, hy, H⟩
    · have := ready_mono hj hji
      rw [H.1] at this
      cases this
  | succ fuel ih =>
    intro listed e σ e1 σ1 hlate hfree hr hy H
    refine ⟨fun h => (by rw [h] at hr; cases hr), fun j hj oj hoj => ?_⟩
    by_cases hji : j = i
    · subst hji
      rw [hi] at hoj; cases hoj
      exact ⟨e1, σ1, hy, H⟩
    · obtain ⟨e2, σ2, h1, h2⟩ := H.2 j (ready_mono hj hji) oj hoj
      obtain ⟨hjun, oj', hoj', hall⟩ := mem_ready.1 hj
      rw [hoj] at hoj'; cases hoj'
      have hnot : ∀ e ∈ oj.after, Region.binds .any e = true → e.on ≠ i := fun e he hb heq => by
        have h1 := hall e he hb
        have h0 := (mem_ready.1 hr).1
        rw [heq] at h1
        rcases Nat.lt_or_ge i listed.size with h' | h'
        · simp [h'] at h0 h1; rw [h0] at h1; cases h1
        · simp [Array.getElem?_eq_none h'] at h1
      have hjl : late j = false := by
        cases hl : late j with
        | false => rfl
        | true =>
          obtain ⟨e, he, hb, hh⟩ := hclos j oj hoj hl
          rcases hh with hh | hh
          · exact absurd hh (hnot e he hb)
          · have h3 := hall e he hb
            rw [hlate _ hh] at h3
            simp at h3
      obtain ⟨hap, hss⟩ := hfree j oj hoj hji hjun hnot
      obtain ⟨hs1, hs2⟩ := hss hjl
      obtain ⟨a1, a2, a3⟩ := Oper.apart_spec hap
      have kl := keysOk_l hs2
      have kr := keysOk_r hs2
      have fin : ∀ ej σj, LStep cx ops Φ ef K I j oj e σ ej σj → LStep cx ops Φ ef K I i oi ej σj e2 σ2 → ∃ e' σ', LStep cx ops Φ ef K I j oj e σ e' σ' ∧ anyL cx ops Φ ef K I Q (fuel + 1) (listed.setIfInBounds j true) e' σ' := fun ej σj hsj hsi => by
        refine ⟨ej, σj, hsj, ?_⟩
        refine ih (listed.setIfInBounds j true) ej σj e2 σ2 (fun k hk => ?_) (fun k ok hk hki hun hno => ?_) (ready_mono hr (Ne.symm hji)) hsi ?_
        · have hkj : j ≠ k := fun h => by rw [h, hk] at hjl; simp at hjl
          rw [getD_set_ne false hkj]
          exact hlate k hk
        · refine hfree k ok hk hki ?_ hno
          by_cases hjk : j = k
          · subst hjk; exact hjun
          · rw [getD_set_ne true hjk] at hun; exact hun
        · rw [Array.setIfInBounds_comm _ _ hji]
          exact h2
      have look1 : ∀ {s : S} t, t ∈ oj.looksAt ops → (e.put oi.dst s) t = e t := fun t ht => put_looks a1 t ht
      have look2 : ∀ {s : S} t, t ∈ oi.looksAt ops → (e.put oj.dst s) t = e t := fun t ht => put_looks a3 t ht
      rcases hy with ⟨hgi, hei, s, hI, hopi, hcl, rfl, rfl⟩ | ⟨hgi, hei, rfl, rfl⟩ | ⟨hgi, hei, hi1, hi2, si, hki, hopi, hci, rfl⟩
      · rcases h1 with ⟨hgj, hej, sj, hIj, hopj, hclj, rfl, rfl⟩ | ⟨hgj, hej, rfl, rfl⟩ | ⟨hgj, hej, hj1, hj2, sj, hkj, hopj, hcj, rfl⟩
        · exact fin (e.put oj.dst sj) _ (.inl ⟨hgj.same fun t ht => (look1 t ht).symm, hej, sj, hIj, fun τ hτ => (hopj τ hτ).same fun t ht => (look1 t ht).symm, hclj, rfl, rfl⟩) (.inl ⟨hgi.same (fun t ht => look2 t ht), hei, s, hI, fun τ hτ => (hopi τ hτ).same (fun t ht => look2 t ht), hcl, (Env.put_comm e oi.dst oj.dst s sj a2), rfl⟩)
        · exact fin (e.put oj.dst (.d (.v undef))) _ (.inr (.inl ⟨hgj.same fun t ht => (look1 t ht).symm, hej, rfl, rfl⟩)) (.inl ⟨hgi.same (fun t ht => look2 t ht), hei, s, hI, fun τ hτ => (hopi τ hτ).same (fun t ht => look2 t ht), hcl, (Env.put_comm e oi.dst oj.dst s _ a2), rfl⟩)
        · have hkd : ∀ d, oi.dst = some d → d ∉ sj.map Prod.fst := fun d hd hm => by rw [hkj] at hm; exact (kr d hm).2 hd
          have hkl : ∀ t, t ∈ oi.looksAt ops → Env.puts e sj t = e t := fun t ht => puts_other fun hm => by rw [hkj] at hm; exact (kr t hm).1 ht
          refine fin (Env.puts e sj) σ2 (.inr (.inr ⟨hgj.same fun t ht => (look1 t ht).symm, hej, hj1, hj2, sj, hkj, hopj.same (fun t ht => (look1 t ht).symm) (fun t ht => ?_), hcj, rfl⟩)) (.inl ⟨hgi.same hkl, hei, s, hj2, fun τ hτ => (hopi τ hτ).same hkl, hcl, puts_put hkd, rfl⟩)
          cases hd : oi.dst with
          | none => rfl
          | some d => exact (Env.put_other _ _ _ _ (fun (he : t = d) => hkd d hd (he ▸ ht))).symm
      · rcases h1 with ⟨hgj, hej, sj, hIj, hopj, hclj, rfl, rfl⟩ | ⟨hgj, hej, rfl, rfl⟩ | ⟨hgj, hej, hj1, hj2, sj, hkj, hopj, hcj, rfl⟩
        · exact fin (e.put oj.dst sj) _ (.inl ⟨hgj.same fun t ht => (look1 t ht).symm, hej, sj, hIj, fun τ hτ => (hopj τ hτ).same fun t ht => (look1 t ht).symm, hclj, rfl, rfl⟩) (.inr (.inl ⟨hgi.same (fun t ht => look2 t ht), hei, (Env.put_comm e oi.dst oj.dst _ sj a2), rfl⟩))
        · exact fin (e.put oj.dst (.d (.v undef))) _ (.inr (.inl ⟨hgj.same fun t ht => (look1 t ht).symm, hej, rfl, rfl⟩)) (.inr (.inl ⟨hgi.same (fun t ht => look2 t ht), hei, (Env.put_comm e oi.dst oj.dst _ _ a2), rfl⟩))
        · have hkd : ∀ d, oi.dst = some d → d ∉ sj.map Prod.fst := fun d hd hm => by rw [hkj] at hm; exact (kr d hm).2 hd
          have hkl : ∀ t, t ∈ oi.looksAt ops → Env.puts e sj t = e t := fun t ht => puts_other fun hm => by rw [hkj] at hm; exact (kr t hm).1 ht
          refine fin (Env.puts e sj) σ2 (.inr (.inr ⟨hgj.same fun t ht => (look1 t ht).symm, hej, hj1, hj2, sj, hkj, hopj.same (fun t ht => (look1 t ht).symm) (fun t ht => ?_), hcj, rfl⟩)) (.inr (.inl ⟨hgi.same hkl, hei, puts_put hkd, rfl⟩))
          cases hd : oi.dst with
          | none => rfl
          | some d => exact (Env.put_other _ _ _ _ (fun (he : t = d) => hkd d hd (he ▸ ht))).symm
      · have hkd : ∀ d, oj.dst = some d → d ∉ si.map Prod.fst := fun d hd hm => by rw [hki] at hm; exact (kl d hm).2 hd
        have hkl : ∀ t, t ∈ oj.looksAt ops → Env.puts e si t = e t := fun t ht => puts_other fun hm => by rw [hki] at hm; exact (kl t hm).1 ht
        have hke : ∀ {s : S} t, t ∈ si.map Prod.fst → (e.put oj.dst s) t = e t := fun {s} t ht => by
          cases hd : oj.dst with
          | none => rfl
          | some d => exact Env.put_other _ _ _ _ (fun he => hkd d hd (he ▸ ht))
        rcases h1 with ⟨hgj, hej, sj, hIj, hopj, hclj, rfl, rfl⟩ | ⟨hgj, hej, rfl, rfl⟩ | ⟨hgj, hej, hj1, hj2, sj, hkj, hopj, hcj, rfl⟩
        · exact fin (e.put oj.dst sj) σ (.inl ⟨hgj.same fun t ht => (hkl t ht).symm, hej, sj, hi1, fun τ hτ => (hopj τ hτ).same fun t ht => (hkl t ht).symm, hclj, rfl, rfl⟩) (.inr (.inr ⟨hgi.same (fun t ht => look2 t ht), hei, hi1, hi2, si, hki, hopi.same (fun t ht => look2 t ht) (fun t ht => hke t ht), hci, (puts_put hkd).symm⟩))
        · exact fin (e.put oj.dst (.d (.v undef))) σ (.inr (.inl ⟨hgj.same fun t ht => (hkl t ht).symm, hej, rfl, rfl⟩)) (.inr (.inr ⟨hgi.same (fun t ht => look2 t ht), hei, hi1, hi2, si, hki, hopi.same (fun t ht => look2 t ht) (fun t ht => hke t ht), hci, (puts_put hkd).symm⟩))
        · rcases hs1 with h | h
          · rw [hei] at h; simp at h
          · rw [hej] at h; simp at h
/-- The check: whoever is free to change places has nothing to do with the other. -/
def Region.keysFree (ops : Array Oper) (ef : Nat → Bool) (K : Nat → List Nat) (listed : Array Bool) (k : Nat) (late : Nat → Bool) : Bool :=
  (List.range ops.size).all fun j =>
    (!(late j) || (!(listed.getD j false) && ((ops[j]?).map fun o => o.after.any fun e => Region.binds .any e && (Nat.beq e.on k || late e.on)).getD true)) &&
    (Nat.beq j k || listed.getD j true || late j || Region.edge ops j k || ((!(ef k) || !(ef j)) && ((ops[k]?).bind fun oi => (ops[j]?).map fun oj => keysOkB ops K k j oi oj).getD false))
def Region.keysFrom (ops : Array Oper) (ef : Nat → Bool) (K : Nat → List Nat) : Nat → Nat → Array Bool → Bool
  | 0, _, _ => true
  | fuel + 1, k, listed => Region.keysFree ops ef K listed k (Region.lateB ops k) && Region.keysFrom ops ef K fuel (k + 1) (listed.setIfInBounds k true)
theorem Region.keysFree_spec {ops : Array Oper} {ef : Nat → Bool} {K : Nat → List Nat} {listed : Array Bool} {k : Nat} {oi : Oper} {late : Nat → Bool} (h : Region.keysFree ops ef K listed k late = true) (hk : ops[k]? = some oi) (hl : ∀ j, late j = true → j < ops.size) :
    (∀ j oj, ops[j]? = some oj → late j = true → ∃ e ∈ oj.after, Region.binds .any e = true ∧ (e.on = k ∨ late e.on = true)) ∧ (∀ j, late j = true → listed.getD j false = false) ∧
    ∀ j oj, ops[j]? = some oj → j ≠ k → listed.getD j true = false → (∀ e ∈ oj.after, Region.binds .any e = true → e.on ≠ k) → late j = false → (ef k = false ∨ ef j = false) ∧ keysOkB ops K k j oi oj = true := by
  have h1 : ∀ j, j < ops.size → _ := fun j hj => List.all_eq_true.1 h j (List.mem_range.2 hj)
  simp only [Bool.and_eq_true] at h1
  refine ⟨fun j oj hoj hlj => ?_, fun j hlj => ?_, fun j oj hoj hjk hun hno hlj => ?_⟩
  · have h2 := (h1 j (Array.getElem?_eq_some_iff.1 hoj).1).1
    rw [hlj, hoj] at h2
    simp only [Bool.not_true, Bool.false_or, Option.map_some, Option.getD_some, Bool.and_eq_true, Array.any_eq_true'] at h2
    obtain ⟨_, e, he, hb⟩ := h2
    simp only [Bool.or_eq_true] at hb
    exact ⟨e, he, hb.1, hb.2.imp Nat.eq_of_beq_eq_true (fun x => x)⟩
  · have h2 := (h1 j (hl j hlj)).1
    rw [hlj] at h2
    simp only [Bool.not_true, Bool.false_or, Bool.and_eq_true, Bool.not_eq_true'] at h2
    exact h2.1
  · have h2 := (h1 j (Array.getElem?_eq_some_iff.1 hoj).1).2
    have hb : Nat.beq j k = false := by rw [Bool.eq_false_iff]; exact fun hh => hjk (Nat.eq_of_beq_eq_true hh)
    rw [hb, hun, hlj, hk, hoj] at h2
    simp only [Bool.false_or, Bool.or_eq_true, Bool.and_eq_true, Bool.not_eq_true', Option.bind_some, Option.map_some, Option.getD_some] at h2
    rcases h2 with h2 | h2
    · obtain ⟨o, ho, e, he, hb2, heq⟩ := Region.edge_spec h2
      rw [hoj] at ho; cases ho
      exact absurd heq (hno e he hb2)
    · exact h2
theorem anyL_lex {cx : Cx} {ops : Array Oper} {Φ : List Fc} {ef : Nat → Bool} {K : Nat → List Nat} {I : Obs → Prop} (hK : ∀ k, ef k = false → K k = []) {Q : Env → Obs → Prop} : ∀ (l : List Oper) (k : Nat) (listed : Array Bool) (e : Env) (σ : Obs), (∀ j, l[j]? = ops[k + j]?) →
    Region.lexFrom .any ops l.length k listed = true → Region.keysFrom ops ef K l.length k listed = true → LRun cx ops Φ ef K I k l e σ Q → anyL cx ops Φ ef K I Q l.length listed e σ
  | [], _, _, _, _, _, hB, _, h => ⟨by simpa [Region.lexFrom] using hB, h⟩
  | o :: l, k, listed, e, σ, hl, hB, hS, h => by
    have h0 : ops[k]? = some o := by simpa using (hl 0).symm
    simp only [List.length_cons, Region.lexFrom, Bool.and_eq_true] at hB
    simp only [List.length_cons, Region.keysFrom, Bool.and_eq_true] at hS
    obtain ⟨⟨hr, hf⟩, hB'⟩ := hB
    have hl' : ∀ j, l[j]? = ops[k + 1 + j]? := fun j => by have := hl (j + 1); simpa [Nat.add_assoc, Nat.add_comm 1 j] using this
    obtain ⟨_, e', σ', hs, hq⟩ := h
    have hgo := anyL_lex hK l (k + 1) _ _ _ hl' hB' hS.2 hq
    obtain ⟨k1, k2, k3⟩ := Region.keysFree_spec hS.1 h0 (fun j hj => by
      unfold Region.lateB at hj
      simp only [Bool.and_eq_true, Nat.blt_eq] at hj
      exact hj.1)
    exact anyL_first hK h0 _ k1 l.length listed e σ e' σ' k2 (fun j oj hj hji hun hno => ⟨Region.free_spec h0 hf j oj hj hji hun hno, fun hl => k3 j oj hj hji hun hno hl⟩) (by simpa using hr) hs hgo
theorem LRun.dsts {cx : Cx} {ops : Array Oper} {Φ : List Fc} {ef : Nat → Bool} {K : Nat → List Nat} {I : Obs → Prop} {Q : Env → Obs → Prop} : ∀ (l : List Oper) (k : Nat) (e : Env) (σ : Obs), LRun cx ops Φ ef K I k l e σ Q → ∀ o ∈ l, DstOk cx.N o
  | [], _, _, _, _, o, ho => by cases ho
  | x :: l, k, e, σ, h, o, ho => by
    obtain ⟨h1, _, _, _, h2⟩ := h
    cases ho with
    | head => exact h1
    | tail _ ho => exact LRun.dsts l _ _ _ h2 o ho
theorem Clean.put {Φ : List Fc} {e : Env} {dst : Option Nat} {s : S} (h : Clean Φ e) (hs : ∀ f ∈ Φ, (∃ t, dst = some t ∧ f.slots.contains t = true) ∨ s.kill f.id = s) : Clean Φ (e.put dst s) := fun f hf t ht => by
  cases dst with
  | none => exact h f hf t ht
  | some d =>
    by_cases hd : t = d
    · subst hd
      rw [Env.put_same]
      rcases hs f hf with ⟨t', h1, h2⟩ | h1
      · cases h1; rw [ht] at h2; simp at h2
      · exact h1
    · rw [Env.put_other _ _ _ _ hd]; exact h f hf t ht
theorem Clean.puts {Φ : List Fc} : ∀ {l : List (Nat × S)} {e : Env}, Clean Φ e → (∀ p ∈ l, ∀ f ∈ Φ, f.slots.contains p.1 = true ∨ p.2.kill f.id = p.2) → Clean Φ (Env.puts e l)
  | [], _, h, _ => h
  | p :: l, e, h, hs => by
    unfold Env.puts
    refine Clean.puts (fun f hf t ht => ?_) fun q hq => hs q (List.mem_cons_of_mem _ hq)
    by_cases hd : t = p.1
    · subst hd
      rw [Env.put_same]
      rcases hs p (by simp) f hf with h1 | h1
      · rw [ht] at h1; simp at h1
      · exact h1
    · rw [Env.put_other _ _ _ _ hd]; exact h f hf t ht
theorem wpAny_of_L {cx : Cx} {ops : Array Oper} {Φ : List Fc} {ef : Nat → Bool} {K : Nat → List Nat} {I : Obs → Prop} {Q : Post} (hQ : ∀ ex e σ, ex ≠ .normal → ¬ Q ex e σ) (hd : ∀ o ∈ ops.toList, DstOk cx.N o) : ∀ (fuel : Nat) (listed : Array Bool) (e : Env) (σ : Obs) (a : Act) (w : World), R cx e σ a w → Clean Φ e →
    anyL cx ops Φ ef K I (fun e σ => Q .normal e σ) fuel listed e σ → wpAny cx.P .any ops (lift cx Q) fuel listed a w
  | 0, _, e, σ, _, _, hr, _, h => ⟨h.1, e, σ, h.2, hr⟩
  | fuel + 1, listed, e, σ, a, w, hr, hc, h => by
    refine ⟨fun h0 => ⟨e, σ, h.1 h0, hr⟩, fun i hi => ?_⟩
    obtain ⟨_, o, ho, _⟩ := mem_ready.1 hi
    obtain ⟨e', σ', hs, hk⟩ := h.2 i hi o ho
    have hdo : DstOk cx.N o := hd o (Array.mem_toList_iff.2 (Array.mem_of_getElem? ho))
    unfold wpOp
    simp only [ho]
    have hR := hr
    obtain ⟨F, ρ, hr⟩ := hr
    rcases hs with ⟨hg, _, s, hI, hop, hcl, rfl, rfl⟩ | ⟨hg, _, rfl, rfl⟩ | ⟨hg, _, _, _, si, _, hop, hci, rfl⟩
    · rw [if_pos (hg.wanted (fun t _ => hr.env t))]
      refine .inl (wp_to ?_ (fun _ _ _ => False.elim) (hop _ hI F ρ w a hr.lt (fun t _ => hr.env t) hr.obs))
      rintro a' w' ⟨v, F', rfl, hv, he⟩
      exact wpAny_of_L hQ hd fuel _ _ _ _ _ ⟨F', ρ, hr.put he hv hdo⟩ (hc.put hcl) hk
    · rw [if_neg (by rw [hg.wanted (fun t _ => hr.env t)]; simp)]
      exact wpAny_of_L hQ hd fuel _ _ _ _ _ ⟨F, ρ, hr.put (Ext.refl hr.lt) repS_undef hdo⟩ (hc.put fun _ _ => .inr rfl) hk
    · have hw : Region.wanted o (yielded ops a.tmps) = true := hg.wanted (fun t _ => hr.env t)
      rw [if_pos hw]
      have h4 := hop e (fun _ _ => rfl) (fun _ _ => rfl) hc a w hR
      unfold wpList at h4
      rw [if_pos hw] at h4
      refine h4.imp (wp_to2 ?_ ?_) fun h => ⟨h.1, ?_⟩
      · rintro a' w' ⟨e', σ'', ⟨rfl, rfl⟩, hr'⟩
        exact wpAny_of_L hQ hd fuel _ _ _ _ _ hr' (hc.puts hci) hk
      · rintro ex a' w' hne ⟨e', σ'', hq, _⟩
        cases ex <;> first | exact absurd rfl hne | exact hq.elim
      · obtain ⟨a', w', e', σ'', hq, _⟩ := h.2
        exact hq.elim
/-- Before the region: no slot but those told holds what it makes or turns. -/
def Env.killOut (f : Fc) (e : Env) : Env := fun t => match f.slots.contains t with | true => e t | false => (e t).kill f.id
def Env.killIds : List Fc → Env → Env
  | [], e => e
  | f :: l, e => Env.killIds l (e.killOut f)
theorem killOut_keep {f : Fc} {g : Fc} {e : Env} (h : Clean [g] e) : Clean [g] (e.killOut f) := fun g' hg t ht => by
  have h1 := h g' hg t ht
  unfold Env.killOut
  cases f.slots.contains t with
  | true => exact h1
  | false => show S.kill g'.id (S.kill f.id (e t)) = S.kill f.id (e t); rw [kill_comm, h1]
theorem killIds_keep {g : Fc} : ∀ {Φ : List Fc} {e : Env}, Clean [g] e → Clean [g] (Env.killIds Φ e)
  | [], _, h => h
  | _ :: l, _, h => killIds_keep (Φ := l) (killOut_keep h)
theorem killOut_clean (f : Fc) (e : Env) : Clean [f] (e.killOut f) := fun g hg t ht => by
  obtain rfl := List.mem_singleton.1 hg
  unfold Env.killOut
  rw [ht]
  exact S.kill_kill g.id (e t)
theorem killIds_clean : ∀ (Φ : List Fc) (e : Env), Clean Φ (Env.killIds Φ e)
  | g :: l, e, f, hf, t, ht => by
    rcases List.mem_cons.1 hf with rfl | hf
    · exact killIds_keep (Φ := l) (killOut_clean f e) f (by simp) t ht
    · exact killIds_clean l (e.killOut g) f hf t ht
theorem R.killOut {cx : Cx} {σ : Obs} {a : Act} {w : World} {e : Env} (f : Fc) : R cx e σ a w → R cx (e.killOut f) σ a w
  | ⟨F, ρ, h⟩ => by
    have henv : ∀ t, RepS F ρ w (a.tmps.getD t undef) (e.killOut f t) := fun t => by
      unfold Env.killOut
      cases f.slots.contains t with
      | true => exact h.env t
      | false => exact (h.killEnv f.id).env t
    exact ⟨F, ρ, h.size, h.defers, h.lt, h.base, h.new, h.below, h.hB, henv, h.obs, h.up, h.kown, h.fixed⟩
theorem R.killIds {cx : Cx} {σ : Obs} {a : Act} {w : World} : ∀ (Φ : List Fc) {e : Env}, R cx e σ a w → R cx (Env.killIds Φ e) σ a w
  | [], _, h => h
  | f :: l, _, h => R.killIds l (R.killOut f h)
/-- The same, with a tail that waits for all before it. -/
theorem AWP.drawLTail {cx : Cx} {id : Nat} {l : List Oper} {e : Env} {σ : Obs} {Q : Post} (k : Nat) (Φ : List Fc) (E : List (Nat × List Nat)) (I : Obs → Prop) (hm : cx.P.follows .mixedOrders = true) (hB : Region.lexB .any (l.take k).toArray = true)
    (hS : Region.keysFrom (l.take k).toArray (fun k => E.any fun p => Nat.beq p.1 k) (fun k => ((E.find? fun p => Nat.beq p.1 k).map Prod.snd).getD []) (l.take k).length 0 (Array.replicate (l.take k).length false) = true) (hC : Region.chainB l.toArray k = true)
    (h : LRun cx (l.take k).toArray Φ (fun k => E.any fun p => Nat.beq p.1 k) (fun k => ((E.find? fun p => Nat.beq p.1 k).map Prod.snd).getD []) I 0 (l.take k) (Env.killIds Φ e) σ (fun e σ => AOps cx l.toArray (l.drop k) e σ Q)) : AWP cx (.region id l.toArray true) e σ Q := by
  intro a w ⟨F, ρ, hr⟩
  simp only [Region.lexB, Bool.and_eq_true] at hB
  have hch := Chain.of hC
  have hkl : k ≤ l.length := by simpa using hch.le
  have hK : ∀ k, (E.any fun p => Nat.beq p.1 k) = false → ((E.find? fun p => Nat.beq p.1 k).map Prod.snd).getD [] = [] := fun k hk => by
    have : E.find? (fun p => Nat.beq p.1 k) = none := List.find?_eq_none.2 fun p hp hh => by
      have : (E.any fun p => Nat.beq p.1 k) = true := List.any_eq_true.2 ⟨p, hp, hh⟩
      rw [hk] at this
      simp at this
    rw [this]; rfl
  have h1 := anyL_lex hK (l.take k) 0 (Array.replicate (l.take k).toArray.size false) _ σ (by simp) (by simpa using hB.2) (by simpa using hS) h
  have h2 := wpAny_of_L (cx := cx) (ops := (l.take k).toArray) (Q := fun ex e σ => match ex with | .normal => AOps cx l.toArray (l.drop k) e σ Q | _ => False) (fun ex e σ hne hq => by cases ex <;> first | exact absurd rfl hne | exact hq.elim) (by simpa using LRun.dsts _ 0 _ σ h) _ _ _ σ a _ (R.killIds Φ ⟨F, ρ, hr.drew⟩) (killIds_clean Φ e) h1
  refine wp_region_any hm (wpAny_split hch (ops0 := (l.take k).toArray) (by simp; omega) (fun j hj => by simp [hj]) ?_ ?_ (l.take k).length _ _ _ _ _ (by simp; omega) (by simp) ?_ ?_ ?_ (by simp; omega) h2)
  · rintro a w ⟨e, σ, h3, h4⟩
    have := h3 a w h4
    simpa using this
  · rintro ex a w hne ⟨e, σ, h3, _⟩
    cases ex <;> first | exact absurd rfl hne | exact h3.elim
  · intro j hj d
    have h5 : j < l.length := by omega
    have h6 : j < min k l.length := by omega
    simp [Array.getD_eq_getD_getElem?, h5, h6]
  · intro j hj hj2
    have : j < l.length := by simpa using hj2
    simp [Array.getD_eq_getD_getElem?, this]
  · intro i o ho hi
    have : i < l.length := by simpa using (Array.getElem?_eq_some_iff.1 ho).1
    simp [Array.getD_eq_getD_getElem?, this] at hi
section
variable {cx : Cx} {ops : Array Oper} {Φ : List Fc} {ef : Nat → Bool} {K : Nat → List Nat} {I : Obs → Prop} {n : Nat} {o : Oper} {l : List Oper} {e : Env} {σ : Obs} {Q : Env → Obs → Prop}
def cleanS (t : Nat) (s : S) : List Fc → Prop
  | [] => True
  | f :: l => (f.slots.contains t = true ∨ s.kill f.id = s) ∧ cleanS t s l
theorem cleanS.all {t : Nat} {s : S} : ∀ {l : List Fc}, cleanS t s l → ∀ f ∈ l, f.slots.contains t = true ∨ s.kill f.id = s
  | [], _, f, hf => by cases hf
  | g :: l, h, f, hf => by
    cases hf with
    | head => exact h.1
    | tail _ hf => exact cleanS.all h.2 f hf
theorem LRun.nil (h : Q e σ) : LRun cx ops Φ ef K I n [] e σ Q := h
theorem LRun.step {s : S} {t : Nat} (hg : GW ops o e true) (ht : o.dst = some t) (hd : Nat.blt t cx.N = true) (hI : I σ) (h : ∀ τ, I τ → AOp cx.P cx.B ops o e τ s) (k : LRun cx ops Φ ef K I (n + 1) l (e.put (some t) s) σ Q) (he : ef n = false := by rfl) (hc : cleanS t s Φ := by first | exact ⟨.inr rfl, trivial⟩ | exact ⟨.inl rfl, trivial⟩) : LRun cx ops Φ ef K I n (o :: l) e σ Q :=
  ⟨by unfold DstOk; rw [ht]; exact hd, _, _, .inl ⟨hg, he, s, hI, h, fun f hf => (hc.all f hf).imp (fun h => ⟨t, ht, h⟩) id, rfl, rfl⟩, by rw [ht]; exact k⟩
def cleanL (Φ : List Fc) : List (Nat × S) → Prop
  | [] => True
  | p :: l => (∀ f ∈ Φ, f.slots.contains p.1 = true ∨ p.2.kill f.id = p.2) ∧ cleanL Φ l
theorem LRun.eff {si : List (Nat × S)} {σ' : Obs} (hg : GW ops o e true) (hd : DstOk cx.N o) (h1 : I σ) (h2 : I σ') (h : GE cx ops Φ o e σ si σ') (k : LRun cx ops Φ ef K I (n + 1) l (Env.puts e si) σ' Q) (hc : ∀ p ∈ si, ∀ f ∈ Φ, f.slots.contains p.1 = true ∨ p.2.kill f.id = p.2) (he : ef n = true := by rfl) (hk : si.map Prod.fst = K n := by rfl) : LRun cx ops Φ ef K I n (o :: l) e σ Q :=
  ⟨hd, _, _, .inr (.inr ⟨hg, he, h1, h2, si, hk, h, hc, rfl⟩), k⟩
theorem triple_eq {id a b c : Nat} {e0 e : Env} (hab : a ≠ b) (hac : a ≠ c) (hbc : b ≠ c) (hb : e0 b = e b) (hcc : e0 c = e c) (hc : ∀ t, t ≠ a → t ≠ b → t ≠ c → (e0 t).kill id = e0 t) : (e0.kill id).put (some a) (.own id) = Env.puts e0 [(c, (e c).kill id), (b, (e b).kill id), (a, .own id)] := by
  funext t
  show _ = (((e0.put (some c) ((e c).kill id)).put (some b) ((e b).kill id)).put (some a) (.own id)) t
  by_cases h1 : t = a
  · subst h1; rw [Env.put_same, Env.put_same]
  · rw [Env.put_other _ _ _ _ h1, Env.put_other _ _ _ _ h1]
    by_cases h2 : t = b
    · subst h2; rw [Env.put_same]; show (e0 t).kill id = _; rw [hb]
    · rw [Env.put_other _ _ _ _ h2]
      by_cases h3 : t = c
      · subst h3; rw [Env.put_same]; show (e0 t).kill id = _; rw [hcc]
      · rw [Env.put_other _ _ _ _ h3]; exact hc t h1 h2 h3
/-- An append to a row that two other slots hold. -/
theorem GE.append3 {s x : Operand} {t ee size bytes dst : Nat} {z : Value} {els els2 : List (List D)} {σ' : Obs} (id b c : Nat) {sl : List Nat} (hΦ : ⟨id, sl⟩ ∈ Φ) (hsl : ∀ t, t ≠ dst → t ≠ b → t ≠ c → sl.contains t = false) (hab : dst ≠ b) (hac : dst ≠ c) (hbc : b ≠ c) (hg : o.guard = none)
    (ho : o.op = .call { callee := .builtin .append, args := #[s, x], argTypes := #[t, t] }) (hd : o.dst = some dst) (hdn' : Nat.blt dst cx.N = true) (T : ElemTy cx.P t ee size bytes z) (hs : e.ev s = .own id) (hm : (id, Ob.row ee size els) ∈ σ)
    (hx : e.ev x = .d (.sl els2)) (hsz : ∀ y ∈ els2, y.length = size) (hb : (els.length + els2.length) * bytes ≤ 140737488355328) (hn : els.length + els2.length ≤ 9223372036854775807) (hσ : Obs.upd id (.row ee size (els ++ els2)) (Obs.kill id σ) = σ') (hfx : cx.free id = true := by rfl) :
    GE cx ops Φ o e σ [(c, (e c).kill id), (b, (e b).kill id), (dst, .own id)] σ' := fun e0 h1 h2 h3 => by
  have e1 : e0.ev s = e.ev s := ev_same fun t hxt => h1 t (looks_op (by rw [ho, ← hxt]; simp [Op.operands, Call.operands]))
  have e2 : e0.ev x = e.ev x := ev_same fun t hxt => h1 t (looks_op (by rw [ho, ← hxt]; simp [Op.operands, Call.operands]))
  have hp := triple_eq (id := id) (e0 := e0) (e := e) hab hac hbc (h2 b (by simp)) (h2 c (by simp)) fun t ht1 ht2 ht3 => h3 _ hΦ t (hsl t ht1 ht2 ht3)
  exact AOps.append hg ho hd hdn' T (e1.trans hs) hm (e2.trans hx) hsz hb hn (.nil ⟨hp, hσ⟩) hfx
end
end Go.Proofs.YtieccphckobhjaaGreatDoor


namespace Go.Proofs.YtieccphckobhjaaGreatDoor
open Go.RowKit
set_option linter.unusedVariables false

/-! Types. -/
namespace TyR3

end TyR3
open TyR3


open Go.Lib
end Go.Proofs.YtieccphckobhjaaGreatDoor
