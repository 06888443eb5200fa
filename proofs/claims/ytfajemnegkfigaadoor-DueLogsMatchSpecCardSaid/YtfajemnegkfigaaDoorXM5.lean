/- Walks and laws over abstract values, merged by tools/merge.py. No statement of the seat. -/
import Derived.WalkKit
import Derived.Ground.NamesProg
import Derived.Shelf.SlSortCmp.WholeK
import Derived.Shelf.SlSortCmp.NoneTotal
import Derived.Shelf.SlicesG.Cmp
import Derived.Ground.SlsfProg
import Derived.Ground.SlgcProg
import Derived.Shelf.Sort.Plain
import Derived.Shelf.Slices.In.SortNone
import Derived.Shelf.Slices.In.CompactS
import Derived.Test.YtfajemnegkfigaaDoorProg
import Derived.Laws.Cover3
import Derived.Test.YtfajemnegkfigaaDoorXM4

namespace Go.Proofs.YtfajemnegkfigaaDoor
open Go.RowKit
set_option linter.unusedVariables false

/-! Types. -/
namespace TyU4
theorem et_27 : ElemTy Tryd.prog 27 3 1 8 (.int .i64 0) := ⟨by kernel_rfl, by kernel_rfl, by kernel_rfl, by decide⟩
theorem sc_27 : Scal Tryd.prog 27 := .of (by kernel_rfl)
theorem sc_3 : Scal Tryd.prog 3 := .of (by kernel_rfl)
theorem sc_9 : Scal Tryd.prog 9 := .of (by kernel_rfl)
end TyU4
open TyU4


open Go.Lib
/-- The number of the first one; -1: there is none. -/
def idxBy {α : Type} (p : α → Bool) (l : List α) : Int := if l.any p then (l.findIdx p : Int) else -1
def grpFB (g : Grp) (b : ByteArray) : Int := if nameOk g.name = false then 5 else if sle g.name b = true then 8 else grpF0 g
def dealFB (c : Ctr) (d : Deal) (b : ByteArray) : Int := if nameOk d.name = false then 5 else if sle d.name b = true then 8 else dealF0 c d
def okGrp (g : Grp) : Prop := g.name.size ≤ 9223372036854775807 ∧ ∀ s ∈ g.cut, s.party.size ≤ 9223372036854775807


end Go.Proofs.YtfajemnegkfigaaDoor


namespace Go.Proofs
open Go.Shelf
def Tryd.sortF_ren : Go.Shelf.Ren := ⟨fun | 6 => 50 | 15 => 78 | 14 => 77 | 28 => 97 | 29 => 98 | 20 => 89 | 21 => 90 | 22 => 91 | 23 => 92 | 24 => 93 | 25 => 94 | 26 => 95 | 27 => 96 | 46 => 111 | 47 => 112 | 48 => 113 | 49 => 114 | 50 => 115 | 57 => 123 | n => n, fun | 22 => 40 | 24 => 48 | 25 => 90 | 3 => 3 | 39 => 112 | 0 => 0 | 53 => 134 | 55 => 136 | 4 => 4 | 46 => 128 | 45 => 127 | 50 => 88 | 5 => 5 | 9 => 9 | 66 => 146 | 70 => 150 | 76 => 157 | 77 => 158 | n => n, fun | n => n⟩
theorem Tryd.sortF : Go.Proofs.SlLaysF0.n6 Tryd.prog Tryd.sortF_ren := {
  mixed := by kernel_rfl
  f6 := ⟨Tryd.f50.name, by decide, Tryd.func50.trans (congrArg some (by kernel_rfl))⟩
  f14 := ⟨Tryd.f77.name, by decide, Tryd.func77.trans (congrArg some (by kernel_rfl))⟩
  f15 := Tryd.func78.trans (congrArg some (by kernel_rfl))
  f20 := ⟨Tryd.f89.name, by decide, Tryd.func89.trans (congrArg some (by kernel_rfl))⟩
  f21 := ⟨Tryd.f90.name, by decide, Tryd.func90.trans (congrArg some (by kernel_rfl))⟩
  f22 := ⟨Tryd.f91.name, by decide, Tryd.func91.trans (congrArg some (by kernel_rfl))⟩
  f23 := ⟨Tryd.f92.name, by decide, Tryd.func92.trans (congrArg some (by kernel_rfl))⟩
  f24 := ⟨Tryd.f93.name, by decide, Tryd.func93.trans (congrArg some (by kernel_rfl))⟩
  f25 := ⟨Tryd.f94.name, by decide, Tryd.func94.trans (congrArg some (by kernel_rfl))⟩
  f26 := ⟨Tryd.f95.name, by decide, Tryd.func95.trans (congrArg some (by kernel_rfl))⟩
  f27 := ⟨Tryd.f96.name, by decide, Tryd.func96.trans (congrArg some (by kernel_rfl))⟩
  f28 := Tryd.func97.trans (congrArg some (by kernel_rfl))
  f29 := Tryd.func98.trans (congrArg some (by kernel_rfl))
  f46 := ⟨Tryd.f111.name, by decide, Tryd.func111.trans (congrArg some (by kernel_rfl))⟩
  f47 := Tryd.func112.trans (congrArg some (by kernel_rfl))
  f48 := Tryd.func113.trans (congrArg some (by kernel_rfl))
  f49 := ⟨Tryd.f114.name, by decide, Tryd.func114.trans (congrArg some (by kernel_rfl))⟩
  f50 := ⟨Tryd.f115.name, by decide, Tryd.func115.trans (congrArg some (by kernel_rfl))⟩
  f57 := ⟨Tryd.f123.name, by decide, Tryd.func123.trans (congrArg some (by kernel_rfl))⟩
  t0 := Tryd.underlying0
  a0 := Tryd.isAgg0
  z0 := Tryd.sizeOf0
  v0 := Tryd.zeroValue0
  t3 := Tryd.underlying3
  a3 := Tryd.isAgg3
  z3 := Tryd.sizeOf3
  v3 := Tryd.zeroValue3
  t4 := Tryd.underlying4
  a4 := Tryd.isAgg4
  z4 := Tryd.sizeOf4
  v4 := Tryd.zeroValue4
  t5 := Tryd.underlying5
  a5 := Tryd.isAgg5
  z5 := Tryd.sizeOf5
  v5 := Tryd.zeroValue5
  t9 := Tryd.underlying9
  a9 := Tryd.isAgg9
  z9 := Tryd.sizeOf9
  v9 := Tryd.zeroValue9
  t22 := Tryd.underlying40
  a22 := Tryd.isAgg40
  z22 := Tryd.sizeOf40
  v22 := Tryd.zeroValue40
  t25 := Tryd.underlying90
  a25 := Tryd.isAgg90
  z25 := Tryd.sizeOf90
  v25 := Tryd.zeroValue90
  t39 := Tryd.underlying112
  a39 := Tryd.isAgg112
  z39 := Tryd.sizeOf112
  v39 := Tryd.zeroValue112
  t45 := Tryd.underlying127
  a45 := Tryd.isAgg127
  z45 := Tryd.sizeOf127
  v45 := Tryd.zeroValue127
  t46 := Tryd.underlying128
  a46 := Tryd.isAgg128
  z46 := Tryd.sizeOf128
  v46 := Tryd.zeroValue128
  t50 := Tryd.underlying88
  a50 := Tryd.isAgg88
  z50 := Tryd.sizeOf88
  v50 := Tryd.zeroValue88
  t53 := Tryd.underlying134
  a53 := Tryd.isAgg134
  z53 := Tryd.sizeOf134
  v53 := Tryd.zeroValue134
  t55 := Tryd.underlying136
  a55 := Tryd.isAgg136
  z55 := Tryd.sizeOf136
  v55 := Tryd.zeroValue136
  t66 := Tryd.underlying146
  a66 := Tryd.isAgg146
  z66 := Tryd.sizeOf146
  v66 := Tryd.zeroValue146
  t70 := Tryd.underlying150
  a70 := Tryd.isAgg150
  z70 := Tryd.sizeOf150
  v70 := Tryd.zeroValue150
  t76 := Tryd.underlying157
  a76 := Tryd.isAgg157
  z76 := Tryd.sizeOf157
  v76 := Tryd.zeroValue157
  t77 := Tryd.underlying158
  a77 := Tryd.isAgg158
  z77 := Tryd.sizeOf158
  v77 := Tryd.zeroValue158 }
def Tryd.cmpI_ren : Go.Shelf.Ren := ⟨fun | 5 => 73 | 7 => 87 | n => n, fun | 22 => 3 | 3 => 3 | 4 => 4 | n => n, fun | n => n⟩
theorem Tryd.cmpI : Go.Proofs.SlLaysC2.n5 Tryd.prog Tryd.cmpI_ren := {
  mixed := by kernel_rfl
  f5 := ⟨Tryd.f73.name, by decide, Tryd.func73.trans (congrArg some (by kernel_rfl))⟩
  f7 := ⟨Tryd.f87.name, by decide, Tryd.func87.trans (congrArg some (by kernel_rfl))⟩
  t3 := Tryd.underlying3
  a3 := Tryd.isAgg3
  z3 := Tryd.sizeOf3
  v3 := Tryd.zeroValue3
  t4 := Tryd.underlying4
  a4 := Tryd.isAgg4
  z4 := Tryd.sizeOf4
  v4 := Tryd.zeroValue4
  t22 := Tryd.underlying3
  a22 := Tryd.isAgg3
  z22 := Tryd.sizeOf3
  v22 := Tryd.zeroValue3 }
end Go.Proofs


namespace Go.Proofs.YtfajemnegkfigaaDoor
open Go.RowKit
set_option linter.unusedVariables false

/-! Types. -/
namespace TyM1

end TyM1
open TyM1


structure Usd where
  title : ByteArray
  units : Int
  money : Int
deriving DecidableEq
structure Rpt where
  source : ByteArray
  no : Int
  period : Int
  corrects : Int
  lines : List Usd
deriving DecidableEq
instance : Inhabited Usd := ⟨⟨⟨#[]⟩, 0, 0⟩⟩
instance : Inhabited Rpt := ⟨⟨⟨#[]⟩, 0, 0, 0, []⟩⟩
def Usd.ds (x : Usd) : List D := [.v (.string x.title), .v (.int .i64 x.units), .v (.int .i64 x.money)]
def Rpt.ds (x : Rpt) : List D := [.v (.string x.source), .v (.int .i64 x.no), .v (.int .i64 x.period), .v (.int .i64 x.corrects), .sl (x.lines.map Usd.ds)]

/-- The fault of a line, behind the one ahead of it. -/
def usdF (l : List Usd) (k : Nat) : Int :=
  if h : k < l.length then
    if titleOk l[k].title = false then 3
    else if ¬ ((0 ≤ l[k].units ∧ l[k].units ≤ 1000000000) ∧ 0 ≤ l[k].money ∧ l[k].money ≤ 1000000000) then 1
    else if 0 < k ∧ sle l[k].title (l[k-1]'(by omega)).title = true then 8 else 0
  else 0
def rptF (x : Rpt) : Int :=
  if nameOk x.source = false then 5
  else if ¬ ((1 ≤ x.no ∧ x.no ≤ 1000000) ∧ (0 ≤ x.period ∧ x.period ≤ 2400) ∧ 0 ≤ x.corrects ∧ x.corrects ≤ x.no - 1) then 1
  else if 100 < x.lines.length then 2
  else ffst (usdF x.lines) x.lines.length

open Go.Sort Go.Lib
def rCmp (a b : Rpt) : Int := if compareBytes a.source.data.toList b.source.data.toList = 0 then compareInt a.no b.no else compareBytes a.source.data.toList b.source.data.toList
def ltR (a b : Rpt) : Bool := decide (rCmp a b < 0)
def sameK (a b : Rpt) : Bool := decide (a.source = b.source) && decide (a.no = b.no)
theorem cInt0 {a b : Int} : compareInt a b = 0 ↔ a = b := by
  unfold compareInt
  split
  · omega
  · split <;> omega
theorem cIntN {a b : Int} : compareInt a b < 0 ↔ a < b := by
  unfold compareInt
  split
  · omega
  · split <;> omega
theorem cbLt : ∀ a b : List UInt8, compareBytes a b < 0 ↔ a < b
  | [], [] => by simp [compareBytes]
  | [], _ :: _ => by simp [compareBytes]
  | _ :: _, [] => by simp [compareBytes]
  | x :: a, y :: b => by
    unfold compareBytes
    rw [List.cons_lt_cons_iff]
    by_cases h1 : x < y
    · simp [h1]
    · rw [if_neg h1]
      by_cases h2 : y < x
      · rw [if_pos h2]
        have : x ≠ y := fun e => by subst e; exact UInt8.lt_irrefl _ h2
        simp [h1, this]
      · rw [if_neg h2, cbLt a b]
        have : x = y := UInt8.le_antisymm (UInt8.not_lt.1 h2) (UInt8.not_lt.1 h1)
        simp [this, UInt8.lt_irrefl]
theorem cbSelf : ∀ a : List UInt8, compareBytes a a = 0
  | [] => rfl
  | x :: a => by unfold compareBytes; simp [UInt8.lt_irrefl, cbSelf a]
theorem cbZero {a b : List UInt8} : compareBytes a b = 0 ↔ a = b := by
  refine ⟨fun h => ?_, fun h => by rw [h]; exact cbSelf b⟩
  have h1 : ¬ a < b := fun h2 => by have := (cbLt a b).2 h2; omega
  revert h h1
  induction a generalizing b with
  | nil => intro h _; cases b with
    | nil => rfl
    | cons y b => simp [compareBytes] at h
  | cons x a ih => intro h h1; cases b with
    | nil => simp [compareBytes] at h
    | cons y b =>
      unfold compareBytes at h
      split at h
      · omega
      · split at h
        · omega
        · rename_i h2 h3
          have e : x = y := UInt8.le_antisymm (UInt8.not_lt.1 h3) (UInt8.not_lt.1 h2)
          rw [e, ih h (fun h4 => by have := (cbLt a b).2 h4; omega)]
theorem baEq {a b : ByteArray} : a.data.toList = b.data.toList ↔ a = b := by
  refine ⟨fun h => ?_, fun h => by rw [h]⟩
  cases a; cases b
  exact congrArg ByteArray.mk (Array.toList_inj.1 h)
theorem ltR_iff (x y : Rpt) : ltR x y = true ↔ x.source.data.toList < y.source.data.toList ∨ (x.source = y.source ∧ x.no < y.no) := by
  unfold ltR rCmp
  rw [decide_eq_true_eq]
  by_cases h : compareBytes x.source.data.toList y.source.data.toList = 0
  · rw [if_pos h, cIntN]
    have h2 := cbZero.1 h
    constructor
    · exact fun h3 => .inr ⟨baEq.1 h2, h3⟩
    · rintro (h3 | h3)
      · rw [h2] at h3; exact absurd h3 (List.lt_irrefl _)
      · exact h3.2
  · rw [if_neg h, cbLt]
    constructor
    · exact .inl
    · rintro (h2 | h2)
      · exact h2
      · exact absurd (cbZero.2 (baEq.2 h2.1)) h
theorem sameK_iff {x y : Rpt} : sameK x y = true ↔ x.source = y.source ∧ x.no = y.no := by unfold sameK; simp
theorem sameK_cmp {x y : Rpt} : rCmp x y = 0 ↔ sameK x y = true := by
  rw [sameK_iff]
  unfold rCmp
  by_cases h : compareBytes x.source.data.toList y.source.data.toList = 0
  · rw [if_pos h, cInt0]
    have h2 := baEq.1 (cbZero.1 h)
    exact ⟨fun h3 => ⟨h2, h3⟩, fun h3 => h3.2⟩
  · rw [if_neg h]
    exact ⟨fun h2 => absurd h2 h, fun h2 => absurd (cbZero.2 (baEq.2 h2.1)) h⟩
theorem ltR_irr (x : Rpt) : ltR x x = false := by
  rw [← Bool.not_eq_true, ltR_iff]
  rintro (h | h)
  · exact List.lt_irrefl _ h
  · omega
theorem ltR_trans {x y z : Rpt} (h1 : ltR x y = true) (h2 : ltR y z = true) : ltR x z = true := by
  rw [ltR_iff] at *
  rcases h1 with h1 | h1 <;> rcases h2 with h2 | h2
  · exact .inl (List.lt_trans h1 h2)
  · exact .inl (by rw [← h2.1]; exact h1)
  · exact .inl (by rw [h1.1]; exact h2)
  · exact .inr ⟨h1.1.trans h2.1, by omega⟩
theorem ltR_tot {x y : Rpt} (h1 : ltR x y = false) (h2 : ltR y x = false) : sameK x y = true := by
  rw [← Bool.not_eq_true, ltR_iff] at h1 h2
  rw [sameK_iff]
  have a1 : ¬ x.source.data.toList < y.source.data.toList := fun h => h1 (.inl h)
  have a2 : ¬ y.source.data.toList < x.source.data.toList := fun h => h2 (.inl h)
  have e := baEq.1 (List.le_antisymm (List.not_lt.1 a2) (List.not_lt.1 a1))
  refine ⟨e, ?_⟩
  rcases Int.lt_trichotomy x.no y.no with h | h | h
  · exact absurd (.inr ⟨e, h⟩) h1
  · exact h
  · exact absurd (.inr ⟨e.symm, h⟩) h2
theorem ltR_same {x y z : Rpt} (h : sameK x y = true) : ltR x z = ltR y z ∧ ltR z x = ltR z y := by
  rw [sameK_iff] at h
  constructor <;> (rw [Bool.eq_iff_iff, ltR_iff, ltR_iff, h.1, h.2])
theorem ltR_ne {x y : Rpt} (h : ltR x y = true) : sameK x y = false := by
  cases h2 : sameK x y with
  | false => rfl
  | true => rw [(ltR_same h2).1, ltR_irr] at h; cases h
theorem sameK_symm {x y : Rpt} (h : sameK x y = true) : sameK y x = true := by rw [sameK_iff] at *; exact ⟨h.1.symm, h.2.symm⟩
theorem swoR : SWO ltR where
  irrefl := ltR_irr
  trans _ _ _ h1 h2 := ltR_trans h1 h2
  ntrans x y z h1 h2 := by
    cases h3 : ltR x z with
    | false => rfl
    | true =>
      cases h4 : ltR y x with
      | true => rw [ltR_trans h4 h3] at h2; cases h2
      | false => rw [(ltR_same (ltR_tot h1 h4)).1] at h3; rw [h3] at h2; cases h2
/-! ## Logs -/
def Rise (l : List Rpt) : Prop := l.Pairwise fun x y => ltR x y = true
def Dist (l : List Rpt) : Prop := l.Pairwise fun x y => sameK x y = false
def sortR (l : List Rpt) : List Rpt := l.mergeSort fun x y => !(ltR y x)
theorem sortR_perm (l : List Rpt) : (sortR l).Perm l := List.mergeSort_perm l _
theorem sortR_pw (l : List Rpt) : (sortR l).Pairwise fun x y => ltR y x = false := by
  unfold sortR
  have := List.pairwise_mergeSort (le := fun x y => !(ltR y x)) (fun a b c h1 h2 => by
    simp only [Bool.not_eq_true'] at h1 h2 ⊢
    exact swoR.ntrans _ _ _ h2 h1) (fun a b => by
    rw [Bool.or_eq_true, Bool.not_eq_true', Bool.not_eq_true']
    cases h : ltR b a with
    | false => exact .inl rfl
    | true => exact .inr (swoR.asymmA h)) l
  exact this.imp fun h => by simpa using h
theorem dist_symm {l r : List Rpt} (hp : l.Perm r) (h : Dist l) : Dist r :=
  (hp.pairwise_iff (R := fun x y => sameK x y = false) (fun {a b} h => by
    cases h2 : sameK b a with
    | false => rfl
    | true => rw [sameK_symm h2] at h; cases h)).1 h
theorem sortR_rise {l : List Rpt} (h : Dist l) : Rise (sortR l) := by
  have h1 := dist_symm (sortR_perm l).symm h
  refine (List.Pairwise.and h1 (sortR_pw l)).imp fun {a b} ⟨h2, h3⟩ => ?_
  cases h4 : ltR a b with
  | true => rfl
  | false => rw [ltR_tot h4 h3] at h2; cases h2
theorem rise_dist {l : List Rpt} (h : Rise l) : Dist l := h.imp ltR_ne
theorem rise_nodup {l : List Rpt} (h : Rise l) : l.Nodup := h.imp fun {a b} hab e => by rw [e, ltR_irr] at hab; cases hab
theorem rise_uniqR {l r : List Rpt} (h1 : Rise l) (h2 : Rise r) (hm : ∀ x, x ∈ l ↔ x ∈ r) : l = r := by
  have hp : l.Perm r := (List.perm_ext_iff_of_nodup (rise_nodup h1) (rise_nodup h2)).2 hm
  refine List.Perm.eq_of_pairwise (le := fun x y => ltR x y = true) (fun a b _ _ h3 h4 => ?_) h1 h2 hp
  have := ltR_trans h3 h4
  rw [ltR_irr] at this
  cases this
/-- A sorted permutation of a list whose keys differ is the sorted list. -/
theorem sortR_uniq {l r : List Rpt} (hd : Dist l) (hp : r.Perm l) (hs : r.Pairwise fun x y => ltR y x = false) : r = sortR l := by
  have hr : Rise r := by
    refine (List.Pairwise.and (dist_symm hp.symm hd) hs).imp fun {a b} ⟨h2, h3⟩ => ?_
    cases h4 : ltR a b with
    | true => rfl
    | false => rw [ltR_tot h4 h3] at h2; cases h2
  refine rise_uniqR hr (sortR_rise hd) fun x => ?_
  rw [hp.mem_iff, (sortR_perm l).mem_iff]
def hasK (a : List Rpt) (x : Rpt) : Bool := a.any fun y => sameK y x
theorem hasK_iff {a : List Rpt} {x : Rpt} : hasK a x = true ↔ ∃ y ∈ a, sameK y x = true := by unfold hasK; rw [List.any_eq_true]
def newK (a b : List Rpt) : List Rpt := b.filter fun x => !(hasK a x)
def clashB (a b : List Rpt) : Bool := b.any fun x => a.any fun y => sameK y x && !(decide (y = x))
theorem clash_no {a b : List Rpt} : clashB a b = false ↔ ∀ x ∈ b, ∀ y ∈ a, sameK y x = true → y = x := by
  unfold clashB
  rw [List.any_eq_false]
  constructor
  · intro h x hx y hy hk
    have h1 := h x hx
    rw [Bool.not_eq_true, List.any_eq_false] at h1
    have h2 := h1 y hy
    rw [hk] at h2
    simpa using h2
  · intro h x hx
    rw [Bool.not_eq_true, List.any_eq_false]
    intro y hy
    cases hk : sameK y x with
    | false => simp
    | true => simp [h x hx y hy hk]
def uniK (a b : List Rpt) : List Rpt := sortR (a ++ newK a b)
theorem uni_mem {a b : List Rpt} (hc : clashB a b = false) (x : Rpt) : x ∈ uniK a b ↔ x ∈ a ∨ x ∈ b := by
  unfold uniK
  rw [(sortR_perm _).mem_iff, List.mem_append]
  unfold newK
  rw [List.mem_filter]
  constructor
  · rintro (h | h)
    · exact .inl h
    · exact .inr h.1
  · rintro (h | h)
    · exact .inl h
    · cases hk : hasK a x with
      | false => exact .inr ⟨h, rfl⟩
      | true =>
        obtain ⟨y, hy, hyk⟩ := hasK_iff.1 hk
        rw [← clash_no.1 hc x h y hy hyk]
        exact .inl hy
theorem uni_dist {a b : List Rpt} (ha : Rise a) (hb : Rise b) : Dist (a ++ newK a b) := by
  refine List.pairwise_append.2 ⟨rise_dist ha, (rise_dist hb).filter _, fun x hx y hy => ?_⟩
  unfold newK at hy
  rw [List.mem_filter] at hy
  cases h : sameK x y with
  | false => rfl
  | true => rw [hasK_iff.2 ⟨x, hx, h⟩] at hy; simp at hy
theorem uni_rise {a b : List Rpt} (ha : Rise a) (hb : Rise b) : Rise (uniK a b) := sortR_rise (uni_dist ha hb)
theorem uni_len (a b : List Rpt) : (uniK a b).length = (a ++ newK a b).length := (sortR_perm _).length_eq
/-- The fault of a report in a log. -/
def repF (l : List Rpt) (k : Nat) : Int :=
  if h : k < l.length then
    if rptF l[k] ≠ 0 then rptF l[k]
    else if 0 < k ∧ 0 ≤ rCmp (l[k-1]'(by omega)) l[k] then 8 else 0
  else 0
def logF (l : List Rpt) : Int := if 300 < l.length then 2 else ffst (repF l) l.length
structure Log (l : List Rpt) : Prop where
  len : l.length ≤ 300
  ok : ∀ x ∈ l, rptF x = 0
  rise : Rise l
theorem log_of {l : List Rpt} (h : logF l = 0) : Log l := by
  unfold logF at h
  by_cases h1 : 300 < l.length
  · rw [if_pos h1] at h; simp at h
  rw [if_neg h1] at h
  have h2 := ffst_all _ h
  have key : ∀ k, (hk : k < l.length) → rptF l[k] = 0 ∧ (∀ h0 : 0 < k, ltR (l[k-1]'(by omega)) l[k] = true) := fun k hk => by
    have h3 := h2 k hk
    unfold repF at h3
    rw [dif_pos hk] at h3
    by_cases h4 : rptF l[k] ≠ 0
    · rw [if_pos h4] at h3; exact absurd h3 h4
    rw [if_neg h4] at h3
    refine ⟨Decidable.not_not.1 h4, fun h0 => ?_⟩
    by_cases h5 : 0 < k ∧ 0 ≤ rCmp (l[k-1]'(by omega)) l[k]
    · rw [if_pos h5] at h3; simp at h3
    · unfold ltR
      rw [decide_eq_true_eq]
      exact Int.not_le.1 fun h6 => h5 ⟨h0, h6⟩
  refine ⟨by omega, fun x hx => ?_, ?_⟩
  · obtain ⟨k, hk, rfl⟩ := List.mem_iff_getElem.1 hx
    exact (key k hk).1
  · have step : ∀ d i, (h : i + d + 1 < l.length) → ltR l[i] l[i + d + 1] = true := by
      intro d
      induction d with
      | zero => intro i h3; exact (key (i + 1) h3).2 (by omega)
      | succ d ih => intro i h3; exact ltR_trans (ih i (by omega)) ((key (i + (d + 1) + 1) h3).2 (by omega))
    refine List.pairwise_iff_getElem.2 fun i j hi hj hij => ?_
    obtain ⟨d, rfl⟩ : ∃ d, j = i + d + 1 := ⟨j - i - 1, by omega⟩
    exact step d i hj
/-- The fault of two logs that are joined, and what comes of them. -/
def joinF (a b : List Rpt) : Int := if logF a ≠ 0 then logF a else if logF b ≠ 0 then logF b else if clashB a b = true then 12 else if 300 < (a ++ newK a b).length then 2 else 0
def joinR (a b : List Rpt) : List Rpt := if joinF a b = 0 then uniK a b else []
structure Joins (a b : List Rpt) : Prop where
  la : Log a
  lb : Log b
  no : clashB a b = false
  len : (uniK a b).length ≤ 300
theorem joinR_ok {a b : List Rpt} (h : joinF a b = 0) : joinR a b = uniK a b := if_pos h
theorem join_len {a b : List Rpt} (h : joinF a b ≠ 0) : joinR a b = [] := if_neg h


end Go.Proofs.YtfajemnegkfigaaDoor


namespace Go.Proofs.YtfajemnegkfigaaDoor
open Go.RowKit
set_option linter.unusedVariables false

/-- f, called with what reads as ds, returns a new row whose elements read as els, and that nobody else has. -/
def OCall (P : Program) (f : FuncId) (ds : List D) (ee size : Nat) (els : List (List D)) : Prop := Enters P f ∧
  ∀ (F : Nat → Prop) (w : World) (vs : List Value), (∀ b, F b → b < w.heap.size) → RepL F w vs ds →
    Calls P f vs.toArray w fun r w' => ∃ v F', r = .returned v ∧ Ext F w F' w' ∧ ObOk w.heap.size F' (fun _ => v) w' 0 (.row ee size els)

theorem OCall.toA {P : Program} {f : FuncId} {ds : List D} {ee size : Nat} {els : List (List D)} (h : OCall P f ds ee size els) : ACall P f ds (.sl els) :=
  ⟨h.1, fun F w vs hF hv => (h.2 F w vs hF hv).mono fun r w' ⟨v, F', h1, h2, h3⟩ => by
    have ho : ObsOk w.heap.size F' (fun _ => v) w' [(0, .row ee size els)] := by
      refine ⟨fun p hp => ?_, fun p hp q hq hne => ?_, fun p hp q hq _ => ?_⟩
      · have : p = (0, .row ee size els) := by simpa using hp
        subst this
        exact h3
      · have h4 : p = (0, .row ee size els) := by simpa using hp
        have h5 : q = (0, .row ee size els) := by simpa using hq
        rw [h4, h5] at hne
        exact absurd rfl hne
      · have h4 : p = (0, .row ee size els) := by simpa using hp
        have h5 : q = (0, .row ee size els) := by simpa using hq
        rw [h4, h5]
    have hr := ob_rep ho (List.mem_singleton.2 rfl)
    refine ⟨v, _, h1, hr, fun b hb => .inl (h2.up b hb), ?_, ?_, h2.below⟩
    · rintro b (hb | ⟨p, hp, hb⟩)
      · exact h2.new b hb
      · have h4 : p = (0, .row ee size els) := by simpa using hp
        subst h4
        exact .inr (h3.blk_lt hb).1
    · rintro b (hb | ⟨p, hp, hb⟩)
      · exact h2.lt b hb
      · have h4 : p = (0, .row ee size els) := by simpa using hp
        subst h4
        exact (h3.blk_lt hb).2⟩

theorem OCall.eq {P : Program} {f : FuncId} {ds : List D} {ee size : Nat} {els els' : List (List D)} (h : OCall P f ds ee size els) (he : els = els') : OCall P f ds ee size els' := he ▸ h
theorem obOk_base {B B' : Nat} {F : Nat → Prop} {ρ ρ' : Nat → Value} {w : World} {id id' ee size : Nat} {els : List (List D)} (h : ObOk B F ρ w id (.row ee size els)) (hB : B' ≤ B) (he : ρ id = ρ' id') : ObOk B' F ρ' w id' (.row ee size els) := by
  obtain ⟨xs, h1, h2, h3, h4⟩ := h
  rw [he] at h1 h4
  refine ⟨xs, ⟨h1.1, ?_⟩, h2, h3, h4⟩
  rcases h1.2 with h5 | ⟨g, cap, cur, h5, h6, h7⟩
  · exact .inl h5
  · exact .inr ⟨g, cap, cur, h5, Nat.le_trans hB h6, h7⟩

/-- A new own object, where more is data now. -/
theorem R0.newObF {cx : Cx} {F F' : Nat → Prop} {ρ : Nat → Value} {e : Env} {σ : Obs} {a : Act} {w w' : World} (hr : R0 cx F ρ e σ a w) {id dst : Nat} {ob : Ob} {v : Value} (hid : ∀ p ∈ σ, p.1 ≠ id) (hd : dst < cx.N) (hE : Ext F w F' w')
    (hob : ObOk cx.B F' (fun j => if j = id then v else ρ j) w' id ob) (hnew : ∀ g, blk v = some g → w.heap.size ≤ g) (hfx : cx.free id = true) :
    ∃ ρ', R0 cx F' ρ' ((e.kill id).put (some dst) (.own id)) ((id, ob) :: Obs.kill id σ) (a.put (some dst) v) w' := by
  refine ⟨fun j => if j = id then v else ρ j, ?_⟩
  have h2 := hr.turn (ρ' := fun j => if j = id then v else ρ j) (id := id) (ob := ob) (row := none) (w' := w') (F' := F') (fun j hj => by simp [hj])
    ⟨hE.below.os, hE.below.tape, hE.below.output, hE.below.size, fun k hk _ => hE.below.block k hk⟩ hfx (fun g hg => by simp at hg) hE.up hE.new hE.lt hob
    (fun g hg => by rw [if_pos rfl] at hg; exact .inr (hnew g hg)) ((id, ob) :: Obs.kill id σ) (fun p hp => by
      cases hp with
      | head => exact .inl rfl
      | tail _ hp => obtain ⟨q, hq, rfl⟩ := Obs.mem_kill hp; exact .inr ⟨q, hq, hid q hq, rfl⟩)
  exact h2.put (o := ⟨some dst, .ready 0, 0, "", #[], none⟩) (v := v) (s := .own id) (Ext.refl h2.lt) (by
      have := RepS.own (F := F') (ρ := fun j => if j = id then v else ρ j) (w := w') id
      simpa using this) (by simpa [DstOk, Nat.blt_eq] using hd)

section
variable {cx : Cx} {ops : Array Oper} {o : Oper} {rest : List Oper} {e : Env} {σ : Obs} {Q : Post}
theorem AOps.callO {f : FuncId} {xs : List Operand} {ts : Array TypeId} {ds : List D} {ee size dst : Nat} {els : List (List D)} (id : Nat) (hg : o.guard = none) (ht : o.dst = some dst) (hdn : Nat.blt dst cx.N = true)
    (ho : o.op = .call { callee := .value (.func f), args := xs.toArray, argTypes := ts }) (ha : ArgsOk e xs ds) (h : OCall cx.P f ds ee size els) (hid : Obs.fresh id σ = true)
    (k : AOps cx ops rest ((e.kill id).put (some dst) (.own id)) ((id, .row ee size els) :: Obs.kill id σ) Q) (hfx : cx.free id = true := by rfl) : AOps cx ops (o :: rest) e σ Q := by
  intro a w ⟨F, ρ, hr⟩
  have hdn' : dst < cx.N := by simpa [Nat.blt_eq] using hdn
  have h4 := h.2 F w (xs.map a.eval) hr.lt (repL_ops ha (fun x _ => ev_rep fun t _ => hr.env t))
  have h5 := h.1 (xs.map a.eval).toArray w
  have hx : (execOp a.eval o).run cx.P w = .ok (.enter f (xs.map a.eval).toArray) w := by
    unfold execOp
    simp only [ho, resolve, Deferred.ofValue, Act.eval, invoke, Sem.run_bind, Sem.run_pure, Result.andThen_ok]
    simpa using h5
  refine wpList_plain hg fun K hK => ?_
  unfold Oper.wp
  rw [hx]
  refine h4.mono fun _ w' ⟨v, F', he, hE, hob⟩ => ?_
  subst he
  obtain ⟨ρ', h6⟩ := hr.newObF (ob := .row ee size els) (v := v) (Obs.fresh_spec hid) hdn' hE (obOk_base hob hr.hB (by simp)) (fun g hg => (hob.blk_lt hg).1) hfx
  have := k _ _ ⟨F', ρ', h6⟩
  rw [← ht] at this
  exact hK _ _ this
/-- []T{}: an own row of no elements. -/
theorem AOps.build0 {t el size bytes dst : Nat} {z : Value} (id : Nat) (hg : o.guard = none) (ht : o.dst = some dst) (hdn : Nat.blt dst cx.N = true) (ho : o.op = .buildSlice t 0 #[]) (T : ElemTy cx.P t el size bytes z) (hid : Obs.fresh id σ = true)
    (k : AOps cx ops rest ((e.kill id).put (some dst) (.own id)) ((id, .row el size []) :: Obs.kill id σ) Q) (hfx : cx.free id = true := by rfl) : AOps cx ops (o :: rest) e σ Q := by
  intro a w ⟨F, ρ, hr⟩
  have hdn' : dst < cx.N := by simpa [Nat.blt_eq] using hdn
  have hrun : (execOp a.eval o).run cx.P w = .ok (.value (.slice (some ⟨w.heap.size, 0, none⟩) 0 0)) (w.alloc (.cells #[] el)) := by
    unfold execOp
    simp only [ho, Instr.buildSlice, Sem.run_bind, run_underlying T.ht, Result.andThen_ok, T.sizeOf, Nat.zero_mul]
    rw [if_neg (show ¬ (0 > 2 ^ 24) by decide), if_pos trivial]
    simp only [Sem.run_bind, Sem.run_pure, Result.andThen_ok]
    have hfl : Instr.fill (fun i => some (i * size, size)) (Array.map (fun x => (#[] : Array Value)[x % (#[] : Array Value).size]!) (Array.range 0)) (Array.map (fun (x : Nat × Operand) => (x.fst, a.eval x.snd)) #[]).toList = some #[] := by simp [Instr.fill]
    rw [hfl]
    rfl
  have hrow : (w.alloc (.cells #[] el)).ownsRow cx.B el size (.slice (some ⟨w.heap.size, 0, none⟩) 0 0) 0 [] :=
    ⟨by simp, .inr ⟨w.heap.size, 0, #[], rfl, hr.hB, heap_alloc_new w _, Nat.zero_le _, by unfold maxLen; omega, by simp, by simp⟩⟩
  obtain ⟨ρ', h5⟩ := hr.newRow (v := .slice (some ⟨w.heap.size, 0, none⟩) 0 0) (els := []) (Obs.fresh_spec hid) hdn' ((Below.refl _ _).alloc (Nat.le_refl _) (.cells #[] el))
    ⟨fun _ _ => undef, by dsimp only; rw [if_pos rfl]; exact hrow, fun i hi => by simp at hi, fun i hi => by simp at hi, fun g hg hf => by dsimp only at hg; rw [if_pos rfl] at hg; simp [blk] at hg; have := hr.lt g hf; omega⟩
    (fun g hg => by simp [blk] at hg; omega) hfx
  refine wpList_plain hg fun K hK => ?_
  unfold Oper.wp
  rw [hrun]
  have := k _ _ ⟨F, ρ', h5⟩
  rw [← ht] at this
  exact hK _ _ this

/-- A slice of no elements: nil, or not. -/
theorem AWP.nilOr {cd : Code} (t : Nat) (ht : e t = .d (.sl [])) (h1 : AWP cx cd (e.put (some t) (.d (.v (.slice none 0 0)))) σ Q) (h2 : ∀ ad cap, cap ≤ 9223372036854775807 → AWP cx cd (e.put (some t) (.d (.v (.slice (some ad) 0 cap)))) σ Q) : AWP cx cd e σ Q := fun a w ⟨F, ρ, hr⟩ => by
  have h3 := hr.env t
  rw [ht] at h3
  have h4 := repS_d h3
  have key : ∀ {v : Value}, a.tmps.getD t undef = v → R cx (e.put (some t) (.d (.v v))) σ a w := fun {v} hv => ⟨F, ρ, hr.size, hr.defers, hr.lt, hr.base, hr.new, hr.below, hr.hB, fun u => by
    by_cases hu : u = t
    · subst hu
      rw [Env.put_same, hv]
      exact .d (.v _)
    · rw [Env.put_other _ _ _ _ hu]
      exact hr.env u, hr.obs, hr.up, hr.kown, hr.fixed⟩
  rcases rep_sl_sl h4 with ⟨h5, _⟩ | ⟨ad, cap, size, vs, h5, hc, hm, _⟩
  · exact h1 a w (key h5)
  · exact h2 ad cap hm a w (key (by rw [h5]; rfl))
end

theorem Le.empty {ad : Addr} {cap : Nat} (h : cap ≤ 9223372036854775807) : Le (.v (.slice (some ad) 0 cap)) (.sl []) := fun F w x hx => by
  rw [rep_v hx]
  exact .sl ad cap 0 [] (fun _ _ => undef) (Nat.zero_le _) h (fun h => absurd h (by simp)) (fun i hi => by simp at hi) (fun i j hi => by simp at hi) (fun i j hi => by simp at hi) (fun i hi => by simp at hi)
theorem AOps.le {cx : Cx} {ops : Array Oper} {rest : List Oper} {e : Env} {σ : Obs} {Q : Post} (t : Nat) {s' : S} {s : S} (ht : e t = s) (h : SLe s s') (k : AOps cx ops rest (e.put (some t) s') σ Q) : AOps cx ops rest e σ Q := fun a w ⟨F, ρ, hr⟩ =>
  k a w ⟨F, ρ, hr.size, hr.defers, hr.lt, hr.base, hr.new, hr.below, hr.hB, fun u => by
    by_cases hu : u = t
    · subst hu
      rw [Env.put_same]
      have := hr.env u
      rw [ht] at this
      exact h F ρ w _ this
    · rw [Env.put_other _ _ _ _ hu]
      exact hr.env u, hr.obs, hr.up, hr.kown, hr.fixed⟩

section
variable {P : Program} {B : Nat} {ops : Array Oper} {o : Oper} {e : Env} {σ : Obs}
theorem eqGuard_sl (op : BinOp) (t : TypeId) (x y : Operand) (a b : Option Addr) (n m c d : Nat) (w : World) : (eqGuard op t x y (.slice a n c) (.slice b m d)).run P w = .ok () w := by
  unfold eqGuard; cases op <;> rfl
theorem run_slice_eq_nil {t el : TypeId} (w : World) (a : Option Addr) (n c : Nat) (ht : P.underlying t = some (.slice el)) : (binOp .eql t (.slice a n c) (.slice none 0 0)).run P w = .ok (.bool a.isNone) w := by
  unfold binOp
  simp only [Sem.run_bind, run_equal_slice_nil w t el a n c ht, Result.andThen_ok]
  rfl
/-- x == nil. -/
theorem AOp.eqNilV {t ty el : TypeId} {x y : Operand} {a : Option Addr} {n c : Nat} (ho : o.op = .binOp .eql t x y ty) (ht : P.underlying t = some (.slice el)) (hx : e.ev x = .d (.v (.slice a n c))) (hy : e.ev y = .d (.v (.slice none 0 0))) :
    AOp P B ops o e σ (.d (.v (.bool a.isNone))) := .bin ho hx hy fun w => by
  rw [Sem.run_bind, eqGuard_sl]
  exact run_slice_eq_nil w a n c ht
theorem AOp.eqNilS {t ty el : TypeId} {x y : Operand} {els : List (List D)} (ho : o.op = .binOp .eql t x y ty) (ht : P.underlying t = some (.slice el)) (hx : e.ev x = .d (.sl els)) (hy : e.ev y = .d (.v (.slice none 0 0))) (hne : els ≠ []) :
    AOp P B ops o e σ (.d (.v (.bool false))) := .value fun F ρ w a hF hr _ => by
  have h1 := hr x (by rw [ho]; simp [Op.operands])
  have h2 := hr y (by rw [ho]; simp [Op.operands])
  rw [hx] at h1
  rw [hy] at h2
  refine ⟨.bool false, F, w, ?_, .d (.v _), Ext.refl hF⟩
  rcases rep_sl_sl (repS_d h1) with ⟨_, h5⟩ | ⟨ad, cap, size, vs, h5, _⟩
  · exact absurd h5 hne
  · unfold execOp
    simp only [ho, h5, repS_v h2]
    have h3 : (do eqGuard .eql t x y (.slice (some ad) els.length cap) (.slice none 0 0); binOp .eql t (.slice (some ad) els.length cap) (.slice none 0 0) : Sem Value).run P w = .ok (.bool false) w := by
      rw [Sem.run_bind, eqGuard_sl]
      exact run_slice_eq_nil w _ _ _ ht
    rw [Sem.run_bind, h3]
    rfl
end

/-! ## Contracts -/
def RetO (t ee size : Nat) (els : List (List D)) : Post := fun ex e σ => match ex with
  | .ret => ∃ id, e t = .own id ∧ (id, Ob.row ee size els) ∈ σ
  | .normal => ∃ id, e t = .own id ∧ (id, Ob.row ee size els) ∈ σ
  | _ => False
theorem ocall_of {P : Program} {f : FuncId} {fn : Func} {c : Code} {n ee size : Nat} {ds : List D} {els : List (List D)} (hf : P.funcs[f]? = some fn) (hb : fn.body = some c) (hn : (fn.name == "runtime.NumGoroutine") = false) (hN : fn.ntmps = n)
    (t : Nat) (hr : fn.results = #[.tmp t]) (hle' : Nat.ble ds.length n = true) (h : ∀ B w0 F0 fr, AWP ⟨P, n, B, w0, F0, fr, fun _ => false, fun _ => undef⟩ c (Env.args 0 ds) [] (RetO t ee size els)) : OCall P f ds ee size els := by
  have hle : ds.length ≤ n := Nat.le_of_ble_eq_true hle'
  refine ⟨Enters.of hf hn (by rw [hb]; rfl), fun F w vs hF hv => ?_⟩
  refine calls_of_wp hf hb ?_
  have hR : R ⟨P, n, w.heap.size, w, F, (fun b => w.heap.size ≤ b), fun _ => false, fun _ => undef⟩ (Env.args 0 ds) [] { tmps := vs.toArray ++ Array.replicate (fn.ntmps - vs.toArray.size) undef, defers := [] } w := by
    refine ⟨F, fun _ => undef, ?_, rfl, hF, fun b hb => hb, fun b hb => .inl hb, Kept.refl _ _, Nat.le_refl _, fun t => ?_, ⟨fun p hp => by simp at hp, fun p hp => by simp at hp, fun p hp => by simp at hp⟩, fun b hb => hb, fun p hp => by simp at hp, fun i hi => by simp at hi⟩
    · simp [hN, hv.1]; omega
    · by_cases ht : t < ds.length
      · have := Env.args_get ds 0 t ht
        rw [Nat.zero_add] at this
        rw [this]
        have hvt : t < vs.length := by rw [hv.1]; exact ht
        have : (vs.toArray ++ Array.replicate (fn.ntmps - vs.toArray.size) undef).getD t undef = vs[t] := by
          rw [Array.getD_eq_getD_getElem?, Array.getElem?_append_left (by simpa using hvt)]
          simp [hvt]
        rw [this]
        exact .d (hv.2 t hvt ht)
      · have := Env.args_out ds 0 t (by omega)
        rw [Nat.zero_add] at this
        rw [this]
        exact .d (.any _)
  refine wp_mono (h _ _ _ _ _ _ hR) ?_
  rintro ex a w' ⟨e', σ', hq, F', ρ', hr'⟩
  have hres : (results fn a.tmps).run P w' = .ok (a.tmps.getD t undef) w' := by
    have key : ∀ (ts : List Nat), (List.mapM (fun r => match r with | .tmp t => pure (a.tmps.getD t undef) | .cell b t => do loadVar t (← asAddr (a.tmps.getD b undef))) (ts.map ResultVar.tmp) : Sem (List Value)).run P w' = .ok (ts.map fun t => a.tmps.getD t undef) w' := by
      intro ts
      induction ts with
      | nil => rfl
      | cons t ts ih =>
        rw [List.map_cons, List.mapM_cons, Sem.run_bind]
        simp only [Sem.run_pure, Result.andThen_ok, Sem.run_bind, ih, List.map_cons]
    unfold results
    rw [hr, Sem.run_bind]
    have h2 : (Array.mapM (fun r => match r with | ResultVar.tmp t => pure (a.tmps.getD t undef) | ResultVar.cell b t => do loadVar t (← asAddr (a.tmps.getD b undef))) (([t] : List Nat).map ResultVar.tmp).toArray : Sem (Array Value)).run P w' = .ok (([t] : List Nat).map fun t => a.tmps.getD t undef).toArray w' := by
      rw [List.mapM_toArray, Sem.run_map, key]
      rfl
    refine (congrArg (fun r => Result.andThen r _) h2).trans ?_
    simp only [Result.andThen_ok]
    rfl
  have hends : (∃ id, e' t = .own id ∧ (id, Ob.row ee size els) ∈ σ') → bodyPost P fn (fun r w' => ∃ v F', r = .returned v ∧ Ext F w F' w' ∧ ObOk w.heap.size F' (fun _ => v) w' 0 (.row ee size els)) .ret a w' := by
    rintro ⟨id, h1, h2⟩
    have h3 := hr'.env t
    rw [h1] at h3
    have h4 : a.tmps.getD t undef = ρ' id := by generalize a.tmps.getD t undef = v at h3; cases h3; rfl
    refine ⟨hr'.defers, _, hres, _, F', rfl, ⟨hr'.base, fun b hb => (hr'.new b hb).imp (fun x => x) fun x => x, hr'.lt, ⟨hr'.below.os, hr'.below.tape, hr'.below.output, hr'.below.size, fun k hk => hr'.below.block k hk (fun hf => by have h5 : w.heap.size ≤ k := hf; omega)⟩⟩, obOk_base (hr'.obs.ok _ h2) (Nat.le_refl _) h4.symm⟩
  cases ex with
  | ret => exact hends hq
  | normal => exact hends hq
  | exit id => exact hq.elim
  | goto l => exact hq.elim
  | panic c => exact hq.elim
  | outgrown => exact hq.elim
end Go.Proofs.YtfajemnegkfigaaDoor


namespace Go.Proofs.YtfajemnegkfigaaDoor
open Go.RowKit
set_option linter.unusedVariables false

/-- One operation, from worlds that keep what was there at the beginning. -/
def AOpK (cx : Cx) (ops : Array Oper) (o : Oper) (e : Env) (σ : Obs) (s : S) : Prop :=
  ∀ (F : Nat → Prop) (ρ : Nat → Value) (w : World) (a : Act), Kept cx.fr cx.w0 w → (∀ b, F b → b < w.heap.size) → (∀ t, t ∈ o.looksAt ops → RepS F ρ w (a.tmps.getD t undef) (e t)) → ObsOk cx.B F ρ w σ →
    o.wp cx.P a w (fun a' w' => ∃ v F', a' = a.put o.dst v ∧ RepS F' ρ w' v s ∧ Ext F w F' w') (fun _ _ _ => False)
theorem AOp.toK {cx : Cx} {ops : Array Oper} {o : Oper} {e : Env} {σ : Obs} {s : S} (h : AOp cx.P cx.B ops o e σ s) : AOpK cx ops o e σ s := fun F ρ w a _ => h F ρ w a
theorem AOpK.callT {cx : Cx} {ops : Array Oper} {o : Oper} {e : Env} {σ : Obs} {T : World → Prop} {f : FuncId} {xs : List Operand} {ts : Array TypeId} {ds : List D} {d : D} (hst : Stays T) (hfr : cx.fr = fun b => cx.w0.heap.size ≤ b) (hT : T cx.w0)
    (ho : o.op = .call { callee := .value (.func f), args := xs.toArray, argTypes := ts }) (ha : ArgsOk e xs ds) (h : ACallT cx.P T f ds d) : AOpK cx ops o e σ (.d d) := by
  intro F ρ w a hK hF hr _
  have h1 : RepL F w (xs.map a.eval) ds := ha.rep (ρ := ρ) fun t ht => hr t (looks_op (by rw [ho]; simp [Op.operands, Call.operands, ht]))
  rw [hfr] at hK
  have h2 := h.2 F w _ (hst _ _ hK hT) hF h1
  have h3 := h.1 (xs.map a.eval).toArray w
  have hx : (execOp a.eval o).run cx.P w = .ok (.enter f (xs.map a.eval).toArray) w := by
    unfold execOp
    simp only [ho, resolve, Deferred.ofValue, Act.eval, invoke, Sem.run_bind, Sem.run_pure, Result.andThen_ok]
    simpa using h3
  unfold Oper.wp
  rw [hx]
  exact h2.mono fun _ w' ⟨v, F', he, hv, hE⟩ => by subst he; exact ⟨v, F', rfl, .d hv, hE⟩

def KRun (cx : Cx) (ops : Array Oper) (σ : Obs) : List Oper → Env → (Env → Prop) → Prop
  | [], e, Qe => Qe e
  | o :: l, e, Qe => DstOk cx.N o ∧ ((∃ s, GW ops o e true ∧ AOpK cx ops o e σ s ∧ KRun cx ops σ l (e.put o.dst s) Qe) ∨ (GW ops o e false ∧ KRun cx ops σ l (e.put o.dst (.d (.v undef))) Qe))

theorem KRun.nil {cx : Cx} {ops : Array Oper} {σ : Obs} {e : Env} {Qe : Env → Prop} (h : Qe e) : KRun cx ops σ [] e Qe := h
theorem KRun.cons {cx : Cx} {ops : Array Oper} {σ : Obs} {e : Env} {Qe : Env → Prop} {o : Oper} {l : List Oper} {s : S} (hg : GW ops o e true) (hd : DstOk cx.N o) (h : AOpK cx ops o e σ s)
    (k : KRun cx ops σ l (e.put o.dst s) Qe) : KRun cx ops σ (o :: l) e Qe := ⟨hd, .inl ⟨s, hg, h, k⟩⟩
theorem KRun.step {cx : Cx} {ops : Array Oper} {σ : Obs} {e : Env} {Qe : Env → Prop} {o : Oper} {l : List Oper} {s : S} {t : Nat} (hg : GW ops o e true) (ht : o.dst = some t) (hd : Nat.blt t cx.N = true) (h : AOpK cx ops o e σ s)
    (k : KRun cx ops σ l (e.put (some t) s) Qe) : KRun cx ops σ (o :: l) e Qe := .cons hg (by unfold DstOk; rw [ht]; exact hd) h (by rw [ht]; exact k)
def KStep (cx : Cx) (ops : Array Oper) (σ : Obs) (o : Oper) (e : Env) (s : S) : Prop :=
  (GW ops o e true ∧ AOpK cx ops o e σ s) ∨ (GW ops o e false ∧ s = .d (.v undef))

theorem KStep.same {cx : Cx} {ops : Array Oper} {σ : Obs} {o : Oper} {e e' : Env} {s : S} (h : KStep cx ops σ o e s) (he : ∀ t, t ∈ o.looksAt ops → e' t = e t) : KStep cx ops σ o e' s := by
  rcases h with ⟨h1, h2⟩ | ⟨h1, h2⟩
  · exact .inl ⟨h1.same he, fun F ρ w a hK hF ha hσ => h2 F ρ w a hK hF (fun t ht => by rw [← he t ht]; exact ha t ht) hσ⟩
  · exact .inr ⟨h1.same he, h2⟩

def anyK (cx : Cx) (ops : Array Oper) (σ : Obs) (Qe : Env → Prop) : Nat → Array Bool → Env → Prop
  | 0, listed, e => Region.ready .any ops listed = [] ∧ Qe e
  | fuel + 1, listed, e => (Region.ready .any ops listed = [] → Qe e) ∧
      ∀ i ∈ Region.ready .any ops listed, ∀ o, ops[i]? = some o → ∃ s, KStep cx ops σ o e s ∧ anyK cx ops σ Qe fuel (listed.setIfInBounds i true) (e.put o.dst s)

theorem anyK_first {cx : Cx} {ops : Array Oper} {σ : Obs} {Qe : Env → Prop} {i : Nat} {oi : Oper} {s : S} (hi : ops[i]? = some oi) :
    ∀ (fuel : Nat) (listed : Array Bool) (e : Env),
      (∀ j oj, ops[j]? = some oj → j ≠ i → listed.getD j true = false → (∀ e ∈ oj.after, Region.binds .any e = true → e.on ≠ i) → oi.apart ops oj = true) →
      i ∈ Region.ready .any ops listed → KStep cx ops σ oi e s → anyK cx ops σ Qe fuel (listed.setIfInBounds i true) (e.put oi.dst s) → anyK cx ops σ Qe (fuel + 1) listed e := by
  intro fuel
  induction fuel with
  | zero =>
    intro listed e _ hr hy H
    refine ⟨fun h => (by rw [h] at hr; cases hr), fun j hj o ho => ?_⟩
    by_cases hji : j = i
    · subst hji
      rw [hi] at ho; cases ho
      exact ⟨s, hy, H⟩
    · have := ready_mono hj hji
      rw [H.1] at this
      cases this
  | succ fuel ih =>
    intro listed e hfree hr hy H
    refine ⟨fun h => (by rw [h] at hr; cases hr), fun j hj oj hoj => ?_⟩
    by_cases hji : j = i
    · subst hji
      rw [hi] at hoj; cases hoj
      exact ⟨s, hy, H⟩
    · obtain ⟨sj, h1, h2⟩ := H.2 j (ready_mono hj hji) oj hoj
      obtain ⟨hjun, oj', hoj', hall⟩ := mem_ready.1 hj
      rw [hoj] at hoj'; cases hoj'
      have hnot : ∀ e ∈ oj.after, Region.binds .any e = true → e.on ≠ i := fun e he hb heq => by
        have h1 := hall e he hb
        have h0 := (mem_ready.1 hr).1
        rw [heq] at h1
        rcases Nat.lt_or_ge i listed.size with h' | h'
        · simp [h'] at h0 h1; rw [h0] at h1; cases h1
        · simp [Array.getElem?_eq_none h'] at h1
      obtain ⟨a1, a2, a3⟩ := Oper.apart_spec (hfree j oj hoj hji hjun hnot)
      refine ⟨sj, h1.same (fun t ht => (put_looks a1 t ht).symm), ?_⟩
      refine ih (listed.setIfInBounds j true) (e.put oj.dst sj) (fun k ok hk hki hun hno => ?_) (ready_mono hr (Ne.symm hji)) (hy.same (put_looks a3)) ?_
      · refine hfree k ok hk hki ?_ hno
        by_cases hjk : j = k
        · subst hjk; exact hjun
        · rw [getD_set_ne true hjk] at hun; exact hun
      · rw [Array.setIfInBounds_comm _ _ hji, ← Env.put_comm e oi.dst oj.dst s sj a2]
        exact h2

theorem anyK_lex {cx : Cx} {ops : Array Oper} {σ : Obs} {Qe : Env → Prop} : ∀ (l : List Oper) (k : Nat) (listed : Array Bool) (e : Env), (∀ j, l[j]? = ops[k + j]?) →
    Region.lexFrom .any ops l.length k listed = true → KRun cx ops σ l e Qe → anyK cx ops σ Qe l.length listed e
  | [], _, _, _, _, hB, h => ⟨by simpa [Region.lexFrom] using hB, h⟩
  | o :: l, k, listed, e, hl, hB, h => by
    have h0 : ops[k]? = some o := by simpa using (hl 0).symm
    simp only [List.length_cons, Region.lexFrom, Bool.and_eq_true] at hB
    obtain ⟨⟨hr, hf⟩, hB'⟩ := hB
    have hl' : ∀ j, l[j]? = ops[k + 1 + j]? := fun j => by have := hl (j + 1); simpa [Nat.add_assoc, Nat.add_comm 1 j] using this
    obtain ⟨_, ⟨s, hg, ho, hK⟩ | ⟨hg, hK⟩⟩ := h
    · exact anyK_first h0 l.length listed e (Region.free_spec h0 hf) (by simpa using hr) (.inl ⟨hg, ho⟩) (anyK_lex l (k + 1) _ _ hl' hB' hK)
    · exact anyK_first h0 l.length listed e (Region.free_spec h0 hf) (by simpa using hr) (.inr ⟨hg, rfl⟩) (anyK_lex l (k + 1) _ _ hl' hB' hK)

theorem KRun.dsts {cx : Cx} {ops : Array Oper} {σ : Obs} {Qe : Env → Prop} : ∀ (l : List Oper) (e : Env), KRun cx ops σ l e Qe → ∀ o ∈ l, DstOk cx.N o
  | [], _, _, o, ho => by cases ho
  | x :: l, e, h, o, ho => by
    obtain ⟨h1, ⟨_, _, _, h2⟩ | ⟨_, h2⟩⟩ := h <;> (cases ho with
      | head => exact h1
      | tail _ ho => exact KRun.dsts l _ h2 o ho)

theorem wpAny_of_K {cx : Cx} {ops : Array Oper} {σ : Obs} {Q : Post} (hd : ∀ o ∈ ops.toList, DstOk cx.N o) : ∀ (fuel : Nat) (listed : Array Bool) (e : Env) (a : Act) (w : World), R cx e σ a w →
    anyK cx ops σ (fun e => Q .normal e σ) fuel listed e → wpAny cx.P .any ops (lift cx Q) fuel listed a w
  | 0, _, e, _, _, hr, h => ⟨h.1, e, σ, h.2, hr⟩
  | fuel + 1, listed, e, a, w, hr, h => by
    refine ⟨fun h0 => ⟨e, σ, h.1 h0, hr⟩, fun i hi => ?_⟩
    obtain ⟨_, o, ho, _⟩ := mem_ready.1 hi
    obtain ⟨s, hs, hk⟩ := h.2 i hi o ho
    have hdo : DstOk cx.N o := hd o (Array.mem_toList_iff.2 (Array.mem_of_getElem? ho))
    unfold wpOp
    simp only [ho]
    obtain ⟨F, ρ, hr⟩ := hr
    rcases hs with ⟨hg, hop⟩ | ⟨hg, rfl⟩
    · rw [if_pos (hg.wanted (fun t _ => hr.env t))]
      refine .inl (wp_to ?_ (fun _ _ _ => False.elim) (hop F ρ w a hr.below hr.lt (fun t _ => hr.env t) hr.obs))
      rintro a' w' ⟨v, F', rfl, hv, he⟩
      exact wpAny_of_K hd fuel _ _ _ _ ⟨F', ρ, hr.put he hv hdo⟩ hk
    · rw [if_neg (by rw [hg.wanted (fun t _ => hr.env t)]; simp)]
      exact wpAny_of_K hd fuel _ _ _ _ ⟨F, ρ, hr.put (Ext.refl hr.lt) repS_undef hdo⟩ hk

/-- A region that draws its order, walked once, in the order of the text. -/
theorem AWP.drawK {cx : Cx} {id : Nat} {l : List Oper} {e : Env} {σ : Obs} {Q : Post} (hm : cx.P.follows .mixedOrders = true) (hB : Region.lexB .any l.toArray = true)
    (h : KRun cx l.toArray σ l e (fun e => Q .normal e σ)) : AWP cx (.region id l.toArray true) e σ Q := by
  intro a w ⟨F, ρ, hr⟩
  simp only [Region.lexB, Bool.and_eq_true] at hB
  have h1 := anyK_lex l 0 (Array.replicate l.toArray.size false) e (by simp) (by simpa using hB.2) h
  exact wp_region_any hm (wpAny_of_K (by simpa using KRun.dsts l e h) _ _ e a _ ⟨F, ρ, hr.drew⟩ (by simpa using h1))


end Go.Proofs.YtfajemnegkfigaaDoor
