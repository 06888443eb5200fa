/- Walks and laws over abstract values, merged by tools/merge.py. No statement of the seat. -/
import Derived.Shelf.SlSortCmp.WholeK
import Derived.Lib.RowBridge
import Derived.StillTailTactics
import Derived.Shelf.Strings.Builder1
import Derived.Lib.AppendStr
import Derived.Lib.UnsafeStr
import Derived.WalkKit
import Derived.Ground.NamesProg
import Derived.Shelf.LaysM
import Derived.Shelf.Strconv.Itoa3
import Derived.Test.YtcfamaddnmnaeaaGreatDoorProg
import Derived.Shelf.RegionOpenPlain
import Derived.Lib.ItoaLen
import Derived.Shelf.Strings.Cut
import Derived.Shelf.Strings.Split
import Derived.Shelf.Strconv.Atoi
import Derived.Test.YtcfamaddnmnaeaaGreatDoorZB5

namespace Go.Proofs.YtcfamaddnmnaeaaGreatDoor
open Go.RowKit Go.Shelf Go.Lib Go.Sort
set_option linter.unusedVariables false
set_option linter.unusedSimpArgs false

/-! ## A row of structs, by its elements' numbers -/
section
variable {α : Type} [Inhabited α]
end
/-! ## Sorted lists, whatever the order -/
section
variable {α : Type} (cf : α → α → Int)
def sortF (l : List α) : List α := l.mergeSort fun x y => !(ltOf cf y x)
def DistF (l : List α) : Prop := l.Pairwise fun x y => ltOf cf x y = true ∨ ltOf cf y x = true
def RiseF (l : List α) : Prop := l.Pairwise fun x y => ltOf cf x y = true
variable {cf}
end
/-- slices.SortFunc at structs of k cells, in whatever world. -/
structure SortT (P : Program) (sf k : Nat) : Prop where
  ent : ∀ args w, (callFunc sf args).run P w = .ok (.enter sf args) w
  nil : ∀ fv w, Calls P sf #[.slice none 0 0, fv] w fun e w' => e = .returned (.tuple #[]) ∧ w' = w
  all : ∀ (enc : Nat → List Value), (∀ x, (enc x).length = k) → (∀ x, ∀ v ∈ enc x, v.oneCell' = true) → ∀ (cf : Nat → Nat → Int), SWO (ltOf cf) → ∀ (g blk cap : Nat) (d : Array Nat) (w : World), (∀ args w, (callFunc g args).run P w = .ok (.enter g args) w) → CmpLays P g #[] enc k cf blk 0 d.size w → HoldsK enc k w blk 0 d → blk < w.heap.size → d.size < 4611686018427387904 →
    Calls P sf #[.slice (some ⟨blk, 0, none⟩) d.size cap, .func (.func g) #[] #[]] w fun e w' => e = .returned (.tuple #[]) ∧ ∃ d' n os, PermIn 0 d.size d d' ∧ SortedIn (ltOf cf) 0 d.size d' ∧ w' = sortWorldK enc k w blk 0 n d' os
section
variable {α : Type} [Inhabited α] (dz : α → List D) (k : Nat) (cf : α → α → Int)
/-- The elements' order, by a closure that looks at their cells. -/
def CmpT (P : Program) (g k : Nat) (dz : α → List D) (cf : α → α → Int) : Prop := ∀ (F : Nat → Prop) (w0 W : World) (x y : α) (xs ys : List Value), xs.length = k → ys.length = k → (∀ i (h : i < xs.length) (h' : i < (dz x).length), Rep F w0 xs[i] (dz x)[i]) → (∀ i (h : i < ys.length) (h' : i < (dz y).length), Rep F w0 ys[i] (dz y)[i]) →
  Calls P g #[.agg xs.toArray, .agg ys.toArray] W fun e w' => e = .returned (.int .i64 (cf x y)) ∧ ∃ q os', w' = grow (W.drewN q) os'
variable {dz k cf}
/-- The cells of the element with a number. -/
def encF (ys : Nat → Nat → Value) (zs : List Value) (k n i : Nat) : List Value := if i < n then (List.range k).map (ys i) else zs
def cfF (cf : α → α → Int) (xs : List α) (i j : Nat) : Int := cf (xs.getD i default) (xs.getD j default)
end
end Go.Proofs.YtcfamaddnmnaeaaGreatDoor

namespace Go.Proofs.YtcfamaddnmnaeaaGreatDoor
open Go.RowKit
set_option linter.unusedVariables false

/-! Types. -/
namespace TyM1
end TyM1
open TyF0 TyF1 TyF2 TyF3 TyF4 TyF5 TyF6 TyF7 TyF8 TyF9 TyF10 TyF11 TyG1 TyG2 TyG5 TyU1 TyU2 TyU3 TyU4 TyM1

structure Usd where
  title : ByteArray
  units : Int
  money : Int
deriving DecidableEq
structure Rpt where
  source : ByteArray
  no : Int
  period : Int
  corrects : Int
  lines : List Usd
deriving DecidableEq
instance : Inhabited Usd := ⟨⟨⟨#[]⟩, 0, 0⟩⟩
instance : Inhabited Rpt := ⟨⟨⟨#[]⟩, 0, 0, 0, []⟩⟩
def Usd.ds (x : Usd) : List D := [.v (.string x.title), .v (.int .i64 x.units), .v (.int .i64 x.money)]
def Rpt.ds (x : Rpt) : List D := [.v (.string x.source), .v (.int .i64 x.no), .v (.int .i64 x.period), .v (.int .i64 x.corrects), .sl (x.lines.map Usd.ds)]

/-- The fault of a line, behind the one ahead of it. -/
def usdF (l : List Usd) (k : Nat) : Int :=
  if h : k < l.length then
    if titleOk l[k].title = false then 3
    else if ¬ ((0 ≤ l[k].units ∧ l[k].units ≤ 1000000000) ∧ 0 ≤ l[k].money ∧ l[k].money ≤ 1000000000) then 1
    else if 0 < k ∧ sle l[k].title (l[k-1]'(by omega)).title = true then 8 else 0
  else 0
def rptF (x : Rpt) : Int :=
  if nameOk x.source = false then 5
  else if ¬ ((1 ≤ x.no ∧ x.no ≤ 1000000) ∧ (0 ≤ x.period ∧ x.period ≤ 2400) ∧ 0 ≤ x.corrects ∧ x.corrects ≤ x.no - 1) then 1
  else if 100 < x.lines.length then 2
  else ffst (usdF x.lines) x.lines.length

open Go.Sort Go.Lib
def rCmp (a b : Rpt) : Int := if compareBytes a.source.data.toList b.source.data.toList = 0 then compareInt a.no b.no else compareBytes a.source.data.toList b.source.data.toList
def ltR (a b : Rpt) : Bool := decide (rCmp a b < 0)
def sameK (a b : Rpt) : Bool := decide (a.source = b.source) && decide (a.no = b.no)
theorem baEq {a b : ByteArray} : a.data.toList = b.data.toList ↔ a = b := by
  refine ⟨fun h => ?_, fun h => by rw [h]⟩
  cases a; cases b
  exact congrArg ByteArray.mk (Array.toList_inj.1 h)
/-! ## Logs -/
def Rise (l : List Rpt) : Prop := l.Pairwise fun x y => ltR x y = true
def Dist (l : List Rpt) : Prop := l.Pairwise fun x y => sameK x y = false
def sortR (l : List Rpt) : List Rpt := l.mergeSort fun x y => !(ltR y x)
def hasK (a : List Rpt) (x : Rpt) : Bool := a.any fun y => sameK y x
def newK (a b : List Rpt) : List Rpt := b.filter fun x => !(hasK a x)
def clashB (a b : List Rpt) : Bool := b.any fun x => a.any fun y => sameK y x && !(decide (y = x))
def uniK (a b : List Rpt) : List Rpt := sortR (a ++ newK a b)
/-- The fault of a report in a log. -/
def repF (l : List Rpt) (k : Nat) : Int :=
  if h : k < l.length then
    if rptF l[k] ≠ 0 then rptF l[k]
    else if 0 < k ∧ 0 ≤ rCmp (l[k-1]'(by omega)) l[k] then 8 else 0
  else 0
def logF (l : List Rpt) : Int := if 300 < l.length then 2 else ffst (repF l) l.length
structure Log (l : List Rpt) : Prop where
  len : l.length ≤ 300
  ok : ∀ x ∈ l, rptF x = 0
  rise : Rise l
/-- The fault of two logs that are joined, and what comes of them. -/
def joinF (a b : List Rpt) : Int := if logF a ≠ 0 then logF a else if logF b ≠ 0 then logF b else if clashB a b = true then 12 else if 300 < (a ++ newK a b).length then 2 else 0
def joinR (a b : List Rpt) : List Rpt := if joinF a b = 0 then uniK a b else []
structure Joins (a b : List Rpt) : Prop where
  la : Log a
  lb : Log b
  no : clashB a b = false
  len : (uniK a b).length ≤ 300
end Go.Proofs.YtcfamaddnmnaeaaGreatDoor

namespace Go.Proofs.YtcfamaddnmnaeaaGreatDoor
open Go.RowKit
set_option linter.unusedVariables false

/-! Types. -/
namespace TyM2
theorem ag_75 : AggT Tryz.prog 75 3 := .of (by kernel_rfl)
theorem ag_80 : AggT Tryz.prog 80 5 := .of (by kernel_rfl)
theorem et_22 : ElemTy Tryz.prog 22 80 5 64 (.agg #[(.string ⟨#[]⟩), (.int .i64 0), (.int .i64 0), (.int .i64 0), (.slice none 0 0)]) := ⟨by kernel_rfl, by kernel_rfl, by kernel_rfl, by decide⟩
theorem et_78 : ElemTy Tryz.prog 78 75 3 32 (.agg #[(.string ⟨#[]⟩), (.int .i64 0), (.int .i64 0)]) := ⟨by kernel_rfl, by kernel_rfl, by kernel_rfl, by decide⟩
theorem fo_75_0 : fieldOff Tryz.prog 75 0 = some 0 := by kernel_rfl
theorem fo_75_1 : fieldOff Tryz.prog 75 1 = some 1 := by kernel_rfl
theorem fo_75_2 : fieldOff Tryz.prog 75 2 = some 2 := by kernel_rfl
theorem fo_80_0 : fieldOff Tryz.prog 80 0 = some 0 := by kernel_rfl
theorem fo_80_1 : fieldOff Tryz.prog 80 1 = some 1 := by kernel_rfl
theorem fo_80_2 : fieldOff Tryz.prog 80 2 = some 2 := by kernel_rfl
theorem fo_80_3 : fieldOff Tryz.prog 80 3 = some 3 := by kernel_rfl
theorem fo_80_4 : fieldOff Tryz.prog 80 4 = some 4 := by kernel_rfl
theorem sc_78 : Scal Tryz.prog 78 := .of (by kernel_rfl)
theorem sz_75 : ∀ w, (sizeOf 75).run Tryz.prog w = .ok 3 w := SizeT.of (by kernel_rfl)
theorem sz_80 : ∀ w, (sizeOf 80).run Tryz.prog w = .ok 5 w := SizeT.of (by kernel_rfl)
theorem zt_75 : (Tryz.prog.info? 75).bind (·.zero) = some (.agg #[(.string ⟨#[]⟩), (.int .i64 0), (.int .i64 0)]) := by kernel_rfl
theorem zt_80 : (Tryz.prog.info? 80).bind (·.zero) = some (.agg #[(.string ⟨#[]⟩), (.int .i64 0), (.int .i64 0), (.int .i64 0), (.slice none 0 0)]) := by kernel_rfl
end TyM2
open TyF0 TyF1 TyF2 TyF3 TyF4 TyF5 TyF6 TyF7 TyF8 TyF9 TyF10 TyF11 TyG1 TyG2 TyG5 TyU1 TyU2 TyU3 TyU4 TyM1 TyM2

open Go.Lib
def okRpt (x : Rpt) : Prop := x.source.size ≤ 9223372036854775807 ∧ ∀ u ∈ x.lines, u.title.size ≤ 9223372036854775807
theorem rCmp_str (a b : Rpt) : rCmp a b = if strCmp a.source b.source = 0 then (if a.no < b.no then -1 else if b.no < a.no then 1 else 0) else strCmp a.source b.source := rfl
theorem orI_rpt (a b : Rpt) : orI [strCmp a.source b.source, if a.no < b.no then -1 else if b.no < a.no then 1 else 0] = rCmp a b := by
  rw [orI_two, rCmp_str]
theorem bf_1 {a b : Rpt} (h : slt a.source b.source = true) : ltR a b = true := by
  have h2 := strCmp_lt.2 h
  refine decide_eq_true ?_
  rw [rCmp_str, if_neg (by omega)]
  exact h2
theorem bf_2 {a b : Rpt} (h : slt a.source b.source = false) (hne : ¬ a.source = b.source) : ltR a b = false := by
  refine decide_eq_false ?_
  rw [rCmp_str, if_neg (fun hh => hne (strCmp_zero.1 hh))]
  intro hh
  rw [strCmp_lt.1 hh] at h; cases h
theorem bf_3 {a b : Rpt} (h : a.source = b.source) : ltR a b = decide (a.no < b.no) := by
  unfold ltR
  rw [rCmp_str, if_pos (strCmp_zero.2 h)]
  apply decide_eq_decide.2
  split
  · simp [*]
  · split <;> simp [*]
theorem ltR_no {a b : Rpt} (h : ltR a b = false) : 0 ≤ rCmp a b := by
  unfold ltR at h
  have := of_decide_eq_false h
  omega
theorem ltR_yes {a b : Rpt} (h : ltR a b = true) : ¬ 0 ≤ rCmp a b := by
  unfold ltR at h
  have := of_decide_eq_true h
  omega

set_option maxRecDepth 100000 in
set_option maxHeartbeats 1000000 in
theorem c_pRpt (x : Rpt) (hx : okRpt x) : ACallT Tryz.prog MaxT 72 [.agg x.ds] (.v (.int .i64 (rptF x))) := by
 refine acall_ofT (n := 75) (ds' := [.v (.int .i64 (rptF x))]) Tryz.func72 rfl (by kernel_rfl) rfl [2] rfl rfl ?_
 intro B w0 F0 hT
 refine .sr ?_
 refine .sA (.box rfl rfl rfl) ?_
 refine .aA (.nil ?_)
 refine .seq ?_
 refine .block ?_
 refine .sr ?_
 refine .sA (.fieldAddr rfl fo_80_0 rfl) ?_
 refine .sA (.load rfl sc_9 rfl) ?_
 refine .sA (.call rfl (.cons (.rfl' rfl) .nil) (c_pName _ hx.1)) ?_
 refine .sA (.not rfl rfl) ?_
 refine .aA (.nil ?_)
 refine .cond rfl (fun h1 => ?_) (fun h1 => ?_)
 ·replace h1 := bnot_t h1
  have n0 := h1
  have HR : rptF x = 5 := by unfold rptF; (first | (exfalso; omega) | ((repeat (first | rw [if_pos (by first | assumption | omega)] | rw [if_neg (by first | assumption | omega)])); first | done | rfl | omega | decide))
  refine .sr ?_
  refine .aA (.nil ?_)
  refine .ret ?_
  refine ⟨RetD.eq rfl ?_, trivial⟩
  all_goals (first | rw [HR] | (rw [HX, ffst_hit (f := usdF x.lines) hk.2 (by unfold usdF; rw [dif_pos hlt]; (first | (exfalso; omega) | ((repeat (first | rw [if_pos (by first | assumption | omega)] | rw [if_neg (by first | assumption | omega)])); first | done | rfl | omega | decide))) _ hlt]; unfold usdF; rw [dif_pos hlt]; (first | (exfalso; omega) | ((repeat (first | rw [if_pos (by first | assumption | omega)] | rw [if_neg (by first | assumption | omega)])); first | done | rfl | omega | decide))) | rw [show rptF x = 1 from by unfold rptF; (first | (exfalso; omega) | ((repeat (first | rw [if_pos (by first | assumption | omega)] | rw [if_neg (by first | assumption | omega)])); first | done | rfl | omega | decide))])
 replace h1 := bnot_f h1
 have n1 : ¬ nameOk x.source = false := by rw [h1]; decide
 refine .sr ?_
 refine .sA (.fieldAddr rfl fo_80_1 rfl) ?_
 refine .sA (.load rfl sc_3 rfl) ?_
 refine .sA (.call rfl (.cons (.rfl' rfl) (.cons (.rfl' rfl) (.cons (.rfl' rfl) .nil))) (c_pIn _ _ _)) ?_
 refine .sA (.not rfl rfl) ?_
 refine .mA ?_
 refine .split 15 rfl (fun g2 => ?_) (fun g2 => ?_)
 ·replace g2 := bnot_t g2; replace g2 := of_decide_eq_false g2
  refine .pA ?_
  refine .pA ?_
  refine .pA ?_
  refine .pA ?_
  refine .sA (.pickT rfl rfl rfl) ?_
  refine .mA ?_
  refine .pA ?_
  refine .pA ?_
  refine .pA ?_
  refine .pA ?_
  refine .pA ?_
  refine .pA ?_
  refine .pA ?_
  refine .sA (.pickT rfl rfl rfl) ?_
  refine .aA (.nil ?_)
  refine .cond rfl (fun _ => ?_) (fun h => nomatch h)
  refine .sr ?_
  refine .aA (.nil ?_)
  refine .ret ?_
  refine ⟨RetD.eq rfl ?_, trivial⟩
  all_goals (first | rw [HR] | (rw [HX, ffst_hit (f := usdF x.lines) hk.2 (by unfold usdF; rw [dif_pos hlt]; (first | (exfalso; omega) | ((repeat (first | rw [if_pos (by first | assumption | omega)] | rw [if_neg (by first | assumption | omega)])); first | done | rfl | omega | decide))) _ hlt]; unfold usdF; rw [dif_pos hlt]; (first | (exfalso; omega) | ((repeat (first | rw [if_pos (by first | assumption | omega)] | rw [if_neg (by first | assumption | omega)])); first | done | rfl | omega | decide))) | rw [show rptF x = 1 from by unfold rptF; (first | (exfalso; omega) | ((repeat (first | rw [if_pos (by first | assumption | omega)] | rw [if_neg (by first | assumption | omega)])); first | done | rfl | omega | decide))])
 replace g2 := bnot_f g2; replace g2 := of_decide_eq_true g2
 refine .sG (.fieldAddr rfl fo_80_2 rfl) ?_
 refine .sG (.load rfl sc_3 rfl) ?_
 refine .sG (.call rfl (.cons (.rfl' rfl) (.cons (.rfl' rfl) (.cons (.rfl' rfl) .nil))) (c_pIn _ _ _)) ?_
 refine .sG (.not rfl rfl) ?_
 refine .sA (.pickF rfl rfl rfl) ?_
 refine .mA ?_
 refine .split 21 rfl (fun g3 => ?_) (fun g3 => ?_)
 ·replace g3 := bnot_t g3; replace g3 := of_decide_eq_false g3
  refine .pA ?_
  refine .pA ?_
  refine .pA ?_
  refine .pA ?_
  refine .pA ?_
  refine .pA ?_
  refine .pA ?_
  refine .sA (.pickT rfl rfl rfl) ?_
  refine .aA (.nil ?_)
  refine .cond rfl (fun _ => ?_) (fun h => nomatch h)
  refine .sr ?_
  refine .aA (.nil ?_)
  refine .ret ?_
  refine ⟨RetD.eq rfl ?_, trivial⟩
  all_goals (first | rw [HR] | (rw [HX, ffst_hit (f := usdF x.lines) hk.2 (by unfold usdF; rw [dif_pos hlt]; (first | (exfalso; omega) | ((repeat (first | rw [if_pos (by first | assumption | omega)] | rw [if_neg (by first | assumption | omega)])); first | done | rfl | omega | decide))) _ hlt]; unfold usdF; rw [dif_pos hlt]; (first | (exfalso; omega) | ((repeat (first | rw [if_pos (by first | assumption | omega)] | rw [if_neg (by first | assumption | omega)])); first | done | rfl | omega | decide))) | rw [show rptF x = 1 from by unfold rptF; (first | (exfalso; omega) | ((repeat (first | rw [if_pos (by first | assumption | omega)] | rw [if_neg (by first | assumption | omega)])); first | done | rfl | omega | decide))])
 replace g3 := bnot_f g3; replace g3 := of_decide_eq_true g3
 refine .sG (.fieldAddr rfl fo_80_3 rfl) ?_
 refine .sG (.load rfl sc_3 rfl) ?_
 refine .sG (.fieldAddr rfl fo_80_1 rfl) ?_
 refine .sG (.load rfl sc_3 rfl) ?_
 refine .sG (.sub64 rfl rfl rfl (by omega) (by omega)) ?_
 refine .sG (.call rfl (.cons (.rfl' rfl) (.cons (.rfl' rfl) (.cons (.rfl' rfl) .nil))) (c_pIn _ _ _)) ?_
 refine .sG (.not rfl rfl) ?_
 refine .sA (.pickF rfl rfl rfl) ?_
 refine .aA (.nil ?_)
 refine .cond rfl (fun h4 => ?_) (fun h4 => ?_)
 ·replace h4 := bnot_t h4; replace h4 := of_decide_eq_false h4
  have HR : rptF x = 1 := by unfold rptF; (first | (exfalso; omega) | ((repeat (first | rw [if_pos (by first | assumption | omega)] | rw [if_neg (by first | assumption | omega)])); first | done | rfl | omega | decide))
  refine .sr ?_
  refine .aA (.nil ?_)
  refine .ret ?_
  refine ⟨RetD.eq rfl ?_, trivial⟩
  all_goals (first | rw [HR] | (rw [HX, ffst_hit (f := usdF x.lines) hk.2 (by unfold usdF; rw [dif_pos hlt]; (first | (exfalso; omega) | ((repeat (first | rw [if_pos (by first | assumption | omega)] | rw [if_neg (by first | assumption | omega)])); first | done | rfl | omega | decide))) _ hlt]; unfold usdF; rw [dif_pos hlt]; (first | (exfalso; omega) | ((repeat (first | rw [if_pos (by first | assumption | omega)] | rw [if_neg (by first | assumption | omega)])); first | done | rfl | omega | decide))) | rw [show rptF x = 1 from by unfold rptF; (first | (exfalso; omega) | ((repeat (first | rw [if_pos (by first | assumption | omega)] | rw [if_neg (by first | assumption | omega)])); first | done | rfl | omega | decide))])
 replace h4 := bnot_f h4; replace h4 := of_decide_eq_true h4
 refine .sr ?_
 refine .sA (.fieldAddr rfl fo_80_4 rfl) ?_
 refine .sA (.load rfl sc_78 rfl) ?_
 refine .sA (.lenSl rfl et_78.ht rfl) ?_
 refine .sA (.gtr rfl rfl rfl) ?_
 refine .aA (.nil ?_)
 refine .cond rfl (fun h5 => ?_) (fun h5 => ?_)
 ·replace h5 := of_decide_eq_true h5
  rw [List.length_map] at h5
  have HR : rptF x = 2 := by unfold rptF; (first | (exfalso; omega) | ((repeat (first | rw [if_pos (by first | assumption | omega)] | rw [if_neg (by first | assumption | omega)])); first | done | rfl | omega | decide))
  refine .sr ?_
  refine .aA (.nil ?_)
  refine .ret ?_
  refine ⟨RetD.eq rfl ?_, trivial⟩
  all_goals (first | rw [HR] | (rw [HX, ffst_hit (f := usdF x.lines) hk.2 (by unfold usdF; rw [dif_pos hlt]; (first | (exfalso; omega) | ((repeat (first | rw [if_pos (by first | assumption | omega)] | rw [if_neg (by first | assumption | omega)])); first | done | rfl | omega | decide))) _ hlt]; unfold usdF; rw [dif_pos hlt]; (first | (exfalso; omega) | ((repeat (first | rw [if_pos (by first | assumption | omega)] | rw [if_neg (by first | assumption | omega)])); first | done | rfl | omega | decide))) | rw [show rptF x = 1 from by unfold rptF; (first | (exfalso; omega) | ((repeat (first | rw [if_pos (by first | assumption | omega)] | rw [if_neg (by first | assumption | omega)])); first | done | rfl | omega | decide))])
 replace h5 := of_decide_eq_false h5
 rw [List.length_map] at h5
 have HX : rptF x = ffst (usdF x.lines) x.lines.length := by unfold rptF; (first | (exfalso; omega) | ((repeat (first | rw [if_pos (by first | assumption | omega)] | rw [if_neg (by first | assumption | omega)])); first | done | rfl | omega | decide))
 refine .skip ?_
 refine .seq ?_
 refine .sr ?_
 refine .sA (.fieldAddr rfl fo_80_4 rfl) ?_
 refine .sA (.load rfl sc_78 rfl) ?_
 refine .sA (.lenSl rfl et_78.ht rfl) ?_
 refine .mA (.nil ?_)
 refine .block ?_
 refine .loop (G := Nat) (fun k => Env.of [(38, .d (.v (.int .i64 (k : Int)))), (36, .d (.sl (x.lines.map Usd.ds))), (37, .d (.v (.int .i64 ((x.lines.map Usd.ds).length : Int)))), (1, .d (.fp x.ds))]) (fun k => []) (fun k => k ≤ x.lines.length ∧ ffst (usdF x.lines) k = 0) (fun k => x.lines.length - k) 0 ⟨Nat.zero_le _, rfl⟩ (Sub.less ⟨(SLe.of_eq rfl), SLe.refl _, SLe.refl _, SLe.refl _, trivial⟩ (fun _ h => h)) ?_
 intro k hk
 refine .sr ?_
 refine .sA (.lss rfl rfl rfl) (.nil ?_)
 refine .seq ?_
 refine .cond rfl (fun h6 => ?_) (fun h6 => ?_)
 ·replace h6 := of_decide_eq_true h6
  rw [List.length_map] at h6
  have hlt : k < x.lines.length := by omega
  have hbk := hx.2 _ (List.getElem_mem hlt)
  refine .skip ?_
  refine .seq ?_
  refine .block ?_
  refine .sr ?_
  refine .mA ?_
  refine .sA (.indexAddr rfl et_78 rfl rfl k rfl (at_lst hlt) rfl) ?_
  refine .sA (.loadAgg rfl ag_75 rfl rfl) ?_
  refine .alloc 101 rfl rfl rfl rfl zt_75 rfl rfl rfl ?_
  refine .aA ?_
  refine .store rfl rfl rfl sz_75 rfl (.head _) rfl rfl rfl (Nat.le_of_ble_eq_true rfl) ?_
  refine .freezeCells 4 (ds := x.lines[k].ds) rfl (.head _) (.nil ?_)
  refine .block ?_
  refine .sr ?_
  refine .sA (.fieldAddr rfl fo_75_0 rfl) ?_
  refine .sA (.load rfl sc_9 rfl) ?_
  -- wants the world
  refine .callT rfl rfl rfl hT maxT_stays rfl (.cons (.rfl' rfl) .nil) (c_pTitle _ hbk) ?_
  refine .sA (.not rfl rfl) ?_
  refine .aA (.nil ?_)
  refine .cond rfl (fun h7 => ?_) (fun h7 => ?_)
  ·replace h7 := bnot_t h7
   refine .sr ?_
   refine .aA (.nil ?_)
   refine .ret ?_
   refine ⟨RetD.eq rfl ?_, trivial⟩
   all_goals (first | rw [HR] | (rw [HX, ffst_hit (f := usdF x.lines) hk.2 (by unfold usdF; rw [dif_pos hlt]; (first | (exfalso; omega) | ((repeat (first | rw [if_pos (by first | assumption | omega)] | rw [if_neg (by first | assumption | omega)])); first | done | rfl | omega | decide))) _ hlt]; unfold usdF; rw [dif_pos hlt]; (first | (exfalso; omega) | ((repeat (first | rw [if_pos (by first | assumption | omega)] | rw [if_neg (by first | assumption | omega)])); first | done | rfl | omega | decide))) | rw [show rptF x = 1 from by unfold rptF; (first | (exfalso; omega) | ((repeat (first | rw [if_pos (by first | assumption | omega)] | rw [if_neg (by first | assumption | omega)])); first | done | rfl | omega | decide))])
  replace h7 := bnot_f h7
  have n4 : ¬ titleOk x.lines[k].title = false := by rw [h7]; decide
  refine .sr ?_
  refine .sA (.fieldAddr rfl fo_75_1 rfl) ?_
  refine .sA (.load rfl sc_3 rfl) ?_
  refine .sA (.call rfl (.cons (.rfl' rfl) (.cons (.rfl' rfl) (.cons (.rfl' rfl) .nil))) (c_pIn _ _ _)) ?_
  refine .sA (.not rfl rfl) ?_
  refine .mA ?_
  refine .split 53 rfl (fun g8 => ?_) (fun g8 => ?_)
  ·replace g8 := bnot_t g8; replace g8 := of_decide_eq_false g8
   refine .pA ?_
   refine .pA ?_
   refine .pA ?_
   refine .pA ?_
   refine .sA (.pickT rfl rfl rfl) ?_
   refine .aA (.nil ?_)
   refine .cond rfl (fun _ => ?_) (fun h => nomatch h)
   refine .sr ?_
   refine .aA (.nil ?_)
   refine .ret ?_
   refine ⟨RetD.eq rfl ?_, trivial⟩
   all_goals (first | rw [HR] | (rw [HX, ffst_hit (f := usdF x.lines) hk.2 (by unfold usdF; rw [dif_pos hlt]; (first | (exfalso; omega) | ((repeat (first | rw [if_pos (by first | assumption | omega)] | rw [if_neg (by first | assumption | omega)])); first | done | rfl | omega | decide))) _ hlt]; unfold usdF; rw [dif_pos hlt]; (first | (exfalso; omega) | ((repeat (first | rw [if_pos (by first | assumption | omega)] | rw [if_neg (by first | assumption | omega)])); first | done | rfl | omega | decide))) | rw [show rptF x = 1 from by unfold rptF; (first | (exfalso; omega) | ((repeat (first | rw [if_pos (by first | assumption | omega)] | rw [if_neg (by first | assumption | omega)])); first | done | rfl | omega | decide))])
  replace g8 := bnot_f g8; replace g8 := of_decide_eq_true g8
  refine .sG (.fieldAddr rfl fo_75_2 rfl) ?_
  refine .sG (.load rfl sc_3 rfl) ?_
  refine .sG (.call rfl (.cons (.rfl' rfl) (.cons (.rfl' rfl) (.cons (.rfl' rfl) .nil))) (c_pIn _ _ _)) ?_
  refine .sG (.not rfl rfl) ?_
  refine .sA (.pickF rfl rfl rfl) ?_
  refine .aA (.nil ?_)
  refine .cond rfl (fun h9 => ?_) (fun h9 => ?_)
  ·replace h9 := bnot_t h9; replace h9 := of_decide_eq_false h9
   refine .sr ?_
   refine .aA (.nil ?_)
   refine .ret ?_
   refine ⟨RetD.eq rfl ?_, trivial⟩
   all_goals (first | rw [HR] | (rw [HX, ffst_hit (f := usdF x.lines) hk.2 (by unfold usdF; rw [dif_pos hlt]; (first | (exfalso; omega) | ((repeat (first | rw [if_pos (by first | assumption | omega)] | rw [if_neg (by first | assumption | omega)])); first | done | rfl | omega | decide))) _ hlt]; unfold usdF; rw [dif_pos hlt]; (first | (exfalso; omega) | ((repeat (first | rw [if_pos (by first | assumption | omega)] | rw [if_neg (by first | assumption | omega)])); first | done | rfl | omega | decide))) | rw [show rptF x = 1 from by unfold rptF; (first | (exfalso; omega) | ((repeat (first | rw [if_pos (by first | assumption | omega)] | rw [if_neg (by first | assumption | omega)])); first | done | rfl | omega | decide))])
  replace h9 := bnot_f h9; replace h9 := of_decide_eq_true h9
  refine .seq ?_
  refine .draw (by kernel_rfl) (by kernel_rfl) ?_
  refine .sA (.moveD rfl rfl) ?_
  refine .sA (.gtr rfl rfl rfl) ?_
  refine .sA (.moveD rfl rfl) ?_
  refine .split 62 rfl (fun g10 => ?_) (fun g10 => ?_)
  ·replace g10 := of_decide_eq_true g10
   have hk0 : 0 < k := by omega
   refine .sG (.fieldAddr rfl fo_75_0 rfl) ?_
   refine .sG (.load rfl sc_9 rfl) ?_
   refine .sG (.fieldAddr rfl fo_80_4 rfl) ?_
   refine .sG (.load rfl sc_78 rfl) ?_
   refine .sG (.moveD rfl rfl) ?_
   refine .sG (.sub64 rfl rfl rfl (by omega) (by omega)) ?_
   refine .sG (.indexAddr rfl et_78 rfl rfl (k - 1) (by omega) (at_lst (by omega)) rfl) ?_
   refine .sG (.fieldAddr rfl fo_75_0 rfl) ?_
   refine .sG (.load rfl sc_9 rfl) ?_
   refine .sG (.sleq rfl rfl rfl) ?_
   refine .sA (.pickT rfl rfl rfl) ?_
   refine .sA (.assignD rfl rfl) ?_
   refine .nil ?_
   refine .cond rfl (fun h11 => ?_) (fun h11 => ?_)
   ·skip
    have n5 : (0 < k ∧ sle x.lines[k].title (x.lines[k-1]'(by omega)).title = true) := ⟨hk0, h11⟩
    refine .sr ?_
    refine .aA (.nil ?_)
    refine .ret ?_
    refine ⟨RetD.eq rfl ?_, trivial⟩
    all_goals (first | rw [HR] | (rw [HX, ffst_hit (f := usdF x.lines) hk.2 (by unfold usdF; rw [dif_pos hlt]; (first | (exfalso; omega) | ((repeat (first | rw [if_pos (by first | assumption | omega)] | rw [if_neg (by first | assumption | omega)])); first | done | rfl | omega | decide))) _ hlt]; unfold usdF; rw [dif_pos hlt]; (first | (exfalso; omega) | ((repeat (first | rw [if_pos (by first | assumption | omega)] | rw [if_neg (by first | assumption | omega)])); first | done | rfl | omega | decide))) | rw [show rptF x = 1 from by unfold rptF; (first | (exfalso; omega) | ((repeat (first | rw [if_pos (by first | assumption | omega)] | rw [if_neg (by first | assumption | omega)])); first | done | rfl | omega | decide))])
   have n5 : ¬ (0 < k ∧ sle x.lines[k].title (x.lines[k-1]'(by omega)).title = true) := fun hh => by have h5 := hh.2; rw [show sle x.lines[k].title (x.lines[k-1]'(by omega)).title = false from h11] at h5; cases h5
   refine .skip ?_
   refine .region ?_
   refine .sA (.add64 rfl rfl rfl (by omega) (by omega)) ?_
   refine .mA (.nil ?_)
   refine ⟨k + 1, ⟨by omega, ffst_next hk.2 (by unfold usdF; rw [dif_pos hlt]; (first | (exfalso; omega) | ((repeat (first | rw [if_pos (by first | assumption | omega)] | rw [if_neg (by first | assumption | omega)])); first | done | rfl | omega | decide)))⟩, (by dsimp only; omega), Sub.less ⟨(SLe.of_eq rfl), SLe.refl _, SLe.refl _, SLe.refl _, trivial⟩ (fun _ h => h)⟩
  replace g10 := of_decide_eq_false g10
  have n5 : ¬ (0 < k ∧ sle x.lines[k].title (x.lines[k-1]'(by omega)).title = true) := fun hh => by omega
  refine .pA ?_
  refine .pA ?_
  refine .pA ?_
  refine .pA ?_
  refine .pA ?_
  refine .pA ?_
  refine .pA ?_
  refine .pA ?_
  refine .pA ?_
  refine .pA ?_
  refine .sA (.pickF rfl rfl rfl) ?_
  refine .sA (.assignD rfl rfl) ?_
  refine .nil ?_
  refine .cond rfl (fun h => nomatch h) (fun _ => ?_)
  refine .skip ?_
  refine .region ?_
  refine .sA (.add64 rfl rfl rfl (by omega) (by omega)) ?_
  refine .mA (.nil ?_)
  refine ⟨k + 1, ⟨by omega, ffst_next hk.2 (by unfold usdF; rw [dif_pos hlt]; (first | (exfalso; omega) | ((repeat (first | rw [if_pos (by first | assumption | omega)] | rw [if_neg (by first | assumption | omega)])); first | done | rfl | omega | decide)))⟩, (by dsimp only; omega), Sub.less ⟨(SLe.of_eq rfl), SLe.refl _, SLe.refl _, SLe.refl _, trivial⟩ (fun _ h => h)⟩
 replace h6 := of_decide_eq_false h6
 rw [List.length_map] at h6
 have HR : rptF x = 0 := by rw [HX, show x.lines.length = k by omega]; exact hk.2
 refine .exit ?_
 refine .sr ?_
 refine .aA (.nil ?_)
 refine .ret ?_
 refine ⟨RetD.eq rfl ?_, trivial⟩
 all_goals (first | rw [HR] | (rw [HX, ffst_hit (f := usdF x.lines) hk.2 (by unfold usdF; rw [dif_pos hlt]; (first | (exfalso; omega) | ((repeat (first | rw [if_pos (by first | assumption | omega)] | rw [if_neg (by first | assumption | omega)])); first | done | rfl | omega | decide))) _ hlt]; unfold usdF; rw [dif_pos hlt]; (first | (exfalso; omega) | ((repeat (first | rw [if_pos (by first | assumption | omega)] | rw [if_neg (by first | assumption | omega)])); first | done | rfl | omega | decide))) | rw [show rptF x = 1 from by unfold rptF; (first | (exfalso; omega) | ((repeat (first | rw [if_pos (by first | assumption | omega)] | rw [if_neg (by first | assumption | omega)])); first | done | rfl | omega | decide))])

set_option maxRecDepth 100000 in
set_option maxHeartbeats 1000000 in
theorem c_rRpt (x : Rpt) (hx : okRpt x) : ACallT Tryz.prog MaxT 75 [.agg x.ds] (.v (.int .i64 (rptF x))) := by
 refine acall_ofT (n := 75) (ds' := [.v (.int .i64 (rptF x))]) Tryz.func75 rfl (by kernel_rfl) rfl [2] rfl rfl ?_
 intro B w0 F0 hT
 refine .sr ?_
 refine .sA (.box rfl rfl rfl) ?_
 refine .aA (.nil ?_)
 refine .seq ?_
 refine .block ?_
 refine .sr ?_
 refine .sA (.fieldAddr rfl fo_80_0 rfl) ?_
 refine .sA (.load rfl sc_9 rfl) ?_
 refine .sA (.call rfl (.cons (.rfl' rfl) .nil) (c_rName _ hx.1)) ?_
 refine .sA (.not rfl rfl) ?_
 refine .aA (.nil ?_)
 refine .cond rfl (fun h1 => ?_) (fun h1 => ?_)
 ·replace h1 := bnot_t h1
  have n0 := h1
  have HR : rptF x = 5 := by unfold rptF; (first | (exfalso; omega) | ((repeat (first | rw [if_pos (by first | assumption | omega)] | rw [if_neg (by first | assumption | omega)])); first | done | rfl | omega | decide))
  refine .sr ?_
  refine .aA (.nil ?_)
  refine .ret ?_
  refine ⟨RetD.eq rfl ?_, trivial⟩
  all_goals (first | rw [HR] | (rw [HX, ffst_hit (f := usdF x.lines) hk.2 (by unfold usdF; rw [dif_pos hlt]; (first | (exfalso; omega) | ((repeat (first | rw [if_pos (by first | assumption | omega)] | rw [if_neg (by first | assumption | omega)])); first | done | rfl | omega | decide))) _ hlt]; unfold usdF; rw [dif_pos hlt]; (first | (exfalso; omega) | ((repeat (first | rw [if_pos (by first | assumption | omega)] | rw [if_neg (by first | assumption | omega)])); first | done | rfl | omega | decide))) | rw [show rptF x = 1 from by unfold rptF; (first | (exfalso; omega) | ((repeat (first | rw [if_pos (by first | assumption | omega)] | rw [if_neg (by first | assumption | omega)])); first | done | rfl | omega | decide))])
 replace h1 := bnot_f h1
 have n1 : ¬ nameOk x.source = false := by rw [h1]; decide
 refine .sr ?_
 refine .sA (.fieldAddr rfl fo_80_1 rfl) ?_
 refine .sA (.load rfl sc_3 rfl) ?_
 refine .sA (.call rfl (.cons (.rfl' rfl) (.cons (.rfl' rfl) (.cons (.rfl' rfl) .nil))) (c_rIn _ _ _)) ?_
 refine .sA (.not rfl rfl) ?_
 refine .mA ?_
 refine .split 15 rfl (fun g2 => ?_) (fun g2 => ?_)
 ·replace g2 := bnot_t g2; replace g2 := of_decide_eq_false g2
  refine .pA ?_
  refine .pA ?_
  refine .pA ?_
  refine .pA ?_
  refine .sA (.pickT rfl rfl rfl) ?_
  refine .mA ?_
  refine .pA ?_
  refine .pA ?_
  refine .pA ?_
  refine .pA ?_
  refine .pA ?_
  refine .pA ?_
  refine .pA ?_
  refine .sA (.pickT rfl rfl rfl) ?_
  refine .aA (.nil ?_)
  refine .cond rfl (fun _ => ?_) (fun h => nomatch h)
  refine .sr ?_
  refine .aA (.nil ?_)
  refine .ret ?_
  refine ⟨RetD.eq rfl ?_, trivial⟩
  all_goals (first | rw [HR] | (rw [HX, ffst_hit (f := usdF x.lines) hk.2 (by unfold usdF; rw [dif_pos hlt]; (first | (exfalso; omega) | ((repeat (first | rw [if_pos (by first | assumption | omega)] | rw [if_neg (by first | assumption | omega)])); first | done | rfl | omega | decide))) _ hlt]; unfold usdF; rw [dif_pos hlt]; (first | (exfalso; omega) | ((repeat (first | rw [if_pos (by first | assumption | omega)] | rw [if_neg (by first | assumption | omega)])); first | done | rfl | omega | decide))) | rw [show rptF x = 1 from by unfold rptF; (first | (exfalso; omega) | ((repeat (first | rw [if_pos (by first | assumption | omega)] | rw [if_neg (by first | assumption | omega)])); first | done | rfl | omega | decide))])
 replace g2 := bnot_f g2; replace g2 := of_decide_eq_true g2
 refine .sG (.fieldAddr rfl fo_80_2 rfl) ?_
 refine .sG (.load rfl sc_3 rfl) ?_
 refine .sG (.call rfl (.cons (.rfl' rfl) (.cons (.rfl' rfl) (.cons (.rfl' rfl) .nil))) (c_rIn _ _ _)) ?_
 refine .sG (.not rfl rfl) ?_
 refine .sA (.pickF rfl rfl rfl) ?_
 refine .mA ?_
 refine .split 21 rfl (fun g3 => ?_) (fun g3 => ?_)
 ·replace g3 := bnot_t g3; replace g3 := of_decide_eq_false g3
  refine .pA ?_
  refine .pA ?_
  refine .pA ?_
  refine .pA ?_
  refine .pA ?_
  refine .pA ?_
  refine .pA ?_
  refine .sA (.pickT rfl rfl rfl) ?_
  refine .aA (.nil ?_)
  refine .cond rfl (fun _ => ?_) (fun h => nomatch h)
  refine .sr ?_
  refine .aA (.nil ?_)
  refine .ret ?_
  refine ⟨RetD.eq rfl ?_, trivial⟩
  all_goals (first | rw [HR] | (rw [HX, ffst_hit (f := usdF x.lines) hk.2 (by unfold usdF; rw [dif_pos hlt]; (first | (exfalso; omega) | ((repeat (first | rw [if_pos (by first | assumption | omega)] | rw [if_neg (by first | assumption | omega)])); first | done | rfl | omega | decide))) _ hlt]; unfold usdF; rw [dif_pos hlt]; (first | (exfalso; omega) | ((repeat (first | rw [if_pos (by first | assumption | omega)] | rw [if_neg (by first | assumption | omega)])); first | done | rfl | omega | decide))) | rw [show rptF x = 1 from by unfold rptF; (first | (exfalso; omega) | ((repeat (first | rw [if_pos (by first | assumption | omega)] | rw [if_neg (by first | assumption | omega)])); first | done | rfl | omega | decide))])
 replace g3 := bnot_f g3; replace g3 := of_decide_eq_true g3
 refine .sG (.fieldAddr rfl fo_80_3 rfl) ?_
 refine .sG (.load rfl sc_3 rfl) ?_
 refine .sG (.fieldAddr rfl fo_80_1 rfl) ?_
 refine .sG (.load rfl sc_3 rfl) ?_
 refine .sG (.sub64 rfl rfl rfl (by omega) (by omega)) ?_
 refine .sG (.call rfl (.cons (.rfl' rfl) (.cons (.rfl' rfl) (.cons (.rfl' rfl) .nil))) (c_rIn _ _ _)) ?_
 refine .sG (.not rfl rfl) ?_
 refine .sA (.pickF rfl rfl rfl) ?_
 refine .aA (.nil ?_)
 refine .cond rfl (fun h4 => ?_) (fun h4 => ?_)
 ·replace h4 := bnot_t h4; replace h4 := of_decide_eq_false h4
  have HR : rptF x = 1 := by unfold rptF; (first | (exfalso; omega) | ((repeat (first | rw [if_pos (by first | assumption | omega)] | rw [if_neg (by first | assumption | omega)])); first | done | rfl | omega | decide))
  refine .sr ?_
  refine .aA (.nil ?_)
  refine .ret ?_
  refine ⟨RetD.eq rfl ?_, trivial⟩
  all_goals (first | rw [HR] | (rw [HX, ffst_hit (f := usdF x.lines) hk.2 (by unfold usdF; rw [dif_pos hlt]; (first | (exfalso; omega) | ((repeat (first | rw [if_pos (by first | assumption | omega)] | rw [if_neg (by first | assumption | omega)])); first | done | rfl | omega | decide))) _ hlt]; unfold usdF; rw [dif_pos hlt]; (first | (exfalso; omega) | ((repeat (first | rw [if_pos (by first | assumption | omega)] | rw [if_neg (by first | assumption | omega)])); first | done | rfl | omega | decide))) | rw [show rptF x = 1 from by unfold rptF; (first | (exfalso; omega) | ((repeat (first | rw [if_pos (by first | assumption | omega)] | rw [if_neg (by first | assumption | omega)])); first | done | rfl | omega | decide))])
 replace h4 := bnot_f h4; replace h4 := of_decide_eq_true h4
 refine .sr ?_
 refine .sA (.fieldAddr rfl fo_80_4 rfl) ?_
 refine .sA (.load rfl sc_78 rfl) ?_
 refine .sA (.lenSl rfl et_78.ht rfl) ?_
 refine .sA (.gtr rfl rfl rfl) ?_
 refine .aA (.nil ?_)
 refine .cond rfl (fun h5 => ?_) (fun h5 => ?_)
 ·replace h5 := of_decide_eq_true h5
  rw [List.length_map] at h5
  have HR : rptF x = 2 := by unfold rptF; (first | (exfalso; omega) | ((repeat (first | rw [if_pos (by first | assumption | omega)] | rw [if_neg (by first | assumption | omega)])); first | done | rfl | omega | decide))
  refine .sr ?_
  refine .aA (.nil ?_)
  refine .ret ?_
  refine ⟨RetD.eq rfl ?_, trivial⟩
  all_goals (first | rw [HR] | (rw [HX, ffst_hit (f := usdF x.lines) hk.2 (by unfold usdF; rw [dif_pos hlt]; (first | (exfalso; omega) | ((repeat (first | rw [if_pos (by first | assumption | omega)] | rw [if_neg (by first | assumption | omega)])); first | done | rfl | omega | decide))) _ hlt]; unfold usdF; rw [dif_pos hlt]; (first | (exfalso; omega) | ((repeat (first | rw [if_pos (by first | assumption | omega)] | rw [if_neg (by first | assumption | omega)])); first | done | rfl | omega | decide))) | rw [show rptF x = 1 from by unfold rptF; (first | (exfalso; omega) | ((repeat (first | rw [if_pos (by first | assumption | omega)] | rw [if_neg (by first | assumption | omega)])); first | done | rfl | omega | decide))])
 replace h5 := of_decide_eq_false h5
 rw [List.length_map] at h5
 have HX : rptF x = ffst (usdF x.lines) x.lines.length := by unfold rptF; (first | (exfalso; omega) | ((repeat (first | rw [if_pos (by first | assumption | omega)] | rw [if_neg (by first | assumption | omega)])); first | done | rfl | omega | decide))
 refine .skip ?_
 refine .seq ?_
 refine .sr ?_
 refine .sA (.fieldAddr rfl fo_80_4 rfl) ?_
 refine .sA (.load rfl sc_78 rfl) ?_
 refine .sA (.lenSl rfl et_78.ht rfl) ?_
 refine .mA (.nil ?_)
 refine .block ?_
 refine .loop (G := Nat) (fun k => Env.of [(38, .d (.v (.int .i64 (k : Int)))), (36, .d (.sl (x.lines.map Usd.ds))), (37, .d (.v (.int .i64 ((x.lines.map Usd.ds).length : Int)))), (1, .d (.fp x.ds))]) (fun k => []) (fun k => k ≤ x.lines.length ∧ ffst (usdF x.lines) k = 0) (fun k => x.lines.length - k) 0 ⟨Nat.zero_le _, rfl⟩ (Sub.less ⟨(SLe.of_eq rfl), SLe.refl _, SLe.refl _, SLe.refl _, trivial⟩ (fun _ h => h)) ?_
 intro k hk
 refine .sr ?_
 refine .sA (.lss rfl rfl rfl) (.nil ?_)
 refine .seq ?_
 refine .cond rfl (fun h6 => ?_) (fun h6 => ?_)
 ·replace h6 := of_decide_eq_true h6
  rw [List.length_map] at h6
  have hlt : k < x.lines.length := by omega
  have hbk := hx.2 _ (List.getElem_mem hlt)
  refine .skip ?_
  refine .seq ?_
  refine .block ?_
  refine .sr ?_
  refine .mA ?_
  refine .sA (.indexAddr rfl et_78 rfl rfl k rfl (at_lst hlt) rfl) ?_
  refine .sA (.loadAgg rfl ag_75 rfl rfl) ?_
  refine .alloc 101 rfl rfl rfl rfl zt_75 rfl rfl rfl ?_
  refine .aA ?_
  refine .store rfl rfl rfl sz_75 rfl (.head _) rfl rfl rfl (Nat.le_of_ble_eq_true rfl) ?_
  refine .freezeCells 4 (ds := x.lines[k].ds) rfl (.head _) (.nil ?_)
  refine .block ?_
  refine .sr ?_
  refine .sA (.fieldAddr rfl fo_75_0 rfl) ?_
  refine .sA (.load rfl sc_9 rfl) ?_
  -- wants the world
  refine .callT rfl rfl rfl hT maxT_stays rfl (.cons (.rfl' rfl) .nil) (c_rTitle _ hbk) ?_
  refine .sA (.not rfl rfl) ?_
  refine .aA (.nil ?_)
  refine .cond rfl (fun h7 => ?_) (fun h7 => ?_)
  ·replace h7 := bnot_t h7
   refine .sr ?_
   refine .aA (.nil ?_)
   refine .ret ?_
   refine ⟨RetD.eq rfl ?_, trivial⟩
   all_goals (first | rw [HR] | (rw [HX, ffst_hit (f := usdF x.lines) hk.2 (by unfold usdF; rw [dif_pos hlt]; (first | (exfalso; omega) | ((repeat (first | rw [if_pos (by first | assumption | omega)] | rw [if_neg (by first | assumption | omega)])); first | done | rfl | omega | decide))) _ hlt]; unfold usdF; rw [dif_pos hlt]; (first | (exfalso; omega) | ((repeat (first | rw [if_pos (by first | assumption | omega)] | rw [if_neg (by first | assumption | omega)])); first | done | rfl | omega | decide))) | rw [show rptF x = 1 from by unfold rptF; (first | (exfalso; omega) | ((repeat (first | rw [if_pos (by first | assumption | omega)] | rw [if_neg (by first | assumption | omega)])); first | done | rfl | omega | decide))])
  replace h7 := bnot_f h7
  have n4 : ¬ titleOk x.lines[k].title = false := by rw [h7]; decide
  refine .sr ?_
  refine .sA (.fieldAddr rfl fo_75_1 rfl) ?_
  refine .sA (.load rfl sc_3 rfl) ?_
  refine .sA (.call rfl (.cons (.rfl' rfl) (.cons (.rfl' rfl) (.cons (.rfl' rfl) .nil))) (c_rIn _ _ _)) ?_
  refine .sA (.not rfl rfl) ?_
  refine .mA ?_
  refine .split 53 rfl (fun g8 => ?_) (fun g8 => ?_)
  ·replace g8 := bnot_t g8; replace g8 := of_decide_eq_false g8
   refine .pA ?_
   refine .pA ?_
   refine .pA ?_
   refine .pA ?_
   refine .sA (.pickT rfl rfl rfl) ?_
   refine .aA (.nil ?_)
   refine .cond rfl (fun _ => ?_) (fun h => nomatch h)
   refine .sr ?_
   refine .aA (.nil ?_)
   refine .ret ?_
   refine ⟨RetD.eq rfl ?_, trivial⟩
   all_goals (first | rw [HR] | (rw [HX, ffst_hit (f := usdF x.lines) hk.2 (by unfold usdF; rw [dif_pos hlt]; (first | (exfalso; omega) | ((repeat (first | rw [if_pos (by first | assumption | omega)] | rw [if_neg (by first | assumption | omega)])); first | done | rfl | omega | decide))) _ hlt]; unfold usdF; rw [dif_pos hlt]; (first | (exfalso; omega) | ((repeat (first | rw [if_pos (by first | assumption | omega)] | rw [if_neg (by first | assumption | omega)])); first | done | rfl | omega | decide))) | rw [show rptF x = 1 from by unfold rptF; (first | (exfalso; omega) | ((repeat (first | rw [if_pos (by first | assumption | omega)] | rw [if_neg (by first | assumption | omega)])); first | done | rfl | omega | decide))])
  replace g8 := bnot_f g8; replace g8 := of_decide_eq_true g8
  refine .sG (.fieldAddr rfl fo_75_2 rfl) ?_
  refine .sG (.load rfl sc_3 rfl) ?_
  refine .sG (.call rfl (.cons (.rfl' rfl) (.cons (.rfl' rfl) (.cons (.rfl' rfl) .nil))) (c_rIn _ _ _)) ?_
  refine .sG (.not rfl rfl) ?_
  refine .sA (.pickF rfl rfl rfl) ?_
  refine .aA (.nil ?_)
  refine .cond rfl (fun h9 => ?_) (fun h9 => ?_)
  ·replace h9 := bnot_t h9; replace h9 := of_decide_eq_false h9
   refine .sr ?_
   refine .aA (.nil ?_)
   refine .ret ?_
   refine ⟨RetD.eq rfl ?_, trivial⟩
   all_goals (first | rw [HR] | (rw [HX, ffst_hit (f := usdF x.lines) hk.2 (by unfold usdF; rw [dif_pos hlt]; (first | (exfalso; omega) | ((repeat (first | rw [if_pos (by first | assumption | omega)] | rw [if_neg (by first | assumption | omega)])); first | done | rfl | omega | decide))) _ hlt]; unfold usdF; rw [dif_pos hlt]; (first | (exfalso; omega) | ((repeat (first | rw [if_pos (by first | assumption | omega)] | rw [if_neg (by first | assumption | omega)])); first | done | rfl | omega | decide))) | rw [show rptF x = 1 from by unfold rptF; (first | (exfalso; omega) | ((repeat (first | rw [if_pos (by first | assumption | omega)] | rw [if_neg (by first | assumption | omega)])); first | done | rfl | omega | decide))])
  replace h9 := bnot_f h9; replace h9 := of_decide_eq_true h9
  refine .seq ?_
  refine .draw (by kernel_rfl) (by kernel_rfl) ?_
  refine .sA (.moveD rfl rfl) ?_
  refine .sA (.gtr rfl rfl rfl) ?_
  refine .sA (.moveD rfl rfl) ?_
  refine .split 62 rfl (fun g10 => ?_) (fun g10 => ?_)
  ·replace g10 := of_decide_eq_true g10
   have hk0 : 0 < k := by omega
   refine .sG (.fieldAddr rfl fo_75_0 rfl) ?_
   refine .sG (.load rfl sc_9 rfl) ?_
   refine .sG (.fieldAddr rfl fo_80_4 rfl) ?_
   refine .sG (.load rfl sc_78 rfl) ?_
   refine .sG (.moveD rfl rfl) ?_
   refine .sG (.sub64 rfl rfl rfl (by omega) (by omega)) ?_
   refine .sG (.indexAddr rfl et_78 rfl rfl (k - 1) (by omega) (at_lst (by omega)) rfl) ?_
   refine .sG (.fieldAddr rfl fo_75_0 rfl) ?_
   refine .sG (.load rfl sc_9 rfl) ?_
   refine .sG (.sleq rfl rfl rfl) ?_
   refine .sA (.pickT rfl rfl rfl) ?_
   refine .sA (.assignD rfl rfl) ?_
   refine .nil ?_
   refine .cond rfl (fun h11 => ?_) (fun h11 => ?_)
   ·skip
    have n5 : (0 < k ∧ sle x.lines[k].title (x.lines[k-1]'(by omega)).title = true) := ⟨hk0, h11⟩
    refine .sr ?_
    refine .aA (.nil ?_)
    refine .ret ?_
    refine ⟨RetD.eq rfl ?_, trivial⟩
    all_goals (first | rw [HR] | (rw [HX, ffst_hit (f := usdF x.lines) hk.2 (by unfold usdF; rw [dif_pos hlt]; (first | (exfalso; omega) | ((repeat (first | rw [if_pos (by first | assumption | omega)] | rw [if_neg (by first | assumption | omega)])); first | done | rfl | omega | decide))) _ hlt]; unfold usdF; rw [dif_pos hlt]; (first | (exfalso; omega) | ((repeat (first | rw [if_pos (by first | assumption | omega)] | rw [if_neg (by first | assumption | omega)])); first | done | rfl | omega | decide))) | rw [show rptF x = 1 from by unfold rptF; (first | (exfalso; omega) | ((repeat (first | rw [if_pos (by first | assumption | omega)] | rw [if_neg (by first | assumption | omega)])); first | done | rfl | omega | decide))])
   have n5 : ¬ (0 < k ∧ sle x.lines[k].title (x.lines[k-1]'(by omega)).title = true) := fun hh => by have h5 := hh.2; rw [show sle x.lines[k].title (x.lines[k-1]'(by omega)).title = false from h11] at h5; cases h5
   refine .skip ?_
   refine .region ?_
   refine .sA (.add64 rfl rfl rfl (by omega) (by omega)) ?_
   refine .mA (.nil ?_)
   refine ⟨k + 1, ⟨by omega, ffst_next hk.2 (by unfold usdF; rw [dif_pos hlt]; (first | (exfalso; omega) | ((repeat (first | rw [if_pos (by first | assumption | omega)] | rw [if_neg (by first | assumption | omega)])); first | done | rfl | omega | decide)))⟩, (by dsimp only; omega), Sub.less ⟨(SLe.of_eq rfl), SLe.refl _, SLe.refl _, SLe.refl _, trivial⟩ (fun _ h => h)⟩
  replace g10 := of_decide_eq_false g10
  have n5 : ¬ (0 < k ∧ sle x.lines[k].title (x.lines[k-1]'(by omega)).title = true) := fun hh => by omega
  refine .pA ?_
  refine .pA ?_
  refine .pA ?_
  refine .pA ?_
  refine .pA ?_
  refine .pA ?_
  refine .pA ?_
  refine .pA ?_
  refine .pA ?_
  refine .pA ?_
  refine .sA (.pickF rfl rfl rfl) ?_
  refine .sA (.assignD rfl rfl) ?_
  refine .nil ?_
  refine .cond rfl (fun h => nomatch h) (fun _ => ?_)
  refine .skip ?_
  refine .region ?_
  refine .sA (.add64 rfl rfl rfl (by omega) (by omega)) ?_
  refine .mA (.nil ?_)
  refine ⟨k + 1, ⟨by omega, ffst_next hk.2 (by unfold usdF; rw [dif_pos hlt]; (first | (exfalso; omega) | ((repeat (first | rw [if_pos (by first | assumption | omega)] | rw [if_neg (by first | assumption | omega)])); first | done | rfl | omega | decide)))⟩, (by dsimp only; omega), Sub.less ⟨(SLe.of_eq rfl), SLe.refl _, SLe.refl _, SLe.refl _, trivial⟩ (fun _ h => h)⟩
 replace h6 := of_decide_eq_false h6
 rw [List.length_map] at h6
 have HR : rptF x = 0 := by rw [HX, show x.lines.length = k by omega]; exact hk.2
 refine .exit ?_
 refine .sr ?_
 refine .aA (.nil ?_)
 refine .ret ?_
 refine ⟨RetD.eq rfl ?_, trivial⟩
 all_goals (first | rw [HR] | (rw [HX, ffst_hit (f := usdF x.lines) hk.2 (by unfold usdF; rw [dif_pos hlt]; (first | (exfalso; omega) | ((repeat (first | rw [if_pos (by first | assumption | omega)] | rw [if_neg (by first | assumption | omega)])); first | done | rfl | omega | decide))) _ hlt]; unfold usdF; rw [dif_pos hlt]; (first | (exfalso; omega) | ((repeat (first | rw [if_pos (by first | assumption | omega)] | rw [if_neg (by first | assumption | omega)])); first | done | rfl | omega | decide))) | rw [show rptF x = 1 from by unfold rptF; (first | (exfalso; omega) | ((repeat (first | rw [if_pos (by first | assumption | omega)] | rw [if_neg (by first | assumption | omega)])); first | done | rfl | omega | decide))])

set_option maxRecDepth 100000 in
set_option maxHeartbeats 1000000 in
theorem c_cmpRpt (a b : Rpt) : ACall Tryz.prog 65 [.agg a.ds, .agg b.ds] (.v (.int .i64 (rCmp a b))) := by
 refine acall_of (n := 17) (ds' := [.v (.int .i64 (rCmp a b))]) Tryz.func65 rfl (by kernel_rfl) rfl [4] rfl rfl ?_
 intro B w0 F0 fr
 refine .sr ?_
 refine .sA (.box rfl rfl rfl) ?_
 refine .sA (.box rfl rfl rfl) ?_
 refine .aA (.nil ?_)
 refine .seq ?_
 refine .draw (by kernel_rfl) (by kernel_rfl) ?_
 refine .sA (.fieldAddr rfl fo_80_0 rfl) ?_
 refine .sA (.load rfl sc_9 rfl) ?_
 refine .sA (.fieldAddr rfl fo_80_0 rfl) ?_
 refine .sA (.load rfl sc_9 rfl) ?_
 refine .sA (.call rfl (.cons (.rfl' rfl) (.cons (.rfl' rfl) .nil)) (c_strCmp _ _)) ?_
 refine .sA (.fieldAddr rfl fo_80_1 rfl) ?_
 refine .sA (.load rfl sc_3 rfl) ?_
 refine .sA (.fieldAddr rfl fo_80_1 rfl) ?_
 refine .sA (.load rfl sc_3 rfl) ?_
 refine .sA (.call rfl (.cons (.rfl' rfl) (.cons (.rfl' rfl) .nil)) (c_cmpInt _ _)) ?_
 refine .sA (.buildSlice rfl et_37 (.cons rfl rfl rfl (.cons rfl rfl rfl .nil)) rfl (by decide)) ?_
 refine .sA (.call rfl (.cons (.rfl' rfl) .nil) (c_or [strCmp a.source b.source, if a.no < b.no then -1 else if b.no < a.no then 1 else 0])) ?_
 refine .sA (.assignD rfl rfl) ?_
 refine .nil ?_
 refine .ret ?_
 refine ⟨RetD.eq rfl ?_, trivial⟩
 all_goals (rw [orI_rpt])

set_option maxRecDepth 100000 in
set_option maxHeartbeats 1000000 in
theorem c_before (a b : Rpt) : ACall Tryz.prog 76 [.agg a.ds, .agg b.ds] (.v (.bool (ltR a b))) := by
 refine acall_of (n := 24) (ds' := [.v (.bool (ltR a b))]) Tryz.func76 rfl (by kernel_rfl) rfl [4] rfl rfl ?_
 intro B w0 F0 fr
 refine .sr ?_
 refine .sA (.box rfl rfl rfl) ?_
 refine .sA (.box rfl rfl rfl) ?_
 refine .aA (.nil ?_)
 refine .sr ?_
 refine .sA (.fieldAddr rfl fo_80_0 rfl) ?_
 refine .sA (.load rfl sc_9 rfl) ?_
 refine .sA (.fieldAddr rfl fo_80_0 rfl) ?_
 refine .sA (.load rfl sc_9 rfl) ?_
 refine .sA (.slss rfl rfl rfl) ?_
 refine .mA ?_
 refine .split 10 rfl (fun g1 => ?_) (fun g1 => ?_)
 ·skip
  rw [bf_1 g1]
  refine .pA ?_
  refine .pA ?_
  refine .pA ?_
  refine .pA ?_
  refine .pA ?_
  refine .pA ?_
  refine .pass ⟨16, rfl, .inr ⟨rfl, rfl⟩⟩ rfl rfl ?_
  refine .pass ⟨16, rfl, .inr ⟨rfl, rfl⟩⟩ rfl rfl ?_
  refine .pass ⟨16, rfl, .inr ⟨rfl, rfl⟩⟩ rfl rfl ?_
  refine .pass ⟨16, rfl, .inr ⟨rfl, rfl⟩⟩ rfl rfl ?_
  refine .pass ⟨16, rfl, .inr ⟨rfl, rfl⟩⟩ rfl rfl ?_
  refine .pA ?_
  refine .sA (.pickT rfl rfl rfl) ?_
  refine .aA (.nil ?_)
  refine .ret ?_
  refine ⟨RetD.eq rfl ?_, trivial⟩
  all_goals (rfl)
 have n1 := g1
 refine .sG (.fieldAddr rfl fo_80_0 rfl) ?_
 refine .sG (.load rfl sc_9 rfl) ?_
 refine .sG (.fieldAddr rfl fo_80_0 rfl) ?_
 refine .sG (.load rfl sc_9 rfl) ?_
 refine .sG (.seql rfl rfl rfl) ?_
 refine .sG (.moveD rfl rfl) ?_
 refine .split 16 rfl (fun g2 => ?_) (fun g2 => ?_)
 ·replace g2 := of_decide_eq_true g2
  rw [bf_3 g2]
  refine .sG (.fieldAddr rfl fo_80_1 rfl) ?_
  refine .sG (.load rfl sc_3 rfl) ?_
  refine .sG (.fieldAddr rfl fo_80_1 rfl) ?_
  refine .sG (.load rfl sc_3 rfl) ?_
  refine .sG (.lss rfl rfl rfl) ?_
  refine .sG (.pickT rfl rfl rfl) ?_
  refine .sA (.pickF rfl rfl rfl) ?_
  refine .aA (.nil ?_)
  refine .ret ?_
  refine ⟨RetD.eq rfl ?_, trivial⟩
  all_goals (rfl)
 replace g2 := of_decide_eq_false g2
 rw [bf_2 n1 g2]
 refine .pA ?_
 refine .pA ?_
 refine .pA ?_
 refine .pA ?_
 refine .pA ?_
 refine .sG (.pickF rfl rfl rfl) ?_
 refine .sA (.pickF rfl rfl rfl) ?_
 refine .aA (.nil ?_)
 refine .ret ?_
 refine ⟨RetD.eq rfl ?_, trivial⟩
 all_goals (rfl)

set_option maxRecDepth 100000 in
set_option maxHeartbeats 1000000 in
theorem c_pLog (l : List Rpt) (hl : ∀ x ∈ l, okRpt x) : ACallT Tryz.prog MaxT 29 [.sl (l.map Rpt.ds)] (.v (.int .i64 (logF l))) := by
 refine acall_ofT (n := 34) (ds' := [.v (.int .i64 (logF l))]) Tryz.func29 rfl (by kernel_rfl) rfl [2] rfl rfl ?_
 intro B w0 F0 hT
 refine .sr ?_
 refine .aA (.nil ?_)
 refine .seq ?_
 refine .sr ?_
 refine .mA ?_
 refine .sA (.lenSl rfl et_22.ht rfl) ?_
 refine .sA (.gtr rfl rfl rfl) (.nil ?_)
 refine .cond rfl (fun h1 => ?_) (fun h1 => ?_)
 ·replace h1 := of_decide_eq_true h1
  rw [List.length_map] at h1
  have HR : logF l = 2 := if_pos (by omega)
  refine .sr ?_
  refine .aA (.nil ?_)
  refine .ret ?_
  refine ⟨RetD.eq rfl ?_, trivial⟩
  all_goals (first | rw [HR] | (rw [HX, ffst_hit (f := repF l) hk.2 (by unfold repF; rw [dif_pos hlt]; (first | (exfalso; omega) | ((repeat (first | rw [if_pos (by first | assumption | omega)] | rw [if_neg (by first | assumption | omega)])); first | done | rfl | omega | decide))) _ hlt]; unfold repF; rw [dif_pos hlt]; (first | (exfalso; omega) | ((repeat (first | rw [if_pos (by first | assumption | omega)] | rw [if_neg (by first | assumption | omega)])); first | done | rfl | omega | decide))))
 replace h1 := of_decide_eq_false h1
 rw [List.length_map] at h1
 have HX : logF l = ffst (repF l) l.length := if_neg (by omega)
 refine .skip ?_
 refine .seq ?_
 refine .sr ?_
 refine .mA ?_
 refine .sA (.lenSl rfl et_22.ht rfl) ?_
 refine .mA (.nil ?_)
 refine .block ?_
 refine .loop (G := Nat) (fun k => Env.of [(11, .d (.v (.int .i64 (k : Int)))), (9, .d (.sl (l.map Rpt.ds))), (10, .d (.v (.int .i64 ((l.map Rpt.ds).length : Int)))), (0, .d (.sl (l.map Rpt.ds)))]) (fun k => []) (fun k => k ≤ l.length ∧ ffst (repF l) k = 0) (fun k => l.length - k) 0 ⟨Nat.zero_le _, rfl⟩ (Sub.less ⟨(SLe.of_eq rfl), SLe.refl _, SLe.refl _, SLe.refl _, trivial⟩ (fun _ h => h)) ?_
 intro k hk
 refine .sr ?_
 refine .sA (.lss rfl rfl rfl) (.nil ?_)
 refine .seq ?_
 refine .cond rfl (fun h2 => ?_) (fun h2 => ?_)
 ·replace h2 := of_decide_eq_true h2
  rw [List.length_map] at h2
  have hlt : k < l.length := by omega
  have hbk := hl _ (List.getElem_mem hlt)
  refine .skip ?_
  refine .seq ?_
  refine .block ?_
  refine .sr ?_
  refine .mA ?_
  refine .sA (.indexAddr rfl et_22 rfl rfl k rfl (at_lst hlt) rfl) ?_
  refine .sA (.loadAgg rfl ag_80 rfl rfl) ?_
  refine .alloc 101 rfl rfl rfl rfl zt_80 rfl rfl rfl ?_
  refine .aA ?_
  refine .store rfl rfl rfl sz_80 rfl (.head _) rfl rfl rfl (Nat.le_of_ble_eq_true rfl) ?_
  refine .freezeCells 4 (ds := l[k].ds) rfl (.head _) (.nil ?_)
  refine .seq ?_
  refine .sr ?_
  refine .sA (.loadAgg rfl ag_80 rfl rfl) ?_
  -- wants the world
  refine .callT rfl rfl rfl hT maxT_stays rfl (.cons (.rfl' rfl) .nil) (c_pRpt _ hbk) ?_
  refine .aA (.nil ?_)
  refine .sr ?_
  refine .mA ?_
  refine .sA (.neq rfl rfl rfl) (.nil ?_)
  refine .cond rfl (fun h3 => ?_) (fun h3 => ?_)
  ·replace h3 := of_decide_eq_true h3
   have n1 : rptF l[k] ≠ 0 := by omega
   refine .sr ?_
   refine .mA ?_
   refine .aA (.nil ?_)
   refine .ret ?_
   refine ⟨RetD.eq rfl ?_, trivial⟩
   all_goals (first | rw [HR] | (rw [HX, ffst_hit (f := repF l) hk.2 (by unfold repF; rw [dif_pos hlt]; (first | (exfalso; omega) | ((repeat (first | rw [if_pos (by first | assumption | omega)] | rw [if_neg (by first | assumption | omega)])); first | done | rfl | omega | decide))) _ hlt]; unfold repF; rw [dif_pos hlt]; (first | (exfalso; omega) | ((repeat (first | rw [if_pos (by first | assumption | omega)] | rw [if_neg (by first | assumption | omega)])); first | done | rfl | omega | decide))))
  replace h3 := of_decide_eq_false h3
  have n1 : ¬ rptF l[k] ≠ 0 := by omega
  refine .skip ?_
  refine .seq ?_
  refine .draw (by kernel_rfl) (by kernel_rfl) ?_
  refine .sA (.moveD rfl rfl) ?_
  refine .sA (.gtr rfl rfl rfl) ?_
  refine .sA (.moveD rfl rfl) ?_
  refine .split 23 rfl (fun g4 => ?_) (fun g4 => ?_)
  ·replace g4 := of_decide_eq_true g4
   have hk0 : 0 < k := by omega
   refine .sG (.moveD rfl rfl) ?_
   refine .sG (.moveD rfl rfl) ?_
   refine .sG (.sub64 rfl rfl rfl (by omega) (by omega)) ?_
   refine .sG (.indexAddr rfl et_22 rfl rfl (k - 1) (by omega) (at_lst (by omega)) rfl) ?_
   refine .sG (.loadAgg rfl ag_80 rfl rfl) ?_
   refine .sG (.loadAgg rfl ag_80 rfl rfl) ?_
   refine .sG (.call rfl (.cons (.rfl' rfl) (.cons (.rfl' rfl) .nil)) (c_cmpRpt _ _)) ?_
   refine .sG (.geq rfl rfl rfl) ?_
   refine .sA (.pickT rfl rfl rfl) ?_
   refine .nil ?_
   refine .cond rfl (fun h5 => ?_) (fun h5 => ?_)
   ·replace h5 := of_decide_eq_true h5
    have n3 : (0 < k ∧ 0 ≤ rCmp (l[k-1]'(by omega)) l[k]) := ⟨hk0, by omega⟩
    refine .sr ?_
    refine .aA (.nil ?_)
    refine .ret ?_
    refine ⟨RetD.eq rfl ?_, trivial⟩
    all_goals (first | rw [HR] | (rw [HX, ffst_hit (f := repF l) hk.2 (by unfold repF; rw [dif_pos hlt]; (first | (exfalso; omega) | ((repeat (first | rw [if_pos (by first | assumption | omega)] | rw [if_neg (by first | assumption | omega)])); first | done | rfl | omega | decide))) _ hlt]; unfold repF; rw [dif_pos hlt]; (first | (exfalso; omega) | ((repeat (first | rw [if_pos (by first | assumption | omega)] | rw [if_neg (by first | assumption | omega)])); first | done | rfl | omega | decide))))
   replace h5 := of_decide_eq_false h5
   have n3 : ¬ (0 < k ∧ 0 ≤ rCmp (l[k-1]'(by omega)) l[k]) := fun hh => by have := hh.2; omega
   refine .skip ?_
   refine .region ?_
   refine .sA (.add64 rfl rfl rfl (by omega) (by omega)) ?_
   refine .mA (.nil ?_)
   refine ⟨k + 1, ⟨by omega, ffst_next hk.2 (by unfold repF; rw [dif_pos hlt]; (first | (exfalso; omega) | ((repeat (first | rw [if_pos (by first | assumption | omega)] | rw [if_neg (by first | assumption | omega)])); first | done | rfl | omega | decide)))⟩, (by dsimp only; omega), Sub.less ⟨(SLe.of_eq rfl), SLe.refl _, SLe.refl _, SLe.refl _, trivial⟩ (fun _ h => h)⟩
  replace g4 := of_decide_eq_false g4
  have n3 : ¬ (0 < k ∧ 0 ≤ rCmp (l[k-1]'(by omega)) l[k]) := fun hh => by omega
  refine .pA ?_
  refine .pA ?_
  refine .pA ?_
  refine .pA ?_
  refine .pA ?_
  refine .pA ?_
  refine .pA ?_
  refine .pA ?_
  refine .sA (.pickF rfl rfl rfl) ?_
  refine .nil ?_
  refine .cond rfl (fun h => nomatch h) (fun _ => ?_)
  refine .skip ?_
  refine .region ?_
  refine .sA (.add64 rfl rfl rfl (by omega) (by omega)) ?_
  refine .mA (.nil ?_)
  refine ⟨k + 1, ⟨by omega, ffst_next hk.2 (by unfold repF; rw [dif_pos hlt]; (first | (exfalso; omega) | ((repeat (first | rw [if_pos (by first | assumption | omega)] | rw [if_neg (by first | assumption | omega)])); first | done | rfl | omega | decide)))⟩, (by dsimp only; omega), Sub.less ⟨(SLe.of_eq rfl), SLe.refl _, SLe.refl _, SLe.refl _, trivial⟩ (fun _ h => h)⟩
 replace h2 := of_decide_eq_false h2
 rw [List.length_map] at h2
 have HR : logF l = 0 := by rw [HX, show l.length = k by omega]; exact hk.2
 refine .exit ?_
 refine .sr ?_
 refine .aA (.nil ?_)
 refine .ret ?_
 refine ⟨RetD.eq rfl ?_, trivial⟩
 all_goals (first | rw [HR] | (rw [HX, ffst_hit (f := repF l) hk.2 (by unfold repF; rw [dif_pos hlt]; (first | (exfalso; omega) | ((repeat (first | rw [if_pos (by first | assumption | omega)] | rw [if_neg (by first | assumption | omega)])); first | done | rfl | omega | decide))) _ hlt]; unfold repF; rw [dif_pos hlt]; (first | (exfalso; omega) | ((repeat (first | rw [if_pos (by first | assumption | omega)] | rw [if_neg (by first | assumption | omega)])); first | done | rfl | omega | decide))))

set_option maxRecDepth 100000 in
set_option maxHeartbeats 1000000 in
theorem c_rLog (l : List Rpt) (hl : ∀ x ∈ l, okRpt x) : ACallT Tryz.prog MaxT 33 [.sl (l.map Rpt.ds)] (.v (.int .i64 (logF l))) := by
 refine acall_ofT (n := 34) (ds' := [.v (.int .i64 (logF l))]) Tryz.func33 rfl (by kernel_rfl) rfl [2] rfl rfl ?_
 intro B w0 F0 hT
 refine .sr ?_
 refine .aA (.nil ?_)
 refine .seq ?_
 refine .sr ?_
 refine .mA ?_
 refine .sA (.lenSl rfl et_22.ht rfl) ?_
 refine .sA (.gtr rfl rfl rfl) (.nil ?_)
 refine .cond rfl (fun h1 => ?_) (fun h1 => ?_)
 ·replace h1 := of_decide_eq_true h1
  rw [List.length_map] at h1
  have HR : logF l = 2 := if_pos (by omega)
  refine .sr ?_
  refine .aA (.nil ?_)
  refine .ret ?_
  refine ⟨RetD.eq rfl ?_, trivial⟩
  all_goals (first | rw [HR] | (rw [HX, ffst_hit (f := repF l) hk.2 (by unfold repF; rw [dif_pos hlt]; (first | (exfalso; omega) | ((repeat (first | rw [if_pos (by first | assumption | omega)] | rw [if_neg (by first | assumption | omega)])); first | done | rfl | omega | decide))) _ hlt]; unfold repF; rw [dif_pos hlt]; (first | (exfalso; omega) | ((repeat (first | rw [if_pos (by first | assumption | omega)] | rw [if_neg (by first | assumption | omega)])); first | done | rfl | omega | decide))))
 replace h1 := of_decide_eq_false h1
 rw [List.length_map] at h1
 have HX : logF l = ffst (repF l) l.length := if_neg (by omega)
 refine .skip ?_
 refine .seq ?_
 refine .sr ?_
 refine .mA ?_
 refine .sA (.lenSl rfl et_22.ht rfl) ?_
 refine .mA (.nil ?_)
 refine .block ?_
 refine .loop (G := Nat) (fun k => Env.of [(11, .d (.v (.int .i64 (k : Int)))), (9, .d (.sl (l.map Rpt.ds))), (10, .d (.v (.int .i64 ((l.map Rpt.ds).length : Int)))), (0, .d (.sl (l.map Rpt.ds)))]) (fun k => []) (fun k => k ≤ l.length ∧ ffst (repF l) k = 0) (fun k => l.length - k) 0 ⟨Nat.zero_le _, rfl⟩ (Sub.less ⟨(SLe.of_eq rfl), SLe.refl _, SLe.refl _, SLe.refl _, trivial⟩ (fun _ h => h)) ?_
 intro k hk
 refine .sr ?_
 refine .sA (.lss rfl rfl rfl) (.nil ?_)
 refine .seq ?_
 refine .cond rfl (fun h2 => ?_) (fun h2 => ?_)
 ·replace h2 := of_decide_eq_true h2
  rw [List.length_map] at h2
  have hlt : k < l.length := by omega
  have hbk := hl _ (List.getElem_mem hlt)
  refine .skip ?_
  refine .seq ?_
  refine .block ?_
  refine .sr ?_
  refine .mA ?_
  refine .sA (.indexAddr rfl et_22 rfl rfl k rfl (at_lst hlt) rfl) ?_
  refine .sA (.loadAgg rfl ag_80 rfl rfl) ?_
  refine .alloc 101 rfl rfl rfl rfl zt_80 rfl rfl rfl ?_
  refine .aA ?_
  refine .store rfl rfl rfl sz_80 rfl (.head _) rfl rfl rfl (Nat.le_of_ble_eq_true rfl) ?_
  refine .freezeCells 4 (ds := l[k].ds) rfl (.head _) (.nil ?_)
  refine .seq ?_
  refine .sr ?_
  refine .sA (.loadAgg rfl ag_80 rfl rfl) ?_
  -- wants the world
  refine .callT rfl rfl rfl hT maxT_stays rfl (.cons (.rfl' rfl) .nil) (c_rRpt _ hbk) ?_
  refine .aA (.nil ?_)
  refine .sr ?_
  refine .mA ?_
  refine .sA (.neq rfl rfl rfl) (.nil ?_)
  refine .cond rfl (fun h3 => ?_) (fun h3 => ?_)
  ·replace h3 := of_decide_eq_true h3
   have n1 : rptF l[k] ≠ 0 := by omega
   refine .sr ?_
   refine .mA ?_
   refine .aA (.nil ?_)
   refine .ret ?_
   refine ⟨RetD.eq rfl ?_, trivial⟩
   all_goals (first | rw [HR] | (rw [HX, ffst_hit (f := repF l) hk.2 (by unfold repF; rw [dif_pos hlt]; (first | (exfalso; omega) | ((repeat (first | rw [if_pos (by first | assumption | omega)] | rw [if_neg (by first | assumption | omega)])); first | done | rfl | omega | decide))) _ hlt]; unfold repF; rw [dif_pos hlt]; (first | (exfalso; omega) | ((repeat (first | rw [if_pos (by first | assumption | omega)] | rw [if_neg (by first | assumption | omega)])); first | done | rfl | omega | decide))))
  replace h3 := of_decide_eq_false h3
  have n1 : ¬ rptF l[k] ≠ 0 := by omega
  refine .skip ?_
  refine .seq ?_
  refine .draw (by kernel_rfl) (by kernel_rfl) ?_
  refine .sA (.moveD rfl rfl) ?_
  refine .sA (.gtr rfl rfl rfl) ?_
  refine .sA (.moveD rfl rfl) ?_
  refine .split 23 rfl (fun g4 => ?_) (fun g4 => ?_)
  ·replace g4 := of_decide_eq_true g4
   have hk0 : 0 < k := by omega
   refine .sG (.moveD rfl rfl) ?_
   refine .sG (.moveD rfl rfl) ?_
   refine .sG (.sub64 rfl rfl rfl (by omega) (by omega)) ?_
   refine .sG (.indexAddr rfl et_22 rfl rfl (k - 1) (by omega) (at_lst (by omega)) rfl) ?_
   refine .sG (.loadAgg rfl ag_80 rfl rfl) ?_
   refine .sG (.loadAgg rfl ag_80 rfl rfl) ?_
   refine .sG (.call rfl (.cons (.rfl' rfl) (.cons (.rfl' rfl) .nil)) (c_before _ _)) ?_
   refine .sG (.not rfl rfl) ?_
   refine .sA (.pickT rfl rfl rfl) ?_
   refine .nil ?_
   refine .cond rfl (fun h5 => ?_) (fun h5 => ?_)
   ·replace h5 := bnot_t h5
    have n3 : (0 < k ∧ 0 ≤ rCmp (l[k-1]'(by omega)) l[k]) := ⟨hk0, ltR_no h5⟩
    refine .sr ?_
    refine .aA (.nil ?_)
    refine .ret ?_
    refine ⟨RetD.eq rfl ?_, trivial⟩
    all_goals (first | rw [HR] | (rw [HX, ffst_hit (f := repF l) hk.2 (by unfold repF; rw [dif_pos hlt]; (first | (exfalso; omega) | ((repeat (first | rw [if_pos (by first | assumption | omega)] | rw [if_neg (by first | assumption | omega)])); first | done | rfl | omega | decide))) _ hlt]; unfold repF; rw [dif_pos hlt]; (first | (exfalso; omega) | ((repeat (first | rw [if_pos (by first | assumption | omega)] | rw [if_neg (by first | assumption | omega)])); first | done | rfl | omega | decide))))
   replace h5 := bnot_f h5
   have n3 : ¬ (0 < k ∧ 0 ≤ rCmp (l[k-1]'(by omega)) l[k]) := fun hh => ltR_yes h5 hh.2
   refine .skip ?_
   refine .region ?_
   refine .sA (.add64 rfl rfl rfl (by omega) (by omega)) ?_
   refine .mA (.nil ?_)
   refine ⟨k + 1, ⟨by omega, ffst_next hk.2 (by unfold repF; rw [dif_pos hlt]; (first | (exfalso; omega) | ((repeat (first | rw [if_pos (by first | assumption | omega)] | rw [if_neg (by first | assumption | omega)])); first | done | rfl | omega | decide)))⟩, (by dsimp only; omega), Sub.less ⟨(SLe.of_eq rfl), SLe.refl _, SLe.refl _, SLe.refl _, trivial⟩ (fun _ h => h)⟩
  replace g4 := of_decide_eq_false g4
  have n3 : ¬ (0 < k ∧ 0 ≤ rCmp (l[k-1]'(by omega)) l[k]) := fun hh => by omega
  refine .pA ?_
  refine .pA ?_
  refine .pA ?_
  refine .pA ?_
  refine .pA ?_
  refine .pA ?_
  refine .pA ?_
  refine .pA ?_
  refine .sA (.pickF rfl rfl rfl) ?_
  refine .nil ?_
  refine .cond rfl (fun h => nomatch h) (fun _ => ?_)
  refine .skip ?_
  refine .region ?_
  refine .sA (.add64 rfl rfl rfl (by omega) (by omega)) ?_
  refine .mA (.nil ?_)
  refine ⟨k + 1, ⟨by omega, ffst_next hk.2 (by unfold repF; rw [dif_pos hlt]; (first | (exfalso; omega) | ((repeat (first | rw [if_pos (by first | assumption | omega)] | rw [if_neg (by first | assumption | omega)])); first | done | rfl | omega | decide)))⟩, (by dsimp only; omega), Sub.less ⟨(SLe.of_eq rfl), SLe.refl _, SLe.refl _, SLe.refl _, trivial⟩ (fun _ h => h)⟩
 replace h2 := of_decide_eq_false h2
 rw [List.length_map] at h2
 have HR : logF l = 0 := by rw [HX, show l.length = k by omega]; exact hk.2
 refine .exit ?_
 refine .sr ?_
 refine .aA (.nil ?_)
 refine .ret ?_
 refine ⟨RetD.eq rfl ?_, trivial⟩
 all_goals (first | rw [HR] | (rw [HX, ffst_hit (f := repF l) hk.2 (by unfold repF; rw [dif_pos hlt]; (first | (exfalso; omega) | ((repeat (first | rw [if_pos (by first | assumption | omega)] | rw [if_neg (by first | assumption | omega)])); first | done | rfl | omega | decide))) _ hlt]; unfold repF; rw [dif_pos hlt]; (first | (exfalso; omega) | ((repeat (first | rw [if_pos (by first | assumption | omega)] | rw [if_neg (by first | assumption | omega)])); first | done | rfl | omega | decide))))

end Go.Proofs.YtcfamaddnmnaeaaGreatDoor

namespace Go.Proofs.YtcfamaddnmnaeaaGreatDoor
open Go.RowKit
set_option linter.unusedVariables false

/-! Types. -/
namespace TyM3
theorem sz_78 : ∀ w, (sizeOf 78).run Tryz.prog w = .ok 1 w := SizeT.of (by kernel_rfl)
end TyM3
open TyF0 TyF1 TyF2 TyF3 TyF4 TyF5 TyF6 TyF7 TyF8 TyF9 TyF10 TyF11 TyG1 TyG2 TyG5 TyU1 TyU2 TyU3 TyU4 TyM1 TyM2 TyM3

open Go.Lib
theorem take_eq {α : Type} {l r : List α} {k : Nat} (h1 : k < l.length) (h2 : k < r.length) (h : l.take k = r.take k) (e : l[k] = r[k]) : l.take (k + 1) = r.take (k + 1) := by
  rw [List.take_add_one, List.take_add_one, List.getElem?_eq_getElem h1, List.getElem?_eq_getElem h2, h, e]
theorem take_all_eq {α : Type} {l r : List α} (hl : l.length = r.length) (h : l.take l.length = r.take l.length) : l = r := by
  rw [List.take_length, hl, List.take_length] at h
  exact h
theorem usd_ext {x y : Usd} (h : x.title = y.title ∧ x.units = y.units ∧ x.money = y.money) : x = y := by
  cases x; cases y
  simp only [Usd.mk.injEq]
  exact h
theorem eqT_usd : EqT Tryz.prog 75 [.str, .int .i64, .int .i64] := .of (by kernel_rfl)
theorem eq_usd (x y : Usd) : EqD Tryz.prog 75 x.ds y.ds (decide (x.title = y.title ∧ x.units = y.units ∧ x.money = y.money)) := .of eqT_usd [.string x.title, .int .i64 x.units, .int .i64 x.money] [.string y.title, .int .i64 y.units, .int .i64 y.money] rfl rfl rfl rfl (by simp [sameL, sameV])
theorem rpt_eq {x y : Rpt} (e1 : x.source = y.source) (e2 : x.no = y.no) (e3 : x.period = y.period) (e4 : x.corrects = y.corrects) : decide (x = y) = decide (x.lines = y.lines) := by
  cases x; cases y
  simp only at e1 e2 e3 e4
  subst e1; subst e2; subst e3; subst e4
  simp
/-- The binary search: the number to which it comes. -/
def bsr (lt : Nat → Bool) (i j : Nat) : Nat := if h : i < j then (if lt ((i + j) / 2) = true then bsr lt ((i + j) / 2 + 1) j else bsr lt i ((i + j) / 2)) else i
termination_by j - i
decreasing_by all_goals omega
def ltQ (l : List Rpt) (t : Rpt) (k : Nat) : Bool := decide (k < l.length) && decide (rCmp (l.getD k default) t < 0)
def posR (l : List Rpt) (t : Rpt) : Nat := bsr (ltQ l t) 0 l.length
def hasR (l : List Rpt) (t : Rpt) : Bool := decide (posR l t < l.length) && decide (rCmp (l.getD (posR l t) default) t = 0)
set_option maxRecDepth 100000 in
set_option maxHeartbeats 1000000 in
theorem c_eqUsd (l r : List Usd) : ACall Tryz.prog 66 [.sl (l.map Usd.ds), .sl (r.map Usd.ds)] (.v (.bool (decide (l = r)))) := by
 refine acall_of (n := 26) (ds' := [.v (.bool (decide (l = r)))]) Tryz.func66 rfl (by kernel_rfl) rfl [4] rfl rfl ?_
 intro B w0 F0 fr
 refine .bound 0 rfl (fun hbd0 => ?_)
 rw [List.length_map] at hbd0
 refine .bound 1 rfl (fun hbd1 => ?_)
 rw [List.length_map] at hbd1
 refine .sr ?_
 refine .aA (.nil ?_)
 refine .seq ?_
 refine .sr ?_
 refine .mA ?_
 refine .sA (.lenSl rfl et_78.ht rfl) ?_
 refine .mA ?_
 refine .sA (.lenSl rfl et_78.ht rfl) ?_
 refine .sA (.neq rfl rfl rfl) (.nil ?_)
 refine .cond rfl (fun h1 => ?_) (fun h1 => ?_)
 ·replace h1 := of_decide_eq_true h1
  rw [List.length_map, List.length_map] at h1
  rw [decide_eq_false (show ¬ l = r from fun e => h1 (by rw [e]))]
  refine .sr ?_
  refine .aA (.nil ?_)
  refine .ret ?_
  refine ⟨RetD.eq rfl ?_, trivial⟩
  all_goals (rfl)
 replace h1 := of_decide_eq_false h1
 rw [List.length_map, List.length_map] at h1
 have hle : l.length = r.length := by omega
 refine .skip ?_
 refine .seq ?_
 refine .sr ?_
 refine .mA ?_
 refine .sA (.lenSl rfl et_78.ht rfl) ?_
 refine .mA (.nil ?_)
 refine .block ?_
 refine .loop (G := Nat) (fun k => Env.of [(13, .d (.v (.int .i64 (k : Int)))), (11, .d (.sl (l.map Usd.ds))), (12, .d (.v (.int .i64 ((l.map Usd.ds).length : Int)))), (0, .d (.sl (l.map Usd.ds))), (1, .d (.sl (r.map Usd.ds)))]) (fun k => []) (fun k => k ≤ l.length ∧ l.take k = r.take k) (fun k => l.length - k) 0 ⟨Nat.zero_le _, by simp⟩ (Sub.less ⟨(SLe.of_eq rfl), SLe.refl _, SLe.refl _, SLe.refl _, SLe.refl _, trivial⟩ (fun _ h => h)) ?_
 intro k hk
 refine .sr ?_
 refine .sA (.lss rfl rfl rfl) (.nil ?_)
 refine .seq ?_
 refine .cond rfl (fun h2 => ?_) (fun h2 => ?_)
 ·replace h2 := of_decide_eq_true h2
  rw [List.length_map] at h2
  have hlt : k < l.length := by omega
  have hlr : k < r.length := by omega
  refine .skip ?_
  refine .seq ?_
  refine .block ?_
  refine .sr ?_
  refine .mA ?_
  refine .aA (.nil ?_)
  refine .seq ?_
  refine .draw (by kernel_rfl) (by kernel_rfl) ?_
  refine .sA (.moveD rfl rfl) ?_
  refine .sA (.moveD rfl rfl) ?_
  refine .sA (.indexAddr rfl et_78 rfl rfl k rfl (at_lst hlt) rfl) ?_
  refine .sA (.loadAgg rfl ag_75 rfl rfl) ?_
  refine .sA (.moveD rfl rfl) ?_
  refine .sA (.moveD rfl rfl) ?_
  refine .sA (.indexAddr rfl et_78 rfl rfl k rfl (at_lst hlr) rfl) ?_
  refine .sA (.loadAgg rfl ag_75 rfl rfl) ?_
  refine .sA (.aggNeq rfl rfl rfl (eq_usd _ _)) ?_
  refine .nil ?_
  refine .cond rfl (fun h3 => ?_) (fun h3 => ?_)
  ·replace h3 := bnot_t h3; replace h3 := of_decide_eq_false h3
   rw [decide_eq_false (show ¬ l = r from fun e => h3 (by subst e; exact ⟨rfl, rfl, rfl⟩))]
   refine .sr ?_
   refine .aA (.nil ?_)
   refine .ret ?_
   refine ⟨RetD.eq rfl ?_, trivial⟩
   all_goals (rfl)
  replace h3 := bnot_f h3; replace h3 := of_decide_eq_true h3
  have hT := take_eq hlt hlr hk.2 (usd_ext h3)
  refine .skip ?_
  refine .region ?_
  refine .sA (.add64 rfl rfl rfl (by omega) (by omega)) ?_
  refine .mA (.nil ?_)
  refine ⟨k + 1, ⟨by omega, hT⟩, (by dsimp only; omega), Sub.less ⟨(SLe.of_eq rfl), SLe.refl _, SLe.refl _, SLe.refl _, SLe.refl _, trivial⟩ (fun _ h => h)⟩
 replace h2 := of_decide_eq_false h2
 rw [List.length_map] at h2
 obtain rfl : k = l.length := by omega
 rw [decide_eq_true (take_all_eq hle hk.2)]
 refine .exit ?_
 refine .sr ?_
 refine .aA (.nil ?_)
 refine .ret ?_
 refine ⟨RetD.eq rfl ?_, trivial⟩
 all_goals (rfl)

set_option maxRecDepth 100000 in
set_option maxHeartbeats 1000000 in
theorem c_sameR (x y : Rpt) : ACall Tryz.prog 34 [.agg x.ds, .agg y.ds] (.v (.bool (decide (x = y)))) := by
 refine acall_of (n := 38) (ds' := [.v (.bool (decide (x = y)))]) Tryz.func34 rfl (by kernel_rfl) rfl [4] rfl rfl ?_
 intro B w0 F0 fr
 refine .sr ?_
 refine .sA (.box rfl rfl rfl) ?_
 refine .sA (.box rfl rfl rfl) ?_
 refine .aA (.nil ?_)
 refine .sr ?_
 refine .sA (.fieldAddr rfl fo_80_0 rfl) ?_
 refine .sA (.load rfl sc_9 rfl) ?_
 refine .sA (.fieldAddr rfl fo_80_0 rfl) ?_
 refine .sA (.load rfl sc_9 rfl) ?_
 refine .sA (.seql rfl rfl rfl) ?_
 refine .mA ?_
 refine .split 10 rfl (fun g1 => ?_) (fun g1 => ?_)
 ·replace g1 := of_decide_eq_true g1
  have e1 := g1
  refine .sG (.fieldAddr rfl fo_80_1 rfl) ?_
  refine .sG (.load rfl sc_3 rfl) ?_
  refine .sG (.fieldAddr rfl fo_80_1 rfl) ?_
  refine .sG (.load rfl sc_3 rfl) ?_
  refine .sG (.eql rfl rfl rfl) ?_
  refine .sA (.pickT rfl rfl rfl) ?_
  refine .mA ?_
  refine .split 17 rfl (fun g2 => ?_) (fun g2 => ?_)
  ·replace g2 := of_decide_eq_true g2
   have e2 := g2
   refine .sG (.fieldAddr rfl fo_80_2 rfl) ?_
   refine .sG (.load rfl sc_3 rfl) ?_
   refine .sG (.fieldAddr rfl fo_80_2 rfl) ?_
   refine .sG (.load rfl sc_3 rfl) ?_
   refine .sG (.eql rfl rfl rfl) ?_
   refine .sA (.pickT rfl rfl rfl) ?_
   refine .mA ?_
   refine .split 24 rfl (fun g3 => ?_) (fun g3 => ?_)
   ·replace g3 := of_decide_eq_true g3
    have e3 := g3
    refine .sG (.fieldAddr rfl fo_80_3 rfl) ?_
    refine .sG (.load rfl sc_3 rfl) ?_
    refine .sG (.fieldAddr rfl fo_80_3 rfl) ?_
    refine .sG (.load rfl sc_3 rfl) ?_
    refine .sG (.eql rfl rfl rfl) ?_
    refine .sA (.pickT rfl rfl rfl) ?_
    refine .mA ?_
    refine .split 31 rfl (fun g4 => ?_) (fun g4 => ?_)
    ·replace g4 := of_decide_eq_true g4
     have e4 := g4
     rw [rpt_eq e1 e2 e3 e4]
     refine .sG (.fieldAddr rfl fo_80_4 rfl) ?_
     refine .sG (.load rfl sc_78 rfl) ?_
     refine .sG (.fieldAddr rfl fo_80_4 rfl) ?_
     refine .sG (.load rfl sc_78 rfl) ?_
     refine .sG (.call rfl (.cons (.rfl' rfl) (.cons (.rfl' rfl) .nil)) (c_eqUsd _ _)) ?_
     refine .sA (.pickT rfl rfl rfl) ?_
     refine .aA (.nil ?_)
     refine .ret ?_
     refine ⟨RetD.eq rfl ?_, trivial⟩
     all_goals (rfl)
    replace g4 := of_decide_eq_false g4
    have HX : decide (x = y) = false := decide_eq_false (fun e => g4 (by rw [e]))
    rw [HX]
    refine .pA ?_
    refine .pA ?_
    refine .pA ?_
    refine .pA ?_
    refine .pA ?_
    refine .sA (.pickF rfl rfl rfl) ?_
    refine .aA (.nil ?_)
    refine .ret ?_
    refine ⟨RetD.eq rfl ?_, trivial⟩
    all_goals (rfl)
   replace g3 := of_decide_eq_false g3
   have HX : decide (x = y) = false := decide_eq_false (fun e => g3 (by rw [e]))
   rw [HX]
   refine .pA ?_
   refine .pA ?_
   refine .pA ?_
   refine .pA ?_
   refine .pA ?_
   refine .sA (.pickF rfl rfl rfl) ?_
   refine .mA ?_
   refine .pA ?_
   refine .pA ?_
   refine .pA ?_
   refine .pA ?_
   refine .pA ?_
   refine .sA (.pickF rfl rfl rfl) ?_
   refine .aA (.nil ?_)
   refine .ret ?_
   refine ⟨RetD.eq rfl ?_, trivial⟩
   all_goals (rfl)
  replace g2 := of_decide_eq_false g2
  have HX : decide (x = y) = false := decide_eq_false (fun e => g2 (by rw [e]))
  rw [HX]
  refine .pA ?_
  refine .pA ?_
  refine .pA ?_
  refine .pA ?_
  refine .pA ?_
  refine .sA (.pickF rfl rfl rfl) ?_
  refine .mA ?_
  refine .pA ?_
  refine .pA ?_
  refine .pA ?_
  refine .pA ?_
  refine .pA ?_
  refine .sA (.pickF rfl rfl rfl) ?_
  refine .mA ?_
  refine .pA ?_
  refine .pA ?_
  refine .pA ?_
  refine .pA ?_
  refine .pA ?_
  refine .sA (.pickF rfl rfl rfl) ?_
  refine .aA (.nil ?_)
  refine .ret ?_
  refine ⟨RetD.eq rfl ?_, trivial⟩
  all_goals (rfl)
 replace g1 := of_decide_eq_false g1
 have HX : decide (x = y) = false := decide_eq_false (fun e => g1 (by rw [e]))
 rw [HX]
 refine .pA ?_
 refine .pA ?_
 refine .pA ?_
 refine .pA ?_
 refine .pA ?_
 refine .sA (.pickF rfl rfl rfl) ?_
 refine .mA ?_
 refine .pA ?_
 refine .pA ?_
 refine .pA ?_
 refine .pA ?_
 refine .pA ?_
 refine .sA (.pickF rfl rfl rfl) ?_
 refine .mA ?_
 refine .pA ?_
 refine .pA ?_
 refine .pA ?_
 refine .pA ?_
 refine .pA ?_
 refine .sA (.pickF rfl rfl rfl) ?_
 refine .mA ?_
 refine .pA ?_
 refine .pA ?_
 refine .pA ?_
 refine .pA ?_
 refine .pA ?_
 refine .sA (.pickF rfl rfl rfl) ?_
 refine .aA (.nil ?_)
 refine .ret ?_
 refine ⟨RetD.eq rfl ?_, trivial⟩
 all_goals (rfl)

set_option maxRecDepth 100000 in
set_option maxHeartbeats 1000000 in
theorem c_sameL (l r : List Rpt) : ACall Tryz.prog 10 [.sl (l.map Rpt.ds), .sl (r.map Rpt.ds)] (.v (.bool (decide (l = r)))) := by
 refine acall_of (n := 27) (ds' := [.v (.bool (decide (l = r)))]) Tryz.func10 rfl (by kernel_rfl) rfl [4] rfl rfl ?_
 intro B w0 F0 fr
 refine .bound 0 rfl (fun hbd0 => ?_)
 rw [List.length_map] at hbd0
 refine .bound 1 rfl (fun hbd1 => ?_)
 rw [List.length_map] at hbd1
 refine .sr ?_
 refine .aA (.nil ?_)
 refine .seq ?_
 refine .sr ?_
 refine .mA ?_
 refine .sA (.lenSl rfl et_22.ht rfl) ?_
 refine .mA ?_
 refine .sA (.lenSl rfl et_22.ht rfl) ?_
 refine .sA (.neq rfl rfl rfl) (.nil ?_)
 refine .cond rfl (fun h1 => ?_) (fun h1 => ?_)
 ·replace h1 := of_decide_eq_true h1
  rw [List.length_map, List.length_map] at h1
  rw [decide_eq_false (show ¬ l = r from fun e => h1 (by rw [e]))]
  refine .sr ?_
  refine .aA (.nil ?_)
  refine .ret ?_
  refine ⟨RetD.eq rfl ?_, trivial⟩
  all_goals (rfl)
 replace h1 := of_decide_eq_false h1
 rw [List.length_map, List.length_map] at h1
 have hle : l.length = r.length := by omega
 refine .skip ?_
 refine .seq ?_
 refine .sr ?_
 refine .mA ?_
 refine .sA (.lenSl rfl et_22.ht rfl) ?_
 refine .mA (.nil ?_)
 refine .block ?_
 refine .loop (G := Nat) (fun k => Env.of [(13, .d (.v (.int .i64 (k : Int)))), (11, .d (.sl (l.map Rpt.ds))), (12, .d (.v (.int .i64 ((l.map Rpt.ds).length : Int)))), (0, .d (.sl (l.map Rpt.ds))), (1, .d (.sl (r.map Rpt.ds)))]) (fun k => []) (fun k => k ≤ l.length ∧ l.take k = r.take k) (fun k => l.length - k) 0 ⟨Nat.zero_le _, by simp⟩ (Sub.less ⟨(SLe.of_eq rfl), SLe.refl _, SLe.refl _, SLe.refl _, SLe.refl _, trivial⟩ (fun _ h => h)) ?_
 intro k hk
 refine .sr ?_
 refine .sA (.lss rfl rfl rfl) (.nil ?_)
 refine .seq ?_
 refine .cond rfl (fun h2 => ?_) (fun h2 => ?_)
 ·replace h2 := of_decide_eq_true h2
  rw [List.length_map] at h2
  have hlt : k < l.length := by omega
  have hlr : k < r.length := by omega
  refine .skip ?_
  refine .seq ?_
  refine .block ?_
  refine .sr ?_
  refine .mA ?_
  refine .aA (.nil ?_)
  refine .seq ?_
  refine .draw (by kernel_rfl) (by kernel_rfl) ?_
  refine .sA (.moveD rfl rfl) ?_
  refine .sA (.moveD rfl rfl) ?_
  refine .sA (.indexAddr rfl et_22 rfl rfl k rfl (at_lst hlt) rfl) ?_
  refine .sA (.loadAgg rfl ag_80 rfl rfl) ?_
  refine .sA (.moveD rfl rfl) ?_
  refine .sA (.moveD rfl rfl) ?_
  refine .sA (.indexAddr rfl et_22 rfl rfl k rfl (at_lst hlr) rfl) ?_
  refine .sA (.loadAgg rfl ag_80 rfl rfl) ?_
  refine .sA (.call rfl (.cons (.rfl' rfl) (.cons (.rfl' rfl) .nil)) (c_sameR _ _)) ?_
  refine .sA (.not rfl rfl) ?_
  refine .nil ?_
  refine .cond rfl (fun h3 => ?_) (fun h3 => ?_)
  ·replace h3 := bnot_t h3; replace h3 := of_decide_eq_false h3
   rw [decide_eq_false (show ¬ l = r from fun e => h3 (by subst e; rfl))]
   refine .sr ?_
   refine .aA (.nil ?_)
   refine .ret ?_
   refine ⟨RetD.eq rfl ?_, trivial⟩
   all_goals (rfl)
  replace h3 := bnot_f h3; replace h3 := of_decide_eq_true h3
  have hT := take_eq hlt hlr hk.2 h3
  refine .skip ?_
  refine .region ?_
  refine .sA (.add64 rfl rfl rfl (by omega) (by omega)) ?_
  refine .mA (.nil ?_)
  refine ⟨k + 1, ⟨by omega, hT⟩, (by dsimp only; omega), Sub.less ⟨(SLe.of_eq rfl), SLe.refl _, SLe.refl _, SLe.refl _, SLe.refl _, trivial⟩ (fun _ h => h)⟩
 replace h2 := of_decide_eq_false h2
 rw [List.length_map] at h2
 obtain rfl : k = l.length := by omega
 rw [decide_eq_true (take_all_eq hle hk.2)]
 refine .exit ?_
 refine .sr ?_
 refine .aA (.nil ?_)
 refine .ret ?_
 refine ⟨RetD.eq rfl ?_, trivial⟩
 all_goals (rfl)

end Go.Proofs.YtcfamaddnmnaeaaGreatDoor

namespace Go.Proofs.YtcfamaddnmnaeaaGreatDoor
open Go.RowKit Go.Shelf Go.Lib
set_option linter.unusedVariables false
set_option linter.unusedSimpArgs false

/-- What the builder's first cell holds: nothing has been written, or its own address. -/
def bP (l : List UInt8) (id : Nat) : S := match l with
  | [] => .d (.v (.pointer none))
  | _ :: _ => .ptr id 0
/-- A builder that holds l: its two cells, its bytes. -/
def Bld (id r : Nat) (l : List UInt8) : Obs := [(id, .cellsT 88 [bP l id, .own r]), (r, .row 5 1 (l.map u8D))]
theorem cellB_turn (g o : Nat) (v : Value) (w : World) : Turn w (w.setCell ⟨g, o, none⟩ v) (some g) := by
  refine ⟨rfl, rfl, rfl, by simp [World.setCell], fun k _ hk => ?_⟩
  have : g ≠ k := fun h => hk (by rw [h])
  simp [World.setCell, Array.getElem?_modify, this]
theorem flat_bytes {xs : Nat → Nat → Value} {l : List UInt8} (h : ∀ i (h : i < l.length), xs i 0 = .int .u8 (l[i].toNat : Int)) : flat xs l.length 1 = byteCells l := by
  apply List.ext_getElem?
  intro p
  by_cases hp : p < l.length
  · have := flatten_get xs 1 l.length p 0 hp (by omega)
    rw [Nat.mul_one, Nat.add_zero] at this
    unfold flat
    rw [this, h p hp, byteCells, List.getElem?_map, List.getElem?_eq_getElem hp]; rfl
  · rw [List.getElem?_eq_none (by rw [flat_length]; omega), List.getElem?_eq_none (by rw [byteCells_length]; omega)]
/-- What the objects say of the world. -/
structure BldW (B : Nat) (F : Nat → Prop) (ρ : Nat → Value) (w : World) (id r : Nat) (l : List UInt8) (g : Nat) : Prop where
  ptr : ρ id = .pointer (some ⟨g, 0, none⟩)
  hB : B ≤ g
  nF : ¬ F g
  heap : w.heap[g]? = some (.cells #[if l = [] then .pointer none else .pointer (some ⟨g, 0, none⟩), ρ r] 88 (0, 0))
  own : w.ownsRow B 5 1 (ρ r) l.length (byteCells l)
  ne : blk (ρ r) ≠ some g
  nFr : ∀ b, blk (ρ r) = some b → ¬ F b
theorem bldW_of {B : Nat} {F : Nat → Prop} {ρ : Nat → Value} {w : World} {id r : Nat} {l : List UInt8} (hne : id ≠ r) (h : ObsOk B F ρ w (Bld id r l)) : ∃ g, BldW B F ρ w id r l g := by
  obtain ⟨g, cs, hρ, hBg, hF, hh, hcl, hcs⟩ := h.ok (id, _) (.head _)
  obtain ⟨xs, hown, hlen, hrep, hnF⟩ := h.ok (r, _) (.tail _ (.head _))
  dsimp only at hρ hown hnF
  obtain ⟨p, v, rfl⟩ : ∃ p v, cs = [p, v] := by
    match cs, hcl with
    | [p, v], _ => exact ⟨p, v, rfl⟩
  have h0 := (hcs 0 (by simp) (by simp)).2
  have h1 := (hcs 1 (by simp) (by simp)).2
  simp only [List.getElem_cons_zero, List.getElem_cons_succ] at h0 h1
  have hv : v = ρ r := by cases h1; rfl
  have hp : p = if l = [] then .pointer none else .pointer (some ⟨g, 0, none⟩) := by
    cases l with
    | nil => exact repS_v h0
    | cons x t => exact ptr_at h0 (by rw [hρ]; rfl)
  subst hv
  have hll : (l.map u8D).length = l.length := List.length_map ..
  rw [hll] at hown
  have hfl : flat xs l.length 1 = byteCells l := flat_bytes fun i hi => by
    have := (hrep i (by rw [hll]; exact hi) 0 (by simp [u8D])).2
    simp only [List.getElem_map, u8D, List.getElem_cons_zero] at this
    exact rep_v this
  refine ⟨g, hρ, hBg, hF, by rw [hh, hp], by rw [← hfl]; exact hown, fun he => ?_, hnF⟩
  exact h.apart (id, _) (.head _) (r, _) (.tail _ (.head _)) hne g (by dsimp only; rw [hρ]; rfl) he
theorem BldW.obs {B : Nat} {F : Nat → Prop} {ρ : Nat → Value} {w : World} {id r : Nat} {l : List UInt8} {g : Nat} (hne : id ≠ r) (h : BldW B F ρ w id r l g) : ObsOk B F ρ w (Bld id r l) := by
  have hll : (l.map u8D).length = l.length := List.length_map ..
  refine ⟨fun p hp => ?_, fun p hp q hq hpq b hb hb2 => ?_, fun p hp q hq hpq => ?_⟩
  · rcases List.mem_cons.1 hp with rfl | hp
    · refine ⟨g, [_, _], h.ptr, h.hB, h.nF, h.heap, rfl, fun j hj hj' => ?_⟩
      match j, hj with
      | 0, _ =>
        refine ⟨?_, ?_⟩
        · cases l <;> rfl
        · cases l with
          | nil => exact .d (.v _)
          | cons x t => exact .ptr id 0 g (by rw [h.ptr]; rfl)
      | 1, _ => exact ⟨by
          rcases h.own.2 with ⟨h2, _⟩ | ⟨_, _, _, h2, _⟩ <;> (show (ρ r).oneCell' = true; rw [h2]; rfl), .own r⟩
    · obtain rfl := List.mem_singleton.1 hp
      refine ⟨fun i _ => .int .u8 ((l.getD i 0).toNat : Int), ?_, fun i hi => by simp [u8D], fun i hi j hj => ?_, h.nFr⟩
      · rw [hll]
        have : flat (fun i _ => Value.int .u8 ((l.getD i 0).toNat : Int)) l.length 1 = byteCells l := flat_bytes fun i hi => by rw [List.getD_eq_getElem?_getD, List.getElem?_eq_getElem hi]; rfl
        show w.ownsRow B _ 1 (ρ r) l.length (flat _ l.length 1)
        rw [this]
        exact h.own
      · have hi' : i < l.length := by rw [← hll]; exact hi
        have hj0 : j = 0 := by
          have : j < 1 := by simpa [u8D] using hj
          omega
        subst hj0
        refine ⟨rfl, ?_⟩
        simp only [List.getElem_map, u8D, List.getElem_cons_zero]
        rw [List.getD_eq_getElem?_getD, List.getElem?_eq_getElem hi']
        exact .v _
  · rcases List.mem_cons.1 hp with rfl | hp <;> rcases List.mem_cons.1 hq with rfl | hq
    · exact hpq rfl
    · obtain rfl := List.mem_singleton.1 hq
      dsimp only at hb hb2
      rw [h.ptr] at hb
      have : b = g := by simp [blk] at hb; omega
      exact h.ne (this ▸ hb2)
    · obtain rfl := List.mem_singleton.1 hp
      dsimp only at hb hb2
      rw [h.ptr] at hb2
      have : b = g := by simp [blk] at hb2; omega
      exact h.ne (this ▸ hb)
    · obtain rfl := List.mem_singleton.1 hp
      obtain rfl := List.mem_singleton.1 hq
      exact hpq rfl
  · rcases List.mem_cons.1 hp with rfl | hp <;> rcases List.mem_cons.1 hq with rfl | hq
    · rfl
    · obtain rfl := List.mem_singleton.1 hq
      exact absurd hpq hne
    · obtain rfl := List.mem_singleton.1 hp
      exact absurd hpq.symm hne
    · obtain rfl := List.mem_singleton.1 hp
      obtain rfl := List.mem_singleton.1 hq
      rfl
/-! ## The library's code, in whatever world -/
theorem bldSz : (Tryz.prog.info? 88).map (·.size) = some 2 := by kernel_rfl
theorem ptrB : Tryz.prog.underlying 85 = some (.pointer 88) := by kernel_rfl
theorem unsP : Tryz.prog.underlying 204 = some .unsafePointer := by kernel_rfl
theorem sliB : Tryz.prog.underlying 86 = some (.slice 5) := by kernel_rfl
theorem strB : Tryz.prog.underlying 9 = some .string := by kernel_rfl
theorem infB : (Tryz.prog.info? 5).map (fun i => (i.zero, i.size, i.bytes)) = some (some (.int .u8 0), 1, 1) := by kernel_rfl
set_option maxHeartbeats 1000000 in
set_option maxRecDepth 100000 in
theorem copyUsed (b : Nat) (w : World) (h0 : w.cell? ⟨b, 0, none⟩ = some (.pointer (some ⟨b, 0, none⟩))) :
    Calls Tryz.prog 81 #[.pointer (some ⟨b, 0, none⟩)] w fun e w' => e = .returned (.tuple #[]) ∧ w' = w := by
  obtain ⟨j, hj, _⟩ := Option.map_eq_some_iff.1 bldSz
  go_enter Tryz.func81, Tryz.ntmps81
  go_wp2
  rw [Lib.run_neq_ptr_same w _ ptrB hj]
  go_wp2
  go_end0
  exact ⟨rfl, rfl⟩
set_option maxHeartbeats 1000000 in
set_option maxRecDepth 100000 in
theorem copyFresh (b : Nat) (w : World) (h0 : w.cell? ⟨b, 0, none⟩ = some (.pointer none)) (hsh : w.shape? b = some (88, 2)) (hfz : w.frozen? ⟨b, 0, none⟩ = false) :
    Calls Tryz.prog 81 #[.pointer (some ⟨b, 0, none⟩)] w fun e w' => e = .returned (.tuple #[]) ∧ w' = w.setCell ⟨b, 0, none⟩ (.pointer (some ⟨b, 0, none⟩)) := by
  obtain ⟨j, hj, hjs⟩ := Option.map_eq_some_iff.1 bldSz
  go_enter Tryz.func81, Tryz.ntmps81
  go_wp2
  rw [Lib.run_to_unsafe w ⟨b, 0, none⟩ ptrB unsP hj (by rw [hjs]; decide) hsh (Nat.zero_lt_succ 1)]
  simp only [Result.andThen]
  rw [Oper.upon_value]
  go_wp2
  rw [run_callFunc_extern Tryz.func127 (by kernel_rfl) (by kernel_rfl) (by kernel_rfl) (e := Extern.AbiNoEscape.same) (by kernel_rfl)]
  rw [Lib.run_noEscape]
  simp only [Result.andThen]
  rw [Oper.upon_value]
  go_wp2
  rw [Lib.run_from_unsafe w ⟨b, 0, none⟩ unsP ptrB hj hsh (by kernel_rfl)]
  simp only [Result.andThen]
  rw [Oper.upon_value]
  go_wp2
  go_end0
  exact ⟨rfl, rfl⟩
/-- append(b, s...) at what the call owns: the buffer stays, or is new. -/
theorem append_str_run {P : Program} (w : World) (base : Nat) (t u ty e : TypeId) (i : TypeInfo) (ht : P.underlying t = some (.slice e)) (hu : P.underlying u = some .string) (hi : P.info? e = some i) (hz : i.zero = some (.int .u8 0)) (hsize : i.size = 1) (hby : i.bytes = 1)
    (v : Value) (n : Nat) (xs : List Value) (hown : w.ownsRow base e 1 v n xs) (s : ByteArray) (hbytes : n + s.size ≤ 140737488355328) (hbase : base ≤ w.heap.size) :
    ∃ v' w', (Builtin.append_ #[t, u] ty #[v, .string s]).run P w = .ok v' w' ∧ w'.ownsRow base e 1 v' (n + s.size) (xs ++ strCells s) ∧ w.grownBy w' v.ownBlock ∧ (v'.ownBlock = v.ownBlock ∨ ∃ g, v'.ownBlock = some g ∧ w.heap.size ≤ g) := by
  have h63 : n + s.size ≤ maxLen := by unfold maxLen; omega
  obtain ⟨v', w', hr, h2, h3, h4⟩ := run_append_own_string (P := P) w base t u ty e i ht hu hi hz hsize hby v n xs hown s h63 hbytes hbase
  refine ⟨v', w', hr, h2, h3, ?_⟩
  have hxl : xs.length = n := by simpa using hown.1
  rcases hown.2 with ⟨rfl, rfl⟩ | ⟨g, cap, cur, rfl, hbg, hg, hnc, hcm, hcs, htake⟩
  · by_cases hm : s.size = 0
    · exact .inl (by rw [h4.2 ⟨rfl, hm⟩])
    · have hown2 : w.ownsRow w.heap.size e 1 (.slice none 0 0) 0 xs := ⟨hown.1, .inl ⟨rfl, rfl⟩⟩
      obtain ⟨v2, w2, hr2, h5, _, h6⟩ := run_append_own_string (P := P) w w.heap.size t u ty e i ht hu hi hz hsize hby _ 0 xs hown2 s h63 hbytes (Nat.le_refl _)
      rw [hr] at hr2
      injection hr2 with e1 e2
      subst e1
      rcases h5.2 with ⟨h7, _⟩ | ⟨g, cap, cur, h7, h8, _⟩
      · exact absurd (h4.1 h7).2 hm
      · exact .inr ⟨g, by rw [h7]; rfl, h8⟩
  · by_cases hroom : n + s.size ≤ cap
    · have hr2 := run_append_room_string (P := P) w t u ty e i ht hu hi hsize g n cap cur hg s hroom (by omega)
      rw [hr] at hr2
      injection hr2 with e1 e2
      exact .inl (by rw [e1]; rfl)
    · have holds : ∀ j u, xs[j]? = some u → w.cell? ((⟨g, 0, none⟩ : Addr).add j) = some u := hown.cells (g := g) rfl
      have hr2 := run_append_grow_string (P := P) w t u ty e i (.int .u8 0) ht hu hi hz ⟨g, 0, none⟩ n cap xs (by rw [hsize]; simpa using hxl) holds s (by omega) (by omega) (by rw [hby]; exact growslice_fits (by omega) (by omega))
      rw [hr] at hr2
      injection hr2 with e1 e2
      exact .inr ⟨w.heap.size, by rw [e1]; rfl, Nat.le_refl _⟩
theorem wpList_append_str {P : Program} (w : World) {ops : Array Oper} {rest : List Oper} {o : Oper} {a : Act} {Q : Exit → Act → World → Prop} (hgd : o.guard = none) (sl x : Operand) (t u : TypeId)
    (ho : o.op = .call { callee := .builtin .append, args := #[sl, x], argTypes := #[t, u] })
    (base : Nat) (e : TypeId) (i : TypeInfo) (ht : P.underlying t = some (.slice e)) (hu : P.underlying u = some .string) (hi : P.info? e = some i) (hz : i.zero = some (.int .u8 0)) (hsize : i.size = 1) (hby : i.bytes = 1)
    (v : Value) (n : Nat) (xs : List Value) (hs : a.eval sl = v) (hown : w.ownsRow base e 1 v n xs) (s : ByteArray) (hx : a.eval x = .string s) (hbytes : n + s.size ≤ 140737488355328) (hbase : base ≤ w.heap.size)
    (h : ∀ v' w', w'.ownsRow base e 1 v' (n + s.size) (xs ++ strCells s) → w.grownBy w' v.ownBlock → (v'.ownBlock = v.ownBlock ∨ ∃ g, v'.ownBlock = some g ∧ w.heap.size ≤ g) → wpList P ops Q rest (a.put o.dst v') w') : wpList P ops Q (o :: rest) a w := by
  refine wpList_plain hgd fun K hK => ?_
  obtain ⟨v', w', hr, h2, h3, h4⟩ := append_str_run (P := P) w base t u o.type e i ht hu hi hz hsize hby v n xs hown s hbytes hbase
  unfold Oper.wp execOp
  simp only [ho, resolve, invoke, builtin, Sem.run_bind, Sem.run_pure, Result.andThen_ok, List.map_toArray, List.map_cons, List.map_nil, hs, hx, hr]
  exact hK _ _ (h v' w' h2 h3 h4)
theorem own_blk {w : World} {B e size n : Nat} {v : Value} {xs : List Value} (h : w.ownsRow B e size v n xs) : v.ownBlock = blk v := by
  rcases h.2 with ⟨rfl, _⟩ | ⟨g, cap, cur, rfl, _⟩ <;> rfl
set_option maxHeartbeats 2000000 in
set_option maxRecDepth 100000 in
/-- WriteString at a builder that holds so many bytes: its own blocks alone turn. -/
theorem writeStr (B b : Nat) (v : Value) (n : Nat) (bs : List Value) (p : Value) (s : ByteArray) (w : World) (hp : p = .pointer none ∨ p = .pointer (some ⟨b, 0, none⟩)) (hbk : w.heap[b]? = some (.cells #[p, v] 88 (0, 0))) (hown : w.ownsRow B 5 1 v n bs) (hne : blk v ≠ some b) (hlen : n + s.size ≤ 140737488355328) (hBw : B ≤ w.heap.size) :
    Calls Tryz.prog 36 #[.pointer (some ⟨b, 0, none⟩), .string s] w fun e w' => e = .returned (.tuple #[.int .i64 s.size, .nilIface]) ∧ ∃ v', w'.heap[b]? = some (.cells #[.pointer (some ⟨b, 0, none⟩), v'] 88 (0, 0)) ∧ w'.ownsRow B 5 1 v' (n + s.size) (bs ++ strCells s) ∧
      (blk v' = blk v ∨ ∃ g, blk v' = some g ∧ w.heap.size ≤ g) ∧ w'.os = w.os ∧ w'.tape = w.tape ∧ w'.output = w.output ∧ w.heap.size ≤ w'.heap.size ∧ ∀ k, k < w.heap.size → k ≠ b → blk v ≠ some k → w'.heap[k]? = w.heap[k]? := by
  obtain ⟨i0, hi, hii⟩ := Option.map_eq_some_iff.1 infB
  simp only [Prod.mk.injEq] at hii
  obtain ⟨hz0, hz1, hz2⟩ := hii
  have hlt : b < w.heap.size := (Array.getElem?_eq_some_iff.1 hbk).1
  have hcc : Calls Tryz.prog 81 #[.pointer (some ⟨b, 0, none⟩)] w fun e w' => e = .returned (.tuple #[]) ∧ w'.heap[b]? = some (.cells #[.pointer (some ⟨b, 0, none⟩), v] 88 (0, 0)) ∧ Turn w w' (some b) := by
    rcases hp with rfl | rfl
    · refine (copyFresh b w (by rw [cell_of_row w b 0 _ _ _ hbk]; rfl) (by unfold World.shape?; rw [hbk]; rfl) (by unfold World.frozen?; rw [hbk]; simp)).mono ?_
      rintro e w' ⟨rfl, rfl⟩
      refine ⟨rfl, ?_, cellB_turn b 0 _ w⟩
      simp [World.setCell, Array.getElem?_modify, hbk]
    · refine (copyUsed b w (by rw [cell_of_row w b 0 _ _ _ hbk]; rfl)).mono ?_
      rintro e w' ⟨rfl, rfl⟩
      exact ⟨rfl, hbk, rfl, rfl, rfl, Nat.le_refl _, fun _ _ _ => rfl⟩
  go_enter Tryz.func36, Tryz.ntmps36
  go_wp2_with (go_at_call 81; refine hcc.mono ?_)
  rintro e w1 ⟨rfl, hb1, ht1⟩
  have hown1 : w1.ownsRow B 5 1 v n bs := ownsRow_turn hown ht1 (fun g hg he => hne (by rw [hg, ← Option.some.inj he]))
  have c0 : w1.cell? ⟨b, 0, none⟩ = some (.pointer (some ⟨b, 0, none⟩)) := by rw [cell_of_row w1 b 0 _ _ _ hb1]; rfl
  have c1 : w1.cell? ⟨b, 1, none⟩ = some v := by rw [cell_of_row w1 b 1 _ _ _ hb1]; rfl
  go_wp2_with (at_builtin; refine wpList_append_str _ rfl _ _ 86 9 rfl B 5 i0 sliB strB hi hz0 hz1 hz2 _ _ _ rfl hown1 s rfl ?c4 ?c5 ?_)
  case c4 => omega
  case c5 => exact Nat.le_trans hBw ht1.size
  intro v' w2 hown' hgrow hnew
  rw [own_blk hown1] at hgrow hnew
  rw [own_blk hown'] at hnew
  have hb2 : w2.heap[b]? = some (.cells #[.pointer (some ⟨b, 0, none⟩), v] 88 (0, 0)) := by
    rw [hgrow.block b (Nat.lt_of_lt_of_le hlt ht1.size) (fun e => hne e.symm)]
    exact hb1
  have d0 : w2.cell? ⟨b, 0, none⟩ = some (.pointer (some ⟨b, 0, none⟩)) := by rw [cell_of_row w2 b 0 _ _ _ hb2]; rfl
  have d1 : w2.cell? ⟨b, 1, none⟩ = some v := by rw [cell_of_row w2 b 1 _ _ _ hb2]; rfl
  have f1 : w2.frozen? ⟨b, 1, none⟩ = false := by unfold World.frozen?; rw [hb2]; simp
  obtain ⟨ao, n', cap, rfl⟩ : ∃ ao n' cap, v' = .slice ao n' cap := by
    rcases hown'.2 with ⟨hv, _⟩ | ⟨g, cap, cur, hv, _⟩
    · exact ⟨_, _, _, hv⟩
    · exact ⟨_, _, _, hv⟩
  have hnb : blk (.slice ao n' cap) ≠ some b := by
    rcases hnew with h | ⟨g, h, h2⟩
    · rw [h]; exact hne
    · rw [h]
      intro he
      have := Option.some.inj he
      have := ht1.size
      omega
  go_wp2
  go_ret2
  have ht2 := cellB_turn b 1 (.slice ao n' cap) w2
  refine ⟨rfl, .slice ao n' cap, ?_, ?_, ?_, ?_⟩
  · simp [World.setCell, Array.getElem?_modify, hb2]
  · exact ownsRow_turn hown' ht2 (fun g hg he => hnb (by rw [hg, ← Option.some.inj he]))
  · rcases hnew with h | ⟨g, h, h2⟩
    · exact .inl h
    · exact .inr ⟨g, h, Nat.le_trans ht1.size h2⟩
  · refine ⟨ht2.os.trans (hgrow.os.trans ht1.os), ht2.tape.trans (hgrow.tape.trans ht1.tape), ht2.output.trans (hgrow.output.trans ht1.output), Nat.le_trans ht1.size (Nat.le_trans hgrow.size ht2.size), fun k hk hkb hkv => ?_⟩
    have hk1 := Nat.lt_of_lt_of_le hk ht1.size
    rw [ht2.block k (Nat.lt_of_lt_of_le hk1 hgrow.size) (fun e => hkb (by have := Option.some.inj e; omega)), hgrow.block k hk1 (fun e => hkv e.symm), ht1.block k hk (fun e => hkb (by have := Option.some.inj e; omega))]
end Go.Proofs.YtcfamaddnmnaeaaGreatDoor

namespace Go.Proofs
open Go.Shelf
def Tryz.l169_ren : Go.Shelf.Ren := ⟨fun | 169 => 39 | n => n, fun | 70 => 85 | 9 => 9 | 0 => 0 | 72 => 88 | 37 => 86 | 127 => 157 | 3 => 3 | 5 => 5 | n => n, fun | n => n⟩
def Tryz.l171_ren : Go.Shelf.Ren := ⟨fun | 171 => 37 | 243 => 82 | 246 => 128 | 283 => 176 | 284 => 177 | 285 => 178 | 286 => 179 | 129 => 156 | 317 => 224 | 318 => 225 | 319 => 226 | 320 => 227 | 337 => 246 | 338 => 247 | n => n, fun | 3 => 3 | 9 => 9 | 2 => 2 | 4 => 4 | 171 => 248 | 0 => 0 | 53 => 234 | 37 => 86 | 5 => 5 | 173 => 250 | 212 => 286 | 51 => 232 | 20 => 20 | 213 => 287 | 46 => 196 | 232 => 315 | 233 => 316 | n => n, fun | 17 => 1 | 18 => 6 | 19 => 7 | n => n⟩
theorem Tryz.l171 : Go.Proofs.LaysM.n171 Tryz.prog Tryz.l171_ren := {
  mixed := by kernel_rfl
  f129 := Tryz.func156.trans (congrArg some (by kernel_rfl))
  f171 := Tryz.func37.trans (congrArg some (by kernel_rfl))
  f243 := Tryz.func82.trans (congrArg some (by kernel_rfl))
  f246 := Tryz.func128.trans (congrArg some (by kernel_rfl))
  f283 := Tryz.func176.trans (congrArg some (by kernel_rfl))
  f284 := Tryz.func177.trans (congrArg some (by kernel_rfl))
  f285 := Tryz.func178.trans (congrArg some (by kernel_rfl))
  f286 := Tryz.func179.trans (congrArg some (by kernel_rfl))
  f317 := Tryz.func224.trans (congrArg some (by kernel_rfl))
  f318 := Tryz.func225.trans (congrArg some (by kernel_rfl))
  f319 := Tryz.func226.trans (congrArg some (by kernel_rfl))
  f320 := Tryz.func227.trans (congrArg some (by kernel_rfl))
  f337 := Tryz.func246.trans (congrArg some (by kernel_rfl))
  f338 := Tryz.func247.trans (congrArg some (by kernel_rfl))
  t0 := Tryz.underlying0
  a0 := Tryz.isAgg0
  z0 := Tryz.sizeOf0
  v0 := Tryz.zeroValue0
  t2 := Tryz.underlying2
  a2 := Tryz.isAgg2
  z2 := Tryz.sizeOf2
  v2 := Tryz.zeroValue2
  t3 := Tryz.underlying3
  a3 := Tryz.isAgg3
  z3 := Tryz.sizeOf3
  v3 := Tryz.zeroValue3
  t4 := Tryz.underlying4
  a4 := Tryz.isAgg4
  z4 := Tryz.sizeOf4
  v4 := Tryz.zeroValue4
  t5 := Tryz.underlying5
  a5 := Tryz.isAgg5
  z5 := Tryz.sizeOf5
  v5 := Tryz.zeroValue5
  t9 := Tryz.underlying9
  a9 := Tryz.isAgg9
  z9 := Tryz.sizeOf9
  v9 := Tryz.zeroValue9
  t20 := Tryz.underlying20
  a20 := Tryz.isAgg20
  z20 := Tryz.sizeOf20
  v20 := Tryz.zeroValue20
  t37 := Tryz.underlying86
  a37 := Tryz.isAgg86
  z37 := Tryz.sizeOf86
  v37 := Tryz.zeroValue86
  t46 := Tryz.underlying196
  a46 := Tryz.isAgg196
  z46 := Tryz.sizeOf196
  v46 := Tryz.zeroValue196
  t51 := Tryz.underlying232
  a51 := Tryz.isAgg232
  z51 := Tryz.sizeOf232
  v51 := Tryz.zeroValue232
  t53 := Tryz.underlying234
  a53 := Tryz.isAgg234
  z53 := Tryz.sizeOf234
  v53 := Tryz.zeroValue234
  t171 := Tryz.underlying248
  a171 := Tryz.isAgg248
  z171 := Tryz.sizeOf248
  v171 := Tryz.zeroValue248
  t173 := Tryz.underlying250
  a173 := Tryz.isAgg250
  z173 := Tryz.sizeOf250
  v173 := Tryz.zeroValue250
  t212 := Tryz.underlying286
  a212 := Tryz.isAgg286
  z212 := Tryz.sizeOf286
  v212 := Tryz.zeroValue286
  t213 := Tryz.underlying287
  a213 := Tryz.isAgg287
  z213 := Tryz.sizeOf287
  t232 := Tryz.underlying315
  a232 := Tryz.isAgg315
  z232 := Tryz.sizeOf315
  v232 := Tryz.zeroValue315
  t233 := Tryz.underlying316
  a233 := Tryz.isAgg316
  z233 := Tryz.sizeOf316
  v233 := Tryz.zeroValue316
  g17 := by kernel_rfl
  g18 := by kernel_rfl
  g19 := by kernel_rfl
  i0 := by kernel_rfl
  i2 := by kernel_rfl
  i3 := by kernel_rfl
  i4 := by kernel_rfl
  i5 := by kernel_rfl
  i9 := by kernel_rfl
  i20 := by kernel_rfl
  i37 := by kernel_rfl
  i46 := by kernel_rfl
  i51 := by kernel_rfl
  i53 := by kernel_rfl
  i171 := by kernel_rfl
  i173 := by kernel_rfl
  i212 := by kernel_rfl
  i232 := by kernel_rfl
  i233 := by kernel_rfl
  m17 := by kernel_rfl
  m18 := by kernel_rfl
  m19 := by kernel_rfl }
end Go.Proofs

namespace Go.Proofs.YtcfamaddnmnaeaaGreatDoor
open Go.RowKit Go.Shelf Go.Lib
set_option linter.unusedVariables false
set_option linter.unusedSimpArgs false

theorem repSL_two {F : Nat → Prop} {ρ : Nat → Value} {w : World} {vs : List Value} {id : Nat} {x : Value} {g : Nat} (hρ : ρ id = .pointer (some ⟨g, 0, none⟩)) (h : RepSL F ρ w vs [.ptr id 0, .d (.v x)]) : vs = [.pointer (some ⟨g, 0, none⟩), x] := by
  obtain ⟨a, b, rfl⟩ : ∃ a b, vs = [a, b] := by
    match vs, h.1 with
    | [a, b], _ => exact ⟨a, b, rfl⟩
  have h0 := h.2 0 (by simp) (by simp)
  have h1 := h.2 1 (by simp) (by simp)
  simp only [List.getElem_cons_zero, List.getElem_cons_succ] at h0 h1
  rw [ptr_at h0 (by rw [hρ]; rfl), repS_v h1]
theorem repSL_ptr {F : Nat → Prop} {ρ : Nat → Value} {w : World} {vs : List Value} {id : Nat} {g : Nat} (hρ : ρ id = .pointer (some ⟨g, 0, none⟩)) (h : RepSL F ρ w vs [.ptr id 0]) : vs = [.pointer (some ⟨g, 0, none⟩)] := by
  obtain ⟨a, rfl⟩ : ∃ a, vs = [a] := by
    match vs, h.1 with
    | [a], _ => exact ⟨a, rfl⟩
  have h0 := h.2 0 (by simp) (by simp)
  simp only [List.getElem_cons_zero] at h0
  rw [ptr_at h0 (by rw [hρ]; rfl)]
theorem BldW.ownId {B : Nat} {F : Nat → Prop} {ρ : Nat → Value} {w : World} {id r : Nat} {l : List UInt8} {g : Nat} (h : BldW B F ρ w id r l g) : ownB (Bld id r l) ρ g := ⟨_, .head _, by dsimp only; rw [h.ptr]; rfl⟩
theorem Bld.ownR {ρ : Nat → Value} {id r : Nat} {l : List UInt8} {k : Nat} (h : blk (ρ r) = some k) : ownB (Bld id r l) ρ k := ⟨_, .tail _ (.head _), h⟩
/-- b.WriteString(s) -/
theorem c_ws (id r : Nat) (hne : id ≠ r) (l : List UInt8) (s : ByteArray) (h0 : 0 < s.size) (hlen : l.length + s.size ≤ 140737488355328) :
  XCall Tryz.prog 36 [.ptr id 0, .d (.v (.string s))] (Bld id r l) (Bld id r (l ++ s.data.toList)) (fun i => Nat.beq i r) (.tup [.v (.int .i64 (s.size : Int)), .v .nilIface]) := by
 refine ⟨.of Tryz.func36 (by kernel_rfl) rfl, fun F ρ B w vs hF hB hσ hv => ?_⟩
 obtain ⟨g, hb⟩ := bldW_of hne hσ
 obtain rfl := repSL_two hb.ptr hv
 have hgl : g < w.heap.size := (Array.getElem?_eq_some_iff.1 hb.heap).1
 have h := writeStr B g (ρ r) l.length (byteCells l) _ s w (by split; exact .inl rfl; exact .inr rfl) hb.heap hb.own hb.ne hlen hB
 refine h.mono fun e' w' ⟨he, v', h1, h2, h3, h4, h5, h6, h7, h8⟩ => ?_
 have hsl : (l ++ s.data.toList).length = l.length + s.size := by rw [List.length_append]; rfl
 have hnl : ¬ l ++ s.data.toList = [] := fun e => by rw [e] at hsl; simp at hsl; omega
 obtain ⟨ρ', hρ⟩ : ∃ ρ' : Nat → Value, ρ' = fun j => if j = r then v' else ρ j := ⟨_, rfl⟩
 have hrr : ρ' r = v' := by rw [hρ]; exact if_pos rfl
 have hri : ρ' id = ρ id := by rw [hρ]; exact if_neg hne
 have hW : BldW B F ρ' w' id r (l ++ s.data.toList) g := by
  refine ⟨by rw [hri]; exact hb.ptr, hb.hB, hb.nF, by rw [hrr, if_neg hnl]; exact h1, ?_, ?_, fun b hbb => ?_⟩
  ·rw [hrr, hsl, byteCells_append, ← strCells_eq]; exact h2
  ·rw [hrr]
   rcases h3 with h3 | ⟨k, h3, h9⟩
   ·rw [h3]; exact hb.ne
   rw [h3]
   intro e
   have := Option.some.inj e
   omega
  rw [hrr] at hbb
  rcases h3 with h3 | ⟨k, h3, h9⟩
  ·rw [h3] at hbb; exact hb.nFr b hbb
  rw [h3] at hbb
  have := Option.some.inj hbb
  intro hf
  have := hF b hf
  omega
 refine ⟨_, F, ρ', he, .tup [_, _] [_, _] rfl (fun i a b => by
  match i, a with
  | 0, _ => exact .v _
  | 1, _ => exact .v _), fun _ h => h, fun _ h => .inl h, fun b hf => Nat.lt_of_lt_of_le (hF b hf) h7, ⟨h4, h5, h6, h7, fun k hk hn => h8 k hk (fun e => hn (.inr (e ▸ hb.ownId))) (fun e => hn (.inr (Bld.ownR e)))⟩, hW.obs hne, fun p hp b hbb => ?_, fun i hi => ?_⟩
 ·rcases List.mem_cons.1 hp with rfl | hp
  ·dsimp only at hbb
   rw [hri, hb.ptr] at hbb
   simp [blk] at hbb
   subst hbb
   exact .inr hb.ownId
  obtain rfl := List.mem_singleton.1 hp
  dsimp only at hbb
  rw [hrr] at hbb
  rcases h3 with h3 | ⟨k, h3, h9⟩
  ·rw [h3] at hbb; exact .inr (Bld.ownR hbb)
  rw [h3] at hbb
  have := Option.some.inj hbb
  exact .inl (by omega)
 rw [hρ]; exact if_neg fun e => by rw [e] at hi; simp at hi
set_option maxHeartbeats 1000000 in
set_option maxRecDepth 100000 in
/-- String at a builder that holds something: its bytes are frozen. -/
theorem strOf (B b g cap : Nat) (p : Value) (l : List UInt8) (w : World) (h0 : l ≠ []) (hbk : w.heap[b]? = some (.cells #[p, .slice (some ⟨g, 0, none⟩) l.length cap] 88 (0, 0))) (cur : Array Value) (hg : w.heap[g]? = some (.cells cur 5 (0, 0))) (hnc : l.length ≤ cap) (hcm : cap ≤ maxLen) (hcs : cur.size = cap * 1)
    (hown : w.ownsRow B 5 1 (.slice (some ⟨g, 0, none⟩) l.length cap) l.length (byteCells l)) :
    Calls Tryz.prog 39 #[.pointer (some ⟨b, 0, none⟩)] w fun e w' => e = .returned (.string ⟨l.toArray⟩) ∧ w' = w.drew.freeze ⟨g, 0, none⟩ l.length := by
  have hl0 : l.length ≠ 0 := by simpa using h0
  have hmix : Tryz.prog.follows .mixedOrders = true := by kernel_rfl
  have c1 : w.drew.cell? ⟨b, 1, none⟩ = some (.slice (some ⟨g, 0, none⟩) l.length cap) := by
    rw [cell_of_row w.drew b 1 _ _ _ hbk]; rfl
  have hSD : (Builtin.unsafeSliceData_ #[86] 157 #[.slice (some ⟨g, 0, none⟩) l.length cap]).run Tryz.prog w.drew = .ok (.pointer (some ⟨g, 0, none⟩)) w.drew :=
    Lib.run_unsafeSliceData_row _ _ _ _ _ _ (by omega)
  have hUS : (Builtin.unsafeString_ #[157, 3] 9 #[.pointer (some ⟨g, 0, none⟩), .int .i64 l.length]).run Tryz.prog w.drew = .ok (.string ⟨l.toArray⟩) (w.drew.freeze ⟨g, 0, none⟩ l.length) := by
    refine Lib.run_unsafeString_row w.drew 157 3 9 5 (by kernel_rfl) (by kernel_rfl) g cur.size (by have hg' : w.drew.heap[g]? = some (.cells cur 5 (0, 0)) := hg; simp [World.shape?, hg']) l h0 (by omega) (by unfold maxLen at hcm; omega) ?_
    intro j x hx
    exact hown.cells (g := g) rfl j (.int .u8 x.toNat) (by simp [Lib.byteCells, hx])
  go_enter Tryz.func39, Tryz.ntmps39
  go_wp2
  go_region_o
  all_goals (go_wp2; go_ret; exact ⟨rfl, rfl⟩)
theorem freeze_turn (w : World) (g n : Nat) : Turn w (w.drew.freeze ⟨g, 0, none⟩ n) (some g) := by
  have hd : w.drew.heap = w.heap := rfl
  refine ⟨?_, ?_, ?_, ?_, fun k _ hk => ?_⟩
  · unfold World.freeze; split <;> rfl
  · unfold World.freeze; split <;> rfl
  · unfold World.freeze; split <;> rfl
  · unfold World.freeze; split
    · exact Nat.le_refl _
    · simp [hd]
  · have : g ≠ k := fun h => hk (by rw [h])
    unfold World.freeze; split
    · rfl
    · simp [Array.getElem?_modify, this, hd]
/-- b.String(), and the builder is used no more. -/
theorem c_bstr (id r : Nat) (hne : id ≠ r) (l : List UInt8) (h0 : l ≠ []) : XCall Tryz.prog 39 [.ptr id 0] (Bld id r l) [] (fun _ => false) (.v (.string ⟨l.toArray⟩)) := by
 refine ⟨.of Tryz.func39 (by kernel_rfl) rfl, fun F ρ B w vs hF hB hσ hv => ?_⟩
 obtain ⟨g, hb⟩ := bldW_of hne hσ
 obtain rfl := repSL_ptr hb.ptr hv
 have hbo := hb.own
 have hbh := hb.heap
 rcases hb.own.2 with ⟨_, h2⟩ | ⟨k, cap, cur, h2, h3, h4, h5, h6, h7, _⟩
 ·exact absurd (List.eq_nil_of_length_eq_zero h2) h0
 rw [h2] at hbo hbh
 refine (strOf B g k cap _ l w h0 hbh cur h4 h5 h6 h7 hbo).mono fun e' w' ⟨he, hw⟩ => ?_
 have ht : Turn w w' (some k) := hw ▸ freeze_turn w k l.length
 exact ⟨_, F, ρ, he, .v _, fun _ h => h, fun _ h => .inl h, fun b hf => Nat.lt_of_lt_of_le (hF b hf) ht.size, ⟨ht.os, ht.tape, ht.output, ht.size, fun j hj hn => ht.block j hj (fun e => hn (.inr (Bld.ownR (by rw [h2]; have := Option.some.inj e; subst this; rfl))))⟩, ⟨fun p hp => (nomatch hp), fun p hp => (nomatch hp), fun p hp => (nomatch hp)⟩, fun p hp => (nomatch hp), fun _ _ => rfl⟩
section
variable {cx : Cx} {ops : Array Oper} {o : Oper} {rest : List Oper} {e : Env} {σ : Obs} {Q : Post}
/-- var b strings.Builder -/
theorem AOps.allocB {dst : Nat} (id r : Nat) (hne : id ≠ r) (hP : cx.P = Tryz.prog) (hg : o.guard = none) (ht : o.dst = some dst) (hdn : Nat.blt dst cx.N = true) (ho : o.op = .alloc 88) (hid : Obs.fresh id σ = true) (hidr : Obs.fresh r σ = true)
    (k : AOps cx ops rest (((e.kill r).kill id).put (some dst) (.ptr id 0)) ((id, .cellsT 88 [bP [] id, .own r]) :: (r, .row 5 1 (([] : List UInt8).map u8D)) :: Obs.kill id (Obs.kill r σ)) Q) (hfx : cx.free id = true := by rfl) (hfr : cx.free r = true := by rfl) : AOps cx ops (o :: rest) e σ Q := by
  intro a w ⟨F, ρ, hr⟩
  -- the empty row
  have h1 := hr.turn (ρ' := fun j => if j = r then .slice none 0 0 else ρ j) (id := r) (ob := .row 5 1 []) (row := none) (w' := w) (F' := F) (fun j hj => by simp [hj])
    ⟨rfl, rfl, rfl, Nat.le_refl _, fun _ _ _ => rfl⟩ hfr (fun g hg => by simp at hg) (fun b hb => hb) (fun b hb => .inl hb) hr.lt
    ⟨fun _ _ => undef, by simp [World.ownsRow], fun i hi => by simp at hi, fun i hi => by simp at hi, fun g hg => by simp [blk] at hg⟩ (fun g hg => by simp [blk] at hg) ((r, .row 5 1 []) :: Obs.kill r σ) (fun p hp => by
      cases hp with
      | head => exact .inl rfl
      | tail _ hp => obtain ⟨q, hq, rfl⟩ := Obs.mem_kill hp; exact .inr ⟨q, hq, Obs.fresh_spec hidr q hq, rfl⟩)
  have hE : Ext F w F (w.alloc (.cells #[.pointer none, .slice none 0 0] 88)) := Ext.of_below hr.lt ((Below.refl _ _).alloc (Nat.le_refl _) _)
  have h2 := h1.turn (ρ' := fun j => if j = id then .pointer (some ⟨w.heap.size, 0, none⟩) else (fun j => if j = r then Value.slice none 0 0 else ρ j) j) (id := id) (ob := .cellsT 88 [bP [] id, .own r]) (row := none) (w' := w.alloc (.cells #[.pointer none, .slice none 0 0] 88)) (F' := F) (fun j hj => by simp [hj])
    ⟨hE.below.os, hE.below.tape, hE.below.output, hE.below.size, fun k hk _ => hE.below.block k hk⟩ hfx (fun g hg => by simp at hg) (fun b hb => hb) (fun b hb => .inl hb) hE.lt
    ⟨w.heap.size, [.pointer none, .slice none 0 0], by simp, hr.hB, fun hf => by have := hr.lt _ hf; omega, by simpa using heap_alloc_new w _, rfl, fun j hj hj' => by
      match j, hj with
      | 0, _ => exact ⟨rfl, .d (.v _)⟩
      | 1, _ =>
        refine ⟨rfl, ?_⟩
        have := RepS.own (F := F) (ρ := fun j => if j = id then Value.pointer (some ⟨w.heap.size, 0, none⟩) else (fun j => if j = r then Value.slice none 0 0 else ρ j) j) (w := w.alloc (.cells #[.pointer none, .slice none 0 0] 88)) r
        simpa [Ne.symm hne] using this⟩
    (fun g hg => by simp [blk] at hg; exact .inr (by omega)) ((id, .cellsT 88 [bP [] id, .own r]) :: (r, .row 5 1 (([] : List UInt8).map u8D)) :: Obs.kill id (Obs.kill r σ)) (fun p hp => by
      cases hp with
      | head => exact .inl rfl
      | tail _ hp =>
        cases hp with
        | head => exact .inr ⟨(r, .row 5 1 []), .head _, Ne.symm hne, rfl⟩
        | tail _ hp =>
          obtain ⟨q, hq, rfl⟩ := Obs.mem_kill hp
          obtain ⟨q2, hq2, rfl⟩ := Obs.mem_kill hq
          exact .inr ⟨(q2.1, q2.2.kill r), .tail _ hq, Obs.fresh_spec hid q2 hq2, rfl⟩)
  have h3 := h2.put (o := ⟨some dst, .ready 0, 0, "", #[], none⟩) (v := .pointer (some ⟨w.heap.size, 0, none⟩)) (s := .ptr id 0) (Ext.refl h2.lt) (.ptr id 0 w.heap.size (by simp [blk])) (by simpa [DstOk, Nat.blt_eq] using hdn)
  refine wpList_plain hg fun K hK => ?_
  have hz : (Tryz.prog.info? 88).bind (·.zero) = some (.agg #[.pointer none, .slice none 0 0]) := by kernel_rfl
  obtain ⟨i, hi, hzz⟩ := Option.bind_eq_some_iff.1 hz
  have hprog : (program : Sem Program).run cx.P w = .ok cx.P w := rfl
  rw [← hP] at hi
  unfold Oper.wp execOp
  simp only [ho, Instr.alloc, Sem.run_bind, zeroValue, typeInfo, hprog, Result.andThen_ok, hi, Sem.run_pure, hzz, newVar, newRow]
  have := k _ _ ⟨F, _, h3⟩
  rw [← ht] at this
  exact hK _ _ this
end
/-! ## strconv.Itoa -/
def itoaB (n : Int) : ByteArray := ⟨(Lib.itoa n).toArray⟩
def TabI (w : World) : Prop := Lib.TabIs Tryz.prog w "internal/strconv.uint64pow10" .u64 Lib.pow10Tab
theorem c_itoa (n : Int) (h0 : -9223372036854775808 ≤ n) (h1 : n ≤ 9223372036854775807) : ACallT Tryz.prog TabI 37 [.v (.int .i64 n)] (.v (.string (itoaB n))) :=
 ⟨.of Tryz.func37 (by kernel_rfl) rfl, fun F w vs hT hF hv => by
  rw [repL_v (us := [.int .i64 n]) hv]
  have h := Any.strconv_Itoa Tryz.l171 n h0 h1 w hT
  change Calls Tryz.prog 37 #[.int .i64 n] w _ at h
  refine h.mono fun e w' ⟨h1, k, os, h2⟩ => ?_
  subst h2
  exact ⟨_, F, h1, .v _, Ext.of_below hF ⟨rfl, rfl, rfl, by show w.heap.size ≤ (w.heap ++ os).size; rw [Array.size_append]; omega, fun i hi => by show (w.heap ++ os)[i]? = _; rw [Array.getElem?_append_left hi]⟩⟩⟩
/-! ## A fact about one block, inside calls that write what the caller owns -/
/-- What is so stays so while the block is what it was. -/
def StaysAt (g : Nat) (T : World → Prop) : Prop := (∀ w, T w → g < w.heap.size) ∧ ∀ w w', w'.heap[g]? = w.heap[g]? → T w → T w'
theorem StaysAt.stays {g : Nat} {T : World → Prop} (h : StaysAt g T) : Stays T := fun w w' k hT => h.2 w w' (k.block g (h.1 w hT) (by have := h.1 w hT; omega)) hT
abbrev gTabI : Nat := 1
theorem tabI_at : StaysAt gTabI TabI := by
  have hg : Tryz.prog.globalNamed "internal/strconv.uint64pow10" = some 1 := by kernel_rfl
  refine ⟨fun w h => ?_, fun w w' k h => ?_⟩
  · unfold TabI Lib.TabIs World.var? at h
    rw [hg] at h
    rcases Nat.lt_or_ge 1 w.heap.size with hl | hl
    · exact hl
    · simp only [Option.bind_some] at h
      rw [Array.getElem?_eq_none hl] at h; cases h
  · unfold TabI Lib.TabIs World.var? at h ⊢
    rw [hg] at h ⊢
    simp only [Option.bind_some] at h ⊢
    rw [k]; exact h
/-- T is so where cx begins, and its block is none that cx may write. -/
structure TC (g : Nat) (T : World → Prop) (cx : Cx) : Prop where
  at_ : StaysAt g T
  so : T cx.w0
  fr : ¬ cx.fr g
theorem TC.now {g : Nat} {T : World → Prop} {cx : Cx} (h : TC g T cx) {w : World} (k : Kept cx.fr cx.w0 w) : T w := h.at_.2 _ _ (k.block g (h.at_.1 _ h.so) h.fr) h.so
theorem TC.of {g : Nat} {T : World → Prop} {P : Program} {n B : Nat} {w0 : World} {F0 : Nat → Prop} {fx : Nat → Bool} {ρ0 : Nat → Value} (h : StaysAt g T) (hT : T w0) : TC g T ⟨P, n, B, w0, F0, fun b => w0.heap.size ≤ b, fx, ρ0⟩ := ⟨h, hT, fun k => by have := h.1 _ hT; omega⟩
theorem AOps.callTC {cx : Cx} {ops : Array Oper} {o : Oper} {rest : List Oper} {e : Env} {σ : Obs} {Q : Post} {g : Nat} {T : World → Prop} {f : FuncId} {xs : List Operand} {ts : Array TypeId} {ds : List D} {d : D} (hg : GW ops o e true) (hd : DstOk cx.N o)
    (ho : o.op = .call { callee := .value (.func f), args := xs.toArray, argTypes := ts }) (hT : TC g T cx) (ha : ArgsOk e xs ds) (h : ACallT cx.P T f ds d)
    (k : AOps cx ops rest (e.put o.dst (.d d)) σ Q) : AOps cx ops (o :: rest) e σ Q := by
  intro a w ⟨F, ρ, hr⟩
  have hw := hg.wanted (fun t _ => hr.env t)
  have h1 : RepL F w (xs.map a.eval) ds := ha.rep (ρ := ρ) fun t _ => hr.env t
  have h2 := h.2 F w _ (hT.now hr.below) hr.lt h1
  have h3 := h.1 (xs.map a.eval).toArray w
  have hx : (execOp a.eval o).run cx.P w = .ok (.enter f (xs.map a.eval).toArray) w := by
    unfold execOp
    simp only [ho, resolve, Deferred.ofValue, Act.eval, invoke, Sem.run_bind, Sem.run_pure, Result.andThen_ok]
    simpa using h3
  unfold wpList
  rw [if_pos hw]
  refine .inl ?_
  unfold Oper.wp
  rw [hx]
  refine h2.mono fun _ w' ⟨v, F', he, hv, hE⟩ => ?_
  subst he
  exact k _ _ ⟨F', ρ, hr.put hE (.d hv) hd⟩
/-- A region that draws its order, whose operations from k on wait for all before them: in the order of the text. -/
theorem AWP.drawTailK {cx : Cx} {id : Nat} {l : List Oper} {e : Env} {σ : Obs} {Q : Post} (k : Nat) (hm : cx.P.follows .mixedOrders = true) (hB : Region.lexB .any (l.take k).toArray = true) (hC : Region.chainB l.toArray k = true)
    (h : KRun cx (l.take k).toArray σ (l.take k) e (fun e => AOps cx l.toArray (l.drop k) e σ Q)) : AWP cx (.region id l.toArray true) e σ Q := by
  intro a w ⟨F, ρ, hr⟩
  simp only [Region.lexB, Bool.and_eq_true] at hB
  have hch := Chain.of hC
  have hkl : k ≤ l.length := by simpa using hch.le
  have h1 := anyK_lex (l.take k) 0 (Array.replicate (l.take k).toArray.size false) e (by simp) (by simpa using hB.2) h
  have h2 := wpAny_of_K (cx := cx) (ops := (l.take k).toArray) (Q := fun ex e σ => match ex with | .normal => AOps cx l.toArray (l.drop k) e σ Q | _ => False) (by simpa using KRun.dsts _ e h) _ _ e a _ ⟨F, ρ, hr.drew⟩ h1
  refine wp_region_any hm (wpAny_split hch (ops0 := (l.take k).toArray) (by simp; omega) (fun j hj => by simp [hj]) ?_ ?_ (l.take k).length _ _ _ _ _ (by simp; omega) (by simp) ?_ ?_ ?_ (by simp; omega) h2)
  · rintro a w ⟨e, σ, h3, h4⟩
    have := h3 a w h4
    simpa using this
  · rintro ex a w hne ⟨e, σ, h3, _⟩
    cases ex <;> first | exact absurd rfl hne | exact h3.elim
  · intro j hj d
    have h5 : j < l.length := by omega
    have h6 : j < min k l.length := by omega
    simp [Array.getD_eq_getD_getElem?, h5, h6]
  · intro j hj hj2
    have : j < l.length := by simpa using hj2
    simp [Array.getD_eq_getD_getElem?, this]
  · intro i o ho hi
    have : i < l.length := by simpa using (Array.getElem?_eq_some_iff.1 ho).1
    simp [Array.getD_eq_getD_getElem?, this] at hi
/-- Such a call, where T is so and its block is none of the caller's. -/
def XCallT (P : Program) (g : Nat) (T : World → Prop) (f : FuncId) (ss : List S) (σ σ' : Obs) (chg : Nat → Bool) (d : D) : Prop := Enters P f ∧
  ∀ (F : Nat → Prop) (ρ : Nat → Value) (B : Nat) (w : World) (vs : List Value), T w → ¬ ownB σ ρ g → (∀ b, F b → b < w.heap.size) → B ≤ w.heap.size → ObsOk B F ρ w σ → RepSL F ρ w vs ss →
    Calls P f vs.toArray w fun e w' => ∃ v F' ρ', e = .returned v ∧ Rep F' w' v d ∧ XEnd B F ρ w σ F' ρ' w' σ' chg
section
variable {cx : Cx} {ops : Array Oper} {o : Oper} {rest : List Oper} {e : Env} {σ : Obs} {Q : Post}
end
end Go.Proofs.YtcfamaddnmnaeaaGreatDoor

namespace Go.Proofs.YtcfamaddnmnaeaaGreatDoor
open Go.RowKit Go.Shelf Go.Lib
set_option linter.unusedVariables false
set_option linter.unusedSimpArgs false

def strL (l : List UInt8) : ByteArray := ⟨l.toArray⟩
theorem strL_size (l : List UInt8) : (strL l).size = l.length := by show l.toArray.size = _; simp
theorem strL_list (l : List UInt8) : (strL l).data.toList = l := by show l.toArray.toList = l; simp
set_option maxHeartbeats 1000000 in
set_option maxRecDepth 100000 in
theorem strNil (b : Nat) (p : Value) (w : World) (hbk : w.heap[b]? = some (.cells #[p, .slice none 0 0] 88 (0, 0))) :
    Calls Tryz.prog 39 #[.pointer (some ⟨b, 0, none⟩)] w fun e w' => e = .returned (.string .empty) ∧ Below w.heap.size w w' := by
  have hmix : Tryz.prog.follows .mixedOrders = true := by kernel_rfl
  have c1 : w.drew.cell? ⟨b, 1, none⟩ = some (.slice none 0 0) := by
    rw [cell_of_row w.drew b 1 _ _ _ hbk]; rfl
  have hSD : (Builtin.unsafeSliceData_ #[86] 157 #[.slice none 0 0]).run Tryz.prog w.drew = .ok (.pointer none) w.drew := Lib.run_unsafeSliceData_nil _ _ _ _ _
  have hUS : (Builtin.unsafeString_ #[157, 3] 9 #[.pointer none, .int .i64 0]).run Tryz.prog w.drew = .ok (.string .empty) w.drew := Lib.run_unsafeString_none _ _ _ _ _
  go_enter Tryz.func39, Tryz.ntmps39
  go_wp2
  go_region_o
  all_goals (go_wp2; go_ret; exact ⟨rfl, rfl, rfl, rfl, Nat.le_refl _, fun _ _ => rfl⟩)
set_option maxHeartbeats 1000000 in
set_option maxRecDepth 100000 in
theorem strCap (b g cap : Nat) (hc : cap ≠ 0) (p : Value) (w : World) (hbk : w.heap[b]? = some (.cells #[p, .slice (some ⟨g, 0, none⟩) 0 cap] 88 (0, 0))) :
    Calls Tryz.prog 39 #[.pointer (some ⟨b, 0, none⟩)] w fun e w' => e = .returned (.string .empty) ∧ Below w.heap.size w w' := by
  have hmix : Tryz.prog.follows .mixedOrders = true := by kernel_rfl
  have c1 : w.drew.cell? ⟨b, 1, none⟩ = some (.slice (some ⟨g, 0, none⟩) 0 cap) := by
    rw [cell_of_row w.drew b 1 _ _ _ hbk]; rfl
  have hSD : (Builtin.unsafeSliceData_ #[86] 157 #[.slice (some ⟨g, 0, none⟩) 0 cap]).run Tryz.prog w.drew = .ok (.pointer (some ⟨g, 0, none⟩)) w.drew := Lib.run_unsafeSliceData_row _ _ _ _ _ _ hc
  have hUS : (Builtin.unsafeString_ #[157, 3] 9 #[.pointer (some ⟨g, 0, none⟩), .int .i64 0]).run Tryz.prog w.drew = .ok (.string .empty) w.drew := Lib.run_unsafeString_none _ _ _ _ _
  go_enter Tryz.func39, Tryz.ntmps39
  go_wp2
  go_region_o
  all_goals (go_wp2; go_ret; exact ⟨rfl, rfl, rfl, rfl, Nat.le_refl _, fun _ _ => rfl⟩)
set_option maxHeartbeats 1000000 in
set_option maxRecDepth 100000 in
theorem strZero (b g : Nat) (sh : TypeId × Nat) (p : Value) (w : World) (hsh : w.shape? g = some sh) (hbk : w.heap[b]? = some (.cells #[p, .slice (some ⟨g, 0, none⟩) 0 0] 88 (0, 0))) :
    Calls Tryz.prog 39 #[.pointer (some ⟨b, 0, none⟩)] w fun e w' => e = .returned (.string .empty) ∧ Below w.heap.size w w' := by
  have hmix : Tryz.prog.follows .mixedOrders = true := by kernel_rfl
  have c1 : w.drew.cell? ⟨b, 1, none⟩ = some (.slice (some ⟨g, 0, none⟩) 0 0) := by
    rw [cell_of_row w.drew b 1 _ _ _ hbk]; rfl
  have hlt : b < w.heap.size := (Array.getElem?_eq_some_iff.1 hbk).1
  have hbl := (show Below w.heap.size w w from Below.refl _ _).alloc (Nat.le_refl _) (.view ⟨g, 0, none⟩ 5)
  have c2 : (w.alloc (.view ⟨g, 0, none⟩ 5)).cell? ⟨b, 1, none⟩ = some (.slice (some ⟨g, 0, none⟩) 0 0) := by
    rw [World.cell?_of_block (hbl.block b hlt), cell_of_row w b 1 _ _ _ hbk]; rfl
  have hSD : (Builtin.unsafeSliceData_ #[86] 157 #[.slice (some ⟨g, 0, none⟩) 0 0]).run Tryz.prog w.drew = .ok (.pointer (some ⟨w.drew.heap.size, 0, none⟩)) (w.drew.alloc (.view ⟨g, 0, none⟩ 5)) := Lib.run_unsafeSliceData_zero _ _ _ _ (by kernel_rfl) _ _ sh hsh
  have hUS : (Builtin.unsafeString_ #[157, 3] 9 #[.pointer (some ⟨w.heap.size, 0, none⟩), .int .i64 0]).run Tryz.prog (w.alloc (.view ⟨g, 0, none⟩ 5)).drew = .ok (.string .empty) (w.alloc (.view ⟨g, 0, none⟩ 5)).drew := Lib.run_unsafeString_none _ _ _ _ (some ⟨w.heap.size, 0, none⟩)
  go_enter Tryz.func39, Tryz.ntmps39
  go_wp2
  go_region_o
  all_goals (go_wp2; go_ret; exact ⟨rfl, hbl.os, hbl.tape, hbl.output, hbl.size, hbl.block⟩)
/-- b.String() where nothing was written. -/
theorem c_bstr0 (id r : Nat) (hne : id ≠ r) : XCall Tryz.prog 39 [.ptr id 0] (Bld id r []) [] (fun _ => false) (.v (.string ⟨#[]⟩)) := by
 refine ⟨.of Tryz.func39 (by kernel_rfl) rfl, fun F ρ B w vs hF hB hσ hv => ?_⟩
 obtain ⟨g, hb⟩ := bldW_of hne hσ
 obtain rfl := repSL_ptr hb.ptr hv
 have hbh := hb.heap
 have fin : Calls Tryz.prog 39 #[.pointer (some ⟨g, 0, none⟩)] w fun e w' => e = .returned (.string .empty) ∧ Below w.heap.size w w' := by
  rcases hb.own.2 with ⟨h2, _⟩ | ⟨k, cap, cur, h2, h3, h4, h5, h6, h7, _⟩
  ·rw [h2] at hbh
   exact strNil g _ w hbh
  rw [h2] at hbh
  by_cases hc : cap = 0
  ·subst hc
   exact strZero g k (_, _) _ w (by simp [World.shape?, h4]; exact ⟨rfl, rfl⟩) hbh
  exact strCap g k cap hc _ w hbh
 refine fin.mono fun e' w' ⟨he, hw⟩ => ?_
 exact ⟨_, F, ρ, he, .v _, fun _ h => h, fun _ h => .inl h, fun b hf => Nat.lt_of_lt_of_le (hF b hf) hw.size, ⟨hw.os, hw.tape, hw.output, hw.size, fun j hj _ => hw.block j hj⟩, ⟨fun p hp => (nomatch hp), fun p hp => (nomatch hp), fun p hp => (nomatch hp)⟩, fun p hp => (nomatch hp), fun _ _ => rfl⟩
/-- b.String(), whatever was written. -/
theorem c_bstrA (id r : Nat) (hne : id ≠ r) (l : List UInt8) : XCall Tryz.prog 39 [.ptr id 0] (Bld id r l) [] (fun _ => false) (.v (.string ⟨l.toArray⟩)) := by
 cases l with
 | nil => exact c_bstr0 id r hne
 | cons x l => exact c_bstr id r hne (x :: l) (by simp)
end Go.Proofs.YtcfamaddnmnaeaaGreatDoor

namespace Go.Proofs
open Go.Shelf
def Tryz.l145_ren : Go.Shelf.Ren := ⟨fun | 145 => 27 | 220 => 68 | 219 => 116 | 217 => 157 | 225 => 158 | 224 => 159 | 267 => 160 | 266 => 210 | 314 => 211 | n => n, fun | 9 => 9 | 4 => 4 | 59 => 67 | 3 => 3 | 5 => 5 | 46 => 196 | 146 => 273 | 51 => 232 | n => n, fun | 1 => 0 | n => n⟩
theorem Tryz.l145 : Go.Proofs.Lays.n145 Tryz.prog Tryz.l145_ren := {
  mixed := by kernel_rfl
  f145 := Tryz.func27.trans (congrArg some (by kernel_rfl))
  f217 := Tryz.func157.trans (congrArg some (by kernel_rfl))
  f219 := Tryz.func116.trans (congrArg some (by kernel_rfl))
  f220 := Tryz.func68.trans (congrArg some (by kernel_rfl))
  f224 := Tryz.func159.trans (congrArg some (by kernel_rfl))
  f225 := Tryz.func158.trans (congrArg some (by kernel_rfl))
  f266 := Tryz.func210.trans (congrArg some (by kernel_rfl))
  f267 := Tryz.func160.trans (congrArg some (by kernel_rfl))
  f314 := Tryz.func211.trans (congrArg some (by kernel_rfl))
  t3 := Tryz.underlying3
  a3 := Tryz.isAgg3
  z3 := Tryz.sizeOf3
  v3 := Tryz.zeroValue3
  t4 := Tryz.underlying4
  a4 := Tryz.isAgg4
  z4 := Tryz.sizeOf4
  v4 := Tryz.zeroValue4
  t5 := Tryz.underlying5
  a5 := Tryz.isAgg5
  z5 := Tryz.sizeOf5
  v5 := Tryz.zeroValue5
  t9 := Tryz.underlying9
  a9 := Tryz.isAgg9
  z9 := Tryz.sizeOf9
  v9 := Tryz.zeroValue9
  t46 := Tryz.underlying196
  a46 := Tryz.isAgg196
  z46 := Tryz.sizeOf196
  v46 := Tryz.zeroValue196
  t51 := Tryz.underlying232
  a51 := Tryz.isAgg232
  z51 := Tryz.sizeOf232
  v51 := Tryz.zeroValue232
  t59 := Tryz.underlying67
  a59 := Tryz.isAgg67
  z59 := Tryz.sizeOf67
  v59 := Tryz.zeroValue67
  t146 := Tryz.underlying273
  a146 := Tryz.isAgg273
  z146 := Tryz.sizeOf273
  v146 := Tryz.zeroValue273
  g1 := by kernel_rfl }
def Tryz.l146_ren : Go.Shelf.Ren := ⟨fun | 146 => 71 | 221 => 117 | 268 => 161 | 138 => 162 | 143 => 163 | 195 => 212 | 197 => 213 | 218 => 214 | 219 => 116 | 260 => 239 | 217 => 157 | 225 => 158 | 224 => 159 | 267 => 160 | 266 => 210 | 314 => 211 | n => n, fun | 9 => 9 | 31 => 146 | 3 => 3 | 4 => 4 | 0 => 0 | 105 => 275 | 21 => 21 | 5 => 5 | 46 => 196 | 119 => 306 | 139 => 309 | 138 => 308 | 146 => 273 | 51 => 232 | n => n, fun | 1 => 0 | 3 => 4 | 4 => 5 | n => n⟩
theorem Tryz.l146 : Go.Proofs.Lays.n146 Tryz.prog Tryz.l146_ren := {
  mixed := by kernel_rfl
  f138 := Tryz.func162.trans (congrArg some (by kernel_rfl))
  f143 := Tryz.func163.trans (congrArg some (by kernel_rfl))
  f146 := Tryz.func71.trans (congrArg some (by kernel_rfl))
  f195 := Tryz.func212.trans (congrArg some (by kernel_rfl))
  f197 := Tryz.func213.trans (congrArg some (by kernel_rfl))
  f217 := Tryz.func157.trans (congrArg some (by kernel_rfl))
  f218 := Tryz.func214.trans (congrArg some (by kernel_rfl))
  f219 := Tryz.func116.trans (congrArg some (by kernel_rfl))
  f221 := Tryz.func117.trans (congrArg some (by kernel_rfl))
  f224 := Tryz.func159.trans (congrArg some (by kernel_rfl))
  f225 := Tryz.func158.trans (congrArg some (by kernel_rfl))
  f260 := Tryz.func239.trans (congrArg some (by kernel_rfl))
  f266 := Tryz.func210.trans (congrArg some (by kernel_rfl))
  f267 := Tryz.func160.trans (congrArg some (by kernel_rfl))
  f268 := Tryz.func161.trans (congrArg some (by kernel_rfl))
  f314 := Tryz.func211.trans (congrArg some (by kernel_rfl))
  t0 := Tryz.underlying0
  a0 := Tryz.isAgg0
  z0 := Tryz.sizeOf0
  v0 := Tryz.zeroValue0
  t3 := Tryz.underlying3
  a3 := Tryz.isAgg3
  z3 := Tryz.sizeOf3
  v3 := Tryz.zeroValue3
  t4 := Tryz.underlying4
  a4 := Tryz.isAgg4
  z4 := Tryz.sizeOf4
  v4 := Tryz.zeroValue4
  t5 := Tryz.underlying5
  a5 := Tryz.isAgg5
  z5 := Tryz.sizeOf5
  v5 := Tryz.zeroValue5
  t9 := Tryz.underlying9
  a9 := Tryz.isAgg9
  z9 := Tryz.sizeOf9
  v9 := Tryz.zeroValue9
  t21 := Tryz.underlying21
  a21 := Tryz.isAgg21
  z21 := Tryz.sizeOf21
  v21 := Tryz.zeroValue21
  t31 := Tryz.underlying146
  a31 := Tryz.isAgg146
  z31 := Tryz.sizeOf146
  v31 := Tryz.zeroValue146
  t46 := Tryz.underlying196
  a46 := Tryz.isAgg196
  z46 := Tryz.sizeOf196
  v46 := Tryz.zeroValue196
  t51 := Tryz.underlying232
  a51 := Tryz.isAgg232
  z51 := Tryz.sizeOf232
  v51 := Tryz.zeroValue232
  t105 := Tryz.underlying275
  a105 := Tryz.isAgg275
  z105 := Tryz.sizeOf275
  v105 := Tryz.zeroValue275
  t119 := Tryz.underlying306
  a119 := Tryz.isAgg306
  z119 := Tryz.sizeOf306
  t138 := Tryz.underlying308
  a138 := Tryz.isAgg308
  z138 := Tryz.sizeOf308
  v138 := Tryz.zeroValue308
  t139 := Tryz.underlying309
  a139 := Tryz.isAgg309
  z139 := Tryz.sizeOf309
  v139 := Tryz.zeroValue309
  t146 := Tryz.underlying273
  a146 := Tryz.isAgg273
  z146 := Tryz.sizeOf273
  v146 := Tryz.zeroValue273
  g1 := by kernel_rfl
  g3 := by kernel_rfl
  g4 := by kernel_rfl }
def Tryz.l147_ren : Go.Shelf.Ren := ⟨fun | 147 => 69 | 221 => 117 | 268 => 161 | 138 => 162 | 143 => 163 | 195 => 212 | 197 => 213 | 218 => 214 | 219 => 116 | 260 => 239 | 217 => 157 | 225 => 158 | 224 => 159 | 267 => 160 | 266 => 210 | 314 => 211 | n => n, fun | 9 => 9 | 3 => 3 | 31 => 146 | 4 => 4 | 0 => 0 | 105 => 275 | 21 => 21 | 5 => 5 | 46 => 196 | 119 => 306 | 139 => 309 | 138 => 308 | 146 => 273 | 51 => 232 | n => n, fun | 1 => 0 | 3 => 4 | 4 => 5 | n => n⟩
theorem Tryz.l147 : Go.Proofs.Lays.n147 Tryz.prog Tryz.l147_ren := {
  mixed := by kernel_rfl
  f138 := Tryz.func162.trans (congrArg some (by kernel_rfl))
  f143 := Tryz.func163.trans (congrArg some (by kernel_rfl))
  f147 := Tryz.func69.trans (congrArg some (by kernel_rfl))
  f195 := Tryz.func212.trans (congrArg some (by kernel_rfl))
  f197 := Tryz.func213.trans (congrArg some (by kernel_rfl))
  f217 := Tryz.func157.trans (congrArg some (by kernel_rfl))
  f218 := Tryz.func214.trans (congrArg some (by kernel_rfl))
  f219 := Tryz.func116.trans (congrArg some (by kernel_rfl))
  f221 := Tryz.func117.trans (congrArg some (by kernel_rfl))
  f224 := Tryz.func159.trans (congrArg some (by kernel_rfl))
  f225 := Tryz.func158.trans (congrArg some (by kernel_rfl))
  f260 := Tryz.func239.trans (congrArg some (by kernel_rfl))
  f266 := Tryz.func210.trans (congrArg some (by kernel_rfl))
  f267 := Tryz.func160.trans (congrArg some (by kernel_rfl))
  f268 := Tryz.func161.trans (congrArg some (by kernel_rfl))
  f314 := Tryz.func211.trans (congrArg some (by kernel_rfl))
  t0 := Tryz.underlying0
  a0 := Tryz.isAgg0
  z0 := Tryz.sizeOf0
  v0 := Tryz.zeroValue0
  t3 := Tryz.underlying3
  a3 := Tryz.isAgg3
  z3 := Tryz.sizeOf3
  v3 := Tryz.zeroValue3
  t4 := Tryz.underlying4
  a4 := Tryz.isAgg4
  z4 := Tryz.sizeOf4
  v4 := Tryz.zeroValue4
  t5 := Tryz.underlying5
  a5 := Tryz.isAgg5
  z5 := Tryz.sizeOf5
  v5 := Tryz.zeroValue5
  t9 := Tryz.underlying9
  a9 := Tryz.isAgg9
  z9 := Tryz.sizeOf9
  v9 := Tryz.zeroValue9
  t21 := Tryz.underlying21
  a21 := Tryz.isAgg21
  z21 := Tryz.sizeOf21
  v21 := Tryz.zeroValue21
  t31 := Tryz.underlying146
  a31 := Tryz.isAgg146
  z31 := Tryz.sizeOf146
  v31 := Tryz.zeroValue146
  t46 := Tryz.underlying196
  a46 := Tryz.isAgg196
  z46 := Tryz.sizeOf196
  v46 := Tryz.zeroValue196
  t51 := Tryz.underlying232
  a51 := Tryz.isAgg232
  z51 := Tryz.sizeOf232
  v51 := Tryz.zeroValue232
  t105 := Tryz.underlying275
  a105 := Tryz.isAgg275
  z105 := Tryz.sizeOf275
  v105 := Tryz.zeroValue275
  t119 := Tryz.underlying306
  a119 := Tryz.isAgg306
  z119 := Tryz.sizeOf306
  t138 := Tryz.underlying308
  a138 := Tryz.isAgg308
  z138 := Tryz.sizeOf308
  v138 := Tryz.zeroValue308
  t139 := Tryz.underlying309
  a139 := Tryz.isAgg309
  z139 := Tryz.sizeOf309
  v139 := Tryz.zeroValue309
  t146 := Tryz.underlying273
  a146 := Tryz.isAgg273
  z146 := Tryz.sizeOf273
  v146 := Tryz.zeroValue273
  g1 := by kernel_rfl
  g3 := by kernel_rfl
  g4 := by kernel_rfl }
def Tryz.l172_ren : Go.Shelf.Ren := ⟨fun | 172 => 119 | 244 => 171 | 245 => 172 | 247 => 218 | 279 => 219 | 280 => 220 | 281 => 221 | 282 => 222 | 287 => 242 | 316 => 243 | 171 => 37 | 205 => 244 | 321 => 252 | 322 => 253 | 243 => 82 | 246 => 128 | 283 => 176 | 284 => 177 | 285 => 178 | 286 => 179 | 129 => 156 | 317 => 224 | 318 => 225 | 319 => 226 | 320 => 227 | 337 => 246 | 338 => 247 | n => n, fun | 9 => 9 | 3 => 3 | 75 => 90 | 76 => 91 | 4 => 4 | 5 => 5 | 167 => 279 | 37 => 86 | 0 => 0 | 85 => 280 | 2 => 2 | 168 => 282 | 53 => 234 | 175 => 298 | 46 => 196 | 210 => 302 | 127 => 157 | 145 => 314 | 143 => 312 | 21 => 21 | 171 => 248 | 173 => 250 | 212 => 286 | 51 => 232 | 20 => 20 | 213 => 287 | 232 => 315 | 233 => 316 | 80 => 95 | n => n, fun | 15 => 2 | 16 => 3 | 17 => 1 | 18 => 6 | 19 => 7 | n => n⟩
theorem Tryz.l172 : Go.Proofs.Lays.n172 Tryz.prog Tryz.l172_ren := {
  mixed := by kernel_rfl
  f129 := Tryz.func156.trans (congrArg some (by kernel_rfl))
  f171 := Tryz.func37.trans (congrArg some (by kernel_rfl))
  f172 := Tryz.func119.trans (congrArg some (by kernel_rfl))
  f205 := Tryz.func244.trans (congrArg some (by kernel_rfl))
  f243 := Tryz.func82.trans (congrArg some (by kernel_rfl))
  f244 := Tryz.func171.trans (congrArg some (by kernel_rfl))
  f245 := Tryz.func172.trans (congrArg some (by kernel_rfl))
  f246 := Tryz.func128.trans (congrArg some (by kernel_rfl))
  f247 := Tryz.func218.trans (congrArg some (by kernel_rfl))
  f279 := Tryz.func219.trans (congrArg some (by kernel_rfl))
  f280 := Tryz.func220.trans (congrArg some (by kernel_rfl))
  f281 := Tryz.func221.trans (congrArg some (by kernel_rfl))
  f282 := Tryz.func222.trans (congrArg some (by kernel_rfl))
  f283 := Tryz.func176.trans (congrArg some (by kernel_rfl))
  f284 := Tryz.func177.trans (congrArg some (by kernel_rfl))
  f285 := Tryz.func178.trans (congrArg some (by kernel_rfl))
  f286 := Tryz.func179.trans (congrArg some (by kernel_rfl))
  f287 := Tryz.func242.trans (congrArg some (by kernel_rfl))
  f316 := Tryz.func243.trans (congrArg some (by kernel_rfl))
  f317 := Tryz.func224.trans (congrArg some (by kernel_rfl))
  f318 := Tryz.func225.trans (congrArg some (by kernel_rfl))
  f319 := Tryz.func226.trans (congrArg some (by kernel_rfl))
  f320 := Tryz.func227.trans (congrArg some (by kernel_rfl))
  f321 := Tryz.func252.trans (congrArg some (by kernel_rfl))
  f322 := Tryz.func253.trans (congrArg some (by kernel_rfl))
  f337 := Tryz.func246.trans (congrArg some (by kernel_rfl))
  f338 := Tryz.func247.trans (congrArg some (by kernel_rfl))
  t0 := Tryz.underlying0
  a0 := Tryz.isAgg0
  z0 := Tryz.sizeOf0
  v0 := Tryz.zeroValue0
  t2 := Tryz.underlying2
  a2 := Tryz.isAgg2
  z2 := Tryz.sizeOf2
  v2 := Tryz.zeroValue2
  t3 := Tryz.underlying3
  a3 := Tryz.isAgg3
  z3 := Tryz.sizeOf3
  v3 := Tryz.zeroValue3
  t4 := Tryz.underlying4
  a4 := Tryz.isAgg4
  z4 := Tryz.sizeOf4
  v4 := Tryz.zeroValue4
  t5 := Tryz.underlying5
  a5 := Tryz.isAgg5
  z5 := Tryz.sizeOf5
  v5 := Tryz.zeroValue5
  t9 := Tryz.underlying9
  a9 := Tryz.isAgg9
  z9 := Tryz.sizeOf9
  v9 := Tryz.zeroValue9
  t20 := Tryz.underlying20
  a20 := Tryz.isAgg20
  z20 := Tryz.sizeOf20
  v20 := Tryz.zeroValue20
  t21 := Tryz.underlying21
  a21 := Tryz.isAgg21
  z21 := Tryz.sizeOf21
  v21 := Tryz.zeroValue21
  t37 := Tryz.underlying86
  a37 := Tryz.isAgg86
  z37 := Tryz.sizeOf86
  v37 := Tryz.zeroValue86
  t46 := Tryz.underlying196
  a46 := Tryz.isAgg196
  z46 := Tryz.sizeOf196
  v46 := Tryz.zeroValue196
  t51 := Tryz.underlying232
  a51 := Tryz.isAgg232
  z51 := Tryz.sizeOf232
  v51 := Tryz.zeroValue232
  t53 := Tryz.underlying234
  a53 := Tryz.isAgg234
  z53 := Tryz.sizeOf234
  v53 := Tryz.zeroValue234
  t75 := Tryz.underlying90
  a75 := Tryz.isAgg90
  z75 := Tryz.sizeOf90
  v75 := Tryz.zeroValue90
  t76 := Tryz.underlying91
  a76 := Tryz.isAgg91
  z76 := Tryz.sizeOf91
  v76 := Tryz.zeroValue91
  t85 := Tryz.underlying280
  a85 := Tryz.isAgg280
  z85 := Tryz.sizeOf280
  v85 := Tryz.zeroValue280
  t127 := Tryz.underlying157
  a127 := Tryz.isAgg157
  z127 := Tryz.sizeOf157
  v127 := Tryz.zeroValue157
  t143 := Tryz.underlying312
  a143 := Tryz.isAgg312
  z143 := Tryz.sizeOf312
  v143 := Tryz.zeroValue312
  t145 := Tryz.underlying314
  a145 := Tryz.isAgg314
  z145 := Tryz.sizeOf314
  v145 := Tryz.zeroValue314
  t167 := Tryz.underlying279
  a167 := Tryz.isAgg279
  z167 := Tryz.sizeOf279
  v167 := Tryz.zeroValue279
  t168 := Tryz.underlying282
  a168 := Tryz.isAgg282
  z168 := Tryz.sizeOf282
  v168 := Tryz.zeroValue282
  t171 := Tryz.underlying248
  a171 := Tryz.isAgg248
  z171 := Tryz.sizeOf248
  v171 := Tryz.zeroValue248
  t173 := Tryz.underlying250
  a173 := Tryz.isAgg250
  z173 := Tryz.sizeOf250
  v173 := Tryz.zeroValue250
  t175 := Tryz.underlying298
  a175 := Tryz.isAgg298
  z175 := Tryz.sizeOf298
  v175 := Tryz.zeroValue298
  t210 := Tryz.underlying302
  a210 := Tryz.isAgg302
  z210 := Tryz.sizeOf302
  v210 := Tryz.zeroValue302
  t212 := Tryz.underlying286
  a212 := Tryz.isAgg286
  z212 := Tryz.sizeOf286
  v212 := Tryz.zeroValue286
  t213 := Tryz.underlying287
  a213 := Tryz.isAgg287
  z213 := Tryz.sizeOf287
  t232 := Tryz.underlying315
  a232 := Tryz.isAgg315
  z232 := Tryz.sizeOf315
  v232 := Tryz.zeroValue315
  t233 := Tryz.underlying316
  a233 := Tryz.isAgg316
  z233 := Tryz.sizeOf316
  v233 := Tryz.zeroValue316
  g15 := by kernel_rfl
  g16 := by kernel_rfl
  g17 := by kernel_rfl
  g18 := by kernel_rfl
  g19 := by kernel_rfl }
end Go.Proofs
