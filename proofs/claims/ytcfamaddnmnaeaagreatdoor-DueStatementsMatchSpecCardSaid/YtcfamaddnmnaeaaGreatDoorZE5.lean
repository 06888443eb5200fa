/- Walks and laws over abstract values, merged by tools/merge.py. No statement of the seat. -/
import Derived.DeepKeys4
import Derived.Maps.Keyed
import Derived.Maps.RangeRun
import Derived.Test.YtcfamaddnmnaeaaGreatDoorZE4
set_option linter.unusedSectionVars false
set_option linter.unusedSimpArgs false
set_option linter.unusedVariables false
set_option maxHeartbeats 4000000
set_option maxRecDepth 100000
open List renaming length_map -> ZlM, getElem?_eq_getElem -> ZgE, getElem?_eq_some_iff -> ZgS, getElem_mem -> ZgM, length_take -> ZlT, getElem_append_left -> ZgL, getD_eq_getElem?_getD -> ZgD, getElem_map -> ZgP, getElem_append_right -> ZgR, map_append -> ZmA, mem_singleton -> ZmS, mem_map -> ZmM, getElem?_drop -> ZgO
open Array renaming getElem?_eq_some_iff -> ZaS
open Nat renaming le_of_ble_eq_true -> ZnB, zero_le -> ZnZ, le_refl -> ZnR, le_trans -> ZnT
open Bool renaming and_eq_true -> ZbA
namespace Go.Proofs.YtcfamaddnmnaeaaGreatDoor
section
open Go.RowKit
namespace Ty
theorem ag_75 : AggT Tryz.prog 75 3 := .of (by kernel_rfl)
theorem Ycq : AggT Tryz.prog 80 5 := .of (by kernel_rfl)
theorem et_22 : ElemTy Tryz.prog 22 80 5 64 (.agg #[(.string ⟨#[]⟩), (.int .i64 0), (.int .i64 0), (.int .i64 0), (.slice none 0 0)]) := ⟨by kernel_rfl, by kernel_rfl, by kernel_rfl, by decide⟩
theorem et_78 : ElemTy Tryz.prog 78 75 3 32 (.agg #[(.string ⟨#[]⟩), (.int .i64 0), (.int .i64 0)]) := ⟨by kernel_rfl, by kernel_rfl, by kernel_rfl, by decide⟩
theorem Ych : Yaf Tryz.prog 75 0 = some 0 := by kernel_rfl
theorem fo_75_1 : Yaf Tryz.prog 75 1 = some 1 := by kernel_rfl
theorem fo_75_2 : Yaf Tryz.prog 75 2 = some 2 := by kernel_rfl
theorem YaG : Yaf Tryz.prog 80 0 = some 0 := by kernel_rfl
theorem YaV : Yaf Tryz.prog 80 1 = some 1 := by kernel_rfl
theorem Ycg : Yaf Tryz.prog 80 2 = some 2 := by kernel_rfl
theorem fo_80_3 : Yaf Tryz.prog 80 3 = some 3 := by kernel_rfl
theorem fo_80_4 : Yaf Tryz.prog 80 4 = some 4 := by kernel_rfl
theorem sc_78 : Scal Tryz.prog 78 := .of (by kernel_rfl)
theorem sz_75 : ∀ w, (sizeOf 75).run Tryz.prog w = .ok 3 w := SizeT.of (by kernel_rfl)
theorem sz_80 : ∀ w, (sizeOf 80).run Tryz.prog w = .ok 5 w := SizeT.of (by kernel_rfl)
theorem zt_75 : (Tryz.prog.info? 75).bind (·.zero) = some (.agg #[(.string ⟨#[]⟩), (.int .i64 0), (.int .i64 0)]) := by kernel_rfl
theorem zt_80 : (Tryz.prog.info? 80).bind (·.zero) = some (.agg #[(.string ⟨#[]⟩), (.int .i64 0), (.int .i64 0), (.int .i64 0), (.slice none 0 0)]) := by kernel_rfl
end Ty
open Ty
open Go.Lib
def okRpt (x : Rpt) : Prop := x.source.size <= 9223372036854775807 /\ ∀ u ∈ x.lines, u.title.size <= 9223372036854775807
theorem rCmp_str (a b : Rpt) : rCmp a b = if Yax a.source b.source = 0 then (if a.no < b.no then -1 else if b.no < a.no then 1 else 0) else Yax a.source b.source := rfl
theorem orI_rpt (a b : Rpt) : orI [Yax a.source b.source, if a.no < b.no then -1 else if b.no < a.no then 1 else 0] = rCmp a b := by
 rw [orI_two, rCmp_str]
theorem bf_1 {a b : Rpt} (h : slt a.source b.source = true) : ltR a b = true := by
 have h2 := strCmp_lt.2 h
 refine decide_eq_true ?_
 rw [rCmp_str, if_neg (by omega)]
 exact h2
theorem bf_2 {a b : Rpt} (h : slt a.source b.source = false) (hne : ¬ a.source = b.source) : ltR a b = false := by
 refine decide_eq_false ?_
 rw [rCmp_str, if_neg (fun hh => hne (strCmp_zero.1 hh))]
 intro hh
 rw [strCmp_lt.1 hh] at h; cases h
theorem bf_3 {a b : Rpt} (h : a.source = b.source) : ltR a b = decide (a.no < b.no) := by
 unfold ltR
 rw [rCmp_str, if_pos (strCmp_zero.2 h)]
 apply decide_eq_decide.2
 split
 ·simp [*]
 ·split <;> simp [*]
theorem ltR_no {a b : Rpt} (h : ltR a b = false) : 0 <= rCmp a b := by
 unfold ltR at h
 have := dcF h
 omega
theorem ltR_yes {a b : Rpt} (h : ltR a b = true) : ¬ 0 <= rCmp a b := by
 unfold ltR at h
 have := dcT h
 omega
theorem c_pRpt (x : Rpt) (hx : okRpt x) : Ya3 Tryz.prog MaxT 72 [.agg x.ds] (.v (.int .i64 (rptF x))) := by
 refine YaF (n := 75) (ds' := [.v (.int .i64 (rptF x))]) Tryz.func72 J (by kernel_rfl) J [2] J J ?_
 intro B w0 F0 hT
 refine .sr (.sA (.box J J J) ?_)
 refine .aN ?_
 refine .seq (.block (.sr (.sA (.fieldAddr J YaG J) ?_)))
 refine .sA (.load J sc_9 J) (.sA (.call J (.cons (.rfl' J) .nil) (c_pName _ hx.1)) (.sA (.not J J) ?_))
 refine .aN ?_
 refine .cond J (fun h1 => ?_) (fun h1 => ?_)
 ·replace h1 := Ybb h1
  have n0 := h1
  have HR : rptF x = 5 := by unfold rptF; grind
  refine .sr (.aN ?_)
  refine .ret (rD J ?_)
  all_goals (first | rw [HR] | (rw [HX, Yab (f := usdF x.lines) hk.2 (by unfold usdF; rw [dif_pos hlt]; grind) _ hlt]; unfold usdF; rw [dif_pos hlt]; grind) | rw [show rptF x = 1 from by unfold rptF; grind])
 replace h1 := Ybc h1
 have n1 : ¬ YaI x.source = false := by rw [h1]; decide
 refine .sr (.sA (.fieldAddr J YaV J) ?_)
 refine .sA (.load J sc_3 J) (.sA (.call J (.cons (.rfl' J) (.cons (.rfl' J) (.cons (.rfl' J) .nil))) (YbG _ _ _)) (.sA (.not J J) ?_))
 refine .mA ?_
 refine .sN 15 J (fun g2 => ?_) fun g2 => ?_
 ·refine .pA ?_
  refine .pA ?_
  refine .pA ?_
  refine .pA ?_
  refine .sA (.pickT J J J) ?_
  refine .mA ?_
  refine .pA ?_
  refine .pA ?_
  refine .pA ?_
  refine .pA ?_
  refine .pA ?_
  refine .pA ?_
  refine .pA ?_
  refine .sA (.pickT J J J) ?_
  refine .aN ?_
  refine .cond J (fun _ => ?_) (fun h => nomatch h)
  refine .sr (.aN ?_)
  refine .ret (rD J ?_)
  all_goals (first | rw [HR] | (rw [HX, Yab (f := usdF x.lines) hk.2 (by unfold usdF; rw [dif_pos hlt]; grind) _ hlt]; unfold usdF; rw [dif_pos hlt]; grind) | rw [show rptF x = 1 from by unfold rptF; grind])
 refine .sG (.fieldAddr J Ycg J) ?_
 refine .sG (.load J sc_3 J) ?_
 refine .sG (.call J (.cons (.rfl' J) (.cons (.rfl' J) (.cons (.rfl' J) .nil))) (YbG _ _ _)) ?_
 refine .sG (.not J J) ?_
 refine .sA (.pickF J J J) ?_
 refine .mA ?_
 refine .sN 21 J (fun g3 => ?_) fun g3 => ?_
 ·refine .pA ?_
  refine .pA ?_
  refine .pA ?_
  refine .pA ?_
  refine .pA ?_
  refine .pA ?_
  refine .pA ?_
  refine .sA (.pickT J J J) ?_
  refine .aN ?_
  refine .cond J (fun _ => ?_) (fun h => nomatch h)
  refine .sr (.aN ?_)
  refine .ret (rD J ?_)
  all_goals (first | rw [HR] | (rw [HX, Yab (f := usdF x.lines) hk.2 (by unfold usdF; rw [dif_pos hlt]; grind) _ hlt]; unfold usdF; rw [dif_pos hlt]; grind) | rw [show rptF x = 1 from by unfold rptF; grind])
 refine .sG (.fieldAddr J fo_80_3 J) ?_
 refine .sG (.load J sc_3 J) ?_
 refine .sG (.fieldAddr J YaV J) ?_
 refine .sG (.load J sc_3 J) ?_
 refine .sG (.sub64 J J J) ?_
 refine .sG (.call J (.cons (.rfl' J) (.cons (.rfl' J) (.cons (.rfl' J) .nil))) (YbG _ _ _)) ?_
 refine .sG (.not J J) ?_
 refine .sA (.pickF J J J) ?_
 refine .aN ?_
 refine .cN J (fun h4 => ?_) fun h4 => ?_
 ·have HR : rptF x = 1 := by unfold rptF; grind
  refine .sr (.aN ?_)
  refine .ret (rD J ?_)
  all_goals (first | rw [HR] | (rw [HX, Yab (f := usdF x.lines) hk.2 (by unfold usdF; rw [dif_pos hlt]; grind) _ hlt]; unfold usdF; rw [dif_pos hlt]; grind) | rw [show rptF x = 1 from by unfold rptF; grind])
 refine .sr (.sA (.fieldAddr J fo_80_4 J) ?_)
 refine .sA (.load J sc_78 J) (.sA (.lenSl J et_78.ht J) (.sA (.gtr J J J) ?_))
 refine .aN ?_
 refine .cT J (fun h5 => ?_) fun h5 => ?_
 ·rw [ZlM] at h5
  have HR : rptF x = 2 := by unfold rptF; grind
  refine .sr (.aN ?_)
  refine .ret (rD J ?_)
  all_goals (first | rw [HR] | (rw [HX, Yab (f := usdF x.lines) hk.2 (by unfold usdF; rw [dif_pos hlt]; grind) _ hlt]; unfold usdF; rw [dif_pos hlt]; grind) | rw [show rptF x = 1 from by unfold rptF; grind])
 rw [ZlM] at h5
 have HX : rptF x = ffst (usdF x.lines) x.lines.length := by unfold rptF; grind
 refine .skip (.seq (.sr (.sA (.fieldAddr J fo_80_4 J) ?_)))
 refine .sA (.load J sc_78 J) (.sA (.lenSl J et_78.ht J) ?_)
 refine .mN ?_
 refine .block (.loop (G := Nat) (fun k => Env.of [(38, .iv k), (36, .d (.sl (x.lines.map Usd.ds))), (37, .iv (x.lines.map Usd.ds).length), (1, .d (.fp x.ds))]) (fun k => []) (fun k => k <= x.lines.length /\ ffst (usdF x.lines) k = 0) (fun k => x.lines.length - k) 0 ⟨ZnZ _, J⟩ (Sub.less ⟨U, U, U, U, trivial⟩ (fun _ h => h)) ?_)
 intro k hk
 refine .sr (.sA (.lss J J J) (.nil ?_))
 refine .seq (.cT J (fun h6 => ?_) fun h6 => ?_)
 ·rw [ZlM] at h6
  have hlt : k < x.lines.length := by omega
  have hbk := hx.2 _ (ZgM hlt)
  refine .skip (.seq (.block (.sr (.mA ?_))))
  refine .sA (.indexAddr J et_78 J J k J (Yad hlt) J) (.sA (.loadAgg J ag_75 J J) ?_)
  refine .alloc 101 J J J J zt_75 J J J ?_
  refine .aA ?_
  refine .store J J J sz_75 J (.head _) J J J (ZnB J) ?_
  refine .freezeCells 4 (ds := x.lines[k].ds) J (.head _) (.nil ?_)
  refine .block (.sr (.sA (.fieldAddr J Ych J) ?_))
  refine .sA (.load J sc_9 J) ?_
  -- wants the world
  refine .callT J J J hT Yan J (.cons (.rfl' J) .nil) (c_pTitle _ hbk) ?_
  refine .sA (.not J J) ?_
  refine .aN ?_
  refine .cond J (fun h7 => ?_) (fun h7 => ?_)
  ·replace h7 := Ybb h7
   refine .sr (.aN ?_)
   refine .ret (rD J ?_)
   all_goals (first | rw [HR] | (rw [HX, Yab (f := usdF x.lines) hk.2 (by unfold usdF; rw [dif_pos hlt]; grind) _ hlt]; unfold usdF; rw [dif_pos hlt]; grind) | rw [show rptF x = 1 from by unfold rptF; grind])
  replace h7 := Ybc h7
  have n4 : ¬ Yar x.lines[k].title = false := by rw [h7]; decide
  refine .sr (.sA (.fieldAddr J fo_75_1 J) ?_)
  refine .sA (.load J sc_3 J) (.sA (.call J (.cons (.rfl' J) (.cons (.rfl' J) (.cons (.rfl' J) .nil))) (YbG _ _ _)) (.sA (.not J J) ?_))
  refine .mA ?_
  refine .sN 53 J (fun g8 => ?_) fun g8 => ?_
  ·refine .pA ?_
   refine .pA ?_
   refine .pA ?_
   refine .pA ?_
   refine .sA (.pickT J J J) ?_
   refine .aN ?_
   refine .cond J (fun _ => ?_) (fun h => nomatch h)
   refine .sr (.aN ?_)
   refine .ret (rD J ?_)
   all_goals (first | rw [HR] | (rw [HX, Yab (f := usdF x.lines) hk.2 (by unfold usdF; rw [dif_pos hlt]; grind) _ hlt]; unfold usdF; rw [dif_pos hlt]; grind) | rw [show rptF x = 1 from by unfold rptF; grind])
  refine .sG (.fieldAddr J fo_75_2 J) ?_
  refine .sG (.load J sc_3 J) ?_
  refine .sG (.call J (.cons (.rfl' J) (.cons (.rfl' J) (.cons (.rfl' J) .nil))) (YbG _ _ _)) ?_
  refine .sG (.not J J) ?_
  refine .sA (.pickF J J J) ?_
  refine .aN ?_
  refine .cN J (fun h9 => ?_) fun h9 => ?_
  ·refine .sr (.aN ?_)
   refine .ret (rD J ?_)
   all_goals (first | rw [HR] | (rw [HX, Yab (f := usdF x.lines) hk.2 (by unfold usdF; rw [dif_pos hlt]; grind) _ hlt]; unfold usdF; rw [dif_pos hlt]; grind) | rw [show rptF x = 1 from by unfold rptF; grind])
  refine .seq (.draw (by kernel_rfl) (by kernel_rfl) ?_)
  refine .sA (.moveD J J) (.sA (.gtr J J J) (.sA (.moveD J J) ?_))
  refine .sT 62 J (fun g10 => ?_) fun g10 => ?_
  ·have hk0 : 0 < k := by omega
   refine .sG (.fieldAddr J Ych J) ?_
   refine .sG (.load J sc_9 J) ?_
   refine .sG (.fieldAddr J fo_80_4 J) ?_
   refine .sG (.load J sc_78 J) ?_
   refine .sG (.moveD J J) ?_
   refine .sG (.sub64 J J J) ?_
   refine .sG (.indexAddr J et_78 J J (k - 1) (by omega) (Yad (by omega)) J) ?_
   refine .sG (.fieldAddr J Ych J) ?_
   refine .sG (.load J sc_9 J) ?_
   refine .sG (.sleq J J J) ?_
   refine .sA (.pickT J J J) (.sA (.assignD J J) ?_)
   refine .nil ?_
   refine .cond J (fun h11 => ?_) (fun h11 => ?_)
   ·skip
    have n5 : (0 < k /\ sle x.lines[k].title (x.lines[k-1]'(by omega)).title = true) := ⟨hk0, h11⟩
    refine .sr (.aN ?_)
    refine .ret (rD J ?_)
    all_goals (first | rw [HR] | (rw [HX, Yab (f := usdF x.lines) hk.2 (by unfold usdF; rw [dif_pos hlt]; grind) _ hlt]; unfold usdF; rw [dif_pos hlt]; grind) | rw [show rptF x = 1 from by unfold rptF; grind])
   have n5 : ¬ (0 < k /\ sle x.lines[k].title (x.lines[k-1]'(by omega)).title = true) := fun hh => by have h5 := hh.2; rw [show sle x.lines[k].title (x.lines[k-1]'(by omega)).title = false from h11] at h5; cases h5
   refine .skip (.region (.sA (.add64 J J J) ?_))
   refine .mN ?_
   refine ⟨k + 1, ⟨by omega, Yag hk.2 (by unfold usdF; rw [dif_pos hlt]; grind)⟩, (by dsimp only; omega), Sub.less ⟨U, U, U, U, trivial⟩ (fun _ h => h)⟩
  have n5 : ¬ (0 < k /\ sle x.lines[k].title (x.lines[k-1]'(by omega)).title = true) := fun hh => by omega
  refine .pA ?_
  refine .pA ?_
  refine .pA ?_
  refine .pA ?_
  refine .pA ?_
  refine .pA ?_
  refine .pA ?_
  refine .pA ?_
  refine .pA ?_
  refine .pA ?_
  refine .sA (.pickF J J J) (.sA (.assignD J J) ?_)
  refine .nil ?_
  refine .cond J (fun h => nomatch h) (fun _ => ?_)
  refine .skip (.region (.sA (.add64 J J J) ?_))
  refine .mN ?_
  refine ⟨k + 1, ⟨by omega, Yag hk.2 (by unfold usdF; rw [dif_pos hlt]; grind)⟩, (by dsimp only; omega), Sub.less ⟨U, U, U, U, trivial⟩ (fun _ h => h)⟩
 rw [ZlM] at h6
 have HR : rptF x = 0 := by rw [HX, show x.lines.length = k by omega]; exact hk.2
 refine .exit (.sr (.aN ?_))
 refine .ret (rD J ?_)
 all_goals (first | rw [HR] | (rw [HX, Yab (f := usdF x.lines) hk.2 (by unfold usdF; rw [dif_pos hlt]; grind) _ hlt]; unfold usdF; rw [dif_pos hlt]; grind) | rw [show rptF x = 1 from by unfold rptF; grind])
theorem c_rRpt (x : Rpt) (hx : okRpt x) : Ya3 Tryz.prog MaxT 75 [.agg x.ds] (.v (.int .i64 (rptF x))) := by
 refine YaF (n := 75) (ds' := [.v (.int .i64 (rptF x))]) Tryz.func75 J (by kernel_rfl) J [2] J J ?_
 intro B w0 F0 hT
 refine .sr (.sA (.box J J J) ?_)
 refine .aN ?_
 refine .seq (.block (.sr (.sA (.fieldAddr J YaG J) ?_)))
 refine .sA (.load J sc_9 J) (.sA (.call J (.cons (.rfl' J) .nil) (c_rName _ hx.1)) (.sA (.not J J) ?_))
 refine .aN ?_
 refine .cond J (fun h1 => ?_) (fun h1 => ?_)
 ·replace h1 := Ybb h1
  have n0 := h1
  have HR : rptF x = 5 := by unfold rptF; grind
  refine .sr (.aN ?_)
  refine .ret (rD J ?_)
  all_goals (first | rw [HR] | (rw [HX, Yab (f := usdF x.lines) hk.2 (by unfold usdF; rw [dif_pos hlt]; grind) _ hlt]; unfold usdF; rw [dif_pos hlt]; grind) | rw [show rptF x = 1 from by unfold rptF; grind])
 replace h1 := Ybc h1
 have n1 : ¬ YaI x.source = false := by rw [h1]; decide
 refine .sr (.sA (.fieldAddr J YaV J) ?_)
 refine .sA (.load J sc_3 J) (.sA (.call J (.cons (.rfl' J) (.cons (.rfl' J) (.cons (.rfl' J) .nil))) (Ybr _ _ _)) (.sA (.not J J) ?_))
 refine .mA ?_
 refine .sN 15 J (fun g2 => ?_) fun g2 => ?_
 ·refine .pA ?_
  refine .pA ?_
  refine .pA ?_
  refine .pA ?_
  refine .sA (.pickT J J J) ?_
  refine .mA ?_
  refine .pA ?_
  refine .pA ?_
  refine .pA ?_
  refine .pA ?_
  refine .pA ?_
  refine .pA ?_
  refine .pA ?_
  refine .sA (.pickT J J J) ?_
  refine .aN ?_
  refine .cond J (fun _ => ?_) (fun h => nomatch h)
  refine .sr (.aN ?_)
  refine .ret (rD J ?_)
  all_goals (first | rw [HR] | (rw [HX, Yab (f := usdF x.lines) hk.2 (by unfold usdF; rw [dif_pos hlt]; grind) _ hlt]; unfold usdF; rw [dif_pos hlt]; grind) | rw [show rptF x = 1 from by unfold rptF; grind])
 refine .sG (.fieldAddr J Ycg J) ?_
 refine .sG (.load J sc_3 J) ?_
 refine .sG (.call J (.cons (.rfl' J) (.cons (.rfl' J) (.cons (.rfl' J) .nil))) (Ybr _ _ _)) ?_
 refine .sG (.not J J) ?_
 refine .sA (.pickF J J J) ?_
 refine .mA ?_
 refine .sN 21 J (fun g3 => ?_) fun g3 => ?_
 ·refine .pA ?_
  refine .pA ?_
  refine .pA ?_
  refine .pA ?_
  refine .pA ?_
  refine .pA ?_
  refine .pA ?_
  refine .sA (.pickT J J J) ?_
  refine .aN ?_
  refine .cond J (fun _ => ?_) (fun h => nomatch h)
  refine .sr (.aN ?_)
  refine .ret (rD J ?_)
  all_goals (first | rw [HR] | (rw [HX, Yab (f := usdF x.lines) hk.2 (by unfold usdF; rw [dif_pos hlt]; grind) _ hlt]; unfold usdF; rw [dif_pos hlt]; grind) | rw [show rptF x = 1 from by unfold rptF; grind])
 refine .sG (.fieldAddr J fo_80_3 J) ?_
 refine .sG (.load J sc_3 J) ?_
 refine .sG (.fieldAddr J YaV J) ?_
 refine .sG (.load J sc_3 J) ?_
 refine .sG (.sub64 J J J) ?_
 refine .sG (.call J (.cons (.rfl' J) (.cons (.rfl' J) (.cons (.rfl' J) .nil))) (Ybr _ _ _)) ?_
 refine .sG (.not J J) ?_
 refine .sA (.pickF J J J) ?_
 refine .aN ?_
 refine .cN J (fun h4 => ?_) fun h4 => ?_
 ·have HR : rptF x = 1 := by unfold rptF; grind
  refine .sr (.aN ?_)
  refine .ret (rD J ?_)
  all_goals (first | rw [HR] | (rw [HX, Yab (f := usdF x.lines) hk.2 (by unfold usdF; rw [dif_pos hlt]; grind) _ hlt]; unfold usdF; rw [dif_pos hlt]; grind) | rw [show rptF x = 1 from by unfold rptF; grind])
 refine .sr (.sA (.fieldAddr J fo_80_4 J) ?_)
 refine .sA (.load J sc_78 J) (.sA (.lenSl J et_78.ht J) (.sA (.gtr J J J) ?_))
 refine .aN ?_
 refine .cT J (fun h5 => ?_) fun h5 => ?_
 ·rw [ZlM] at h5
  have HR : rptF x = 2 := by unfold rptF; grind
  refine .sr (.aN ?_)
  refine .ret (rD J ?_)
  all_goals (first | rw [HR] | (rw [HX, Yab (f := usdF x.lines) hk.2 (by unfold usdF; rw [dif_pos hlt]; grind) _ hlt]; unfold usdF; rw [dif_pos hlt]; grind) | rw [show rptF x = 1 from by unfold rptF; grind])
 rw [ZlM] at h5
 have HX : rptF x = ffst (usdF x.lines) x.lines.length := by unfold rptF; grind
 refine .skip (.seq (.sr (.sA (.fieldAddr J fo_80_4 J) ?_)))
 refine .sA (.load J sc_78 J) (.sA (.lenSl J et_78.ht J) ?_)
 refine .mN ?_
 refine .block (.loop (G := Nat) (fun k => Env.of [(38, .iv k), (36, .d (.sl (x.lines.map Usd.ds))), (37, .iv (x.lines.map Usd.ds).length), (1, .d (.fp x.ds))]) (fun k => []) (fun k => k <= x.lines.length /\ ffst (usdF x.lines) k = 0) (fun k => x.lines.length - k) 0 ⟨ZnZ _, J⟩ (Sub.less ⟨U, U, U, U, trivial⟩ (fun _ h => h)) ?_)
 intro k hk
 refine .sr (.sA (.lss J J J) (.nil ?_))
 refine .seq (.cT J (fun h6 => ?_) fun h6 => ?_)
 ·rw [ZlM] at h6
  have hlt : k < x.lines.length := by omega
  have hbk := hx.2 _ (ZgM hlt)
  refine .skip (.seq (.block (.sr (.mA ?_))))
  refine .sA (.indexAddr J et_78 J J k J (Yad hlt) J) (.sA (.loadAgg J ag_75 J J) ?_)
  refine .alloc 101 J J J J zt_75 J J J ?_
  refine .aA ?_
  refine .store J J J sz_75 J (.head _) J J J (ZnB J) ?_
  refine .freezeCells 4 (ds := x.lines[k].ds) J (.head _) (.nil ?_)
  refine .block (.sr (.sA (.fieldAddr J Ych J) ?_))
  refine .sA (.load J sc_9 J) ?_
  -- wants the world
  refine .callT J J J hT Yan J (.cons (.rfl' J) .nil) (c_rTitle _ hbk) ?_
  refine .sA (.not J J) ?_
  refine .aN ?_
  refine .cond J (fun h7 => ?_) (fun h7 => ?_)
  ·replace h7 := Ybb h7
   refine .sr (.aN ?_)
   refine .ret (rD J ?_)
   all_goals (first | rw [HR] | (rw [HX, Yab (f := usdF x.lines) hk.2 (by unfold usdF; rw [dif_pos hlt]; grind) _ hlt]; unfold usdF; rw [dif_pos hlt]; grind) | rw [show rptF x = 1 from by unfold rptF; grind])
  replace h7 := Ybc h7
  have n4 : ¬ Yar x.lines[k].title = false := by rw [h7]; decide
  refine .sr (.sA (.fieldAddr J fo_75_1 J) ?_)
  refine .sA (.load J sc_3 J) (.sA (.call J (.cons (.rfl' J) (.cons (.rfl' J) (.cons (.rfl' J) .nil))) (Ybr _ _ _)) (.sA (.not J J) ?_))
  refine .mA ?_
  refine .sN 53 J (fun g8 => ?_) fun g8 => ?_
  ·refine .pA ?_
   refine .pA ?_
   refine .pA ?_
   refine .pA ?_
   refine .sA (.pickT J J J) ?_
   refine .aN ?_
   refine .cond J (fun _ => ?_) (fun h => nomatch h)
   refine .sr (.aN ?_)
   refine .ret (rD J ?_)
   all_goals (first | rw [HR] | (rw [HX, Yab (f := usdF x.lines) hk.2 (by unfold usdF; rw [dif_pos hlt]; grind) _ hlt]; unfold usdF; rw [dif_pos hlt]; grind) | rw [show rptF x = 1 from by unfold rptF; grind])
  refine .sG (.fieldAddr J fo_75_2 J) ?_
  refine .sG (.load J sc_3 J) ?_
  refine .sG (.call J (.cons (.rfl' J) (.cons (.rfl' J) (.cons (.rfl' J) .nil))) (Ybr _ _ _)) ?_
  refine .sG (.not J J) ?_
  refine .sA (.pickF J J J) ?_
  refine .aN ?_
  refine .cN J (fun h9 => ?_) fun h9 => ?_
  ·refine .sr (.aN ?_)
   refine .ret (rD J ?_)
   all_goals (first | rw [HR] | (rw [HX, Yab (f := usdF x.lines) hk.2 (by unfold usdF; rw [dif_pos hlt]; grind) _ hlt]; unfold usdF; rw [dif_pos hlt]; grind) | rw [show rptF x = 1 from by unfold rptF; grind])
  refine .seq (.draw (by kernel_rfl) (by kernel_rfl) ?_)
  refine .sA (.moveD J J) (.sA (.gtr J J J) (.sA (.moveD J J) ?_))
  refine .sT 62 J (fun g10 => ?_) fun g10 => ?_
  ·have hk0 : 0 < k := by omega
   refine .sG (.fieldAddr J Ych J) ?_
   refine .sG (.load J sc_9 J) ?_
   refine .sG (.fieldAddr J fo_80_4 J) ?_
   refine .sG (.load J sc_78 J) ?_
   refine .sG (.moveD J J) ?_
   refine .sG (.sub64 J J J) ?_
   refine .sG (.indexAddr J et_78 J J (k - 1) (by omega) (Yad (by omega)) J) ?_
   refine .sG (.fieldAddr J Ych J) ?_
   refine .sG (.load J sc_9 J) ?_
   refine .sG (.sleq J J J) ?_
   refine .sA (.pickT J J J) (.sA (.assignD J J) ?_)
   refine .nil ?_
   refine .cond J (fun h11 => ?_) (fun h11 => ?_)
   ·skip
    have n5 : (0 < k /\ sle x.lines[k].title (x.lines[k-1]'(by omega)).title = true) := ⟨hk0, h11⟩
    refine .sr (.aN ?_)
    refine .ret (rD J ?_)
    all_goals (first | rw [HR] | (rw [HX, Yab (f := usdF x.lines) hk.2 (by unfold usdF; rw [dif_pos hlt]; grind) _ hlt]; unfold usdF; rw [dif_pos hlt]; grind) | rw [show rptF x = 1 from by unfold rptF; grind])
   have n5 : ¬ (0 < k /\ sle x.lines[k].title (x.lines[k-1]'(by omega)).title = true) := fun hh => by have h5 := hh.2; rw [show sle x.lines[k].title (x.lines[k-1]'(by omega)).title = false from h11] at h5; cases h5
   refine .skip (.region (.sA (.add64 J J J) ?_))
   refine .mN ?_
   refine ⟨k + 1, ⟨by omega, Yag hk.2 (by unfold usdF; rw [dif_pos hlt]; grind)⟩, (by dsimp only; omega), Sub.less ⟨U, U, U, U, trivial⟩ (fun _ h => h)⟩
  have n5 : ¬ (0 < k /\ sle x.lines[k].title (x.lines[k-1]'(by omega)).title = true) := fun hh => by omega
  refine .pA ?_
  refine .pA ?_
  refine .pA ?_
  refine .pA ?_
  refine .pA ?_
  refine .pA ?_
  refine .pA ?_
  refine .pA ?_
  refine .pA ?_
  refine .pA ?_
  refine .sA (.pickF J J J) (.sA (.assignD J J) ?_)
  refine .nil ?_
  refine .cond J (fun h => nomatch h) (fun _ => ?_)
  refine .skip (.region (.sA (.add64 J J J) ?_))
  refine .mN ?_
  refine ⟨k + 1, ⟨by omega, Yag hk.2 (by unfold usdF; rw [dif_pos hlt]; grind)⟩, (by dsimp only; omega), Sub.less ⟨U, U, U, U, trivial⟩ (fun _ h => h)⟩
 rw [ZlM] at h6
 have HR : rptF x = 0 := by rw [HX, show x.lines.length = k by omega]; exact hk.2
 refine .exit (.sr (.aN ?_))
 refine .ret (rD J ?_)
 all_goals (first | rw [HR] | (rw [HX, Yab (f := usdF x.lines) hk.2 (by unfold usdF; rw [dif_pos hlt]; grind) _ hlt]; unfold usdF; rw [dif_pos hlt]; grind) | rw [show rptF x = 1 from by unfold rptF; grind])
theorem c_cmpRpt (a b : Rpt) : Yaq Tryz.prog 65 [.agg a.ds, .agg b.ds] (.v (.int .i64 (rCmp a b))) := by
 refine Yah (n := 17) (ds' := [.v (.int .i64 (rCmp a b))]) Tryz.func65 J (by kernel_rfl) J [4] J J ?_
 intro B w0 F0 fr
 refine .sr (.sA (.box J J J) ?_)
 refine .sA (.box J J J) ?_
 refine .aN ?_
 refine .seq (.draw (by kernel_rfl) (by kernel_rfl) ?_)
 refine .sA (.fieldAddr J YaG J) (.sA (.load J sc_9 J) (.sA (.fieldAddr J YaG J) (.sA (.load J sc_9 J) (.sA (.call J (.cons (.rfl' J) (.cons (.rfl' J) .nil)) (c_strCmp _ _)) (.sA (.fieldAddr J YaV J) ?_)))))
 refine .sA (.load J sc_3 J) (.sA (.fieldAddr J YaV J) (.sA (.load J sc_3 J) (.sA (.call J (.cons (.rfl' J) (.cons (.rfl' J) .nil)) (c_cmpInt _ _)) ?_)))
 refine .sA (.buildSlice J et_37 (.cons J J J (.cons J J J .nil)) J (by decide)) ?_
 refine .sA (.call J (.cons (.rfl' J) .nil) (c_or [Yax a.source b.source, if a.no < b.no then -1 else if b.no < a.no then 1 else 0])) (.sA (.assignD J J) ?_)
 refine .nil ?_
 refine .ret (rD J ?_)
 all_goals (rw [orI_rpt])
theorem c_before (a b : Rpt) : Yaq Tryz.prog 76 [.agg a.ds, .agg b.ds] (.v (.bool (ltR a b))) := by
 refine Yah (n := 24) (ds' := [.v (.bool (ltR a b))]) Tryz.func76 J (by kernel_rfl) J [4] J J ?_
 intro B w0 F0 fr
 refine .sr (.sA (.box J J J) ?_)
 refine .sA (.box J J J) ?_
 refine .aN ?_
 refine .sr (.sA (.fieldAddr J YaG J) ?_)
 refine .sA (.load J sc_9 J) (.sA (.fieldAddr J YaG J) (.sA (.load J sc_9 J) (.sA (.slss J J J) ?_)))
 refine .mA ?_
 refine .split 10 J (fun g1 => ?_) (fun g1 => ?_)
 ·skip
  rw [bf_1 g1]
  refine .pA ?_
  refine .pA ?_
  refine .pA ?_
  refine .pA ?_
  refine .pA ?_
  refine .pA ?_
  refine .pass ⟨16, J, .inr ⟨J, J⟩⟩ J J ?_
  refine .pass ⟨16, J, .inr ⟨J, J⟩⟩ J J ?_
  refine .pass ⟨16, J, .inr ⟨J, J⟩⟩ J J ?_
  refine .pass ⟨16, J, .inr ⟨J, J⟩⟩ J J ?_
  refine .pass ⟨16, J, .inr ⟨J, J⟩⟩ J J ?_
  refine .pA ?_
  refine .sA (.pickT J J J) ?_
  refine .aN ?_
  refine .ret (rD J ?_)
  all_goals (rfl)
 have n1 := g1
 refine .sG (.fieldAddr J YaG J) ?_
 refine .sG (.load J sc_9 J) ?_
 refine .sG (.fieldAddr J YaG J) ?_
 refine .sG (.load J sc_9 J) ?_
 refine .sG (.seql J J J) ?_
 refine .sG (.moveD J J) ?_
 refine .sT 16 J (fun g2 => ?_) fun g2 => ?_
 ·rw [bf_3 g2]
  refine .sG (.fieldAddr J YaV J) ?_
  refine .sG (.load J sc_3 J) ?_
  refine .sG (.fieldAddr J YaV J) ?_
  refine .sG (.load J sc_3 J) ?_
  refine .sG (.lss J J J) ?_
  refine .sG (.pickT J J J) ?_
  refine .sA (.pickF J J J) ?_
  refine .aN ?_
  refine .ret (rD J ?_)
  all_goals (rfl)
 rw [bf_2 n1 g2]
 refine .pA ?_
 refine .pA ?_
 refine .pA ?_
 refine .pA ?_
 refine .pA ?_
 refine .sG (.pickF J J J) ?_
 refine .sA (.pickF J J J) ?_
 refine .aN ?_
 refine .ret (rD J ?_)
 all_goals (rfl)
theorem c_pLog (l : List Rpt) (hl : ∀ x ∈ l, okRpt x) : Ya3 Tryz.prog MaxT 29 [.sl (l.map Rpt.ds)] (.v (.int .i64 (logF l))) := by
 refine YaF (n := 34) (ds' := [.v (.int .i64 (logF l))]) Tryz.func29 J (by kernel_rfl) J [2] J J ?_
 intro B w0 F0 hT
 refine .sr (.aN ?_)
 refine .seq (.sr (.mA ?_))
 refine .sA (.lenSl J et_22.ht J) ?_
 refine .sA (.gtr J J J) (.nil ?_)
 refine .cT J (fun h1 => ?_) fun h1 => ?_
 ·rw [ZlM] at h1
  have HR : logF l = 2 := if_pos (by omega)
  refine .sr (.aN ?_)
  refine .ret (rD J ?_)
  all_goals (first | rw [HR] | (rw [HX, Yab (f := repF l) hk.2 (by unfold repF; rw [dif_pos hlt]; grind) _ hlt]; unfold repF; rw [dif_pos hlt]; grind))
 rw [ZlM] at h1
 have HX : logF l = ffst (repF l) l.length := if_neg (by omega)
 refine .skip (.seq (.sr (.mA ?_)))
 refine .sA (.lenSl J et_22.ht J) ?_
 refine .mN ?_
 refine .block (.loop (G := Nat) (fun k => Env.of [(11, .iv k), (9, .d (.sl (l.map Rpt.ds))), (10, .iv (l.map Rpt.ds).length), (0, .d (.sl (l.map Rpt.ds)))]) (fun k => []) (fun k => k <= l.length /\ ffst (repF l) k = 0) (fun k => l.length - k) 0 ⟨ZnZ _, J⟩ (Sub.less ⟨U, U, U, U, trivial⟩ (fun _ h => h)) ?_)
 intro k hk
 refine .sr (.sA (.lss J J J) (.nil ?_))
 refine .seq (.cT J (fun h2 => ?_) fun h2 => ?_)
 ·rw [ZlM] at h2
  have hlt : k < l.length := by omega
  have hbk := hl _ (ZgM hlt)
  refine .skip (.seq (.block (.sr (.mA ?_))))
  refine .sA (.indexAddr J et_22 J J k J (Yad hlt) J) (.sA (.loadAgg J Ycq J J) ?_)
  refine .alloc 101 J J J J zt_80 J J J ?_
  refine .aA ?_
  refine .store J J J sz_80 J (.head _) J J J (ZnB J) ?_
  refine .freezeCells 4 (ds := l[k].ds) J (.head _) (.nil ?_)
  refine .seq (.sr (.sA (.loadAgg J Ycq J J) ?_))
  -- wants the world
  refine .callT J J J hT Yan J (.cons (.rfl' J) .nil) (c_pRpt _ hbk) ?_
  refine .aN ?_
  refine .sr (.mA ?_)
  refine .sA (.neq J J J) (.nil ?_)
  refine .cT J (fun h3 => ?_) fun h3 => ?_
  ·have n1 : rptF l[k] ≠ 0 := by omega
   refine .sr (.mA ?_)
   refine .aN ?_
   refine .ret (rD J ?_)
   all_goals (first | rw [HR] | (rw [HX, Yab (f := repF l) hk.2 (by unfold repF; rw [dif_pos hlt]; grind) _ hlt]; unfold repF; rw [dif_pos hlt]; grind))
  have n1 : ¬ rptF l[k] ≠ 0 := by omega
  refine .skip (.seq (.draw (by kernel_rfl) (by kernel_rfl) ?_))
  refine .sA (.moveD J J) (.sA (.gtr J J J) (.sA (.moveD J J) ?_))
  refine .sT 23 J (fun g4 => ?_) fun g4 => ?_
  ·have hk0 : 0 < k := by omega
   refine .sG (.moveD J J) ?_
   refine .sG (.moveD J J) ?_
   refine .sG (.sub64 J J J) ?_
   refine .sG (.indexAddr J et_22 J J (k - 1) (by omega) (Yad (by omega)) J) ?_
   refine .sG (.loadAgg J Ycq J J) ?_
   refine .sG (.loadAgg J Ycq J J) ?_
   refine .sG (.call J (.cons (.rfl' J) (.cons (.rfl' J) .nil)) (c_cmpRpt _ _)) ?_
   refine .sG (.geq J J J) ?_
   refine .sA (.pickT J J J) ?_
   refine .nil ?_
   refine .cT J (fun h5 => ?_) fun h5 => ?_
   ·have n3 : (0 < k /\ 0 <= rCmp (l[k-1]'(by omega)) l[k]) := ⟨hk0, by omega⟩
    refine .sr (.aN ?_)
    refine .ret (rD J ?_)
    all_goals (first | rw [HR] | (rw [HX, Yab (f := repF l) hk.2 (by unfold repF; rw [dif_pos hlt]; grind) _ hlt]; unfold repF; rw [dif_pos hlt]; grind))
   have n3 : ¬ (0 < k /\ 0 <= rCmp (l[k-1]'(by omega)) l[k]) := fun hh => by have := hh.2; omega
   refine .skip (.region (.sA (.add64 J J J) ?_))
   refine .mN ?_
   refine ⟨k + 1, ⟨by omega, Yag hk.2 (by unfold repF; rw [dif_pos hlt]; grind)⟩, (by dsimp only; omega), Sub.less ⟨U, U, U, U, trivial⟩ (fun _ h => h)⟩
  have n3 : ¬ (0 < k /\ 0 <= rCmp (l[k-1]'(by omega)) l[k]) := fun hh => by omega
  refine .pA ?_
  refine .pA ?_
  refine .pA ?_
  refine .pA ?_
  refine .pA ?_
  refine .pA ?_
  refine .pA ?_
  refine .pA ?_
  refine .sA (.pickF J J J) ?_
  refine .nil ?_
  refine .cond J (fun h => nomatch h) (fun _ => ?_)
  refine .skip (.region (.sA (.add64 J J J) ?_))
  refine .mN ?_
  refine ⟨k + 1, ⟨by omega, Yag hk.2 (by unfold repF; rw [dif_pos hlt]; grind)⟩, (by dsimp only; omega), Sub.less ⟨U, U, U, U, trivial⟩ (fun _ h => h)⟩
 rw [ZlM] at h2
 have HR : logF l = 0 := by rw [HX, show l.length = k by omega]; exact hk.2
 refine .exit (.sr (.aN ?_))
 refine .ret (rD J ?_)
 all_goals (first | rw [HR] | (rw [HX, Yab (f := repF l) hk.2 (by unfold repF; rw [dif_pos hlt]; grind) _ hlt]; unfold repF; rw [dif_pos hlt]; grind))
theorem c_rLog (l : List Rpt) (hl : ∀ x ∈ l, okRpt x) : Ya3 Tryz.prog MaxT 33 [.sl (l.map Rpt.ds)] (.v (.int .i64 (logF l))) := by
 refine YaF (n := 34) (ds' := [.v (.int .i64 (logF l))]) Tryz.func33 J (by kernel_rfl) J [2] J J ?_
 intro B w0 F0 hT
 refine .sr (.aN ?_)
 refine .seq (.sr (.mA ?_))
 refine .sA (.lenSl J et_22.ht J) ?_
 refine .sA (.gtr J J J) (.nil ?_)
 refine .cT J (fun h1 => ?_) fun h1 => ?_
 ·rw [ZlM] at h1
  have HR : logF l = 2 := if_pos (by omega)
  refine .sr (.aN ?_)
  refine .ret (rD J ?_)
  all_goals (first | rw [HR] | (rw [HX, Yab (f := repF l) hk.2 (by unfold repF; rw [dif_pos hlt]; grind) _ hlt]; unfold repF; rw [dif_pos hlt]; grind))
 rw [ZlM] at h1
 have HX : logF l = ffst (repF l) l.length := if_neg (by omega)
 refine .skip (.seq (.sr (.mA ?_)))
 refine .sA (.lenSl J et_22.ht J) ?_
 refine .mN ?_
 refine .block (.loop (G := Nat) (fun k => Env.of [(11, .iv k), (9, .d (.sl (l.map Rpt.ds))), (10, .iv (l.map Rpt.ds).length), (0, .d (.sl (l.map Rpt.ds)))]) (fun k => []) (fun k => k <= l.length /\ ffst (repF l) k = 0) (fun k => l.length - k) 0 ⟨ZnZ _, J⟩ (Sub.less ⟨U, U, U, U, trivial⟩ (fun _ h => h)) ?_)
 intro k hk
 refine .sr (.sA (.lss J J J) (.nil ?_))
 refine .seq (.cT J (fun h2 => ?_) fun h2 => ?_)
 ·rw [ZlM] at h2
  have hlt : k < l.length := by omega
  have hbk := hl _ (ZgM hlt)
  refine .skip (.seq (.block (.sr (.mA ?_))))
  refine .sA (.indexAddr J et_22 J J k J (Yad hlt) J) (.sA (.loadAgg J Ycq J J) ?_)
  refine .alloc 101 J J J J zt_80 J J J ?_
  refine .aA ?_
  refine .store J J J sz_80 J (.head _) J J J (ZnB J) ?_
  refine .freezeCells 4 (ds := l[k].ds) J (.head _) (.nil ?_)
  refine .seq (.sr (.sA (.loadAgg J Ycq J J) ?_))
  -- wants the world
  refine .callT J J J hT Yan J (.cons (.rfl' J) .nil) (c_rRpt _ hbk) ?_
  refine .aN ?_
  refine .sr (.mA ?_)
  refine .sA (.neq J J J) (.nil ?_)
  refine .cT J (fun h3 => ?_) fun h3 => ?_
  ·have n1 : rptF l[k] ≠ 0 := by omega
   refine .sr (.mA ?_)
   refine .aN ?_
   refine .ret (rD J ?_)
   all_goals (first | rw [HR] | (rw [HX, Yab (f := repF l) hk.2 (by unfold repF; rw [dif_pos hlt]; grind) _ hlt]; unfold repF; rw [dif_pos hlt]; grind))
  have n1 : ¬ rptF l[k] ≠ 0 := by omega
  refine .skip (.seq (.draw (by kernel_rfl) (by kernel_rfl) ?_))
  refine .sA (.moveD J J) (.sA (.gtr J J J) (.sA (.moveD J J) ?_))
  refine .sT 23 J (fun g4 => ?_) fun g4 => ?_
  ·have hk0 : 0 < k := by omega
   refine .sG (.moveD J J) ?_
   refine .sG (.moveD J J) ?_
   refine .sG (.sub64 J J J) ?_
   refine .sG (.indexAddr J et_22 J J (k - 1) (by omega) (Yad (by omega)) J) ?_
   refine .sG (.loadAgg J Ycq J J) ?_
   refine .sG (.loadAgg J Ycq J J) ?_
   refine .sG (.call J (.cons (.rfl' J) (.cons (.rfl' J) .nil)) (c_before _ _)) ?_
   refine .sG (.not J J) ?_
   refine .sA (.pickT J J J) ?_
   refine .nil ?_
   refine .cond J (fun h5 => ?_) (fun h5 => ?_)
   ·replace h5 := Ybb h5
    have n3 : (0 < k /\ 0 <= rCmp (l[k-1]'(by omega)) l[k]) := ⟨hk0, ltR_no h5⟩
    refine .sr (.aN ?_)
    refine .ret (rD J ?_)
    all_goals (first | rw [HR] | (rw [HX, Yab (f := repF l) hk.2 (by unfold repF; rw [dif_pos hlt]; grind) _ hlt]; unfold repF; rw [dif_pos hlt]; grind))
   replace h5 := Ybc h5
   have n3 : ¬ (0 < k /\ 0 <= rCmp (l[k-1]'(by omega)) l[k]) := fun hh => ltR_yes h5 hh.2
   refine .skip (.region (.sA (.add64 J J J) ?_))
   refine .mN ?_
   refine ⟨k + 1, ⟨by omega, Yag hk.2 (by unfold repF; rw [dif_pos hlt]; grind)⟩, (by dsimp only; omega), Sub.less ⟨U, U, U, U, trivial⟩ (fun _ h => h)⟩
  have n3 : ¬ (0 < k /\ 0 <= rCmp (l[k-1]'(by omega)) l[k]) := fun hh => by omega
  refine .pA ?_
  refine .pA ?_
  refine .pA ?_
  refine .pA ?_
  refine .pA ?_
  refine .pA ?_
  refine .pA ?_
  refine .pA ?_
  refine .sA (.pickF J J J) ?_
  refine .nil ?_
  refine .cond J (fun h => nomatch h) (fun _ => ?_)
  refine .skip (.region (.sA (.add64 J J J) ?_))
  refine .mN ?_
  refine ⟨k + 1, ⟨by omega, Yag hk.2 (by unfold repF; rw [dif_pos hlt]; grind)⟩, (by dsimp only; omega), Sub.less ⟨U, U, U, U, trivial⟩ (fun _ h => h)⟩
 rw [ZlM] at h2
 have HR : logF l = 0 := by rw [HX, show l.length = k by omega]; exact hk.2
 refine .exit (.sr (.aN ?_))
 refine .ret (rD J ?_)
 all_goals (first | rw [HR] | (rw [HX, Yab (f := repF l) hk.2 (by unfold repF; rw [dif_pos hlt]; grind) _ hlt]; unfold repF; rw [dif_pos hlt]; grind))
open Go.Lib
theorem SLe.fn (f : Nat) : SLe (.d (.v (.func (.func f) #[] #[]))) (.d (.clo (.func f) [])) := fun F ρ w x h => by
 cases Ya0 h
 exact .d (.clo _ [] [] J (fun i h => absurd h (Nat.not_lt_zero i)))
theorem ArgOk.fn {e : Env} {x : Operand} {f : Fn} (h : e.ev x = .d (.v (.func f #[] #[]))) : ArgOk e x (.clo f []) := ⟨_, h, fun F w y hy => by
 rw [rep_v hy]
 exact .clo f [] [] rfl (fun i h1 => absurd h1 (by simp))⟩
theorem Yaj {i e s : Nat} {els els' : List (List D)} {τ : Obs} (h : els = els') : ∀ p ∈ [(i, Ob.row e s els')], p ∈ (i, Ob.row e s els) :: τ := fun p hp => by
 subst h
 rw [ZmS] at hp; subst hp; exact .head _
theorem rpt_lines {x : Rpt} (h : rptF x = 0) : x.lines.length <= 100 := by
 unfold rptF at h
 split at h
 ·omega
 ·split at h
  ·omega
  ·split at h
   ·omega
   ·omega
def bsr (lt : Nat -> Bool) (i j : Nat) : Nat := if h : i < j then (if lt ((i + j) / 2) = true then bsr lt ((i + j) / 2 + 1) j else bsr lt i ((i + j) / 2)) else i
termination_by j - i
decreasing_by all_goals omega
theorem bsr_up {lt : Nat -> Bool} {i j : Nat} (h : i < j) (h2 : lt ((i + j) / 2) = true) : bsr lt i j = bsr lt ((i + j) / 2 + 1) j := by rw [bsr, dif_pos h, if_pos h2]
theorem bsr_dn {lt : Nat -> Bool} {i j : Nat} (h : i < j) (h2 : lt ((i + j) / 2) = false) : bsr lt i j = bsr lt i ((i + j) / 2) := by rw [bsr, dif_pos h, if_neg (by rw [h2]; simp)]
theorem bsr_end {lt : Nat -> Bool} {i j : Nat} (h : ¬ i < j) : bsr lt i j = i := by rw [bsr, dif_neg h]
theorem bsr_le {lt : Nat -> Bool} : ∀ (n i j : Nat), j - i <= n -> i <= j -> i <= bsr lt i j /\ bsr lt i j <= j
 | 0, i, j, h, hij => by rw [bsr_end (by omega)]; omega
 | n + 1, i, j, h, hij => by
  by_cases hlt : i < j
  ·by_cases hb : lt ((i + j) / 2) = true
   ·rw [bsr_up hlt hb]
    have := bsr_le (lt := lt) n ((i + j) / 2 + 1) j (by omega) (by omega)
    omega
   ·rw [bsr_dn hlt (by simpa using hb)]
    have := bsr_le (lt := lt) n i ((i + j) / 2) (by omega) (by omega)
    omega
  ·rw [bsr_end hlt]; omega
theorem bsr_spec {lt : Nat -> Bool} (hm : ∀ a b, a <= b -> lt b = true -> lt a = true) : ∀ (n i j : Nat), j - i <= n -> i <= j -> (∀ k, k < i -> lt k = true) -> (∀ k, i <= k -> k < bsr lt i j -> lt k = true) /\ (∀ k, bsr lt i j <= k -> k < j -> lt k = false)
 | 0, i, j, h, hij, _ => by rw [bsr_end (by omega)]; exact ⟨fun k h1 h2 => by omega, fun k h1 h2 => by omega⟩
 | n + 1, i, j, h, hij, h0 => by
  by_cases hlt : i < j
  ·by_cases hb : lt ((i + j) / 2) = true
   ·rw [bsr_up hlt hb]
    have h1 := bsr_spec hm n ((i + j) / 2 + 1) j (by omega) (by omega) (fun k hk => hm k _ (by omega) hb)
    refine ⟨fun k h2 h3 => ?_, h1.2⟩
    by_cases hk : k <= (i + j) / 2
    ·exact hm k _ hk hb
    ·exact h1.1 k (by omega) h3
   ·have hb' : lt ((i + j) / 2) = false := by simpa using hb
    rw [bsr_dn hlt hb']
    have h1 := bsr_spec hm n i ((i + j) / 2) (by omega) (by omega) h0
    refine ⟨h1.1, fun k h2 h3 => ?_⟩
    by_cases hk : k < (i + j) / 2
    ·exact h1.2 k h2 hk
    ·cases hlk : lt k with
     | false => rfl
     | true => rw [hm _ k (by omega) hlk] at hb'; simp at hb'
  ·rw [bsr_end hlt]; exact ⟨fun k h1 h2 => by omega, fun k h1 h2 => by omega⟩
end
section
open Go.RowKit Go.MapKept
def MGetOk (M : List (Value × D)) (key : Value) (z d : D) (ok : Bool) : Prop := (ok = true /\ ∃ i, M[i]? = some (key, d) /\ ∀ (j : Nat) (p : Value × D), M[j]? = some p -> p.1 = key -> j = i) \/ (ok = false /\ (∀ p ∈ M, p.1 ≠ key) /\ d = z)
theorem rep_agg2 {F : Nat -> Prop} {w : World} {v k1 k2 : Value} (h : Rep F w v (.agg [.v k1, .v k2])) : v = .agg #[k1, k2] := by
 cases h with
 | agg cs _ hl hone h =>
  obtain ⟨a, b, rfl⟩ : ∃ a b, cs = [a, b] := by
   match cs, hl with
   | [a, b], _ => exact ⟨a, b, rfl⟩
  have h1 := h 0 (by simp) (by simp)
  have h2 := h 1 (by simp) (by simp)
  simp only [List.getElem_cons_zero, List.getElem_cons_succ] at h1 h2
  rw [rep_v h1, rep_v h2]
section
variable {cx : Cx} {ops : Array Oper} {o : Oper} {rest : List Oper} {e : Env} {σ σ' : Obs} {Q : Post} {P : Program} {B : Nat}
theorem EOp.mapUpdateK {t k et : TypeId} {id : Nat} {m x v : Operand} {key k1 k2 : Value} {d : D} {M M' : List (Value × D)}  (hdst : o.dst = none) (ho : o.op = .mapUpdate t m x v) (ht : cx.P.underlying t = some (.map k et)) (K : Maps.Keyed cx.P k) (hm : e.ev m = .own id) (hmem : (id, Ob.map M) ∈ σ)
 (hx : e.ev x = .d (.agg [.v k1, .v k2])) (hke : key = .agg #[k1, k2]) (hv : e.ev v = .d d) (hg : ∃ l, keyOf cx.P k key = some l) (hgs : ∀ p ∈ M, ∃ l, keyOf cx.P k p.1 = some l) (hp : MPut M key d M') : EOp cx ops o e σ (Obs.upd id (.map M') σ) := by
 intro F ρ a w e0 hr ha
 have hop : ∀ y ∈ o.op.operands.toList, RepS F ρ w (a.eval y) (e.ev y) := fun y hy => YaC fun t ht => ha t (YaM (by rw [<- ht]; exact hy))
 have r1 := hop m (by rw [ho]; simp [Op.operands])
 have r2 := hop x (by rw [ho]; simp [Op.operands])
 have r3 := hop v (by rw [ho]; simp [Op.operands])
 rw [hm] at r1
 rw [hx] at r2
 rw [hv] at r3
 obtain ⟨b, es, clock, hρ, hB, hF, hh, hMC, hall⟩ := hr.obs.ok _ hmem
 have hl := hMC.size
 dsimp only at hρ
 have hmv : a.eval m = .map (some b) := by rw [<- hρ]; generalize a.eval m = u at r1; cases r1; rfl
 have hxv := (rep_agg2 (Yao r2)).trans hke.symm
 have r3' := Yao r3
 have hks : ∀ en ∈ es.toList, ∃ l, keyOf cx.P k en.key = some l := fun en hen => by
  obtain ⟨j, hj⟩ := List.mem_iff_getElem?.1 hen
  obtain ⟨p, h1, h2, _⟩ := Yb0 hl hall hj
  rw [h2]; exact hgs p (List.mem_of_getElem? h1)
 obtain ⟨kl, hkl⟩ := hg
 have hblk : blk (ρ id) = some b := by rw [hρ]; rfl
 unfold Oper.wp execOp
 simp only [ho, hmv, hxv]
 rcases K.find w hkl es.toList hks with ⟨h1, h2⟩ | ⟨j, en, h1, h2, h3⟩
 ·have hrun : (Instr.mapUpdate t (.map (some b)) key (a.eval v)).run cx.P w = .ok () { w with heap := w.heap.setIfInBounds b (.map (es.push { key := key, val := a.eval v, born := clock }) (clock + 1)) } := by
   simp [Instr.mapUpdate, run_underlying ht, MapKept.run_getObj_map hh, K.check w _ hkl, h1, MapKept.run_setObj_map _ hh, Result.andThen]
  rw [Sem.run_bind, hrun]
  refine ⟨by rw [hdst]; rfl, fun e2 hr2 => ⟨F, ρ, hr2.writeOb hblk hmem hB hF YbU ?_⟩⟩
  have hM' : M' = M ++ [(key, d)] := by
   rcases hp with ⟨i, d0, hi, _, _⟩ | ⟨_, hM'⟩
   ·exfalso
    have hil : i < M.length := (ZgS.1 hi).1
    have h4 := (hall i (by omega) hil).1
    have h5 : M[i] = (key, d0) := (ZgS.1 hi).2
    rw [h5] at h4
    exact h2 es[i] (by simp) h4
   ·exact hM'
  have hkeep : ∀ {u : Value} {y : D}, Rep F w u y -> Rep F { w with heap := w.heap.setIfInBounds b (.map (es.push { key := key, val := a.eval v, born := clock }) (clock + 1)) } u y := fun h => h.mono (fun _ h => h) fun c hc => by
   have : b ≠ c := fun h => hF (by rw [h]; exact hc)
   simp [this]
  subst hM'
  refine ⟨b, _, _, hρ, hB, hF, (MapKept.heap_set hh).1, by simpa using hMC.push key (a.eval v), fun i hi hi' => ?_⟩
  by_cases hc : i < es.size
  ·have hc' : i < M.length := by omega
   rw [Array.getElem_push_lt hc, ZgL hc']
   exact ⟨(hall i hc hc').1, hkeep (hall i hc hc').2⟩
  ·have : i = es.size := by simp at hi; omega
   subst this
   rw [Array.getElem_push_eq, ZgR (by omega)]
   simp only [hl, Nat.sub_self, List.getElem_cons_zero]
   exact ⟨trivial, hkeep r3'⟩
 ·have hjs : j < es.size := by simpa using (ZgS.1 h2).1
  have hej : es[j] = en := by have := (ZgS.1 h2).2; simpa using this
  have hrun : (Instr.mapUpdate t (.map (some b)) key (a.eval v)).run cx.P w = .ok () { w with heap := w.heap.setIfInBounds b (.map (es.modify j fun e => { e with key := key, val := a.eval v }) clock) } := by
   have h0 : ((es[j]?).map (·.key)).getD key = key := by rw [Array.getElem?_eq_getElem hjs, hej]; simp [h3]
   simp only [Instr.mapUpdate, run_underlying ht, Sem.run_bind, Result.andThen_ok, MapKept.run_getObj_map hh, K.check w _ hkl, h1, h0, K.stays w hkl, MapKept.run_setObj_map _ hh]
  rw [Sem.run_bind, hrun]
  refine ⟨by rw [hdst]; rfl, fun e2 hr2 => ⟨F, ρ, hr2.writeOb hblk hmem hB hF YbU ?_⟩⟩
  have hjl : j < M.length := by omega
  have hkj : M[j].1 = key := by rw [<- (hall j hjs hjl).1, hej]; exact h3
  have hM' : M' = M.set j (key, d) := by
   rcases hp with ⟨i, d0, hi, hu, hM'⟩ | ⟨hno, _⟩
   ·have := hu j M[j] (ZgE hjl) hkj
    rw [this]; exact hM'
   ·exact absurd hkj (hno _ (ZgM hjl))
  have hkeep : ∀ {u : Value} {y : D}, Rep F w u y -> Rep F { w with heap := w.heap.setIfInBounds b (.map (es.modify j fun e => { e with key := key, val := a.eval v }) clock) } u y := fun h => h.mono (fun _ h => h) fun c hc => by
   have : b ≠ c := fun h => hF (by rw [h]; exact hc)
   simp [this]
  subst hM'
  refine ⟨b, _, _, hρ, hB, hF, (MapKept.heap_set hh).1, by rw [List.length_set]; exact hMC.modify _ _ (fun _ => J), fun i hi hi' => ?_⟩
  have hc : i < es.size := by simpa using hi
  have hc' : i < M.length := by omega
  rw [Array.getElem_modify, List.getElem_set]
  by_cases hij : j = i
  ·rw [if_pos hij, if_pos hij]
   exact ⟨J, hkeep r3'⟩
  ·rw [if_neg hij, if_neg hij]
   exact ⟨(hall i hc hc').1, hkeep (hall i hc hc').2⟩
theorem AOp.lookupK {x ix : Operand} {t k et : TypeId} {id : Nat} {M : List (Value × D)} {key z k1 k2 : Value} {d : D}  (ho : o.op = .lookup t x ix false) (ht : P.underlying t = some (.map k et)) (K : Maps.Keyed P k) (hz : (P.info? et).bind (·.zero) = some z) (hx : e.ev x = .own id) (hm : (id, Ob.map M) ∈ σ)
 (hi : e.ev ix = .d (.agg [.v k1, .v k2])) (hke : key = .agg #[k1, k2]) (hg : ∃ l, keyOf P k key = some l) (hgs : ∀ p ∈ M, ∃ l, keyOf P k p.1 = some l) (hd : MGet M key (.v z) d) : AOp P B ops o e σ (.d d) := .value fun F ρ w a hF hr hσ => by
 have h1 := hr x (by rw [ho]; simp [Op.operands])
 have h2 := hr ix (by rw [ho]; simp [Op.operands])
 rw [hx] at h1
 rw [hi] at h2
 have hxv := (rep_agg2 (Yao h2)).trans hke.symm
 obtain ⟨b, es, clock, hρ, hB, hFb, hh, ⟨hl, _, _⟩, hall⟩ := hσ.ok _ hm
 dsimp only at hρ
 have hv : a.eval x = .map (some b) := by rw [<- hρ]; generalize a.eval x = u at h1; cases h1; rfl
 have hks : ∀ en ∈ es.toList, ∃ l, keyOf P k en.key = some l := fun en hen => by
  obtain ⟨j, hj⟩ := List.mem_iff_getElem?.1 hen
  obtain ⟨p, h1, h2, _⟩ := Yb0 hl hall hj
  rw [h2]; exact hgs p (List.mem_of_getElem? h1)
 obtain ⟨kl, hkl⟩ := hg
 obtain ⟨ti, hti, hzz⟩ := Option.bind_eq_some_iff.1 hz
 have hprog : (program : Sem Program).run P w = .ok P w := rfl
 rcases K.find w hkl es.toList hks with ⟨h3, h4⟩ | ⟨j, en, h3, h4, h5⟩
 ·refine ⟨z, F, w, ?_, ?_, Ext.refl hF⟩
  ·unfold execOp
   simp only [ho, hv, hxv, Sem.run_bind]
   simp [Instr.lookup, run_underlying ht, MapKept.run_getObj_map hh, K.check w _ hkl, h3, zeroValue, typeInfo, hti, hzz, Result.andThen]
  ·rcases hd with ⟨i, hi2, _⟩ | ⟨_, rfl⟩
   ·exfalso
    have hil : i < M.length := (ZgS.1 hi2).1
    have h6 := (hall i (by omega) hil).1
    rw [(ZgS.1 hi2).2] at h6
    exact h4 es[i] (by simp) h6
   ·exact .d (.v _)
 ·have hjs : j < es.size := by simpa using (ZgS.1 h4).1
  have hej : es[j] = en := by have := (ZgS.1 h4).2; simpa using this
  have hjl : j < M.length := by omega
  refine ⟨en.val, F, w, ?_, ?_, Ext.refl hF⟩
  ·unfold execOp
   simp only [ho, hv, hxv, Sem.run_bind]
   simp [Instr.lookup, run_underlying ht, MapKept.run_getObj_map hh, K.check w _ hkl, h3, Result.andThen]
  ·have hkj : M[j].1 = key := by rw [<- (hall j hjs hjl).1, hej]; exact h5
   rcases hd with ⟨i, hi2, hu⟩ | ⟨hno, _⟩
   ·have := hu j M[j] (ZgE hjl) hkj
    subst this
    have h6 := (hall j hjs hjl).2
    rw [(ZgS.1 hi2).2, hej] at h6
    exact .d h6
   ·exact absurd hkj (hno _ (ZgM hjl))
theorem AOp.lookupOkK {x ix : Operand} {t k et : TypeId} {id : Nat} {M : List (Value × D)} {key z k1 k2 : Value} {d : D}  (ho : o.op = .lookup t x ix true) (ht : P.underlying t = some (.map k et)) (K : Maps.Keyed P k) (hz : (P.info? et).bind (·.zero) = some z) (hx : e.ev x = .own id) (hm : (id, Ob.map M) ∈ σ)
 (hi : e.ev ix = .d (.agg [.v k1, .v k2])) (hke : key = .agg #[k1, k2]) (hg : ∃ l, keyOf P k key = some l) (hgs : ∀ p ∈ M, ∃ l, keyOf P k p.1 = some l) (ok : Bool) (hd : MGetOk M key (.v z) d ok) : AOp P B ops o e σ (.d (.tup [d, .v (.bool ok)])) := .value fun F ρ w a hF hr hσ => by
 have h1 := hr x (by rw [ho]; simp [Op.operands])
 have h2 := hr ix (by rw [ho]; simp [Op.operands])
 rw [hx] at h1
 rw [hi] at h2
 have hxv := (rep_agg2 (Yao h2)).trans hke.symm
 obtain ⟨b, es, clock, hρ, hB, hFb, hh, ⟨hl, _, _⟩, hall⟩ := hσ.ok _ hm
 dsimp only at hρ
 have hv : a.eval x = .map (some b) := by rw [<- hρ]; generalize a.eval x = u at h1; cases h1; rfl
 have hks : ∀ en ∈ es.toList, ∃ l, keyOf P k en.key = some l := fun en hen => by
  obtain ⟨j, hj⟩ := List.mem_iff_getElem?.1 hen
  obtain ⟨p, h1, h2, _⟩ := Yb0 hl hall hj
  rw [h2]; exact hgs p (List.mem_of_getElem? h1)
 obtain ⟨kl, hkl⟩ := hg
 obtain ⟨ti, hti, hzz⟩ := Option.bind_eq_some_iff.1 hz
 have hprog : (program : Sem Program).run P w = .ok P w := rfl
 rcases K.find w hkl es.toList hks with ⟨h3, h4⟩ | ⟨j, en, h3, h4, h5⟩
 ·refine ⟨.tuple #[z, .bool false], F, w, ?_, ?_, Ext.refl hF⟩
  ·unfold execOp
   simp only [ho, hv, hxv, Sem.run_bind]
   simp [Instr.lookup, run_underlying ht, MapKept.run_getObj_map hh, K.check w _ hkl, h3, zeroValue, typeInfo, hti, hzz, Result.andThen]
  ·rcases hd with ⟨_, i, hi2, _⟩ | ⟨hok, _, rfl⟩
   ·exfalso
    have hil : i < M.length := (ZgS.1 hi2).1
    have h6 := (hall i (by omega) hil).1
    rw [(ZgS.1 hi2).2] at h6
    exact h4 es[i] (by simp) h6
   ·subst hok
    exact .d (.tup [_, _] [_, _] J (fun i a b => by
     match i, a with
     | 0, _ => exact .v _
     | 1, _ => exact .v _))
 ·have hjs : j < es.size := by simpa using (ZgS.1 h4).1
  have hej : es[j] = en := by have := (ZgS.1 h4).2; simpa using this
  have hjl : j < M.length := by omega
  refine ⟨.tuple #[en.val, .bool true], F, w, ?_, ?_, Ext.refl hF⟩
  ·unfold execOp
   simp only [ho, hv, hxv, Sem.run_bind]
   simp [Instr.lookup, run_underlying ht, MapKept.run_getObj_map hh, K.check w _ hkl, h3, Result.andThen]
  ·have hkj : M[j].1 = key := by rw [<- (hall j hjs hjl).1, hej]; exact h5
   rcases hd with ⟨hok, i, hi2, hu⟩ | ⟨_, hno, _⟩
   ·have := hu j M[j] (ZgE hjl) hkj
    subst this
    have h6 := (hall j hjs hjl).2
    rw [(ZgS.1 hi2).2, hej] at h6
    subst hok
    exact .d (.tup [_, _] [_, _] J (fun i a b => by
     match i, a with
     | 0, _ => exact h6
     | 1, _ => exact .v _))
   ·exact absurd hkj (hno _ (ZgM hjl))
end
end
section
open Go.RowKit
open Ty
theorem krow : (212 : TypeId) < Tryz.prog.types.size := dcT (by kernel_rfl)
theorem kwide : (match Tryz.prog.underlying 212 with | some (.array _ _) | some (.struct _) => true | _ => false) = true := by kernel_rfl
theorem klaid : laidOutB Tryz.prog = true := by kernel_rfl
theorem kroot : Maps.Keyed Tryz.prog 212 := Maps.Keyed.of_law (deep_law_laid klaid (m := 3) (by omega) krow (by kernel_rfl) kwide)
def keyV (k : ByteArray × Int) : Value := .agg #[.string k.1, .int .i64 k.2]
def isStrT (o : Option TypeDesc) : Bool := match o with
 | some .string => true
 | _ => false
def isI64T (o : Option TypeDesc) : Bool := match o with
 | some (.int .i64) => true
 | _ => false
theorem isStrT_eq {o : Option TypeDesc} (h : isStrT o = true) : o = some .string := by
 unfold isStrT at h
 split at h
 ·rfl
 ·cases h
theorem isI64T_eq {o : Option TypeDesc} (h : isI64T o = true) : o = some (.int .i64) := by
 unfold isI64T at h
 split at h
 ·rfl
 ·cases h
def keyB (P : Program) (k : TypeId) : Bool := match P.underlying k with
 | some (.struct fs) => (match fs.toList with
  | [f, g] => f.name != "_" && g.name != "_" && f.offset == 0 && g.offset == 1 && isStrT (P.underlying f.type) && isI64T (P.underlying g.type) && P.cellsOf f.type == 1 && P.cellsOf g.type == 1
  | _ => false) && P.cellsOf k == 2
 | _ => false
theorem keyB_ok {P : Program} {k : TypeId} (h : keyB P k = true) (hk : P.keyType k = true) (h0 : k < P.types.size) (s : ByteArray) (n : Int) (hs : s.size <= maxLen) (hn : (Lit.int .i64 n).wf = true) : ∃ l, keyOf P k (.agg #[.string s, .int .i64 n]) = some l := by
 unfold keyB at h
 cases hu : P.underlying k with
 | none => rw [hu] at h; cases h
 | some td =>
  rw [hu] at h
  cases td <;> try (cases h; done)
  rename_i fs
  simp only [ZbA] at h
  obtain ⟨h1, h2⟩ := h
  cases hf : fs.toList with
  | nil => rw [hf] at h1; cases h1
  | cons f r =>
   cases r with
   | nil => rw [hf] at h1; cases h1
   | cons g r =>
    cases r with
    | cons _ _ => rw [hf] at h1; cases h1
    | nil =>
     rw [hf] at h1
     simp only [ZbA, beq_iff_eq] at h1 h2
     obtain ⟨⟨⟨⟨⟨⟨⟨a1, a2⟩, a3⟩, a4⟩, a5⟩, a6⟩, a7⟩, a8⟩ := h1
     have a5' := isStrT_eq a5
     have a6' := isI64T_eq a6
     obtain ⟨m, hm⟩ : ∃ m, P.types.size = m + 1 := ⟨P.types.size - 1, (Nat.sub_add_cancel (Nat.lt_of_le_of_lt (ZnZ k) h0)).symm⟩
     have hall : fs.all (·.name != "_") = true := by
      rw [<- Array.all_toList, hf]
      simp only [List.all_cons, List.all_nil, a1, a2, Bool.and_self]
     unfold keyOf
     rw [hu]
     simp only [hk, Value.formed, hu, h2, Bool.true_and]
     refine ⟨.string (keyBytes [.string s.data.toList, .int .i64 n]), ?_⟩
     have kf : P.keyLits (m + 1) f.type [.string s] = some [.string s.data.toList] := by
      unfold Program.keyLits
      rw [a5']
      simp [hs]
     have kg : P.keyLits (m + 1) g.type [.int .i64 n] = some [.int .i64 n] := by
      unfold Program.keyLits
      rw [a6']
      simp [hn]
     have c1 : (([Value.string s, .int .i64 n] : List Value).drop f.offset).take (P.cellsOf f.type) = [.string s] := by rw [a3, a7]; rfl
     have c2 : (([Value.string s, .int .i64 n] : List Value).drop g.offset).take (P.cellsOf g.type) = [.int .i64 n] := by rw [a4, a8]; rfl
     have hk2 : P.keyLits (m + 1 + 1) k [.string s, .int .i64 n] = some [.string s.data.toList, .int .i64 n] := by
      unfold Program.keyLits
      rw [hu]
      simp only [List.length_cons, List.length_nil, h2, hall, and_self, if_true, hf, List.mapM_cons, List.mapM_nil, c1, c2, kf, kg]
      rfl
     simp [Value.cells, hm, hk2]
theorem keyV_ok (k : ByteArray × Int) (hs : k.1.size <= maxLen) (hn : -9223372036854775808 <= k.2 /\ k.2 <= 9223372036854775807) : ∃ l, keyOf Tryz.prog 212 (keyV k) = some l :=
 keyB_ok (by kernel_rfl) (by kernel_rfl) krow k.1 k.2 hs (by
  have h1 : IntKind.i64.min = -9223372036854775808 := by decide
  have h2 : IntKind.i64.max = 9223372036854775807 := by decide
  simp only [Lit.wf, ZbA, decide_eq_true_eq, h1, h2]
  exact hn)
abbrev KL := List ((ByteArray × Int) × Int)
def YbO (L : KL) : List (Value × D) := L.map fun p => (keyV p.1, .v (.int .i64 p.2))
theorem keyV_inj {a b : ByteArray × Int} (h : keyV a = keyV b) : a = b := by
 unfold keyV at h
 simp only [Value.agg.injEq] at h
 have h2 : [Value.string a.1, .int .i64 a.2] = [.string b.1, .int .i64 b.2] := congrArg Array.toList h
 simp at h2
 exact Prod.ext h2.1 h2.2
def hasL (L : KL) (k : ByteArray × Int) : Bool := L.any fun p => decide (p.1 = k)
def getL (L : KL) (k : ByteArray × Int) : Int := ((L.find? fun p => decide (p.1 = k)).map (·.2)).getD 0
def putL (L : KL) (k : ByteArray × Int) (v : Int) : KL := if hasL L k = true then L.map (fun p => if p.1 = k then (k, v) else p) else L ++ [(k, v)]
def Nk (L : KL) : Prop := L.Pairwise fun p q => p.1 ≠ q.1
theorem hasL_iff {L : KL} {k : ByteArray × Int} : hasL L k = true ↔ ∃ p ∈ L, p.1 = k := by
 unfold hasL
 rw [List.any_eq_true]
 constructor
 ·rintro ⟨p, h1, h2⟩; exact ⟨p, h1, dcT h2⟩
 ·rintro ⟨p, h1, h2⟩; exact ⟨p, h1, decide_eq_true h2⟩
theorem putL_nk {L : KL} (h : Nk L) (k : ByteArray × Int) (v : Int) : Nk (putL L k v) := by
 unfold putL
 by_cases hh : hasL L k = true
 ·rw [if_pos hh]
  unfold Nk
  rw [List.pairwise_map]
  refine h.imp fun {p q} hpq => ?_
  by_cases h1 : p.1 = k <;> by_cases h2 : q.1 = k
  ·exact absurd (h1.trans h2.symm) hpq
  ·rw [if_pos h1, if_neg h2]; exact fun e => h2 e.symm
  ·rw [if_neg h1, if_pos h2]; exact h1
  ·rw [if_neg h1, if_neg h2]; exact hpq
 ·rw [if_neg hh]
  refine List.pairwise_append.2 ⟨h, by simp, fun p hp q hq => ?_⟩
  rw [ZmS] at hq
  subst hq
  exact fun e => hh (hasL_iff.2 ⟨p, hp, e⟩)
theorem find_map (L : KL) (k k' : ByteArray × Int) (v : Int) : ((L.map fun p => if p.1 = k then (k, v) else p).find? fun p => decide (p.1 = k')) = (L.find? fun p => decide (p.1 = k')).map fun p => if p.1 = k then (k, v) else p := by
 induction L with
 | nil => rfl
 | cons p L ih =>
  rw [List.map_cons, List.find?_cons, List.find?_cons]
  have e : (if p.1 = k then (k, v) else p).1 = p.1 := by
   by_cases h : p.1 = k
   ·rw [if_pos h]; exact h.symm
   ·rw [if_neg h]
  rw [e]
  by_cases h : p.1 = k'
  ·simp [h]
  ·simp only [h, decide_false]; exact ih
theorem get_put (L : KL) (k : ByteArray × Int) (v : Int) (k' : ByteArray × Int) : getL (putL L k v) k' = if k' = k then v else getL L k' := by
 unfold getL putL
 by_cases hh : hasL L k = true
 ·rw [if_pos hh, find_map]
  obtain ⟨p, hp, hk⟩ := hasL_iff.1 hh
  by_cases h : k' = k
  ·subst h
   rw [if_pos rfl]
   cases hf : L.find? fun p => decide (p.1 = k') with
   | none =>
    have := List.find?_eq_none.1 hf p hp
    simp [hk] at this
   | some q =>
    have := List.find?_some hf
    simp only [decide_eq_true_eq] at this
    simp [this]
  ·rw [if_neg h]
   cases hf : L.find? fun p => decide (p.1 = k') with
   | none => rfl
   | some q =>
    have := List.find?_some hf
    simp only [decide_eq_true_eq] at this
    have h2 : ¬ q.1 = k := fun e => h (this.symm.trans e)
    simp [h2]
 ·rw [if_neg hh, List.find?_append]
  by_cases h : k' = k
  ·subst h
   rw [if_pos rfl]
   cases hf : L.find? fun p => decide (p.1 = k') with
   | none => simp
   | some q =>
    have h2 := List.find?_some hf
    simp only [decide_eq_true_eq] at h2
    exact absurd (hasL_iff.2 ⟨q, List.mem_of_find?_eq_some hf, h2⟩) hh
  ·rw [if_neg h]
   cases hf : L.find? fun p => decide (p.1 = k') with
   | none => simp [Ne.symm h]
   | some q => simp
theorem has_put (L : KL) (k : ByteArray × Int) (v : Int) (k' : ByteArray × Int) : hasL (putL L k v) k' = (decide (k' = k) || hasL L k') := by
 rw [Bool.eq_iff_iff, hasL_iff, Bool.or_eq_true, decide_eq_true_eq, hasL_iff]
 unfold putL
 by_cases hh : hasL L k = true
 ·rw [if_pos hh]
  obtain ⟨p0, hp0, hk0⟩ := hasL_iff.1 hh
  constructor
  ·rintro ⟨p, hp, rfl⟩
   obtain ⟨q, hq, rfl⟩ := ZmM.1 hp
   by_cases h : q.1 = k
   ·rw [if_pos h]; exact .inl rfl
   ·rw [if_neg h]; exact .inr ⟨q, hq, rfl⟩
  ·rintro (rfl | ⟨q, hq, rfl⟩)
   ·exact ⟨(k', v), ZmM.2 ⟨p0, hp0, by rw [if_pos hk0]⟩, J⟩
   ·by_cases h : q.1 = k
    ·exact ⟨(k, v), ZmM.2 ⟨q, hq, by rw [if_pos h]⟩, h.symm⟩
    ·exact ⟨q, ZmM.2 ⟨q, hq, by rw [if_neg h]⟩, J⟩
 ·rw [if_neg hh]
  constructor
  ·rintro ⟨p, hp, rfl⟩
   rw [List.mem_append, ZmS] at hp
   rcases hp with hp | rfl
   ·exact .inr ⟨p, hp, J⟩
   ·exact .inl J
  ·rintro (rfl | ⟨q, hq, rfl⟩)
   ·exact ⟨(k', v), List.mem_append.2 (.inr (by simp)), rfl⟩
   ·exact ⟨q, List.mem_append.2 (.inl hq), J⟩
theorem nk_one {L : KL} (h : Nk L) {i j : Nat} (hi : i < L.length) (hj : j < L.length) (he : L[j].1 = L[i].1) : j = i := by
 rcases Nat.lt_trichotomy i j with h1 | h1 | h1
 ·exact absurd he.symm (List.pairwise_iff_getElem.1 h i j hi hj h1)
 ·exact h1.symm
 ·exact absurd he (List.pairwise_iff_getElem.1 h j i hj hi h1)
theorem enc_at {L : KL} {j : Nat} {p : Value × D} (h : (YbO L)[j]? = some p) : ∃ hj : j < L.length, p = (keyV L[j].1, .v (.int .i64 L[j].2)) := by
 unfold YbO at h
 rw [List.getElem?_map] at h
 cases h2 : L[j]? with
 | none => rw [h2] at h; cases h
 | some q =>
  rw [h2] at h
  obtain ⟨hj, rfl⟩ := ZgS.1 h2
  exact ⟨hj, (Option.some.inj h).symm⟩
theorem enc_one {L : KL} (h : Nk L) {i : Nat} (hi : i < L.length) : ∀ (j : Nat) (p : Value × D), (YbO L)[j]? = some p -> p.1 = keyV L[i].1 -> j = i := fun j p hp he => by
 obtain ⟨hj, rfl⟩ := enc_at hp
 exact nk_one h hi hj (keyV_inj he)
theorem enc_no {L : KL} {k : ByteArray × Int} (h : ¬ hasL L k = true) : ∀ p ∈ YbO L, p.1 ≠ keyV k := fun p hp e => by
 unfold YbO at hp
 obtain ⟨q, hq, rfl⟩ := ZmM.1 hp
 exact h (hasL_iff.2 ⟨q, hq, keyV_inj e⟩)
theorem getL_at {L : KL} (h : Nk L) {i : Nat} (hi : i < L.length) : getL L L[i].1 = L[i].2 := by
 unfold getL
 cases hf : L.find? fun p => decide (p.1 = L[i].1) with
 | none =>
  have := List.find?_eq_none.1 hf _ (ZgM hi)
  simp at this
 | some q =>
  have h2 := List.find?_some hf
  simp only [decide_eq_true_eq] at h2
  obtain ⟨j, hj, rfl⟩ := List.mem_iff_getElem.1 (List.mem_of_find?_eq_some hf)
  have := nk_one h hi hj h2
  subst this
  rfl
theorem getL_no {L : KL} {k : ByteArray × Int} (h : ¬ hasL L k = true) : getL L k = 0 := by
 unfold getL
 cases hf : L.find? fun p => decide (p.1 = k) with
 | none => rfl
 | some q =>
  have h2 := List.find?_some hf
  simp only [decide_eq_true_eq] at h2
  exact absurd (hasL_iff.2 ⟨q, List.mem_of_find?_eq_some hf, h2⟩) h
theorem mput_enc {L : KL} (h : Nk L) (k : ByteArray × Int) (v : Int) : MPut (YbO L) (keyV k) (.v (.int .i64 v)) (YbO (putL L k v)) := by
 by_cases hh : hasL L k = true
 ·obtain ⟨p, hp, rfl⟩ := hasL_iff.1 hh
  obtain ⟨i, hi, rfl⟩ := List.mem_iff_getElem.1 hp
  refine .inl ⟨i, .v (.int .i64 L[i].2), ?_, enc_one h hi, ?_⟩
  ·unfold YbO; rw [List.getElem?_map, ZgE hi]; rfl
  ·unfold putL
   rw [if_pos hh]
   apply List.ext_getElem
   ·simp [YbO]
   ·intro j h1 h2
    have hj : j < L.length := by simpa [YbO] using h1
    rw [List.getElem_set]
    simp only [YbO, ZgP]
    by_cases he : i = j
    ·subst he; simp
    ·have : ¬ L[j].1 = L[i].1 := fun e => he (nk_one h hi hj e).symm
     rw [if_neg he, if_neg this]
 ·refine .inr ⟨enc_no hh, ?_⟩
  unfold putL
  rw [if_neg hh]
  simp [YbO]
theorem mget_enc {L : KL} (h : Nk L) (k : ByteArray × Int) : MGet (YbO L) (keyV k) (.v (.int .i64 0)) (.v (.int .i64 (getL L k))) := by
 by_cases hh : hasL L k = true
 ·obtain ⟨p, hp, rfl⟩ := hasL_iff.1 hh
  obtain ⟨i, hi, rfl⟩ := List.mem_iff_getElem.1 hp
  refine .inl ⟨i, ?_, enc_one h hi⟩
  unfold YbO; rw [List.getElem?_map, ZgE hi, getL_at h hi]; rfl
 ·exact .inr ⟨enc_no hh, by rw [getL_no hh]⟩
theorem mgetok_enc {L : KL} (h : Nk L) (k : ByteArray × Int) : MGetOk (YbO L) (keyV k) (.v (.int .i64 0)) (.v (.int .i64 (getL L k))) (hasL L k) := by
 by_cases hh : hasL L k = true
 ·obtain ⟨p, hp, hk⟩ := hasL_iff.1 hh
  obtain ⟨i, hi, rfl⟩ := List.mem_iff_getElem.1 hp
  subst hk
  refine .inl ⟨hh, i, ?_, enc_one h hi⟩
  unfold YbO; rw [List.getElem?_map, ZgE hi, getL_at h hi]; rfl
 ·exact .inr ⟨by simpa using hh, enc_no hh, by rw [getL_no hh]⟩
namespace Ty
theorem bu_212 : StructT Tryz.prog 212 (fun i => (#[(0, 1), (1, 1)] : Array (Nat × Nat))[i]?) [(.string ⟨#[]⟩), (.int .i64 0)] := .of (by kernel_rfl) (by kernel_rfl) (by decide)
end Ty
def rk (R : KL) (x : Rpt) : Int := if 0 < x.corrects then (if hasL R (x.source, x.corrects) = true then getL R (x.source, x.corrects) else x.corrects) else x.no
def stepV (s : KL × KL) (x : Rpt) : KL × KL := (putL s.1 (x.source, x.no) (rk s.1 x), putL s.2 (x.source, rk s.1 x) x.no)
def stV (l : List Rpt) (k : Nat) : KL × KL := (l.take k).foldl stepV ([], [])
theorem stV_next {l : List Rpt} {k : Nat} (hk : k < l.length) : stV l (k + 1) = stepV (stV l k) l[k] := by
 unfold stV
 rw [List.take_add_one, ZgE hk, Option.toList_some, List.foldl_append]; rfl
def rootR (l : List Rpt) (x : Rpt) : Int := getL (stV l l.length).1 (x.source, x.no)
def cntB (l : List Rpt) (x : Rpt) : Bool := decide (getL (stV l l.length).2 (x.source, rootR l x) = x.no)
def Yaa (l : List Rpt) : List Rpt := l.filter (cntB l)
def KyO (k : ByteArray × Int) : Prop := k.1.size <= maxLen /\ -9223372036854775808 <= k.2 /\ k.2 <= 9223372036854775807
structure InvV (s : KL × KL) : Prop where
 n1 : Nk s.1
 n2 : Nk s.2
 k1 : ∀ p ∈ s.1, KyO p.1 /\ 0 <= p.2 /\ p.2 <= 1000000
 k2 : ∀ p ∈ s.2, KyO p.1
theorem putL_mem {L : KL} {k : ByteArray × Int} {v : Int} {p : (ByteArray × Int) × Int} (h : p ∈ putL L k v) : p = (k, v) \/ p ∈ L := by
 unfold putL at h
 by_cases hh : hasL L k = true
 ·rw [if_pos hh] at h
  obtain ⟨q, hq, rfl⟩ := ZmM.1 h
  by_cases h2 : q.1 = k
  ·rw [if_pos h2]; exact .inl rfl
  ·rw [if_neg h2]; exact .inr hq
 ·rw [if_neg hh, List.mem_append, ZmS] at h
  exact h.elim .inr .inl
theorem getL_bound {L : KL} (h : ∀ p ∈ L, KyO p.1 /\ 0 <= p.2 /\ p.2 <= 1000000) (k : ByteArray × Int) : 0 <= getL L k /\ getL L k <= 1000000 := by
 unfold getL
 cases hf : L.find? fun p => decide (p.1 = k) with
 | none => simp
 | some q => have := h q (List.mem_of_find?_eq_some hf); exact this.2
theorem rpt_rng {x : Rpt} (h : rptF x = 0) : (1 <= x.no /\ x.no <= 1000000) /\ 0 <= x.corrects /\ x.corrects <= x.no - 1 := by
 unfold rptF at h
 split at h
 ·omega
 ·split at h
  ·omega
  ·rename_i h2
   have := Decidable.not_not.1 h2
   exact ⟨this.1, this.2.2⟩
theorem rk_bound {s : KL × KL} (hI : InvV s) {x : Rpt} (h : rptF x = 0) : 0 <= rk s.1 x /\ rk s.1 x <= 1000000 := by
 have h1 := rpt_rng h
 unfold rk
 split
 ·split
  ·exact getL_bound hI.k1 _
  ·omega
 ·omega
theorem kyo {x : Rpt} (ho : okRpt x) {n : Int} (h : 0 <= n /\ n <= 1000000) : KyO (x.source, n) := ⟨ho.1, show -9223372036854775808 <= n by omega, show n <= 9223372036854775807 by omega⟩
theorem InvV.step {s : KL × KL} (hI : InvV s) {x : Rpt} (h : rptF x = 0) (ho : okRpt x) : InvV (stepV s x) := by
 have h1 := rpt_rng h
 have h2 := rk_bound hI h
 refine ⟨putL_nk hI.n1 _ _, putL_nk hI.n2 _ _, fun p hp => ?_, fun p hp => ?_⟩
 ·rcases putL_mem hp with rfl | hp
  ·exact ⟨kyo ho (by omega), h2⟩
  ·exact hI.k1 p hp
 ·rcases putL_mem hp with rfl | hp
  ·exact kyo ho h2
  ·exact hI.k2 p hp
theorem inv_st {l : List Rpt} (hl : Log l) (ho : ∀ x ∈ l, okRpt x) : ∀ k, k <= l.length -> InvV (stV l k)
 | 0, _ => ⟨List.Pairwise.nil, List.Pairwise.nil, fun p hp => absurd hp List.not_mem_nil, fun p hp => absurd hp List.not_mem_nil⟩
 | k + 1, hk => by
  rw [stV_next (by omega)]
  exact (inv_st hl ho k (by omega)).step (hl.ok _ (ZgM _)) (ho _ (ZgM _))
theorem enc_ok {L : KL} (h : ∀ p ∈ L, KyO p.1) : ∀ p ∈ YbO L, ∃ l, keyOf Tryz.prog 212 p.1 = some l := fun p hp => by
 unfold YbO at hp
 obtain ⟨q, hq, rfl⟩ := ZmM.1 hp
 exact keyV_ok q.1 (h q hq).1 (h q hq).2
theorem InvV.e1 {s : KL × KL} (h : InvV s) : ∀ p ∈ YbO s.1, ∃ l, keyOf Tryz.prog 212 p.1 = some l := enc_ok fun p hp => (h.k1 p hp).1
theorem InvV.e2 {s : KL × KL} (h : InvV s) : ∀ p ∈ YbO s.2, ∃ l, keyOf Tryz.prog 212 p.1 = some l := enc_ok h.k2
theorem mtV : Tryz.prog.underlying 210 = some (.map 212 3) := by kernel_rfl
theorem ztV : (Tryz.prog.info? 3).bind (·.zero) = some (.int .i64 0) := by kernel_rfl
theorem maps_2 {i j : Nat} {a b c d : List (Value × D)} {τ : Obs} (h1 : a = b) (h2 : c = d) : ∀ p ∈ [(i, Ob.map b), (j, Ob.map d)], p ∈ (i, Ob.map a) :: (j, Ob.map c) :: τ := fun p hp => by
 subst h1; subst h2
 rcases List.mem_cons.1 hp with rfl | hp
 ·exact .head _
 ·rw [ZmS] at hp; subst hp; exact .tail _ (.head _)
theorem row_maps {i j m e s : Nat} {r r' : List (List D)} {a b : Ob} {τ : Obs} (h : r = r') : ∀ p ∈ [(m, Ob.row e s r'), (i, a), (j, b)], p ∈ (m, Ob.row e s r) :: (i, a) :: (j, b) :: τ := fun p hp => by
 subst h
 rcases List.mem_cons.1 hp with rfl | hp
 ·exact .head _
 ·rcases List.mem_cons.1 hp with rfl | hp
  ·exact .tail _ (.head _)
  ·rw [ZmS] at hp; subst hp; exact .tail _ (.tail _ (.head _))
theorem fil_yes {l : List Rpt} {p : Rpt -> Bool} {k : Nat} (hk : k < l.length) (h : p l[k] = true) : ((l.take (k + 1)).filter p).map Rpt.ds = ((l.take k).filter p).map Rpt.ds ++ [l[k].ds] := by
 rw [List.take_add_one, ZgE hk, Option.toList_some, List.filter_append, List.filter_cons, List.filter_nil, if_pos h, ZmA]; rfl
theorem fil_no {l : List Rpt} {p : Rpt -> Bool} {k : Nat} (hk : k < l.length) (h : p l[k] = false) : (l.take (k + 1)).filter p = (l.take k).filter p := by
 rw [List.take_add_one, ZgE hk, Option.toList_some, List.filter_append, List.filter_cons, List.filter_nil, if_neg (by rw [h]; simp), List.append_nil]
theorem fil_len (l : List Rpt) (p : Rpt -> Bool) (k : Nat) : ((l.take k).filter p).length <= k := ZnT (List.length_filter_le _ _) (by rw [ZlT]; omega)
theorem c_pVal (l : List Rpt) (hl : Log l) (ho : ∀ x ∈ l, okRpt x) : Yaq Tryz.prog 84 [.sl (l.map Rpt.ds)] (.sl ((Yaa l).map Rpt.ds)) := by
 refine Yah (n := 82) (ds' := [.sl ((Yaa l).map Rpt.ds)]) Tryz.func84 J (by kernel_rfl) J [2] J J ?_
 intro B w0 F0 fr
 have hll := hl.len
 refine .sr (.aN ?_)
 refine .sr (.makeMap 91 J J J J J ?_)
 refine .sA (.assignO J J) (.nil ?_)
 refine .sr (.makeMap 92 J J J J J ?_)
 refine .sA (.assignO J J) (.nil ?_)
 refine .seq (.sr (.mA ?_))
 refine .sA (.lenSl J et_22.ht J) ?_
 refine .mN ?_
 refine .block (.loop (G := Nat) (fun k => Env.of [(17, .iv k), (15, .d (.sl (l.map Rpt.ds))), (16, .iv (l.map Rpt.ds).length), (0, .d (.sl (l.map Rpt.ds))), (3, .own 91), (4, .own 92)]) (fun k => [(92, .map (YbO (stV l k).2)), (91, .map (YbO (stV l k).1))]) (fun k => k <= l.length) (fun k => l.length - k) 0 (ZnZ _) (Sub.less ⟨U, U, U, U, U, U, trivial⟩ (maps_2 J J)) ?_)
 intro k hk
 refine .sr (.sA (.lss J J J) (.nil ?_))
 refine .seq (.cT J (fun h1 => ?_) fun h1 => ?_)
 ·rw [ZlM] at h1
  have hlt : k < l.length := by omega
  have hI := inv_st hl ho k (by omega)
  have hrp := hl.ok _ (ZgM hlt)
  have hok := ho _ (ZgM hlt)
  have hrg := rpt_rng hrp
  have hrb := rk_bound hI hrp
  have hk1 := keyV_ok (l[k].source, l[k].no) (kyo hok (by omega)).1 (kyo hok (by omega)).2
  have hk2 := keyV_ok (l[k].source, rk (stV l k).1 l[k]) (kyo hok hrb).1 (kyo hok hrb).2
  have hk3 := keyV_ok (l[k].source, l[k].corrects) (kyo hok (by omega)).1 (kyo hok (by omega)).2
  have HS := stV_next hlt
  refine .skip (.seq (.block (.sr (.sA (.indexAddr J et_22 J J k J (Yad hlt) J) ?_))))
  refine .sA (.loadAgg J Ycq J J) ?_
  refine .alloc 103 J J J J zt_80 J J J ?_
  refine .store J J J sz_80 J (.head _) J J J (ZnB J) ?_
  refine .freezeCells 6 (ds := l[k].ds) J (.head _) (.nil ?_)
  refine .sr (.sA (.fieldAddr J YaV J) ?_)
  refine .sA (.load J sc_3 J) ?_
  refine .aN ?_
  refine .seq (.sr (.sA (.fieldAddr J fo_80_3 J) ?_))
  refine .sA (.load J sc_3 J) ?_
  refine .sA (.gtr J J J) (.nil ?_)
  refine .cT J (fun h2 => ?_) fun h2 => ?_
  ·have hcp : 0 < l[k].corrects := by omega
   refine .sr (.sA (.fieldAddr J fo_80_3 J) ?_)
   refine .sA (.load J sc_3 J) ?_
   refine .aN ?_
   refine .sr (.sA (.moveO J J) ?_)
   refine .sA (.fieldAddr J YaG J) (.sA (.load J sc_9 J) (.sA (.fieldAddr J fo_80_3 J) (.sA (.load J sc_3 J) (.sA (.build J bu_212 (.cons J J (.cons J J .nil)) J) (.sA (.lookupOkK (key := keyV (l[k].source, l[k].corrects)) (k1 := .string (l[k].source)) (k2 := .int .i64 (l[k].corrects)) J mtV kroot ztV J (.tail _ (.head _)) J J hk3 hI.e1 _ (mgetok_enc hI.n1 _)) ?_)))))
   refine .mA ?_
   refine .sA (.extract J J J) (.sA (.extract J J J) ?_)
   refine .aA ?_
   refine .aN ?_
   refine .sr (.mN ?_)
   refine .cond J (fun h3 => ?_) (fun h3 => ?_)
   ·skip
    have HK : getL (stV l k).1 (l[k].source, l[k].corrects) = rk (stV l k).1 l[k] := by unfold rk; rw [if_pos hcp, if_pos h3]
    refine .region (.mA ?_)
    refine .aN ?_
    refine .sr (.sA (.moveO J J) ?_)
    refine .sA (.fieldAddr J YaG J) (.sA (.load J sc_9 J) (.sA (.fieldAddr J YaV J) (.sA (.load J sc_3 J) (.sA (.build J bu_212 (.cons J J (.cons J J .nil)) J) ?_))))
    refine .mA ?_
    refine .le 46 (s' := .d (.v (.int .i64 (rk (stV l k).1 l[k])))) J (SLe.i64 HK) ?_
    refine .eff J J (.mapUpdateK (key := keyV (l[k].source, l[k].no)) (k1 := .string (l[k].source)) (k2 := .int .i64 (l[k].no)) J J mtV kroot J (.tail _ (.head _)) J J J hk1 hI.e1 (mput_enc hI.n1 _ _)) (.nil ?_)
    refine .region (.sA (.moveO J J) ?_)
    refine .sA (.fieldAddr J YaG J) (.sA (.load J sc_9 J) ?_)
    refine .mA ?_
    refine .le 50 (s' := .d (.v (.int .i64 (rk (stV l k).1 l[k])))) J (SLe.i64 HK) ?_
    refine .sA (.build J bu_212 (.cons J J (.cons J J .nil)) J) (.sA (.fieldAddr J YaV J) (.sA (.load J sc_3 J) ?_))
    refine .eff J J (.mapUpdateK (key := keyV (l[k].source, rk (stV l k).1 l[k])) (k1 := .string (l[k].source)) (k2 := .int .i64 (rk (stV l k).1 l[k])) J J mtV kroot J (.head _) J J J hk2 hI.e2 (mput_enc hI.n2 _ _)) (.nil ?_)
    refine .region (.sA (.add64 J J J) ?_)
    refine .mN ?_
    refine ⟨k + 1, (by omega), (by dsimp only; omega), Sub.less ⟨U, U, U, U, U, U, trivial⟩ (maps_2 (by rw [HS]; rfl) (by rw [HS]; rfl))⟩
   have HK : l[k].corrects = rk (stV l k).1 l[k] := by unfold rk; rw [if_pos hcp, if_neg (by rw [h3]; simp)]
   refine .skip (.sr (.sA (.moveO J J) ?_))
   refine .sA (.fieldAddr J YaG J) (.sA (.load J sc_9 J) (.sA (.fieldAddr J YaV J) (.sA (.load J sc_3 J) (.sA (.build J bu_212 (.cons J J (.cons J J .nil)) J) ?_))))
   refine .mA ?_
   refine .le 46 (s' := .d (.v (.int .i64 (rk (stV l k).1 l[k])))) J (SLe.i64 HK) ?_
   refine .eff J J (.mapUpdateK (key := keyV (l[k].source, l[k].no)) (k1 := .string (l[k].source)) (k2 := .int .i64 (l[k].no)) J J mtV kroot J (.tail _ (.head _)) J J J hk1 hI.e1 (mput_enc hI.n1 _ _)) (.nil ?_)
   refine .region (.sA (.moveO J J) ?_)
   refine .sA (.fieldAddr J YaG J) (.sA (.load J sc_9 J) ?_)
   refine .mA ?_
   refine .le 50 (s' := .d (.v (.int .i64 (rk (stV l k).1 l[k])))) J (SLe.i64 HK) ?_
   refine .sA (.build J bu_212 (.cons J J (.cons J J .nil)) J) (.sA (.fieldAddr J YaV J) (.sA (.load J sc_3 J) ?_))
   refine .eff J J (.mapUpdateK (key := keyV (l[k].source, rk (stV l k).1 l[k])) (k1 := .string (l[k].source)) (k2 := .int .i64 (rk (stV l k).1 l[k])) J J mtV kroot J (.head _) J J J hk2 hI.e2 (mput_enc hI.n2 _ _)) (.nil ?_)
   refine .region (.sA (.add64 J J J) ?_)
   refine .mN ?_
   refine ⟨k + 1, (by omega), (by dsimp only; omega), Sub.less ⟨U, U, U, U, U, U, trivial⟩ (maps_2 (by rw [HS]; rfl) (by rw [HS]; rfl))⟩
  have HK : l[k].no = rk (stV l k).1 l[k] := by unfold rk; rw [if_neg (by omega)]
  refine .skip (.sr (.sA (.moveO J J) ?_))
  refine .sA (.fieldAddr J YaG J) (.sA (.load J sc_9 J) (.sA (.fieldAddr J YaV J) (.sA (.load J sc_3 J) (.sA (.build J bu_212 (.cons J J (.cons J J .nil)) J) ?_))))
  refine .mA ?_
  refine .le 46 (s' := .d (.v (.int .i64 (rk (stV l k).1 l[k])))) J (SLe.i64 HK) ?_
  refine .eff J J (.mapUpdateK (key := keyV (l[k].source, l[k].no)) (k1 := .string (l[k].source)) (k2 := .int .i64 (l[k].no)) J J mtV kroot J (.tail _ (.head _)) J J J hk1 hI.e1 (mput_enc hI.n1 _ _)) (.nil ?_)
  refine .region (.sA (.moveO J J) ?_)
  refine .sA (.fieldAddr J YaG J) (.sA (.load J sc_9 J) ?_)
  refine .mA ?_
  refine .le 50 (s' := .d (.v (.int .i64 (rk (stV l k).1 l[k])))) J (SLe.i64 HK) ?_
  refine .sA (.build J bu_212 (.cons J J (.cons J J .nil)) J) (.sA (.fieldAddr J YaV J) (.sA (.load J sc_3 J) ?_))
  refine .eff J J (.mapUpdateK (key := keyV (l[k].source, rk (stV l k).1 l[k])) (k1 := .string (l[k].source)) (k2 := .int .i64 (rk (stV l k).1 l[k])) J J mtV kroot J (.head _) J J J hk2 hI.e2 (mput_enc hI.n2 _ _)) (.nil ?_)
  refine .region (.sA (.add64 J J J) ?_)
  refine .mN ?_
  refine ⟨k + 1, (by omega), (by dsimp only; omega), Sub.less ⟨U, U, U, U, U, U, trivial⟩ (maps_2 (by rw [HS]; rfl) (by rw [HS]; rfl))⟩
 rw [ZlM] at h1
 obtain rfl : k = l.length := by omega
 have hI := inv_st hl ho l.length (ZnR _)
 refine .exit (.sr (.aN ?_))
 refine .seq (.sr (.mA ?_))
 refine .sA (.lenSl J et_22.ht J) ?_
 refine .mN ?_
 refine .block (.adopt 10 61 80 5 J J ?_)
 refine .loop (G := Nat) (fun j => Env.of [(57, .iv j), (55, .d (.sl (l.map Rpt.ds))), (56, .iv (l.map Rpt.ds).length), (3, .own 91), (4, .own 92), (10, .own 61)]) (fun j => [(61, .row 80 5 (((l.take j).filter (cntB l)).map Rpt.ds)), (92, .map (YbO (stV l l.length).2)), (91, .map (YbO (stV l l.length).1))]) (fun j => j <= l.length) (fun j => l.length - j) 0 (ZnZ _) (Sub.less ⟨U, U, U, U, U, U, trivial⟩ (row_maps J)) ?_
 intro j hj
 refine .sr (.sA (.lss J J J) (.nil ?_))
 refine .seq (.cT J (fun h4 => ?_) fun h4 => ?_)
 ·rw [ZlM] at h4
  have hjl : j < l.length := by omega
  have hrp := hl.ok _ (ZgM hjl)
  have hok := ho _ (ZgM hjl)
  have hrg := rpt_rng hrp
  have hk1 := keyV_ok (l[j].source, l[j].no) (kyo hok (by omega)).1 (kyo hok (by omega)).2
  have hgb := getL_bound hI.k1 (l[j].source, l[j].no)
  have hk2 := keyV_ok (l[j].source, getL (stV l l.length).1 (l[j].source, l[j].no)) (kyo hok hgb).1 (kyo hok hgb).2
  have hfl := fil_len l (cntB l) j
  refine .skip (.seq (.block (.sr (.sA (.indexAddr J et_22 J J j J (Yad hjl) J) ?_))))
  refine .sA (.loadAgg J Ycq J J) ?_
  refine .alloc 104 J J J J zt_80 J J J ?_
  refine .store J J J sz_80 J (.head _) J J J (ZnB J) ?_
  refine .freezeCells 12 (ds := l[j].ds) J (.head _) (.nil ?_)
  refine .seq (.draw (by kernel_rfl) (by kernel_rfl) ?_)
  refine .sA (.moveO J J) (.sA (.fieldAddr J YaG J) (.sA (.load J sc_9 J) (.sA (.moveO J J) (.sA (.fieldAddr J YaG J) (.sA (.load J sc_9 J) ?_)))))
  refine .sA (.fieldAddr J YaV J) (.sA (.load J sc_3 J) (.sA (.build J bu_212 (.cons J J (.cons J J .nil)) J) (.sA (.lookupK (key := keyV (l[j].source, l[j].no)) (k1 := .string (l[j].source)) (k2 := .int .i64 (l[j].no)) J mtV kroot ztV J (.tail _ (.tail _ (.head _))) J J hk1 hI.e1 (mget_enc hI.n1 _)) (.sA (.build J bu_212 (.cons J J (.cons J J .nil)) J) (.sA (.lookupK (key := keyV (l[j].source, getL (stV l l.length).1 (l[j].source, l[j].no))) (k1 := .string (l[j].source)) (k2 := .int .i64 (getL (stV l l.length).1 (l[j].source, l[j].no))) J mtV kroot ztV J (.tail _ (.head _)) J J hk2 hI.e2 (mget_enc hI.n2 _)) ?_)))))
  refine .sA (.fieldAddr J YaV J) (.sA (.load J sc_3 J) (.sA (.eql J J J) ?_))
  refine .nil ?_
  refine .cT J (fun h5 => ?_) fun h5 => ?_
  ·have HN := fil_yes hjl (show cntB l l[j] = true from decide_eq_true h5)
   refine .region (.sA (.moveO J J) ?_)
   refine .sA (.loadAgg J Ycq J J) ?_
   refine .sA (.buildSlice J et_22 (.cons J J J .nil) J (by decide)) ?_
   -- append 79
   refine .append rfl rfl rfl rfl et_22 rfl (.head _) rfl (fun y hy => by obtain rfl := ZmS.1 hy; rfl) (by simp; omega) (by simp; omega) ?_
   refine .sA (.assignO J J) (.nil ?_)
   refine .region (.sA (.add64 J J J) ?_)
   refine .mN ?_
   refine ⟨j + 1, (by dsimp only; omega), (by dsimp only; omega), Sub.less ⟨U, U, U, U, U, U, trivial⟩ (row_maps (by rw [HN]; first | done | rfl))⟩
  have HN := fil_no hjl (show cntB l l[j] = false from decide_eq_false h5)
  refine .skip (.region (.sA (.add64 J J J) ?_))
  refine .mN ?_
  refine ⟨j + 1, (by dsimp only; omega), (by dsimp only; omega), Sub.less ⟨U, U, U, U, U, U, trivial⟩ (row_maps (by rw [HN]; first | done | rfl))⟩
 rw [ZlM] at h4
 obtain rfl : j = l.length := by omega
 rw [List.take_length]
 refine .exit (.sr (.sA (.moveO J J) ?_))
 refine .sA (.assignO J J) (.nil ?_)
 refine .ret ?_
 refine ⟨RetD.own J (.head _) ?_, trivial⟩
 all_goals (rfl)
theorem gd {l : List Rpt} {j : Nat} (h : j < l.length) : l.getD j default = l[j] := by rw [ZgD, ZgE h]; rfl
def mtB (x y : Rpt) : Bool := decide (y.source = x.source) && decide (y.no = x.corrects)
def upTo (l : List Rpt) (x : Rpt) : Nat -> Int
 | 0 => -1
 | k + 1 => if mtB x (l.getD k default) = true then (k : Int) else upTo l x k
def upX (l : List Rpt) (x : Rpt) : Int := upTo l x l.length
def rootA (l : List Rpt) : Nat -> Rpt -> Int
 | 0, x => x.no
 | n + 1, x => if x.corrects = 0 then x.no else if upX l x < 0 then x.corrects else rootA l n (l.getD (upX l x).toNat default)
def Yb4 (l : List Rpt) (x : Rpt) : Int := rootA l (l.length + 1) x
theorem upTo_some {l : List Rpt} {x : Rpt} : ∀ k, (upTo l x k = -1 /\ ∀ j, j < k -> mtB x (l.getD j default) = false) \/ ∃ j, j < k /\ upTo l x k = j /\ mtB x (l.getD j default) = true
 | 0 => .inl ⟨rfl, fun j h => by omega⟩
 | k + 1 => by
  unfold upTo
  by_cases h : mtB x (l.getD k default) = true
  ·rw [if_pos h]; exact .inr ⟨k, by omega, rfl, h⟩
  ·rw [if_neg h]
   rcases upTo_some k with ⟨h1, h2⟩ | ⟨j, h1, h2, h3⟩
   ·refine .inl ⟨h1, fun j hj => ?_⟩
    by_cases e : j = k
    ·subst e; simpa using h
    ·exact h2 j (by omega)
   ·exact .inr ⟨j, by omega, h2, h3⟩
theorem up_cases {l : List Rpt} (x : Rpt) : (upX l x < 0 /\ ∀ j, (h : j < l.length) -> mtB x l[j] = false) \/ ∃ j, ∃ h : j < l.length, upX l x = j /\ mtB x l[j] = true := by
 unfold upX
 rcases upTo_some (l := l) (x := x) l.length with ⟨h1, h2⟩ | ⟨j, h1, h2, h3⟩
 ·exact .inl ⟨by omega, fun j h => by rw [<- gd h]; exact h2 j h⟩
 ·exact .inr ⟨j, h1, h2, by rw [<- gd h1]; exact h3⟩
theorem mt_key {x y : Rpt} (h : mtB x y = true) : y.source = x.source /\ y.no = x.corrects := by unfold mtB at h; simpa using h
theorem corr_lt {l : List Rpt} (hl : Log l) {i j : Nat} (hi : i < l.length) (hj : j < l.length) (hm : mtB l[i] l[j] = true) : j < i := by
 have h1 := mt_key hm
 have h2 := rpt_rng (hl.ok _ (ZgM hi))
 have h3 : ltR l[j] l[i] = true := (ltR_iff _ _).2 (.inr ⟨h1.1, by omega⟩)
 rcases Nat.lt_trichotomy j i with h | h | h
 ·exact h
 ·subst h; rw [ltR_irr] at h3; cases h3
 ·have := ltR_trans h3 (List.pairwise_iff_getElem.1 hl.rise i j hi hj h)
  rw [ltR_irr] at this; cases this
theorem root_fuel {l : List Rpt} (hl : Log l) : ∀ m i, i <= m -> (hi : i < l.length) -> ∀ n, i + 1 <= n -> rootA l n l[i] = rootA l (i + 1) l[i] := by
 intro m
 induction m with
 | zero =>
  intro i him hi n hn
  obtain ⟨n, rfl⟩ : ∃ k, n = k + 1 := ⟨n - 1, by omega⟩
  unfold rootA
  by_cases h0 : l[i].corrects = 0
  ·rw [if_pos h0, if_pos h0]
  ·rw [if_neg h0, if_neg h0]
   rcases up_cases (l := l) l[i] with ⟨h1, _⟩ | ⟨j, hj, h1, h2⟩
   ·rw [if_pos h1, if_pos h1]
   ·have := corr_lt hl hi hj h2
    omega
 | succ m ih =>
  intro i him hi n hn
  obtain ⟨n, rfl⟩ : ∃ k, n = k + 1 := ⟨n - 1, by omega⟩
  rw [rootA, rootA]
  by_cases h0 : l[i].corrects = 0
  ·rw [if_pos h0, if_pos h0]
  ·rw [if_neg h0, if_neg h0]
   rcases up_cases (l := l) l[i] with ⟨h1, _⟩ | ⟨j, hj, h1, h2⟩
   ·rw [if_pos h1, if_pos h1]
   ·have hlt := corr_lt hl hi hj h2
    rw [if_neg (by omega), if_neg (by omega), h1, Int.toNat_natCast, gd hj, ih j (by omega) hj n (by omega), ih j (by omega) hj i (by omega)]
theorem root_rec {l : List Rpt} (hl : Log l) {i : Nat} (hi : i < l.length) : (l[i].corrects = 0 /\ Yb4 l l[i] = l[i].no) \/ (l[i].corrects ≠ 0 /\ (∀ j, (h : j < l.length) -> mtB l[i] l[j] = false) /\ Yb4 l l[i] = l[i].corrects) \/ (l[i].corrects ≠ 0 /\ ∃ j, ∃ h : j < l.length, j < i /\ mtB l[i] l[j] = true /\ Yb4 l l[i] = Yb4 l l[j]) := by
 by_cases h0 : l[i].corrects = 0
 ·exact .inl ⟨h0, by unfold Yb4 rootA; exact if_pos h0⟩
 ·rcases up_cases (l := l) l[i] with ⟨h1, h2⟩ | ⟨j, hj, h1, h2⟩
  ·exact .inr (.inl ⟨h0, h2, by unfold Yb4 rootA; rw [if_neg h0, if_pos h1]⟩)
  ·have hlt := corr_lt hl hi hj h2
   refine .inr (.inr ⟨h0, j, hj, hlt, h2, ?_⟩)
   unfold Yb4
   rw [rootA, if_neg h0, if_neg (by omega), h1, Int.toNat_natCast, gd hj, root_fuel hl j j (ZnR _) hj l.length (by omega), <- root_fuel hl j j (ZnR _) hj (l.length + 1) (by omega)]
structure StI (l : List Rpt) (k : Nat) : Prop where
 has : ∀ s n, hasL (stV l k).1 (s, n) = true ↔ ∃ j, ∃ h : j < l.length, j < k /\ l[j].source = s /\ l[j].no = n
 get : ∀ j, (h : j < l.length) -> j < k -> getL (stV l k).1 (l[j].source, l[j].no) = Yb4 l l[j]
theorem rk_root {l : List Rpt} (hl : Log l) {k : Nat} (hk : k < l.length) (h : StI l k) : rk (stV l k).1 l[k] = Yb4 l l[k] := by
 have hr := rpt_rng (hl.ok _ (ZgM hk))
 unfold rk
 rcases root_rec hl hk with ⟨h0, h1⟩ | ⟨h0, h1, h2⟩ | ⟨h0, j, hj, hjk, hm, h2⟩
 ·rw [if_neg (by omega), h1]
 ·rw [if_pos (by omega), if_neg, h2]
  intro hh
  obtain ⟨j, hj, hjk, e1, e2⟩ := (h.has _ _).1 hh
  have := h1 j hj
  unfold mtB at this
  rw [decide_eq_true e1, decide_eq_true e2] at this
  cases this
 ·have hkey := mt_key hm
  rw [if_pos (by omega), if_pos ((h.has _ _).2 ⟨j, hj, hjk, hkey.1, hkey.2⟩), h2, <- h.get j hj hjk, hkey.1, hkey.2]
theorem key_one {l : List Rpt} (hl : Log l) {i j : Nat} (hi : i < l.length) (hj : j < l.length) (h1 : l[j].source = l[i].source) (h2 : l[j].no = l[i].no) : j = i := by
 have hs : sameK l[j] l[i] = true := sameK_iff.2 ⟨h1, h2⟩
 rcases Nat.lt_trichotomy i j with h | h | h
 ·have := List.pairwise_iff_getElem.1 (rise_dist hl.rise) i j hi hj h
  rw [sameK_symm hs] at this; cases this
 ·exact h.symm
 ·have := List.pairwise_iff_getElem.1 (rise_dist hl.rise) j i hj hi h
  rw [hs] at this; cases this
theorem st_inv {l : List Rpt} (hl : Log l) : ∀ k, k <= l.length -> StI l k
 | 0, _ => ⟨fun s n => ⟨fun h => by unfold stV hasL at h; simp at h, fun ⟨j, _, h, _⟩ => by omega⟩, fun j _ h => by omega⟩
 | k + 1, hk => by
  have ih := st_inv hl k (by omega)
  have hr := rk_root hl (show k < l.length by omega) ih
  have hs := stV_next (l := l) (k := k) (by omega)
  constructor
  ·intro s n
   rw [hs]
   show hasL (putL _ _ _) _ = true ↔ _
   rw [has_put, Bool.or_eq_true, decide_eq_true_eq, ih.has]
   constructor
   ·rintro (h | ⟨j, hj, h1, h2⟩)
    ·have e1 := congrArg Prod.fst h
     have e2 := congrArg Prod.snd h
     exact ⟨k, by omega, by omega, e1.symm, e2.symm⟩
    ·exact ⟨j, hj, by omega, h2⟩
   ·rintro ⟨j, hj, h1, h2, h3⟩
    by_cases e : j = k
    ·subst e; exact .inl (Prod.ext h2.symm h3.symm)
    ·exact .inr ⟨j, hj, by omega, h2, h3⟩
  ·intro j hj hjk
   rw [hs]
   show getL (putL _ _ _) _ = _
   rw [get_put]
   by_cases e : j = k
   ·subst e; rw [if_pos rfl, hr]
   ·rw [if_neg, ih.get j hj (by omega)]
    intro h
    have e1 := congrArg Prod.fst h
    have e2 := congrArg Prod.snd h
    exact e (key_one hl (show k < l.length by omega) hj e1 e2)
def sameG (l : List Rpt) (i j : Nat) : Bool := decide ((l.getD j default).source = (l.getD i default).source) && decide (Yb4 l (l.getD j default) = Yb4 l (l.getD i default))
theorem root_at {l : List Rpt} (hl : Log l) {i : Nat} (hi : i < l.length) : rootR l l[i] = Yb4 l l[i] := (st_inv hl l.length (ZnR _)).get i hi hi
theorem last_iff {l : List Rpt} (hl : Log l) {i : Nat} (hi : i < l.length) : ∀ n, i < n -> n <= l.length -> (getL (stV l n).2 (l[i].source, Yb4 l l[i]) = l[i].no ↔ ∀ j, i < j -> j < n -> sameG l i j = false)
 | 0, h, _ => by omega
 | n + 1, h, hn => by
  have hr := rk_root hl (show n < l.length by omega) (st_inv hl n (by omega))
  rw [stV_next (show n < l.length by omega)]
  show getL (putL _ _ _) _ = _ ↔ _
  rw [get_put, hr]
  by_cases e : i = n
  ·subst e
   rw [if_pos rfl]
   exact ⟨fun _ j h1 h2 => by omega, fun _ => J⟩
  ·have ih := last_iff hl hi n (by omega) (by omega)
   have hg : sameG l i n = (decide (l[n].source = l[i].source) && decide (Yb4 l l[n] = Yb4 l l[i])) := by unfold sameG; rw [gd (show n < l.length by omega), gd hi]
   by_cases h2 : (l[i].source, Yb4 l l[i]) = (l[n].source, Yb4 l l[n])
   ·have e1 := congrArg Prod.fst h2
    have e2 := congrArg Prod.snd h2
    dsimp only at e1 e2
    rw [if_pos h2]
    constructor
    ·intro h3
     exact absurd (key_one hl hi (show n < l.length by omega) e1.symm h3) (fun hh => e hh.symm)
    ·intro h3
     have := h3 n (by omega) (by omega)
     rw [hg, decide_eq_true e1.symm, decide_eq_true e2.symm] at this
     cases this
   ·rw [if_neg h2, ih]
    constructor
    ·intro h3 j hj1 hj2
     by_cases hj : j = n
     ·subst hj
      rw [hg]
      cases hb : decide (l[j].source = l[i].source) with
      | false => rfl
      | true =>
       rw [Bool.true_and]
       exact decide_eq_false fun hh => h2 (Prod.ext (dcT hb).symm hh.symm)
     ·exact h3 j hj1 (by omega)
    ·exact fun h3 j hj1 hj2 => h3 j hj1 (by omega)
def okI (l : List Rpt) (i m : Nat) : Bool := (List.range m).all fun t => !(sameG l i (i + 1 + t))
theorem cnt_ok {l : List Rpt} (hl : Log l) {i : Nat} (hi : i < l.length) : cntB l l[i] = okI l i (l.length - (i + 1)) := by
 rw [Bool.eq_iff_iff]
 unfold cntB okI
 rw [decide_eq_true_eq, root_at hl hi, last_iff hl hi l.length hi (ZnR _), List.all_eq_true]
 constructor
 ·intro h t ht
  rw [h (i + 1 + t) (by omega) (by have := List.mem_range.1 ht; omega)]; rfl
 ·intro h j h1 h2
  have := h (j - (i + 1)) (List.mem_range.2 (by omega))
  rw [show i + 1 + (j - (i + 1)) = j by omega] at this
  simpa using this
def outV (l : List Rpt) (k : Nat) : List Rpt := ((List.range k).filter fun i => okI l i (l.length - (i + 1))).map fun i => l.getD i default
theorem outV_yes {l : List Rpt} {k : Nat} (hk : k < l.length) (h : okI l k (l.length - (k + 1)) = true) : (outV l (k + 1)).map Rpt.ds = (outV l k).map Rpt.ds ++ [l[k].ds] := by
 unfold outV
 rw [List.range_succ, List.filter_append, List.filter_cons, List.filter_nil, if_pos h, ZmA, ZmA]
 show _ ++ [(l.getD k default).ds] = _
 rw [gd hk]
theorem outV_no {l : List Rpt} {k : Nat} (h : okI l k (l.length - (k + 1)) = false) : outV l (k + 1) = outV l k := by
 unfold outV
 rw [List.range_succ, List.filter_append, List.filter_cons, List.filter_nil, if_neg (by rw [h]; simp), List.append_nil]
theorem outV_len (l : List Rpt) (k : Nat) : (outV l k).length <= k := by
 unfold outV
 rw [ZlM]
 refine ZnT (List.length_filter_le _ _) ?_
 simp
theorem out_to {l : List Rpt} (hl : Log l) : ∀ k, k <= l.length -> outV l k = (l.take k).filter (cntB l)
 | 0, _ => by simp [outV]
 | k + 1, hk => by
  have ih := out_to hl k (by omega)
  have hc := cnt_ok hl (show k < l.length by omega)
  rw [List.take_add_one, ZgE (show k < l.length by omega), Option.toList_some, List.filter_append, List.filter_cons, List.filter_nil, hc, <- ih]
  unfold outV
  rw [List.range_succ, List.filter_append, List.filter_cons, List.filter_nil, ZmA]
  cases okI l k (l.length - (k + 1)) with
  | true => simp only [if_true, List.map_cons, List.map_nil]; rw [gd (show k < l.length by omega)]
  | false => simp
theorem out_eq {l : List Rpt} (hl : Log l) : outV l l.length = Yaa l := by
 rw [out_to hl _ (ZnR _), List.take_length]; rfl
theorem okI_next (l : List Rpt) (i m : Nat) : okI l i (m + 1) = (okI l i m && !(sameG l i (i + 1 + m))) := by
 unfold okI
 rw [List.range_succ, List.all_append]
 simp
theorem at_drop {l : List Rpt} {m j : Nat} (h : m + j < l.length) : ((l.drop m).map Rpt.ds)[j]? = some l[m + j].ds := by
 rw [List.getElem?_map, ZgO, ZgE h]; rfl
end
section
open Go.RowKit Go.MapKept
def DExact (kd : D) (key : Value) : Prop := ∀ F w v, Rep F w v kd -> v = key
theorem DExact.agg2 (k1 k2 : Value) : DExact (.agg [.v k1, .v k2]) (.agg #[k1, k2]) := fun _ _ _ h => rep_agg2 h
theorem DExact.agg3 (k1 k2 k3 : Value) : DExact (.agg [.v k1, .v k2, .v k3]) (.agg #[k1, k2, k3]) := fun F w v h => by
 cases h with
 | agg cs _ hl hone h =>
  obtain ⟨a, b, c, rfl⟩ : ∃ a b c, cs = [a, b, c] := by
   match cs, hl with
   | [a, b, c], _ => exact ⟨a, b, c, rfl⟩
  have h1 := h 0 (by simp) (by simp)
  have h2 := h 1 (by simp) (by simp)
  have h3 := h 2 (by simp) (by simp)
  simp only [List.getElem_cons_zero, List.getElem_cons_succ] at h1 h2 h3
  rw [rep_v h1, rep_v h2, rep_v h3]
theorem rep_aggv {F : Nat -> Prop} {w : World} (cs : List Value) (h1 : cs.all (·.oneCell') = true) : Rep F w (.agg cs.toArray) (.agg (cs.map D.v)) :=
 .agg cs _ (by simp) (fun i hi => by rw [List.all_eq_true] at h1; exact h1 _ (ZgM hi)) (fun i h1 h2 => by rw [ZgP]; exact .v _)
section
variable {cx : Cx} {ops : Array Oper} {o : Oper} {rest : List Oper} {e : Env} {σ σ' : Obs} {Q : Post} {P : Program} {B : Nat}
theorem EOp.mapUpdateX {t k et : TypeId} {id : Nat} {m x v : Operand} {key : Value} {d kd : D} {M M' : List (Value × D)}  (hdst : o.dst = none) (ho : o.op = .mapUpdate t m x v) (ht : cx.P.underlying t = some (.map k et)) (K : Maps.Keyed cx.P k) (hm : e.ev m = .own id) (hmem : (id, Ob.map M) ∈ σ)
 (hx : e.ev x = .d kd) (hke : DExact kd key) (hv : e.ev v = .d d) (hg : ∃ l, keyOf cx.P k key = some l) (hgs : ∀ p ∈ M, ∃ l, keyOf cx.P k p.1 = some l) (hp : MPut M key d M') : EOp cx ops o e σ (Obs.upd id (.map M') σ) := by
 intro F ρ a w e0 hr ha
 have hop : ∀ y ∈ o.op.operands.toList, RepS F ρ w (a.eval y) (e.ev y) := fun y hy => YaC fun t ht => ha t (YaM (by rw [<- ht]; exact hy))
 have r1 := hop m (by rw [ho]; simp [Op.operands])
 have r2 := hop x (by rw [ho]; simp [Op.operands])
 have r3 := hop v (by rw [ho]; simp [Op.operands])
 rw [hm] at r1
 rw [hx] at r2
 rw [hv] at r3
 obtain ⟨b, es, clock, hρ, hB, hF, hh, hMC, hall⟩ := hr.obs.ok _ hmem
 have hl := hMC.size
 dsimp only at hρ
 have hmv : a.eval m = .map (some b) := by rw [<- hρ]; generalize a.eval m = u at r1; cases r1; rfl
 have hxv := hke _ _ _ (Yao r2)
 have r3' := Yao r3
 have hks : ∀ en ∈ es.toList, ∃ l, keyOf cx.P k en.key = some l := fun en hen => by
  obtain ⟨j, hj⟩ := List.mem_iff_getElem?.1 hen
  obtain ⟨p, h1, h2, _⟩ := Yb0 hl hall hj
  rw [h2]; exact hgs p (List.mem_of_getElem? h1)
 obtain ⟨kl, hkl⟩ := hg
 have hblk : blk (ρ id) = some b := by rw [hρ]; rfl
 unfold Oper.wp execOp
 simp only [ho, hmv, hxv]
 rcases K.find w hkl es.toList hks with ⟨h1, h2⟩ | ⟨j, en, h1, h2, h3⟩
 ·have hrun : (Instr.mapUpdate t (.map (some b)) key (a.eval v)).run cx.P w = .ok () { w with heap := w.heap.setIfInBounds b (.map (es.push { key := key, val := a.eval v, born := clock }) (clock + 1)) } := by
   simp [Instr.mapUpdate, run_underlying ht, MapKept.run_getObj_map hh, K.check w _ hkl, h1, MapKept.run_setObj_map _ hh, Result.andThen]
  rw [Sem.run_bind, hrun]
  refine ⟨by rw [hdst]; rfl, fun e2 hr2 => ⟨F, ρ, hr2.writeOb hblk hmem hB hF YbU ?_⟩⟩
  have hM' : M' = M ++ [(key, d)] := by
   rcases hp with ⟨i, d0, hi, _, _⟩ | ⟨_, hM'⟩
   ·exfalso
    have hil : i < M.length := (ZgS.1 hi).1
    have h4 := (hall i (by omega) hil).1
    have h5 : M[i] = (key, d0) := (ZgS.1 hi).2
    rw [h5] at h4
    exact h2 es[i] (by simp) h4
   ·exact hM'
  have hkeep : ∀ {u : Value} {y : D}, Rep F w u y -> Rep F { w with heap := w.heap.setIfInBounds b (.map (es.push { key := key, val := a.eval v, born := clock }) (clock + 1)) } u y := fun h => h.mono (fun _ h => h) fun c hc => by
   have : b ≠ c := fun h => hF (by rw [h]; exact hc)
   simp [this]
  subst hM'
  refine ⟨b, _, _, hρ, hB, hF, (MapKept.heap_set hh).1, by simpa using hMC.push key (a.eval v), fun i hi hi' => ?_⟩
  by_cases hc : i < es.size
  ·have hc' : i < M.length := by omega
   rw [Array.getElem_push_lt hc, ZgL hc']
   exact ⟨(hall i hc hc').1, hkeep (hall i hc hc').2⟩
  ·have : i = es.size := by simp at hi; omega
   subst this
   rw [Array.getElem_push_eq, ZgR (by omega)]
   simp only [hl, Nat.sub_self, List.getElem_cons_zero]
   exact ⟨trivial, hkeep r3'⟩
 ·have hjs : j < es.size := by simpa using (ZgS.1 h2).1
  have hej : es[j] = en := by have := (ZgS.1 h2).2; simpa using this
  have hrun : (Instr.mapUpdate t (.map (some b)) key (a.eval v)).run cx.P w = .ok () { w with heap := w.heap.setIfInBounds b (.map (es.modify j fun e => { e with key := key, val := a.eval v }) clock) } := by
   have h0 : ((es[j]?).map (·.key)).getD key = key := by rw [Array.getElem?_eq_getElem hjs, hej]; simp [h3]
   simp only [Instr.mapUpdate, run_underlying ht, Sem.run_bind, Result.andThen_ok, MapKept.run_getObj_map hh, K.check w _ hkl, h1, h0, K.stays w hkl, MapKept.run_setObj_map _ hh]
  rw [Sem.run_bind, hrun]
  refine ⟨by rw [hdst]; rfl, fun e2 hr2 => ⟨F, ρ, hr2.writeOb hblk hmem hB hF YbU ?_⟩⟩
  have hjl : j < M.length := by omega
  have hkj : M[j].1 = key := by rw [<- (hall j hjs hjl).1, hej]; exact h3
  have hM' : M' = M.set j (key, d) := by
   rcases hp with ⟨i, d0, hi, hu, hM'⟩ | ⟨hno, _⟩
   ·have := hu j M[j] (ZgE hjl) hkj
    rw [this]; exact hM'
   ·exact absurd hkj (hno _ (ZgM hjl))
  have hkeep : ∀ {u : Value} {y : D}, Rep F w u y -> Rep F { w with heap := w.heap.setIfInBounds b (.map (es.modify j fun e => { e with key := key, val := a.eval v }) clock) } u y := fun h => h.mono (fun _ h => h) fun c hc => by
   have : b ≠ c := fun h => hF (by rw [h]; exact hc)
   simp [this]
  subst hM'
  refine ⟨b, _, _, hρ, hB, hF, (MapKept.heap_set hh).1, by rw [List.length_set]; exact hMC.modify _ _ (fun _ => J), fun i hi hi' => ?_⟩
  have hc : i < es.size := by simpa using hi
  have hc' : i < M.length := by omega
  rw [Array.getElem_modify, List.getElem_set]
  by_cases hij : j = i
  ·rw [if_pos hij, if_pos hij]
   exact ⟨J, hkeep r3'⟩
  ·rw [if_neg hij, if_neg hij]
   exact ⟨(hall i hc hc').1, hkeep (hall i hc hc').2⟩
theorem AOp.lookupX {x ix : Operand} {t k et : TypeId} {id : Nat} {M : List (Value × D)} {key z : Value} {d kd zd : D}  (ho : o.op = .lookup t x ix false) (ht : P.underlying t = some (.map k et)) (K : Maps.Keyed P k) (hz : (P.info? et).bind (·.zero) = some z) (hzd : ∀ F w, Rep F w z zd) (hx : e.ev x = .own id) (hm : (id, Ob.map M) ∈ σ)
 (hi : e.ev ix = .d kd) (hke : DExact kd key) (hg : ∃ l, keyOf P k key = some l) (hgs : ∀ p ∈ M, ∃ l, keyOf P k p.1 = some l) (hd : MGet M key zd d) : AOp P B ops o e σ (.d d) := .value fun F ρ w a hF hr hσ => by
 have h1 := hr x (by rw [ho]; simp [Op.operands])
 have h2 := hr ix (by rw [ho]; simp [Op.operands])
 rw [hx] at h1
 rw [hi] at h2
 have hxv := hke _ _ _ (Yao h2)
 obtain ⟨b, es, clock, hρ, hB, hFb, hh, ⟨hl, _, _⟩, hall⟩ := hσ.ok _ hm
 dsimp only at hρ
 have hv : a.eval x = .map (some b) := by rw [<- hρ]; generalize a.eval x = u at h1; cases h1; rfl
 have hks : ∀ en ∈ es.toList, ∃ l, keyOf P k en.key = some l := fun en hen => by
  obtain ⟨j, hj⟩ := List.mem_iff_getElem?.1 hen
  obtain ⟨p, h1, h2, _⟩ := Yb0 hl hall hj
  rw [h2]; exact hgs p (List.mem_of_getElem? h1)
 obtain ⟨kl, hkl⟩ := hg
 obtain ⟨ti, hti, hzz⟩ := Option.bind_eq_some_iff.1 hz
 have hprog : (program : Sem Program).run P w = .ok P w := rfl
 rcases K.find w hkl es.toList hks with ⟨h3, h4⟩ | ⟨j, en, h3, h4, h5⟩
 ·refine ⟨z, F, w, ?_, ?_, Ext.refl hF⟩
  ·unfold execOp
   simp only [ho, hv, hxv, Sem.run_bind]
   simp [Instr.lookup, run_underlying ht, MapKept.run_getObj_map hh, K.check w _ hkl, h3, zeroValue, typeInfo, hti, hzz, Result.andThen]
  ·rcases hd with ⟨i, hi2, _⟩ | ⟨_, rfl⟩
   ·exfalso
    have hil : i < M.length := (ZgS.1 hi2).1
    have h6 := (hall i (by omega) hil).1
    rw [(ZgS.1 hi2).2] at h6
    exact h4 es[i] (by simp) h6
   ·exact .d (hzd _ _)
 ·have hjs : j < es.size := by simpa using (ZgS.1 h4).1
  have hej : es[j] = en := by have := (ZgS.1 h4).2; simpa using this
  have hjl : j < M.length := by omega
  refine ⟨en.val, F, w, ?_, ?_, Ext.refl hF⟩
  ·unfold execOp
   simp only [ho, hv, hxv, Sem.run_bind]
   simp [Instr.lookup, run_underlying ht, MapKept.run_getObj_map hh, K.check w _ hkl, h3, Result.andThen]
  ·have hkj : M[j].1 = key := by rw [<- (hall j hjs hjl).1, hej]; exact h5
   rcases hd with ⟨i, hi2, hu⟩ | ⟨hno, _⟩
   ·have := hu j M[j] (ZgE hjl) hkj
    subst this
    have h6 := (hall j hjs hjl).2
    rw [(ZgS.1 hi2).2, hej] at h6
    exact .d h6
   ·exact absurd hkj (hno _ (ZgM hjl))
theorem R0.freezeAny {F : Nat -> Prop} {ρ : Nat -> Value} {a : Act} {w : World} (h : R0 cx F ρ e σ a w) {id : Nat} {ob : Ob} (hm : (id, ob) ∈ σ) : R0 cx (fun b => F b \/ blk (ρ id) = some b) ρ e (Obs.del id σ) a w := by
 have hF2 : ∀ b, (F b \/ blk (ρ id) = some b) -> b < w.heap.size := fun b hb => by
  rcases hb with hb | hb
  ·exact h.lt b hb
  ·exact ((h.obs.ok _ hm).blk_lt hb).2
 refine ⟨h.size, h.defers, hF2, fun b hb => .inl (h.base b hb), fun b hb => ?_, h.below, h.hB, fun u => ?_, ?_, h.up, fun p hp => h.kown p (Obs.mem_del hp).1, h.fixed⟩
 ·rcases hb with hb | hb
  ·exact h.new b hb
  ·exact .inr (h.kown _ hm b hb)
 ·exact RepS.turn (row := none) (h.env u) h.lt (fun g hg => by simp at hg) ⟨rfl, rfl, rfl, ZnR _, fun _ _ _ => rfl⟩ (fun b hb => .inl hb)
 ·refine ⟨fun p hp => ?_, fun p hp q hq => h.obs.apart p (Obs.mem_del hp).1 q (Obs.mem_del hq).1, fun p hp q hq => h.obs.uniq p (Obs.mem_del hp).1 q (Obs.mem_del hq).1⟩
  obtain ⟨h1, h2⟩ := Obs.mem_del hp
  have h3 := h.obs.ok p h1
  have hne : ∀ g, blk (ρ p.1) = some g -> blk (ρ id) ≠ some g := fun g hg => h.obs.apart p h1 _ hm h2 g hg
  exact h3.more h.lt (fun b hb => .inl hb) (fun g hg hf => by
   rcases hf with hf | hf
   ·exact h3.nF hg hf
   ·exact hne g hg hf)
theorem AOps.range {t k et dst idm : Nat} {m : Operand} {M : List (Value × D)} (id : Nat) (hg : o.guard = none) (ht : o.dst = some dst) (hdn : Nat.blt dst cx.N = true) (ho : o.op = .range t m) (hu : cx.P.underlying t = some (.map k et)) (hm : e.ev m = .own idm) (hmem : (idm, Ob.map M) ∈ σ) (hid : Obs.fresh id σ = true)
 (kk : AOps cx ops rest ((e.kill id).put (some dst) (.ptr id 0)) ((id, .iter M []) :: Obs.kill id (Obs.del idm σ)) Q) (hfx : cx.free id = true := by rfl) : AOps cx ops (o :: rest) e σ Q := by
 intro a w ⟨F, ρ, hr⟩
 have r1 := YaC (e := e) (x := m) (a := a) (fun t _ => hr.env t)
 rw [hm] at r1
 obtain ⟨b, es, clock, hρ, hB, hFb, hh, hMC, hall⟩ := hr.obs.ok _ hmem
 dsimp only at hρ
 have hv : a.eval m = .map (some b) := by rw [<- hρ]; generalize a.eval m = u at r1; cases r1; rfl
 have hfz := hr.freezeAny hmem
 have hbb : blk (ρ idm) = some b := by rw [hρ]; rfl
 have hblt : b < w.heap.size := (ZaS.1 hh).1
 have hE : Ext (fun c => F c \/ blk (ρ idm) = some c) w (fun c => F c \/ blk (ρ idm) = some c) (w.alloc (.mapIter (some b) clock #[] clock)) := Ext.of_below hfz.lt ((Below.refl _ _).alloc (ZnR _) _)
 have hid' : ∀ p ∈ Obs.del idm σ, p.1 ≠ id := fun p hp => Obs.fresh_spec hid p (Obs.mem_del hp).1
 have h2 := hfz.turn (ρ' := fun j => if j = id then .pointer (some ⟨w.heap.size, 0, none⟩) else ρ j) (id := id) (ob := .iter M []) (row := none) (w' := w.alloc (.mapIter (some b) clock #[] clock)) (F' := fun c => F c \/ blk (ρ idm) = some c) (fun j hj => by simp [hj])
  ⟨hE.below.os, hE.below.tape, hE.below.output, hE.below.size, fun k hk _ => hE.below.block k hk⟩ hfx (fun g hg => by simp at hg) (fun b hb => hb) (fun b hb => .inl hb) hE.lt
  ⟨w.heap.size, b, es, clock, #[], clock, by simp, hr.hB, fun hf => by have := hfz.lt _ hf; omega, by simpa using heap_alloc_new w _, .inr hbb, by rw [hE.below.block b hblt]; exact hh, ⟨hMC, rfl, by simp, rfl⟩,
   fun i hi hi' => ⟨(hall i hi hi').1, (hall i hi hi').2.mono (fun c hc => .inl hc) fun c hc => hE.below.block c (hr.lt c hc)⟩⟩
  (fun g hg => by simp [blk] at hg; exact .inr (by omega)) ((id, .iter M []) :: Obs.kill id (Obs.del idm σ)) (fun p hp => by
   cases hp with
   | head => exact .inl rfl
   | tail _ hp => obtain ⟨q, hq, rfl⟩ := Obs.mem_kill hp; exact .inr ⟨q, hq, hid' q hq, rfl⟩)
 have h3 := h2.put (o := ⟨some dst, .ready 0, 0, "", #[], none⟩) (v := .pointer (some ⟨w.heap.size, 0, none⟩)) (s := .ptr id 0) (Ext.refl h2.lt) (.ptr id 0 w.heap.size (by simp [blk])) (by simpa [DstOk, Nat.blt_eq] using hdn)
 refine wpList_plain hg fun K hK => ?_
 unfold Oper.wp execOp
 simp only [ho, hv, Sem.run_bind, run_range_map w t k et b es clock hu hh, Result.andThen_ok, Sem.run_pure]
 have := kk _ _ ⟨_, _, h3⟩
 rw [<- ht] at this
 exact hK _ _ this
theorem R0.drewMaybe {F : Nat -> Prop} {ρ : Nat -> Value} {a : Act} {w w1 : World} (h : R0 cx F ρ e σ a w) (hw : w1 = w \/ w1 = w.drew) : R0 cx F ρ e σ a w1 := by
 rcases hw with rfl | rfl
 ·exact h
 ·exact h.drew
theorem iter_of {F : Nat -> Prop} {ρ : Nat -> Value} {a : Act} {w : World} (hr : R0 cx F ρ e σ a w) {it : Operand} {id : Nat} {M : List (Value × D)} {done : List Nat} (hi : e.ev it = .ptr id 0) (hm : (id, Ob.iter M done) ∈ σ) :
 ∃ g b, ∃ es : Array MapEntry, ∃ clock seen, a.eval it = .pointer (some ⟨g, 0, none⟩) /\ ρ id = .pointer (some ⟨g, 0, none⟩) /\ cx.B <= g /\ ¬ F g /\ w.heap[g]? = some (.mapIter (some b) clock seen clock) /\ F b /\ w.heap[b]? = some (.map es clock) /\ IterC M.length done es clock seen clock /\
  (∀ i (h : i < es.size) (h' : i < M.length), es[i].key = M[i].1 /\ Rep F w es[i].val M[i].2) := by
 have r1 := YaC (e := e) (x := it) (a := a) (fun t _ => hr.env t)
 rw [hi] at r1
 obtain ⟨g, b, es, clock, seen, c0, hρ, hB, hF, hg, hb, hh, hI, hall⟩ := hr.obs.ok _ hm
 dsimp only at hρ
 have hl := hI.late
 subst hl
 exact ⟨g, b, es, c0, seen, YbX r1 (by rw [hρ]; rfl), hρ, hB, hF, hg, hb, hh, hI, hall⟩
theorem seen_mem {n : Nat} {done : List Nat} {es : Array MapEntry} {clock c0 : Nat} {seen : Array Nat} (h : IterC n done es clock seen c0) {i : Nat} (hi : i < es.size) : seen.contains es[i].born = true ↔ i ∈ done := by
 rw [h.seen, Array.contains_iff_mem, List.mem_toArray, ZmM]
 constructor
 ·rintro ⟨j, hj, he⟩
  have hjs : j < es.size := by rw [h.size]; exact h.lt j hj
  rw [Array.getElem?_eq_getElem hjs, Option.map_some, Option.getD_some] at he
  have hnd := h.born
  have : j = i := by
   have h1 : j < (es.toList.map (·.born)).length := by simpa using hjs
   have h2 : i < (es.toList.map (·.born)).length := by simpa using hi
   exact (List.getElem_inj hnd (h₀ := h1) (h₁ := h2)).1 (by simpa using he)
  rw [<- this]; exact hj
 ·intro hj
  exact ⟨i, hj, by rw [Array.getElem?_eq_getElem hi]; rfl⟩
theorem AOps.next {dst id : Nat} {it : Operand} {M : List (Value × D)} {done : List Nat} (hg : o.guard = none) (ht : o.dst = some dst) (hdn : Nat.blt dst cx.N = true) (ho : o.op = .next it false) (hi : e.ev it = .ptr id 0) (hmem : (id, Ob.iter M done) ∈ σ)
 (k0 : (∀ i, i < M.length -> i ∈ done) -> AOps cx ops rest (e.put (some dst) (.d (.tup [.v (.bool false)]))) σ Q)
 (k1 : ∀ i (h : i < M.length), i ∉ done -> AOps cx ops rest (e.put (some dst) (.d (.tup [.v (.bool true), .v M[i].1, M[i].2]))) (Obs.upd id (.iter M (done ++ [i])) σ) Q) : AOps cx ops (o :: rest) e σ Q := by
 intro a w ⟨F, ρ, hr⟩
 obtain ⟨g, b, es, clock, seen, hv, hρ, hB, hF, hgg, hb, hh, hI, hall⟩ := iter_of hr hi hmem
 have hl := hI.size
 refine wpList_plain hg fun K hK => ?_
 unfold Oper.wp
 rcases run_next_at (P := cx.P) w o.type g b clock clock seen es clock hgg hh hI.old (ZnR _) with ⟨h0, hrun⟩ | ⟨en, hen, w1, hal, hrun⟩
 ·have hx : (execOp a.eval o).run cx.P w = .ok (.value (.tuple #[.bool false])) w := by
   unfold execOp
   simp only [ho, hv, Sem.run_bind, hrun, Result.andThen_ok, Sem.run_pure]
  rw [hx]
  have h2 := hr.put (o := ⟨some dst, .ready 0, 0, "", #[], none⟩) (v := .tuple #[.bool false]) (s := .d (.tup [.v (.bool false)])) (Ext.refl hr.lt) (.d (.tup [_] [_] rfl (fun i a b => by
   match i, a with
   | 0, _ => exact .v _))) (by simpa [DstOk, Nat.blt_eq] using hdn)
  have := k0 (fun i hi2 => by
   have h3 : leftOf es seen = #[] := Array.eq_empty_of_size_eq_zero h0
   unfold leftOf at h3
   rw [Array.filter_eq_empty_iff] at h3
   have h4 := h3 es[i] (Array.getElem_mem (by omega))
   simp only [Bool.not_eq_true', Bool.not_eq_false] at h4
   exact (seen_mem hI (by omega)).1 h4) _ _ ⟨F, ρ, h2⟩
  rw [<- ht] at this
  exact hK _ _ this
 ·have hx : (execOp a.eval o).run cx.P w = .ok (.value (.tuple #[.bool true, en.key, en.val])) (ChangeMaps.setBlock w1 g (.mapIter (some b) clock (seen.push en.born) clock)) := by
   unfold execOp
   simp only [ho, hv, Sem.run_bind, hrun, Result.andThen_ok, Sem.run_pure]
  rw [hx]
  unfold leftOf at hen
  simp only [Array.toList_filter, List.mem_filter, Bool.not_eq_true'] at hen
  obtain ⟨i, hil, rfl⟩ := List.mem_iff_getElem.1 hen.1
  have his : i < es.size := by simpa using hil
  have hgi : es.toList[i] = es[i] := by simp
  have hiM : i < M.length := by omega
  have hnd : i ∉ done := fun h => by
   have := (seen_mem hI his).2 h
   rw [hgi] at hen
   rw [hen.2] at this
   cases this
  have hr1 := hr.drewMaybe hal
  have hg1 : w1.heap[g]? = some (.mapIter (some b) clock seen clock) := by rcases hal with rfl | rfl <;> exact hgg
  have hh1 : w1.heap[b]? = some (.map es clock) := by rcases hal with rfl | rfl <;> exact hh
  have hbg : b ≠ g := fun h => hF (h ▸ hb)
  have hall1 : ∀ i (h : i < es.size) (h' : i < M.length), es[i].key = M[i].1 /\ Rep F w1 es[i].val M[i].2 := fun i h h' => ⟨(hall i h h').1, (hall i h h').2.mono (fun _ h => h) fun c _ => by rcases hal with rfl | rfl <;> rfl⟩
  have hkeep : ∀ {u : Value} {y : D}, Rep F w1 u y -> Rep F (ChangeMaps.setBlock w1 g (.mapIter (some b) clock (seen.push es[i].born) clock)) u y := fun h => h.mono (fun _ h => h) fun c hc => by
   have : g ≠ c := fun h => hF (by rw [h]; exact hc)
   simp [ChangeMaps.setBlock, this]
  have h2 := hr1.writeOb (ob' := .iter M (done ++ [i])) (g := g) (by rw [hρ]; rfl) hmem hB hF (YbU (o := .mapIter (some b) clock (seen.push es[i].born) clock))
   ⟨g, b, es, clock, seen.push es[i].born, clock, hρ, hB, hF, (MapKept.heap_set hg1).1, hb, by
    have : g ≠ b := fun h => hbg h.symm
    simp [this]; simpa using hh1, ⟨hI.toMapC, by
     rw [hI.seen]
     simp [Array.getElem?_eq_getElem his], fun j hj => by
     rcases List.mem_append.1 hj with hj | hj
     ·exact hI.lt j hj
     ·rw [ZmS] at hj; omega, rfl⟩, fun j hj hj' => ⟨(hall1 j hj hj').1, hkeep (hall1 j hj hj').2⟩⟩
  have h3 := h2.put (o := ⟨some dst, .ready 0, 0, "", #[], none⟩) (v := .tuple #[.bool true, es[i].key, es[i].val]) (s := .d (.tup [.v (.bool true), .v M[i].1, M[i].2])) (Ext.refl h2.lt) (.d (.tup [_, _, _] [_, _, _] rfl (fun j a b => by
   match j, a with
   | 0, _ => exact .v _
   | 1, _ => rw [show [Value.bool true, es[i].key, es[i].val][1] = M[i].1 from (hall i his hiM).1]; exact .v _
   | 2, _ => exact hkeep (hall1 i his hiM).2))) (by simpa [DstOk, Nat.blt_eq] using hdn)
  have := k1 i hiM hnd _ _ ⟨F, ρ, h3⟩
  rw [<- ht] at this
  rw [hgi]
  exact hK _ _ this
theorem AOp.entry {id i : Nat} {it : Operand} {M : List (Value × D)} {done : List Nat} (ho : o.op = .entry it) (hi : e.ev it = .ptr id 0) (hmem : (id, Ob.iter M (done ++ [i])) ∈ σ) (hiM : i < M.length) : AOp P B ops o e σ (.d (.tup [.v M[i].1, M[i].2])) := .value fun F ρ w a hF hr hσ => by
 have r1 := hr it (by rw [ho]; simp [Op.operands])
 rw [hi] at r1
 obtain ⟨g, b, es, clock, seen, c0, hρ, hB, hFg, hgg, hb, hh, hI, hall⟩ := hσ.ok _ hmem
 dsimp only at hρ
 have hv := YbX r1 (g := g) (by rw [hρ]; rfl)
 have hl := hI.size
 have his : i < es.size := by omega
 have hs : seen = ((done.map fun i => ((es[i]?).map (·.born)).getD 0).toArray).push es[i].born := by
  rw [hI.seen]
  simp [Array.getElem?_eq_getElem his]
 have hc := hI.late
 subst hc
 rw [hs] at hgg
 refine ⟨.tuple #[es[i].key, es[i].val], F, w, ?_, .d (.tup [_, _] [_, _] J (fun j a b => by
  match j, a with
  | 0, _ => rw [show [es[i].key, es[i].val][0] = M[i].1 from (hall i his hiM).1]; exact .v _
  | 1, _ => exact (hall i his hiM).2)), Ext.refl hF⟩
 unfold execOp
 simp only [ho, hv, Sem.run_bind, run_entry_at w g b _ _ es _ es[i] hgg hh (by simp) hI.born, Result.andThen_ok, Sem.run_pure]
theorem AOps.nextL {γ : Type} {L : List γ} {f : γ -> Value × D} {dst id : Nat} {it : Operand} {done : List Nat} (hg : o.guard = none) (ht : o.dst = some dst) (hdn : Nat.blt dst cx.N = true) (ho : o.op = .next it false) (hi : e.ev it = .ptr id 0) (hmem : (id, Ob.iter (L.map f) done) ∈ σ)
 (k0 : (∀ i, i < L.length -> i ∈ done) -> AOps cx ops rest (e.put (some dst) (.d (.tup [.v (.bool false)]))) σ Q)
 (k1 : ∀ i (h : i < L.length), i ∉ done -> AOps cx ops rest (e.put (some dst) (.d (.tup [.v (.bool true), .v (f L[i]).1, (f L[i]).2]))) (Obs.upd id (.iter (L.map f) (done ++ [i])) σ) Q) : AOps cx ops (o :: rest) e σ Q :=
 .next hg ht hdn ho hi hmem (fun h => k0 fun i hi => h i (by simpa using hi)) fun i h hn => by
  have := k1 i (by simpa using h) hn
  simpa only [ZgP] using this
theorem AOp.entryL {γ : Type} {L : List γ} {f : γ -> Value × D} {id i : Nat} {it : Operand} {done : List Nat} (ho : o.op = .entry it) (hi : e.ev it = .ptr id 0) (hmem : (id, Ob.iter (L.map f) (done ++ [i])) ∈ σ) (hiL : i < L.length) : AOp P B ops o e σ (.d (.tup [.v (f L[i]).1, (f L[i]).2])) := by
 have := AOp.entry (P := P) (B := B) (ops := ops) ho hi hmem (by simpa using hiL)
 simpa only [ZgP] using this
end
end
section
open Go.RowKit
open Ty
open Go.Sort Go.Lib
section
variable {κ β : Type} [DecidableEq κ]
def hasG (L : List (κ × β)) (k : κ) : Bool := L.any fun p => decide (p.1 = k)
def Yap (L : List (κ × β)) (k : κ) : Option β := (L.find? fun p => decide (p.1 = k)).map (·.2)
def putG (L : List (κ × β)) (k : κ) (v : β) : List (κ × β) := if hasG L k = true then L.map (fun p => if p.1 = k then (k, v) else p) else L ++ [(k, v)]
def NkG (L : List (κ × β)) : Prop := L.Pairwise fun p q => p.1 ≠ q.1
theorem hasG_iff {L : List (κ × β)} {k : κ} : hasG L k = true ↔ ∃ p ∈ L, p.1 = k := by
 unfold hasG
 rw [List.any_eq_true]
 constructor
 ·rintro ⟨p, h1, h2⟩; exact ⟨p, h1, dcT h2⟩
 ·rintro ⟨p, h1, h2⟩; exact ⟨p, h1, decide_eq_true h2⟩
theorem putG_nk {L : List (κ × β)} (h : NkG L) (k : κ) (v : β) : NkG (putG L k v) := by
 unfold putG
 by_cases hh : hasG L k = true
 ·rw [if_pos hh]
  unfold NkG
  rw [List.pairwise_map]
  refine h.imp fun {p q} hpq => ?_
  by_cases h1 : p.1 = k <;> by_cases h2 : q.1 = k
  ·exact absurd (h1.trans h2.symm) hpq
  ·rw [if_pos h1, if_neg h2]; exact fun e => h2 e.symm
  ·rw [if_neg h1, if_pos h2]; exact h1
  ·rw [if_neg h1, if_neg h2]; exact hpq
 ·rw [if_neg hh]
  refine List.pairwise_append.2 ⟨h, by simp, fun p hp q hq => ?_⟩
  rw [ZmS] at hq
  subst hq
  exact fun e => hh (hasG_iff.2 ⟨p, hp, e⟩)
theorem Yat (p : κ × β) (L : List (κ × β)) (k : κ) : Yap (p :: L) k = if p.1 = k then some p.2 else Yap L k := by
 unfold Yap
 rw [List.find?_cons]
 by_cases h : p.1 = k <;> simp [h]
theorem YbZ (k : κ) : Yap ([] : List (κ × β)) k = none := rfl
theorem findG_append (L M : List (κ × β)) (k : κ) : Yap (L ++ M) k = match Yap L k with | some v => some v | none => Yap M k := by
 induction L with
 | nil => rfl
 | cons p L ih =>
  rw [List.cons_append, Yat, Yat, ih]
  by_cases h : p.1 = k <;> simp [h]
theorem findG_none {L : List (κ × β)} {k : κ} : Yap L k = none ↔ hasG L k = false := by
 induction L with
 | nil => simp [YbZ, hasG]
 | cons p L ih =>
  rw [Yat]
  have : hasG (p :: L) k = (decide (p.1 = k) || hasG L k) := by simp [hasG]
  rw [this]
  by_cases h : p.1 = k <;> simp [h, ih]
theorem findG_map (L : List (κ × β)) (k k' : κ) (v : β) : Yap (L.map fun p => if p.1 = k then (k, v) else p) k' = if k' = k then (if hasG L k = true then some v else none) else Yap L k' := by
 induction L with
 | nil => by_cases h : k' = k <;> simp [h, YbZ, hasG]
 | cons p L ih =>
  rw [List.map_cons, Yat, Yat, ih]
  have hh : hasG (p :: L) k = (decide (p.1 = k) || hasG L k) := by simp [hasG]
  rw [hh]
  by_cases h : p.1 = k
  ·rw [if_pos h]
   by_cases h2 : k' = k
   ·subst h2; simp [h]
   ·have h3 : ¬ k = k' := fun e => h2 e.symm
    have h4 : ¬ p.1 = k' := fun e => h2 (e.symm.trans h)
    simp [h2, h3, h4]
  ·rw [if_neg h]
   by_cases h2 : k' = k
   ·subst h2; simp [h]
   ·simp [h2]
theorem findG_put (L : List (κ × β)) (k : κ) (v : β) (k' : κ) : Yap (putG L k v) k' = if k' = k then some v else Yap L k' := by
 unfold putG
 by_cases hh : hasG L k = true
 ·rw [if_pos hh, findG_map, if_pos hh]
 ·rw [if_neg hh, findG_append, Yat, YbZ]
  by_cases h : k' = k
  ·subst h
   rw [findG_none.2 (by simpa using hh)]
   try simp
  ·have h3 : ¬ k = k' := fun e => h e.symm
   rw [if_neg h, if_neg h3]
   cases Yap L k' <;> rfl
theorem YbF {L : List (κ × β)} (h : NkG L) (p : κ × β) : p ∈ L ↔ Yap L p.1 = some p.2 := by
 induction L with
 | nil => simp [YbZ]
 | cons q L ih =>
  obtain ⟨h1, h2⟩ := List.pairwise_cons.1 h
  rw [Yat, List.mem_cons]
  by_cases hq : q.1 = p.1
  ·rw [if_pos hq]
   constructor
   ·rintro (rfl | hp)
    ·rfl
    ·exact absurd hq (h1 p hp)
   ·intro e
    exact .inl (Prod.ext hq.symm (Option.some.inj e).symm)
  ·rw [if_neg hq, <- ih h2]
   constructor
   ·rintro (rfl | hp)
    ·exact absurd J hq
    ·exact hp
   ·exact .inr
theorem putG_mem {L : List (κ × β)} {k : κ} {v : β} {p : κ × β} (h : p ∈ putG L k v) : p = (k, v) \/ p ∈ L := by
 unfold putG at h
 by_cases hh : hasG L k = true
 ·rw [if_pos hh] at h
  obtain ⟨q, hq, rfl⟩ := ZmM.1 h
  by_cases h2 : q.1 = k
  ·rw [if_pos h2]; exact .inl rfl
  ·rw [if_neg h2]; exact .inr hq
 ·rw [if_neg hh, List.mem_append, ZmS] at h
  exact h.elim .inr .inl
theorem putG_len (L : List (κ × β)) (k : κ) (v : β) : (putG L k v).length <= L.length + 1 := by
 unfold putG
 split <;> simp
def YbE (add : β -> β -> β) (o : Option β) (v : β) : β := match o with
 | some u => add u v
 | none => v
def accG (add : β -> β -> β) (L : List (κ × β)) (e : κ × β) : List (κ × β) := putG L e.1 (YbE add (Yap L e.1) e.2)
def addO (lt : κ -> κ -> Bool) (add : β -> β -> β) (e : κ × β) : List (κ × β) -> List (κ × β)
 | [] => [e]
 | p :: l => if lt p.1 e.1 = true then p :: addO lt add e l else if p.1 = e.1 then (e.1, add p.2 e.2) :: l else e :: p :: l
def RiG (lt : κ -> κ -> Bool) (L : List (κ × β)) : Prop := L.Pairwise fun p q => lt p.1 q.1 = true
structure Tot (lt : κ -> κ -> Bool) : Prop where
 irr : ∀ x, lt x x = false
 tr : ∀ {x y z}, lt x y = true -> lt y z = true -> lt x z = true
 tot : ∀ {x y}, lt x y = false -> lt y x = false -> x = y
variable {lt : κ -> κ -> Bool} {add : β -> β -> β}
theorem RiG.nk (T : Tot lt) {L : List (κ × β)} (h : RiG lt L) : NkG L := h.imp fun {p q} h e => by rw [e, T.irr] at h; cases h
theorem addO_mem {e p : κ × β} : ∀ {L : List (κ × β)}, p ∈ addO lt add e L -> p.1 = e.1 \/ p ∈ L
 | [], h => by
  rw [addO, ZmS] at h
  exact .inl (by rw [h])
 | q :: l, h => by
  rw [addO] at h
  split at h
  ·rcases List.mem_cons.1 h with rfl | h
   ·exact .inr (List.mem_cons_self ..)
   ·exact (addO_mem h).imp id (List.mem_cons_of_mem _)
  ·split at h
   ·rcases List.mem_cons.1 h with rfl | h
    ·exact .inl J
    ·exact .inr (List.mem_cons_of_mem _ h)
   ·rcases List.mem_cons.1 h with rfl | h
    ·exact .inl J
    ·exact .inr h
theorem addO_ri (T : Tot lt) (e : κ × β) : ∀ {L : List (κ × β)}, RiG lt L -> RiG lt (addO lt add e L)
 | [], _ => by rw [addO]; exact List.pairwise_singleton ..
 | q :: l, h => by
  obtain ⟨h1, h2⟩ := List.pairwise_cons.1 h
  rw [addO]
  split
  ·rename_i hl
   refine List.pairwise_cons.2 ⟨fun p hp => ?_, addO_ri T e h2⟩
   rcases addO_mem hp with h3 | h3
   ·rw [h3]; exact hl
   ·exact h1 p h3
  ·rename_i hl
   split
   ·rename_i he
    refine List.pairwise_cons.2 ⟨fun p hp => ?_, h2⟩
    have := h1 p hp
    rw [he] at this; exact this
   ·rename_i he
    have h3 : lt e.1 q.1 = true := by
     cases h4 : lt e.1 q.1 with
     | true => rfl
     | false => exact absurd (T.tot (by simpa using hl) h4) he
    refine List.pairwise_cons.2 ⟨fun p hp => ?_, h⟩
    rcases List.mem_cons.1 hp with rfl | hp
    ·exact h3
    ·exact T.tr h3 (h1 p hp)
theorem findG_addO (T : Tot lt) (e : κ × β) (k : κ) : ∀ {L : List (κ × β)}, RiG lt L -> Yap (addO lt add e L) k = if k = e.1 then some (YbE add (Yap L e.1) e.2) else Yap L k
 | [], _ => by
  rw [addO, Yat, YbZ]
  by_cases h : k = e.1
  ·simp [h, YbE, YbZ]
  ·have : ¬ e.1 = k := fun e2 => h e2.symm
   simp [h, this]
 | q :: l, h => by
  obtain ⟨h1, h2⟩ := List.pairwise_cons.1 h
  have hno : lt e.1 q.1 = true \/ ¬ lt q.1 e.1 = true /\ ¬ q.1 = e.1 -> Yap (q :: l) e.1 = none := fun hh => by
   have h3 : lt e.1 q.1 = true := by
    rcases hh with h3 | ⟨h3, h4⟩
    ·exact h3
    ·cases h5 : lt e.1 q.1 with
     | true => rfl
     | false => exact absurd (T.tot (by simpa using h3) h5) h4
   rw [findG_none]
   cases h6 : hasG (q :: l) e.1 with
   | false => rfl
   | true =>
    obtain ⟨p, hp, he⟩ := hasG_iff.1 h6
    rcases List.mem_cons.1 hp with rfl | hp
    ·rw [he, T.irr] at h3; cases h3
    ·have := T.tr h3 (h1 p hp)
     rw [he, T.irr] at this; cases this
  rw [addO]
  split
  ·rename_i hl
   have hne : ¬ q.1 = e.1 := fun e2 => by rw [e2, T.irr] at hl; cases hl
   rw [Yat, findG_addO T e k h2, Yat, Yat, if_neg hne]
   by_cases hk : k = e.1
   ·subst hk; simp [hne]
   ·simp [hk]
  ·rename_i hl
   split
   ·rename_i he
    rw [Yat, Yat, Yat, if_pos he]
    by_cases hk : k = e.1
    ·simp [hk, YbE]
    ·have h3 : ¬ e.1 = k := fun e2 => hk e2.symm
     have h4 : ¬ q.1 = k := fun e2 => hk (e2.symm.trans he)
     simp [hk, h3, h4]
   ·rename_i he
    rw [Yat, hno (.inr ⟨hl, he⟩)]
    by_cases hk : k = e.1
    ·simp [hk, YbE]
    ·have h3 : ¬ e.1 = k := fun e2 => hk e2.symm
     simp [hk, h3]
def foldP (add : β -> β -> β) (E : List (κ × β)) : List (κ × β) := E.foldl (accG add) []
def foldO (lt : κ -> κ -> Bool) (add : β -> β -> β) (E : List (κ × β)) : List (κ × β) := E.foldl (fun L e => addO lt add e L) []
theorem fold_same (T : Tot lt) (E : List (κ × β)) : ∀ (G O : List (κ × β)), NkG G -> RiG lt O -> (∀ k, Yap G k = Yap O k) ->
 NkG (E.foldl (accG add) G) /\ RiG lt (E.foldl (fun L e => addO lt add e L) O) /\ ∀ k, Yap (E.foldl (accG add) G) k = Yap (E.foldl (fun L e => addO lt add e L) O) k := by
 induction E with
 | nil => exact fun G O h1 h2 h3 => ⟨h1, h2, h3⟩
 | cons e E ih =>
  intro G O h1 h2 h3
  rw [List.foldl_cons, List.foldl_cons]
  refine ih _ _ (putG_nk h1 _ _) (addO_ri T e h2) fun k => ?_
  unfold accG
  rw [findG_put, findG_addO T e k h2, h3 e.1, h3 k]
theorem foldP_nk (T : Tot lt) (E : List (κ × β)) : NkG (foldP add E) := (fold_same T E [] [] List.Pairwise.nil List.Pairwise.nil fun _ => rfl).1
theorem foldO_ri (T : Tot lt) (E : List (κ × β)) : RiG lt (foldO lt add E) := (fold_same T E [] [] List.Pairwise.nil List.Pairwise.nil fun _ => rfl).2.1
theorem fold_mem (T : Tot lt) (E : List (κ × β)) (p : κ × β) : p ∈ foldP add E ↔ p ∈ foldO lt add E := by
 rw [YbF (foldP_nk T E), YbF (RiG.nk T (foldO_ri T E))]
 have := (fold_same (add := add) T E [] [] List.Pairwise.nil List.Pairwise.nil fun _ => rfl).2.2 p.1
 unfold foldP foldO
 rw [this]
theorem ri_uniq (T : Tot lt) {l r : List (κ × β)} (h1 : RiG lt l) (h2 : RiG lt r) (hm : ∀ x, x ∈ l ↔ x ∈ r) : l = r := by
 have nd : ∀ {l : List (κ × β)}, RiG lt l -> l.Nodup := fun h => h.imp fun {a b} hab e => by rw [e, T.irr] at hab; cases hab
 have hp : l.Perm r := (List.perm_ext_iff_of_nodup (nd h1) (nd h2)).2 hm
 refine List.Perm.eq_of_pairwise (le := fun (x y : κ × β) => lt x.1 y.1 = true) (fun a b _ _ h3 h4 => ?_) h1 h2 hp
 have := T.tr h3 h4
 rw [T.irr] at this
 cases this
end
def ltI2 (a b : Int) : Bool := decide (a < b)
def ltB (a b : ByteArray) : Bool := decide (Yax a b < 0)
def lexL {κ ι : Type} [DecidableEq κ] (l1 : κ -> κ -> Bool) (l2 : ι -> ι -> Bool) (a b : κ × ι) : Bool := l1 a.1 b.1 || (decide (a.1 = b.1) && l2 a.2 b.2)
theorem tot_int : Tot ltI2 := ⟨fun x => by simp [ltI2], fun {x y z} h1 h2 => by unfold ltI2 at *; simp at *; omega, fun {x y} h1 h2 => by unfold ltI2 at *; simp at *; omega⟩
theorem ltB_iff {a b : ByteArray} : ltB a b = true ↔ a.data.toList < b.data.toList := by
 unfold ltB Yax
 rw [decide_eq_true_eq, cbLt]
theorem tot_str : Tot ltB where
 irr x := by
  cases h : ltB x x with
  | false => rfl
  | true => exact absurd (ltB_iff.1 h) (List.lt_irrefl _)
 tr h1 h2 := ltB_iff.2 (List.lt_trans (ltB_iff.1 h1) (ltB_iff.1 h2))
 tot {x y} h1 h2 := by
  have a1 : ¬ x.data.toList < y.data.toList := fun h => by rw [ltB_iff.2 h] at h1; cases h1
  have a2 : ¬ y.data.toList < x.data.toList := fun h => by rw [ltB_iff.2 h] at h2; cases h2
  exact baEq.1 (List.le_antisymm (List.not_lt.1 a2) (List.not_lt.1 a1))
theorem lexL_iff {κ ι : Type} [DecidableEq κ] {l1 : κ -> κ -> Bool} {l2 : ι -> ι -> Bool} {a b : κ × ι} : lexL l1 l2 a b = true ↔ l1 a.1 b.1 = true \/ a.1 = b.1 /\ l2 a.2 b.2 = true := by
 unfold lexL
 rw [Bool.or_eq_true, ZbA, decide_eq_true_eq]
theorem Tot.lex {κ ι : Type} [DecidableEq κ] {l1 : κ -> κ -> Bool} {l2 : ι -> ι -> Bool} (h1 : Tot l1) (h2 : Tot l2) : Tot (lexL l1 l2) where
 irr x := by
  cases h : lexL l1 l2 x x with
  | false => rfl
  | true =>
   rcases lexL_iff.1 h with h3 | ⟨_, h3⟩
   ·rw [h1.irr] at h3; cases h3
   ·rw [h2.irr] at h3; cases h3
 tr {x y z} h3 h4 := by
  rw [lexL_iff] at *
  rcases h3 with h3 | ⟨h3, h5⟩ <;> rcases h4 with h4 | ⟨h4, h6⟩
  ·exact .inl (h1.tr h3 h4)
  ·exact .inl (by rw [<- h4]; exact h3)
  ·exact .inl (by rw [h3]; exact h4)
  ·exact .inr ⟨h3.trans h4, h2.tr h5 h6⟩
 tot {x y} h3 h4 := by
  have n1 : ∀ {p q : κ × ι}, lexL l1 l2 p q = false -> ¬ (l1 p.1 q.1 = true \/ p.1 = q.1 /\ l2 p.2 q.2 = true) := fun h h' => by rw [lexL_iff.2 h'] at h; cases h
  have a1 := n1 h3
  have a2 := n1 h4
  have e1 : x.1 = y.1 := h1.tot (by
   cases h : l1 x.1 y.1 with
   | false => rfl
   | true => exact absurd (.inl h) a1) (by
   cases h : l1 y.1 x.1 with
   | false => rfl
   | true => exact absurd (.inl h) a2)
  refine Prod.ext e1 (h2.tot ?_ ?_)
  ·cases h : l2 x.2 y.2 with
   | false => rfl
   | true => exact absurd (.inr ⟨e1, h⟩) a1
  ·cases h : l2 y.2 x.2 with
   | false => rfl
   | true => exact absurd (.inr ⟨e1.symm, h⟩) a2
theorem Tot.swo {κ α : Type} {lt : κ -> κ -> Bool} (T : Tot lt) (f : α -> κ) : SWO (fun x y => lt (f x) (f y)) where
 irrefl x := T.irr _
 trans x y z h1 h2 := T.tr h1 h2
 ntrans x y z h1 h2 := by
  cases h3 : lt (f x) (f z) with
  | false => rfl
  | true =>
   cases h4 : lt (f y) (f x) with
   | true => rw [T.tr h4 h3] at h2; cases h2
   | false => rw [T.tot h1 h4] at h3; rw [h3] at h2; cases h2
structure Sal where
 recd : Int
 per : Int
 units : Int
 money : Int
deriving DecidableEq
structure Unk where
 source : ByteArray
 title : ByteArray
 per : Int
 units : Int
 money : Int
deriving DecidableEq
instance : Inhabited Sal := ⟨⟨0, 0, 0, 0⟩⟩
instance : Inhabited Unk := ⟨⟨⟨#[]⟩, ⟨#[]⟩, 0, 0, 0⟩⟩
def Sal.ds (x : Sal) : List D := [.v (.int .i64 x.recd), .v (.int .i64 x.per), .v (.int .i64 x.units), .v (.int .i64 x.money)]
def Unk.ds (x : Unk) : List D := [.v (.string x.source), .v (.string x.title), .v (.int .i64 x.per), .v (.int .i64 x.units), .v (.int .i64 x.money)]
abbrev KS := Int × Int
abbrev KU := ByteArray × ByteArray × Int
abbrev UM := Int × Int
def addU (a b : UM) : UM := (a.1 + b.1, a.2 + b.2)
def ltS : KS -> KS -> Bool := lexL ltI2 ltI2
def ltU : KU -> KU -> Bool := lexL ltB (lexL ltB ltI2)
theorem tot_S : Tot ltS := tot_int.lex tot_int
theorem tot_U : Tot ltU := tot_str.lex (tot_str.lex tot_int)
def toS (p : KS × UM) : Sal := ⟨p.1.1, p.1.2, p.2.1, p.2.2⟩
def toU (p : KU × UM) : Unk := ⟨p.1.1, p.1.2.1, p.1.2.2, p.2.1, p.2.2⟩
def Sal.key (x : Sal) : KS := (x.recd, x.per)
def Unk.key (x : Unk) : KU := (x.source, x.title, x.per)
def Yb3 (a b : Int) : Int := if a < b then -1 else if b < a then 1 else 0
def cmpS (x y : Sal) : Int := orI [Yb3 x.recd y.recd, Yb3 x.per y.per]
def cmpU (x y : Unk) : Int := orI [Yax x.source y.source, Yax x.title y.title, Yb3 x.per y.per]
theorem cmpI2_lt {a b : Int} : Yb3 a b < 0 ↔ a < b := by unfold Yb3; split <;> (try split) <;> omega
theorem cmpI2_zero {a b : Int} : Yb3 a b = 0 ↔ a = b := by unfold Yb3; split <;> (try split) <;> omega
theorem Ycs (a : Int) (l : List Int) : orI (a :: l) = if a = 0 then orI l else a := by
 unfold orI
 rw [List.find?_cons]
 by_cases h : a = 0 <;> simp [h]
theorem orI_one (a : Int) : orI [a] = a := by
 rw [Ycs]
 by_cases h : a = 0
 ·rw [if_pos h, h]; rfl
 ·rw [if_neg h]
theorem ltOf_S (x y : Sal) : ltOf cmpS x y = ltS x.key y.key := by
 unfold ltOf cmpS ltS lexL Sal.key ltI2
 rw [Ycs, orI_one]
 dsimp only
 by_cases h : Yb3 x.recd y.recd = 0
 ·rw [if_pos h]
  have := cmpI2_zero.1 h
  simp [this, cmpI2_lt]
 ·rw [if_neg h]
  have h2 : ¬ x.recd = y.recd := fun e => h (cmpI2_zero.2 e)
  simp [h2, cmpI2_lt]
theorem ltOf_U (x y : Unk) : ltOf cmpU x y = ltU x.key y.key := by
 unfold ltOf cmpU ltU lexL Unk.key ltI2 ltB
 rw [Ycs, Ycs, orI_one]
 dsimp only
 by_cases h : Yax x.source y.source = 0
 ·rw [if_pos h]
  have e1 := strCmp_zero.1 h
  by_cases h3 : Yax x.title y.title = 0
  ·rw [if_pos h3]
   have e2 := strCmp_zero.1 h3
   rw [e1, e2]
   simp [cmpI2_lt, strCmp_zero.2 rfl]
  ·rw [if_neg h3]
   have e2 : ¬ x.title = y.title := fun e => h3 (strCmp_zero.2 e)
   rw [e1]
   simp [e2, strCmp_zero.2 rfl]
 ·rw [if_neg h]
  have h2 : ¬ x.source = y.source := fun e => h (strCmp_zero.2 e)
  simp [h2]
theorem swo_S : SWO (ltOf cmpS) := by
 have : ltOf cmpS = fun x y => ltS (Sal.key x) (Sal.key y) := by funext x y; exact ltOf_S x y
 rw [this]; exact tot_S.swo _
theorem swo_U : SWO (ltOf cmpU) := by
 have : ltOf cmpU = fun x y => ltU (Unk.key x) (Unk.key y) := by funext x y; exact ltOf_U x y
 rw [this]; exact tot_U.swo _
instance : Inhabited Ali := ⟨⟨⟨#[]⟩, ⟨#[]⟩, 0⟩⟩
def Ali.key (x : Ali) : ByteArray × ByteArray := (x.source, x.title)
def ltA : ByteArray × ByteArray -> ByteArray × ByteArray -> Bool := lexL ltB ltB
theorem tot_A : Tot ltA := tot_str.lex tot_str
theorem aliCmp_lt {a b : Ali} : YaL a b < 0 ↔ ltA a.key b.key = true := by
 unfold YaL ltA Ali.key
 rw [lexL_iff]
 unfold ltB
 rw [decide_eq_true_eq, decide_eq_true_eq]
 dsimp only
 by_cases h : a.source = b.source
 ·rw [if_pos h, h, strCmp_zero.2 rfl]; simp
 ·rw [if_neg h]; simp [h]
theorem aliCmp_zero {a b : Ali} : YaL a b = 0 ↔ a.key = b.key := by
 unfold YaL Ali.key
 by_cases h : a.source = b.source
 ·rw [if_pos h, strCmp_zero]; simp [h]
 ·rw [if_neg h, strCmp_zero]; simp [h]
def Yak (a : List Ali) (s t : ByteArray) : Int := ((a.find? fun x => decide (x.source = s) && decide (x.title = t)).map (·.recd)).getD 0
structure Als (a : List Ali) : Prop where
 len : a.length <= 500
 rng : ∀ x ∈ a, 1 <= x.recd /\ x.recd <= 1000000
 rise : a.Pairwise fun x y => ltA x.key y.key = true
theorem als_of {a : List Ali} (h : Yb5 a = 0) : Als a := by
 unfold Yb5 at h
 by_cases h1 : 500 < a.length
 ·rw [if_pos h1] at h; simp at h
 rw [if_neg h1] at h
 have h2 := Ya2 _ h
 have key : ∀ k, (hk : k < a.length) -> (1 <= a[k].recd /\ a[k].recd <= 1000000) /\ (∀ h0 : 0 < k, ltA (a[k-1]'(by omega)).key a[k].key = true) := fun k hk => by
  have h3 := h2 k hk
  unfold aliF at h3
  rw [dif_pos hk] at h3
  split at h3
  ·omega
  split at h3
  ·omega
  split at h3
  ·omega
  split at h3
  ·rename_i _ _ n1 n2
   refine ⟨n2, fun h0 => aliCmp_lt.1 ?_⟩
   exact Int.not_le.1 fun h6 => n1 ⟨h0, h6⟩
  ·omega
 refine ⟨by omega, fun x hx => ?_, ?_⟩
 ·obtain ⟨k, hk, rfl⟩ := List.mem_iff_getElem.1 hx
  exact (key k hk).1
 ·have step : ∀ d i, (h : i + d + 1 < a.length) -> ltA a[i].key a[i + d + 1].key = true := by
   intro d
   induction d with
   | zero => intro i h3; exact (key (i + 1) h3).2 (by omega)
   | succ d ih => intro i h3; exact tot_A.tr (ih i (by omega)) ((key (i + (d + 1) + 1) h3).2 (by omega))
  refine List.pairwise_iff_getElem.2 fun i j hi hj hij => ?_
  obtain ⟨d, rfl⟩ : ∃ d, j = i + d + 1 := ⟨j - i - 1, by omega⟩
  exact step d i hj
def ltQA (l : List Ali) (t : Ali) (k : Nat) : Bool := decide (k < l.length) && decide (YaL (l.getD k default) t < 0)
def posA (l : List Ali) (t : Ali) : Nat := bsr (ltQA l t) 0 l.length
def hasA (l : List Ali) (t : Ali) : Bool := decide (posA l t < l.length) && decide (YaL (l.getD (posA l t) default) t = 0)
theorem ltQA_at {l : List Ali} {t : Ali} {k : Nat} (hk : k < l.length) : ltQA l t k = decide (YaL l[k] t < 0) := by unfold ltQA; rw [decide_eq_true hk, ZgD, ZgE hk]; rfl
theorem ltQA_t {l : List Ali} {t : Ali} {k : Nat} (hk : k < l.length) (h : YaL l[k] t < 0) : ltQA l t k = true := by rw [ltQA_at hk]; exact decide_eq_true h
theorem ltQA_f {l : List Ali} {t : Ali} {k : Nat} (hk : k < l.length) (h : ¬ YaL l[k] t < 0) : ltQA l t k = false := by rw [ltQA_at hk]; exact decide_eq_false h
theorem hasA_at {l : List Ali} {t : Ali} (hk : posA l t < l.length) : hasA l t = decide (YaL l[posA l t] t = 0) := by unfold hasA; rw [decide_eq_true hk, ZgD, ZgE hk]; rfl
theorem hasA_t {l : List Ali} {t : Ali} {k : Nat} (hk : k < l.length) (hp : posA l t = k) (h : YaL l[k] t = 0) : hasA l t = true := by subst hp; rw [hasA_at hk]; exact decide_eq_true h
theorem hasA_e {l : List Ali} {t : Ali} {k : Nat} (hk : ¬ k < l.length) (hp : posA l t = k) : hasA l t = false := by unfold hasA; rw [hp]; simp [hk]
theorem hasA_k {l : List Ali} {t : Ali} {k : Nat} (hk : k < l.length) (hp : posA l t = k) : hasA l t = decide (YaL l[k] t = 0) := by subst hp; exact hasA_at hk
theorem meant_at {a : List Ali} (ok : Als a) {i : Nat} (hi : i < a.length) : Yak a a[i].source a[i].title = a[i].recd := by
 unfold Yak
 cases hf : a.find? fun x => decide (x.source = a[i].source) && decide (x.title = a[i].title) with
 | none =>
  have := List.find?_eq_none.1 hf _ (ZgM hi)
  simp at this
 | some y =>
  have h2 := List.find?_some hf
  obtain ⟨j, hj, rfl⟩ := List.mem_iff_getElem.1 (List.mem_of_find?_eq_some hf)
  simp only [ZbA, decide_eq_true_eq] at h2
  have hk : a[j].key = a[i].key := Prod.ext h2.1 h2.2
  have hji : j = i := by
   rcases Nat.lt_trichotomy i j with h3 | h3 | h3
   ·have := List.pairwise_iff_getElem.1 ok.rise i j hi hj h3
    rw [hk, tot_A.irr] at this; cases this
   ·exact h3.symm
   ·have := List.pairwise_iff_getElem.1 ok.rise j i hj hi h3
    rw [hk, tot_A.irr] at this; cases this
  subst hji
  rfl
theorem meant_no {a : List Ali} {s t : ByteArray} (h : ∀ x ∈ a, ¬ (x.source = s /\ x.title = t)) : Yak a s t = 0 := by
 unfold Yak
 cases hf : a.find? fun x => decide (x.source = s) && decide (x.title = t) with
 | none => rfl
 | some y =>
  have h2 := List.find?_some hf
  simp only [ZbA, decide_eq_true_eq] at h2
  exact absurd h2 (h y (List.mem_of_find?_eq_some hf))
theorem ltQA_mono {l : List Ali} (ok : Als l) (t : Ali) : ∀ a b, a <= b -> ltQA l t b = true -> ltQA l t a = true := fun a b hab h => by
 by_cases hb : b < l.length
 ·rw [ltQA_at hb, decide_eq_true_eq, aliCmp_lt] at h
  refine ltQA_t (show a < l.length by omega) (aliCmp_lt.2 ?_)
  by_cases e : a = b
  ·subst e; exact h
  ·exact tot_A.tr (List.pairwise_iff_getElem.1 ok.rise a b (by omega) hb (by omega)) h
 ·unfold ltQA at h
  rw [decide_eq_false hb] at h; cases h
theorem hasA_yes {a : List Ali} (ok : Als a) {s t : ByteArray} {r : Int} (h : hasA a ⟨s, t, r⟩ = true) : ∃ hp : posA a ⟨s, t, r⟩ < a.length, a[posA a ⟨s, t, r⟩].recd = Yak a s t /\ Yak a s t ≠ 0 := by
 by_cases hp : posA a ⟨s, t, r⟩ < a.length
 ·rw [hasA_at hp, decide_eq_true_eq, aliCmp_zero] at h
  have h1 : a[posA a ⟨s, t, r⟩].source = s := congrArg Prod.fst h
  have h2 : a[posA a ⟨s, t, r⟩].title = t := congrArg Prod.snd h
  have h3 := meant_at ok hp
  rw [h1, h2] at h3
  have := (ok.rng _ (ZgM hp)).1
  exact ⟨hp, h3.symm, by rw [h3]; omega⟩
 ·rw [hasA_e hp rfl] at h; cases h
theorem hasA_no {a : List Ali} (ok : Als a) {s t : ByteArray} {r : Int} (h : hasA a ⟨s, t, r⟩ = false) : Yak a s t = 0 := by
 refine meant_no fun x hx hst => ?_
 obtain ⟨i, hi, rfl⟩ := List.mem_iff_getElem.1 hx
 have hk : a[i].key = (⟨s, t, r⟩ : Ali).key := Prod.ext hst.1 hst.2
 have h1 := bsr_spec (ltQA_mono ok ⟨s, t, r⟩) a.length 0 a.length (by omega) (ZnZ _) (fun k hk => by omega)
 have hi0 : ltQA a ⟨s, t, r⟩ i = false := ltQA_f hi (fun h2 => by rw [aliCmp_lt, hk, tot_A.irr] at h2; cases h2)
 have hle : posA a ⟨s, t, r⟩ <= i := Nat.not_lt.1 fun hlt => by
  have := h1.1 i (ZnZ _) hlt
  rw [hi0] at this; cases this
 have hge : ¬ posA a ⟨s, t, r⟩ < i := fun hlt => by
  have h2 := h1.2 (posA a ⟨s, t, r⟩) (ZnR _) (show posA a ⟨s, t, r⟩ < a.length by omega)
  have h3 := List.pairwise_iff_getElem.1 ok.rise (posA a ⟨s, t, r⟩) i (by omega) hi hlt
  rw [ltQA_t (show posA a ⟨s, t, r⟩ < a.length by omega) (aliCmp_lt.2 (hk ▸ h3))] at h2; cases h2
 have e : posA a ⟨s, t, r⟩ = i := by omega
 rw [hasA_t hi e (aliCmp_zero.2 hk)] at h; cases h
abbrev SU := List (KS × UM) × List (KU × UM)
def stU (a : List Ali) (x : Rpt) (s : SU) (u : Usd) : SU :=
 if Yak a x.source u.title ≠ 0 then (accG addU s.1 ((Yak a x.source u.title, x.period), (u.units, u.money)), s.2) else (s.1, accG addU s.2 ((x.source, u.title, x.period), (u.units, u.money)))
def stX (a : List Ali) (s : SU) (x : Rpt) : SU := x.lines.foldl (stU a x) s
def stA (a : List Ali) (l : List Rpt) : SU := l.foldl (stX a) ([], [])
def stB (a : List Ali) (x : Rpt) (s : SU) (j : Nat) : SU := (x.lines.take j).foldl (stU a x) s
theorem stB_next {a : List Ali} {x : Rpt} {s : SU} {j : Nat} (h : j < x.lines.length) : stB a x s (j + 1) = stU a x (stB a x s j) x.lines[j] := by
 unfold stB
 rw [List.take_add_one, ZgE h, Option.toList_some, List.foldl_append]; rfl
theorem stA_next {a : List Ali} {l : List Rpt} {k : Nat} (h : k < l.length) : stA a (l.take (k + 1)) = stB a l[k] (stA a (l.take k)) l[k].lines.length := by
 unfold stA stB
 rw [List.take_add_one, ZgE h, Option.toList_some, List.foldl_append, List.take_length]; rfl
def knE (a : List Ali) (x : Rpt) (u : Usd) : List (KS × UM) := if Yak a x.source u.title ≠ 0 then [((Yak a x.source u.title, x.period), (u.units, u.money))] else []
def opE (a : List Ali) (x : Rpt) (u : Usd) : List (KU × UM) := if Yak a x.source u.title ≠ 0 then [] else [((x.source, u.title, x.period), (u.units, u.money))]
def knA (a : List Ali) (l : List Rpt) : List (KS × UM) := l.flatMap fun x => x.lines.flatMap (knE a x)
def opA (a : List Ali) (l : List Rpt) : List (KU × UM) := l.flatMap fun x => x.lines.flatMap (opE a x)
theorem stU_eq (a : List Ali) (x : Rpt) (s : SU) (u : Usd) : stU a x s u = ((knE a x u).foldl (accG addU) s.1, (opE a x u).foldl (accG addU) s.2) := by
 unfold stU knE opE
 by_cases h : Yak a x.source u.title ≠ 0
 ·rw [if_pos h, if_pos h, if_pos h]; rfl
 ·rw [if_neg h, if_neg h, if_neg h]; rfl
theorem stX_eq (a : List Ali) (x : Rpt) : ∀ (us : List Usd) (s : SU), us.foldl (stU a x) s = ((us.flatMap (knE a x)).foldl (accG addU) s.1, (us.flatMap (opE a x)).foldl (accG addU) s.2)
 | [], s => rfl
 | u :: us, s => by
  rw [List.foldl_cons, stX_eq a x us, stU_eq, List.flatMap_cons, List.flatMap_cons, List.foldl_append, List.foldl_append]
theorem stA_fold (a : List Ali) : ∀ (l : List Rpt) (s : SU), l.foldl (stX a) s = ((knA a l).foldl (accG addU) s.1, (opA a l).foldl (accG addU) s.2)
 | [], s => rfl
 | x :: l, s => by
  rw [List.foldl_cons, stA_fold a l]
  unfold stX knA opA
  rw [stX_eq, List.flatMap_cons, List.flatMap_cons, List.foldl_append, List.foldl_append]
theorem stA_eq (a : List Ali) (l : List Rpt) : stA a l = (foldP addU (knA a l), foldP addU (opA a l)) := stA_fold a l ([], [])
def salesR (a : List Ali) (l : List Rpt) : List Sal := (foldO ltS addU (knA a l)).map toS
def unkR (a : List Ali) (l : List Rpt) : List Unk := (foldO ltU addU (opA a l)).map toU
structure InvS (n : Int) (s : SU) : Prop where
 n1 : NkG s.1
 n2 : NkG s.2
 b1 : ∀ p ∈ s.1, (0 <= p.2.1 /\ p.2.1 <= 1000000000 * n) /\ 0 <= p.2.2 /\ p.2.2 <= 1000000000 * n
 b2 : ∀ p ∈ s.2, (0 <= p.2.1 /\ p.2.1 <= 1000000000 * n) /\ 0 <= p.2.2 /\ p.2.2 <= 1000000000 * n
 k1 : ∀ p ∈ s.1, (0 <= p.1.1 /\ p.1.1 <= 1000000) /\ 0 <= p.1.2 /\ p.1.2 <= 2400
 k2 : ∀ p ∈ s.2, p.1.1.size <= maxLen /\ p.1.2.1.size <= maxLen /\ 0 <= p.1.2.2 /\ p.1.2.2 <= 2400
 l1 : (s.1.length : Int) <= n
 l2 : (s.2.length : Int) <= n
theorem InvS.nil : InvS 0 ([], []) := ⟨List.Pairwise.nil, List.Pairwise.nil, by simp, by simp, by simp, by simp, by simp, by simp⟩
theorem plus_bound {κ : Type} [DecidableEq κ] {L : List (κ × UM)} {n : Int} (hL : ∀ p ∈ L, (0 <= p.2.1 /\ p.2.1 <= 1000000000 * n) /\ 0 <= p.2.2 /\ p.2.2 <= 1000000000 * n) (hn : 0 <= n) (k : κ) {u : UM} (hu : (0 <= u.1 /\ u.1 <= 1000000000) /\ 0 <= u.2 /\ u.2 <= 1000000000) :
 (0 <= (YbE addU (Yap L k) u).1 /\ (YbE addU (Yap L k) u).1 <= 1000000000 * (n + 1)) /\ 0 <= (YbE addU (Yap L k) u).2 /\ (YbE addU (Yap L k) u).2 <= 1000000000 * (n + 1) := by
 cases hf : Yap L k with
 | none => simp only [YbE]; omega
 | some v =>
  unfold Yap at hf
  cases hq : L.find? fun p => decide (p.1 = k) with
  | none => rw [hq] at hf; cases hf
  | some p =>
   rw [hq] at hf
   have := hL p (List.mem_of_find?_eq_some hq)
   have hv : p.2 = v := Option.some.inj hf
   subst hv
   simp only [YbE, addU]
   omega
theorem acc_inv {κ : Type} [DecidableEq κ] {L : List (κ × UM)} {n : Int} {K : κ -> Prop} (hn : 0 <= n) (hk : NkG L) (hb : ∀ p ∈ L, (0 <= p.2.1 /\ p.2.1 <= 1000000000 * n) /\ 0 <= p.2.2 /\ p.2.2 <= 1000000000 * n) (hK : ∀ p ∈ L, K p.1) (hl : (L.length : Int) <= n)
 (e : κ × UM) (he : (0 <= e.2.1 /\ e.2.1 <= 1000000000) /\ 0 <= e.2.2 /\ e.2.2 <= 1000000000) (hke : K e.1) :
 NkG (accG addU L e) /\ (∀ p ∈ accG addU L e, (0 <= p.2.1 /\ p.2.1 <= 1000000000 * (n + 1)) /\ 0 <= p.2.2 /\ p.2.2 <= 1000000000 * (n + 1)) /\ (∀ p ∈ accG addU L e, K p.1) /\ ((accG addU L e).length : Int) <= n + 1 := by
 unfold accG
 refine ⟨putG_nk hk _ _, fun p hp => ?_, fun p hp => ?_, ?_⟩
 ·rcases putG_mem hp with rfl | hp
  ·exact plus_bound hb hn e.1 he
  ·have := hb p hp; omega
 ·rcases putG_mem hp with rfl | hp
  ·exact hke
  ·exact hK p hp
 ·have := putG_len L e.1 (YbE addU (Yap L e.1) e.2)
  omega
theorem InvS.step {n : Int} {s : SU} (h : InvS n s) (hn : 0 <= n) (a : List Ali) (x : Rpt) (u : Usd) (hr : ∀ y ∈ a, 1 <= y.recd /\ y.recd <= 1000000) (hx : x.source.size <= maxLen /\ 0 <= x.period /\ x.period <= 2400) (hu : u.title.size <= maxLen /\ (0 <= u.units /\ u.units <= 1000000000) /\ 0 <= u.money /\ u.money <= 1000000000) : InvS (n + 1) (stU a x s u) := by
 have hm : 0 <= Yak a x.source u.title /\ Yak a x.source u.title <= 1000000 := by
  unfold Yak
  cases hf : a.find? fun y => decide (y.source = x.source) && decide (y.title = u.title) with
  | none => simp
  | some y => have := hr y (List.mem_of_find?_eq_some hf); simp only [Option.map_some, Option.getD_some]; omega
 have wk : ∀ {κ : Type} {L : List (κ × UM)}, (∀ p ∈ L, (0 <= p.2.1 /\ p.2.1 <= 1000000000 * n) /\ 0 <= p.2.2 /\ p.2.2 <= 1000000000 * n) -> ∀ p ∈ L, (0 <= p.2.1 /\ p.2.1 <= 1000000000 * (n + 1)) /\ 0 <= p.2.2 /\ p.2.2 <= 1000000000 * (n + 1) := fun h p hp => by have := h p hp; omega
 unfold stU
 have h1 := h.l1
 have h2 := h.l2
 split
 ·obtain ⟨a1, a2, a3, a4⟩ := acc_inv (K := fun k : KS => (0 <= k.1 /\ k.1 <= 1000000) /\ 0 <= k.2 /\ k.2 <= 2400) hn h.n1 h.b1 h.k1 h.l1 ((Yak a x.source u.title, x.period), (u.units, u.money)) hu.2 ⟨hm, hx.2⟩
  exact ⟨a1, h.n2, a2, wk h.b2, a3, h.k2, a4, by dsimp only; omega⟩
 ·obtain ⟨a1, a2, a3, a4⟩ := acc_inv (K := fun k : KU => k.1.size <= maxLen /\ k.2.1.size <= maxLen /\ 0 <= k.2.2 /\ k.2.2 <= 2400) hn h.n2 h.b2 h.k2 h.l2 ((x.source, u.title, x.period), (u.units, u.money)) hu.2 ⟨hx.1, hu.1, hx.2⟩
  exact ⟨h.n1, a1, wk h.b1, a2, h.k1, a3, by dsimp only; omega, a4⟩
def YbY {κ τ : Type} [Inhabited κ] (f : κ × UM -> τ) (K : List (κ × UM)) (done : List Nat) : List τ := done.map fun i => f (K.getD i default)
theorem pickG_snoc {κ τ : Type} [Inhabited κ] (f : κ × UM -> τ) (K : List (κ × UM)) (done : List Nat) {i : Nat} (hi : i < K.length) : YbY f K (done ++ [i]) = YbY f K done ++ [f K[i]] := by
 unfold YbY
 rw [ZmA, List.map_cons, List.map_nil, ZgD, ZgE hi]; rfl
theorem pickG_perm {κ τ : Type} [Inhabited κ] (f : κ × UM -> τ) (K : List (κ × UM)) {done : List Nat} (hn : done.Nodup) (hl : ∀ i ∈ done, i < K.length) (ha : ∀ i, i < K.length -> i ∈ done) : (YbY f K done).Perm (K.map f) := by
 have hp : done.Perm (List.range K.length) := (List.perm_ext_iff_of_nodup hn List.nodup_range).2 fun i => ⟨fun h => List.mem_range.2 (hl i h), fun h => ha i (List.mem_range.1 h)⟩
 have h1 := hp.map fun i => f (K.getD i default)
 have h2 : (List.range K.length).map (fun i => f (K.getD i default)) = K.map f := by
  apply List.ext_getElem
  ·simp
  ·intro i a1 a2
   have : i < K.length := by simpa using a2
   simp [ZgD, ZgE this]
 rw [h2] at h1
 exact h1
theorem sort_pick {κ τ : Type} [DecidableEq κ] [Inhabited κ] {lt : κ -> κ -> Bool} (T : Tot lt) {f : κ × UM -> τ} {key : τ -> κ} {cf : τ -> τ -> Int} (hkey : ∀ p, key (f p) = p.1) (hcf : ∀ x y, ltOf cf x y = lt (key x) (key y)) (E : List (κ × UM)) {done : List Nat} (hn : done.Nodup) (hl : ∀ i ∈ done, i < (foldP addU E).length) (ha : ∀ i, i < (foldP addU E).length -> i ∈ done) :
 YbL cf (YbY f (foldP addU E) done) = (foldO lt addU E).map f /\ DistF cf (YbY f (foldP addU E) done) := by
 have hO : SWO (ltOf cf) := by
  have : ltOf cf = fun x y => lt (key x) (key y) := by funext x y; exact hcf x y
  rw [this]; exact T.swo _
 have hp := pickG_perm f (foldP addU E) hn hl ha
 have hpm : ∀ p, p ∈ foldP addU E ↔ p ∈ foldO lt addU E := fold_mem T E
 have hri : RiseF cf ((foldO lt addU E).map f) := by
  unfold RiseF
  rw [List.pairwise_map]
  exact (foldO_ri (add := addU) T E).imp fun {p q} h => by rw [hcf, hkey, hkey]; exact h
 have hd : DistF cf (YbY f (foldP addU E) done) := by
  refine distF_symm hp.symm ?_
  unfold DistF
  rw [List.pairwise_map]
  refine (foldP_nk (add := addU) T E).imp fun {p q} h => ?_
  rw [hcf, hcf, hkey, hkey]
  cases h1 : lt p.1 q.1 with
  | true => exact .inl rfl
  | false =>
   cases h2 : lt q.1 p.1 with
   | true => exact .inr rfl
   | false => exact absurd (T.tot h1 h2) h
 refine ⟨riseF_uniq hO (sortF_rise hO hd) hri fun x => ?_, hd⟩
 rw [(sortF_perm _).mem_iff, hp.mem_iff, ZmM, ZmM]
 constructor
 ·rintro ⟨p, h1, h2⟩; exact ⟨p, (hpm p).1 h1, h2⟩
 ·rintro ⟨p, h1, h2⟩; exact ⟨p, (hpm p).2 h1, h2⟩
section
variable {κ β : Type} [DecidableEq κ] (kv : κ -> Value) (dv : κ × β -> D)
def encG (L : List (κ × β)) : List (Value × D) := L.map fun p => (kv p.1, dv p)
variable {kv dv}
theorem nkG_one {L : List (κ × β)} (h : NkG L) {i j : Nat} (hi : i < L.length) (hj : j < L.length) (he : L[j].1 = L[i].1) : j = i := by
 rcases Nat.lt_trichotomy i j with h1 | h1 | h1
 ·exact absurd he.symm (List.pairwise_iff_getElem.1 h i j hi hj h1)
 ·exact h1.symm
 ·exact absurd he (List.pairwise_iff_getElem.1 h j i hj hi h1)
theorem encG_at {L : List (κ × β)} {j : Nat} {p : Value × D} (h : (encG kv dv L)[j]? = some p) : ∃ hj : j < L.length, p = (kv L[j].1, dv L[j]) := by
 unfold encG at h
 rw [List.getElem?_map] at h
 cases h2 : L[j]? with
 | none => rw [h2] at h; cases h
 | some q =>
  rw [h2] at h
  obtain ⟨hj, rfl⟩ := ZgS.1 h2
  exact ⟨hj, (Option.some.inj h).symm⟩
theorem encG_one (hinj : ∀ {a b}, kv a = kv b -> a = b) {L : List (κ × β)} (h : NkG L) {i : Nat} (hi : i < L.length) : ∀ (j : Nat) (p : Value × D), (encG kv dv L)[j]? = some p -> p.1 = kv L[i].1 -> j = i := fun j p hp he => by
 obtain ⟨hj, rfl⟩ := encG_at hp
 exact nkG_one h hi hj (hinj he)
theorem encG_no (hinj : ∀ {a b}, kv a = kv b -> a = b) {L : List (κ × β)} {k : κ} (h : ¬ hasG L k = true) : ∀ p ∈ encG kv dv L, p.1 ≠ kv k := fun p hp e => by
 unfold encG at hp
 obtain ⟨q, hq, rfl⟩ := ZmM.1 hp
 exact h (hasG_iff.2 ⟨q, hq, hinj e⟩)
theorem mputG (hinj : ∀ {a b}, kv a = kv b -> a = b) {L : List (κ × β)} (h : NkG L) (k : κ) (v : β) : MPut (encG kv dv L) (kv k) (dv (k, v)) (encG kv dv (putG L k v)) := by
 by_cases hh : hasG L k = true
 ·obtain ⟨p, hp, rfl⟩ := hasG_iff.1 hh
  obtain ⟨i, hi, rfl⟩ := List.mem_iff_getElem.1 hp
  refine .inl ⟨i, dv L[i], ?_, encG_one hinj h hi, ?_⟩
  ·unfold encG; rw [List.getElem?_map, ZgE hi]; rfl
  ·unfold putG
   rw [if_pos hh]
   apply List.ext_getElem
   ·simp [encG]
   ·intro j h1 h2
    have hj : j < L.length := by simpa [encG] using h1
    rw [List.getElem_set]
    simp only [encG, ZgP]
    by_cases he : i = j
    ·subst he; simp
    ·have : ¬ L[j].1 = L[i].1 := fun e => he (nkG_one h hi hj e).symm
     rw [if_neg he, if_neg this]
 ·refine .inr ⟨encG_no hinj hh, ?_⟩
  unfold putG
  rw [if_neg hh]
  simp [encG]
theorem mgetG (hinj : ∀ {a b}, kv a = kv b -> a = b) {L : List (κ × β)} (h : NkG L) (k : κ) (zd d : D) (hd : d = match Yap L k with | some v => dv (k, v) | none => zd) : MGet (encG kv dv L) (kv k) zd d := by
 subst hd
 by_cases hh : hasG L k = true
 ·obtain ⟨p, hp, rfl⟩ := hasG_iff.1 hh
  obtain ⟨i, hi, rfl⟩ := List.mem_iff_getElem.1 hp
  refine .inl ⟨i, ?_, encG_one hinj h hi⟩
  rw [(YbF h L[i]).1 hp]
  unfold encG; rw [List.getElem?_map, ZgE hi]; rfl
 ·refine .inr ⟨encG_no hinj hh, ?_⟩
  rw [findG_none.2 (by simpa using hh)]
end
end
end Go.Proofs.YtcfamaddnmnaeaaGreatDoor
