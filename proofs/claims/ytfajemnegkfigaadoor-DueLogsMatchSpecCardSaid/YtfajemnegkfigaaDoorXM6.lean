/- Walks and laws over abstract values, merged by tools/merge.py. No statement of the seat. -/
import Derived.StillTailTactics
import Derived.Shelf.Spec.SlicesInsert
import Derived.Shelf.Spec.SlicesInsertGrow
import Derived.Test.YtfajemnegkfigaaDoorXM5

namespace Go.Proofs.YtfajemnegkfigaaDoor
open Go.RowKit
set_option linter.unusedVariables false

/-! Types. -/
namespace TyM2
theorem ag_48 : AggT Tryd.prog 48 5 := .of (by kernel_rfl)
theorem ag_93 : AggT Tryd.prog 93 3 := .of (by kernel_rfl)
theorem et_27 : ElemTy Tryd.prog 27 3 1 8 (.int .i64 0) := ⟨by kernel_rfl, by kernel_rfl, by kernel_rfl, by decide⟩
theorem et_40 : ElemTy Tryd.prog 40 48 5 64 (.agg #[(.string ⟨#[]⟩), (.int .i64 0), (.int .i64 0), (.int .i64 0), (.slice none 0 0)]) := ⟨by kernel_rfl, by kernel_rfl, by kernel_rfl, by decide⟩
theorem et_46 : ElemTy Tryd.prog 46 93 3 32 (.agg #[(.string ⟨#[]⟩), (.int .i64 0), (.int .i64 0)]) := ⟨by kernel_rfl, by kernel_rfl, by kernel_rfl, by decide⟩
theorem fo_48_0 : fieldOff Tryd.prog 48 0 = some 0 := by kernel_rfl
theorem fo_48_1 : fieldOff Tryd.prog 48 1 = some 1 := by kernel_rfl
theorem fo_48_2 : fieldOff Tryd.prog 48 2 = some 2 := by kernel_rfl
theorem fo_48_3 : fieldOff Tryd.prog 48 3 = some 3 := by kernel_rfl
theorem fo_48_4 : fieldOff Tryd.prog 48 4 = some 4 := by kernel_rfl
theorem fo_93_0 : fieldOff Tryd.prog 93 0 = some 0 := by kernel_rfl
theorem fo_93_1 : fieldOff Tryd.prog 93 1 = some 1 := by kernel_rfl
theorem fo_93_2 : fieldOff Tryd.prog 93 2 = some 2 := by kernel_rfl
theorem sc_3 : Scal Tryd.prog 3 := .of (by kernel_rfl)
theorem sc_46 : Scal Tryd.prog 46 := .of (by kernel_rfl)
theorem sc_9 : Scal Tryd.prog 9 := .of (by kernel_rfl)
theorem sz_48 : ∀ w, (sizeOf 48).run Tryd.prog w = .ok 5 w := SizeT.of (by kernel_rfl)
theorem sz_93 : ∀ w, (sizeOf 93).run Tryd.prog w = .ok 3 w := SizeT.of (by kernel_rfl)
theorem zt_48 : (Tryd.prog.info? 48).bind (·.zero) = some (.agg #[(.string ⟨#[]⟩), (.int .i64 0), (.int .i64 0), (.int .i64 0), (.slice none 0 0)]) := by kernel_rfl
theorem zt_93 : (Tryd.prog.info? 93).bind (·.zero) = some (.agg #[(.string ⟨#[]⟩), (.int .i64 0), (.int .i64 0)]) := by kernel_rfl
end TyM2
open TyM2


open Go.Lib
def okRpt (x : Rpt) : Prop := x.source.size ≤ 9223372036854775807 ∧ ∀ u ∈ x.lines, u.title.size ≤ 9223372036854775807
theorem rCmp_str (a b : Rpt) : rCmp a b = if strCmp a.source b.source = 0 then (if a.no < b.no then -1 else if b.no < a.no then 1 else 0) else strCmp a.source b.source := rfl
theorem orI_rpt (a b : Rpt) : orI [strCmp a.source b.source, if a.no < b.no then -1 else if b.no < a.no then 1 else 0] = rCmp a b := by
  rw [orI_two, rCmp_str]
theorem bf_1 {a b : Rpt} (h : slt a.source b.source = true) : ltR a b = true := by
  have h2 := strCmp_lt.2 h
  refine decide_eq_true ?_
  rw [rCmp_str, if_neg (by omega)]
  exact h2
theorem bf_2 {a b : Rpt} (h : slt a.source b.source = false) (hne : ¬ a.source = b.source) : ltR a b = false := by
  refine decide_eq_false ?_
  rw [rCmp_str, if_neg (fun hh => hne (strCmp_zero.1 hh))]
  intro hh
  rw [strCmp_lt.1 hh] at h; cases h
theorem bf_3 {a b : Rpt} (h : a.source = b.source) : ltR a b = decide (a.no < b.no) := by
  unfold ltR
  rw [rCmp_str, if_pos (strCmp_zero.2 h)]
  apply decide_eq_decide.2
  split
  · simp [*]
  · split <;> simp [*]
theorem ltR_no {a b : Rpt} (h : ltR a b = false) : 0 ≤ rCmp a b := by
  unfold ltR at h
  have := of_decide_eq_false h
  omega
theorem ltR_yes {a b : Rpt} (h : ltR a b = true) : ¬ 0 ≤ rCmp a b := by
  unfold ltR at h
  have := of_decide_eq_true h
  omega


set_option maxRecDepth 100000 in
set_option maxHeartbeats 1000000 in
theorem c_pRpt (x : Rpt) (hx : okRpt x) : ACallT Tryd.prog MaxT 18 [.agg x.ds] (.v (.int .i64 (rptF x))) := by
  refine acall_ofT (n := 75) (ds' := [.v (.int .i64 (rptF x))]) Tryd.func18 rfl (by kernel_rfl) rfl [2] rfl rfl ?_
  intro B w0 F0 hT
  refine AWP.seq (AWP.region ?_)
  refine AOps.step rfl rfl rfl (AOp.box rfl rfl rfl) ?_
  refine AOps.aD rfl rfl rfl rfl rfl (.nil ?_)
  refine AWP.seq ?_
  refine AWP.block ?_
  refine AWP.seq (AWP.region ?_)
  refine AOps.step rfl rfl rfl (AOp.fieldAddr rfl fo_48_0 rfl) ?_
  refine AOps.step rfl rfl rfl (AOp.load rfl sc_9 rfl) ?_
  refine AOps.step rfl rfl rfl (AOp.call rfl (.cons (ArgOk.rfl' rfl) .nil) (c_pName _ hx.1)) ?_
  refine AOps.step rfl rfl rfl (AOp.not rfl rfl) ?_
  refine AOps.aD rfl rfl rfl rfl rfl (.nil ?_)
  refine AWP.cond rfl (fun h1 => ?_) (fun h1 => ?_)
  · replace h1 := bnot_t h1
    have n0 := h1
    have HR : rptF x = 5 := by unfold rptF; (first | (exfalso; omega) | ((repeat (first | rw [if_pos (by first | assumption | omega)] | rw [if_neg (by first | assumption | omega)])); first | done | rfl | omega | decide))
    refine AWP.seq (AWP.region ?_)
    refine AOps.aD rfl rfl rfl rfl rfl (.nil ?_)
    refine AWP.ret ?_
    refine ⟨RetD.eq rfl ?_, trivial⟩
    all_goals (first | rw [HR] | (rw [HX, ffst_hit (f := usdF x.lines) hk.2 (by unfold usdF; rw [dif_pos hlt]; (first | (exfalso; omega) | ((repeat (first | rw [if_pos (by first | assumption | omega)] | rw [if_neg (by first | assumption | omega)])); first | done | rfl | omega | decide))) _ hlt]; unfold usdF; rw [dif_pos hlt]; (first | (exfalso; omega) | ((repeat (first | rw [if_pos (by first | assumption | omega)] | rw [if_neg (by first | assumption | omega)])); first | done | rfl | omega | decide))) | rw [show rptF x = 1 from by unfold rptF; (first | (exfalso; omega) | ((repeat (first | rw [if_pos (by first | assumption | omega)] | rw [if_neg (by first | assumption | omega)])); first | done | rfl | omega | decide))])
  replace h1 := bnot_f h1
  have n1 : ¬ nameOk x.source = false := by rw [h1]; decide
  refine AWP.seq (AWP.region ?_)
  refine AOps.step rfl rfl rfl (AOp.fieldAddr rfl fo_48_1 rfl) ?_
  refine AOps.step rfl rfl rfl (AOp.load rfl sc_3 rfl) ?_
  refine AOps.step rfl rfl rfl (AOp.call rfl (.cons (ArgOk.rfl' rfl) (.cons (ArgOk.rfl' rfl) (.cons (ArgOk.rfl' rfl) .nil))) (c_pIn _ _ _)) ?_
  refine AOps.step rfl rfl rfl (AOp.not rfl rfl) ?_
  refine AOps.mD rfl rfl rfl rfl rfl ?_
  refine AOps.split 15 rfl (fun g2 => ?_) (fun g2 => ?_)
  · replace g2 := bnot_t g2; replace g2 := of_decide_eq_false g2
    refine AOps.pass ⟨15, rfl, .inl ⟨_, rfl, rfl⟩⟩ rfl rfl ?_
    refine AOps.pass ⟨15, rfl, .inl ⟨_, rfl, rfl⟩⟩ rfl rfl ?_
    refine AOps.pass ⟨15, rfl, .inl ⟨_, rfl, rfl⟩⟩ rfl rfl ?_
    refine AOps.pass ⟨15, rfl, .inl ⟨_, rfl, rfl⟩⟩ rfl rfl ?_
    refine AOps.step rfl rfl rfl (AOp.pickT rfl rfl rfl) ?_
    refine AOps.mD rfl rfl rfl rfl rfl ?_
    refine AOps.pass ⟨21, rfl, .inl ⟨_, rfl, rfl⟩⟩ rfl rfl ?_
    refine AOps.pass ⟨21, rfl, .inl ⟨_, rfl, rfl⟩⟩ rfl rfl ?_
    refine AOps.pass ⟨21, rfl, .inl ⟨_, rfl, rfl⟩⟩ rfl rfl ?_
    refine AOps.pass ⟨21, rfl, .inl ⟨_, rfl, rfl⟩⟩ rfl rfl ?_
    refine AOps.pass ⟨21, rfl, .inl ⟨_, rfl, rfl⟩⟩ rfl rfl ?_
    refine AOps.pass ⟨21, rfl, .inl ⟨_, rfl, rfl⟩⟩ rfl rfl ?_
    refine AOps.pass ⟨21, rfl, .inl ⟨_, rfl, rfl⟩⟩ rfl rfl ?_
    refine AOps.step rfl rfl rfl (AOp.pickT rfl rfl rfl) ?_
    refine AOps.aD rfl rfl rfl rfl rfl (.nil ?_)
    refine AWP.cond rfl (fun _ => ?_) (fun h => nomatch h)
    refine AWP.seq (AWP.region ?_)
    refine AOps.aD rfl rfl rfl rfl rfl (.nil ?_)
    refine AWP.ret ?_
    refine ⟨RetD.eq rfl ?_, trivial⟩
    all_goals (first | rw [HR] | (rw [HX, ffst_hit (f := usdF x.lines) hk.2 (by unfold usdF; rw [dif_pos hlt]; (first | (exfalso; omega) | ((repeat (first | rw [if_pos (by first | assumption | omega)] | rw [if_neg (by first | assumption | omega)])); first | done | rfl | omega | decide))) _ hlt]; unfold usdF; rw [dif_pos hlt]; (first | (exfalso; omega) | ((repeat (first | rw [if_pos (by first | assumption | omega)] | rw [if_neg (by first | assumption | omega)])); first | done | rfl | omega | decide))) | rw [show rptF x = 1 from by unfold rptF; (first | (exfalso; omega) | ((repeat (first | rw [if_pos (by first | assumption | omega)] | rw [if_neg (by first | assumption | omega)])); first | done | rfl | omega | decide))])
  replace g2 := bnot_f g2; replace g2 := of_decide_eq_true g2
  refine AOps.step ⟨15, rfl, .inl ⟨_, rfl, rfl⟩⟩ rfl rfl (AOp.fieldAddr rfl fo_48_2 rfl) ?_
  refine AOps.step ⟨15, rfl, .inl ⟨_, rfl, rfl⟩⟩ rfl rfl (AOp.load rfl sc_3 rfl) ?_
  refine AOps.step ⟨15, rfl, .inl ⟨_, rfl, rfl⟩⟩ rfl rfl (AOp.call rfl (.cons (ArgOk.rfl' rfl) (.cons (ArgOk.rfl' rfl) (.cons (ArgOk.rfl' rfl) .nil))) (c_pIn _ _ _)) ?_
  refine AOps.step ⟨15, rfl, .inl ⟨_, rfl, rfl⟩⟩ rfl rfl (AOp.not rfl rfl) ?_
  refine AOps.step rfl rfl rfl (AOp.pickF rfl rfl rfl) ?_
  refine AOps.mD rfl rfl rfl rfl rfl ?_
  refine AOps.split 21 rfl (fun g3 => ?_) (fun g3 => ?_)
  · replace g3 := bnot_t g3; replace g3 := of_decide_eq_false g3
    refine AOps.pass ⟨21, rfl, .inl ⟨_, rfl, rfl⟩⟩ rfl rfl ?_
    refine AOps.pass ⟨21, rfl, .inl ⟨_, rfl, rfl⟩⟩ rfl rfl ?_
    refine AOps.pass ⟨21, rfl, .inl ⟨_, rfl, rfl⟩⟩ rfl rfl ?_
    refine AOps.pass ⟨21, rfl, .inl ⟨_, rfl, rfl⟩⟩ rfl rfl ?_
    refine AOps.pass ⟨21, rfl, .inl ⟨_, rfl, rfl⟩⟩ rfl rfl ?_
    refine AOps.pass ⟨21, rfl, .inl ⟨_, rfl, rfl⟩⟩ rfl rfl ?_
    refine AOps.pass ⟨21, rfl, .inl ⟨_, rfl, rfl⟩⟩ rfl rfl ?_
    refine AOps.step rfl rfl rfl (AOp.pickT rfl rfl rfl) ?_
    refine AOps.aD rfl rfl rfl rfl rfl (.nil ?_)
    refine AWP.cond rfl (fun _ => ?_) (fun h => nomatch h)
    refine AWP.seq (AWP.region ?_)
    refine AOps.aD rfl rfl rfl rfl rfl (.nil ?_)
    refine AWP.ret ?_
    refine ⟨RetD.eq rfl ?_, trivial⟩
    all_goals (first | rw [HR] | (rw [HX, ffst_hit (f := usdF x.lines) hk.2 (by unfold usdF; rw [dif_pos hlt]; (first | (exfalso; omega) | ((repeat (first | rw [if_pos (by first | assumption | omega)] | rw [if_neg (by first | assumption | omega)])); first | done | rfl | omega | decide))) _ hlt]; unfold usdF; rw [dif_pos hlt]; (first | (exfalso; omega) | ((repeat (first | rw [if_pos (by first | assumption | omega)] | rw [if_neg (by first | assumption | omega)])); first | done | rfl | omega | decide))) | rw [show rptF x = 1 from by unfold rptF; (first | (exfalso; omega) | ((repeat (first | rw [if_pos (by first | assumption | omega)] | rw [if_neg (by first | assumption | omega)])); first | done | rfl | omega | decide))])
  replace g3 := bnot_f g3; replace g3 := of_decide_eq_true g3
  refine AOps.step ⟨21, rfl, .inl ⟨_, rfl, rfl⟩⟩ rfl rfl (AOp.fieldAddr rfl fo_48_3 rfl) ?_
  refine AOps.step ⟨21, rfl, .inl ⟨_, rfl, rfl⟩⟩ rfl rfl (AOp.load rfl sc_3 rfl) ?_
  refine AOps.step ⟨21, rfl, .inl ⟨_, rfl, rfl⟩⟩ rfl rfl (AOp.fieldAddr rfl fo_48_1 rfl) ?_
  refine AOps.step ⟨21, rfl, .inl ⟨_, rfl, rfl⟩⟩ rfl rfl (AOp.load rfl sc_3 rfl) ?_
  refine AOps.step ⟨21, rfl, .inl ⟨_, rfl, rfl⟩⟩ rfl rfl (AOp.sub64 rfl rfl rfl (by omega) (by omega)) ?_
  refine AOps.step ⟨21, rfl, .inl ⟨_, rfl, rfl⟩⟩ rfl rfl (AOp.call rfl (.cons (ArgOk.rfl' rfl) (.cons (ArgOk.rfl' rfl) (.cons (ArgOk.rfl' rfl) .nil))) (c_pIn _ _ _)) ?_
  refine AOps.step ⟨21, rfl, .inl ⟨_, rfl, rfl⟩⟩ rfl rfl (AOp.not rfl rfl) ?_
  refine AOps.step rfl rfl rfl (AOp.pickF rfl rfl rfl) ?_
  refine AOps.aD rfl rfl rfl rfl rfl (.nil ?_)
  refine AWP.cond rfl (fun h4 => ?_) (fun h4 => ?_)
  · replace h4 := bnot_t h4; replace h4 := of_decide_eq_false h4
    have HR : rptF x = 1 := by unfold rptF; (first | (exfalso; omega) | ((repeat (first | rw [if_pos (by first | assumption | omega)] | rw [if_neg (by first | assumption | omega)])); first | done | rfl | omega | decide))
    refine AWP.seq (AWP.region ?_)
    refine AOps.aD rfl rfl rfl rfl rfl (.nil ?_)
    refine AWP.ret ?_
    refine ⟨RetD.eq rfl ?_, trivial⟩
    all_goals (first | rw [HR] | (rw [HX, ffst_hit (f := usdF x.lines) hk.2 (by unfold usdF; rw [dif_pos hlt]; (first | (exfalso; omega) | ((repeat (first | rw [if_pos (by first | assumption | omega)] | rw [if_neg (by first | assumption | omega)])); first | done | rfl | omega | decide))) _ hlt]; unfold usdF; rw [dif_pos hlt]; (first | (exfalso; omega) | ((repeat (first | rw [if_pos (by first | assumption | omega)] | rw [if_neg (by first | assumption | omega)])); first | done | rfl | omega | decide))) | rw [show rptF x = 1 from by unfold rptF; (first | (exfalso; omega) | ((repeat (first | rw [if_pos (by first | assumption | omega)] | rw [if_neg (by first | assumption | omega)])); first | done | rfl | omega | decide))])
  replace h4 := bnot_f h4; replace h4 := of_decide_eq_true h4
  refine AWP.seq (AWP.region ?_)
  refine AOps.step rfl rfl rfl (AOp.fieldAddr rfl fo_48_4 rfl) ?_
  refine AOps.step rfl rfl rfl (AOp.load rfl sc_46 rfl) ?_
  refine AOps.step rfl rfl rfl (AOp.lenSl rfl et_46.ht rfl) ?_
  refine AOps.step rfl rfl rfl (AOp.gtr rfl rfl rfl) ?_
  refine AOps.aD rfl rfl rfl rfl rfl (.nil ?_)
  refine AWP.cond rfl (fun h5 => ?_) (fun h5 => ?_)
  · replace h5 := of_decide_eq_true h5
    rw [List.length_map] at h5
    have HR : rptF x = 2 := by unfold rptF; (first | (exfalso; omega) | ((repeat (first | rw [if_pos (by first | assumption | omega)] | rw [if_neg (by first | assumption | omega)])); first | done | rfl | omega | decide))
    refine AWP.seq (AWP.region ?_)
    refine AOps.aD rfl rfl rfl rfl rfl (.nil ?_)
    refine AWP.ret ?_
    refine ⟨RetD.eq rfl ?_, trivial⟩
    all_goals (first | rw [HR] | (rw [HX, ffst_hit (f := usdF x.lines) hk.2 (by unfold usdF; rw [dif_pos hlt]; (first | (exfalso; omega) | ((repeat (first | rw [if_pos (by first | assumption | omega)] | rw [if_neg (by first | assumption | omega)])); first | done | rfl | omega | decide))) _ hlt]; unfold usdF; rw [dif_pos hlt]; (first | (exfalso; omega) | ((repeat (first | rw [if_pos (by first | assumption | omega)] | rw [if_neg (by first | assumption | omega)])); first | done | rfl | omega | decide))) | rw [show rptF x = 1 from by unfold rptF; (first | (exfalso; omega) | ((repeat (first | rw [if_pos (by first | assumption | omega)] | rw [if_neg (by first | assumption | omega)])); first | done | rfl | omega | decide))])
  replace h5 := of_decide_eq_false h5
  rw [List.length_map] at h5
  have HX : rptF x = ffst (usdF x.lines) x.lines.length := by unfold rptF; (first | (exfalso; omega) | ((repeat (first | rw [if_pos (by first | assumption | omega)] | rw [if_neg (by first | assumption | omega)])); first | done | rfl | omega | decide))
  refine AWP.skip ?_
  refine AWP.seq ?_
  refine AWP.seq (AWP.region ?_)
  refine AOps.step rfl rfl rfl (AOp.fieldAddr rfl fo_48_4 rfl) ?_
  refine AOps.step rfl rfl rfl (AOp.load rfl sc_46 rfl) ?_
  refine AOps.step rfl rfl rfl (AOp.lenSl rfl et_46.ht rfl) ?_
  refine AOps.mD rfl rfl rfl rfl rfl (.nil ?_)
  refine AWP.block ?_
  refine AWP.loop (G := Nat) (fun k => Env.of [(38, .d (.v (.int .i64 (k : Int)))), (36, .d (.sl (x.lines.map Usd.ds))), (37, .d (.v (.int .i64 ((x.lines.map Usd.ds).length : Int)))), (1, .d (.fp x.ds))]) (fun k => []) (fun k => k ≤ x.lines.length ∧ ffst (usdF x.lines) k = 0) (fun k => x.lines.length - k) 0 ⟨Nat.zero_le _, rfl⟩ (Sub.less ⟨(SLe.of_eq rfl), SLe.refl _, SLe.refl _, SLe.refl _, trivial⟩ (fun _ h => h)) ?_
  intro k hk
  refine AWP.seq (AWP.region ?_)
  refine AOps.step rfl rfl rfl (AOp.lss rfl rfl rfl) (.nil ?_)
  refine AWP.seq ?_
  refine AWP.cond rfl (fun h6 => ?_) (fun h6 => ?_)
  · replace h6 := of_decide_eq_true h6
    rw [List.length_map] at h6
    have hlt : k < x.lines.length := by omega
    have hbk := hx.2 _ (List.getElem_mem hlt)
    refine AWP.skip ?_
    refine AWP.seq ?_
    refine AWP.block ?_
    refine AWP.seq (AWP.region ?_)
    refine AOps.mD rfl rfl rfl rfl rfl ?_
    refine AOps.step rfl rfl rfl (AOp.indexAddr rfl et_46 rfl rfl k rfl (at_lst hlt) rfl) ?_
    refine AOps.step rfl rfl rfl (AOp.loadAgg rfl ag_93 rfl rfl) ?_
    refine AOps.alloc 101 rfl rfl rfl rfl zt_93 rfl rfl rfl ?_
    refine AOps.aD rfl rfl rfl rfl rfl ?_
    refine AOps.store rfl rfl rfl sz_93 rfl (.head _) rfl rfl rfl (Nat.le_of_ble_eq_true rfl) ?_
    refine AOps.freezeCells 4 (ds := x.lines[k].ds) rfl (.head _) (.nil ?_)
    refine AWP.block ?_
    refine AWP.seq (AWP.region ?_)
    refine AOps.step rfl rfl rfl (AOp.fieldAddr rfl fo_93_0 rfl) ?_
    refine AOps.step rfl rfl rfl (AOp.load rfl sc_9 rfl) ?_
    -- wants the world
    refine AOps.callT rfl rfl rfl hT maxT_stays rfl (.cons (ArgOk.rfl' rfl) .nil) (c_pTitle _ hbk) ?_
    refine AOps.step rfl rfl rfl (AOp.not rfl rfl) ?_
    refine AOps.aD rfl rfl rfl rfl rfl (.nil ?_)
    refine AWP.cond rfl (fun h7 => ?_) (fun h7 => ?_)
    · replace h7 := bnot_t h7
      refine AWP.seq (AWP.region ?_)
      refine AOps.aD rfl rfl rfl rfl rfl (.nil ?_)
      refine AWP.ret ?_
      refine ⟨RetD.eq rfl ?_, trivial⟩
      all_goals (first | rw [HR] | (rw [HX, ffst_hit (f := usdF x.lines) hk.2 (by unfold usdF; rw [dif_pos hlt]; (first | (exfalso; omega) | ((repeat (first | rw [if_pos (by first | assumption | omega)] | rw [if_neg (by first | assumption | omega)])); first | done | rfl | omega | decide))) _ hlt]; unfold usdF; rw [dif_pos hlt]; (first | (exfalso; omega) | ((repeat (first | rw [if_pos (by first | assumption | omega)] | rw [if_neg (by first | assumption | omega)])); first | done | rfl | omega | decide))) | rw [show rptF x = 1 from by unfold rptF; (first | (exfalso; omega) | ((repeat (first | rw [if_pos (by first | assumption | omega)] | rw [if_neg (by first | assumption | omega)])); first | done | rfl | omega | decide))])
    replace h7 := bnot_f h7
    have n4 : ¬ titleOk x.lines[k].title = false := by rw [h7]; decide
    refine AWP.seq (AWP.region ?_)
    refine AOps.step rfl rfl rfl (AOp.fieldAddr rfl fo_93_1 rfl) ?_
    refine AOps.step rfl rfl rfl (AOp.load rfl sc_3 rfl) ?_
    refine AOps.step rfl rfl rfl (AOp.call rfl (.cons (ArgOk.rfl' rfl) (.cons (ArgOk.rfl' rfl) (.cons (ArgOk.rfl' rfl) .nil))) (c_pIn _ _ _)) ?_
    refine AOps.step rfl rfl rfl (AOp.not rfl rfl) ?_
    refine AOps.mD rfl rfl rfl rfl rfl ?_
    refine AOps.split 53 rfl (fun g8 => ?_) (fun g8 => ?_)
    · replace g8 := bnot_t g8; replace g8 := of_decide_eq_false g8
      refine AOps.pass ⟨53, rfl, .inl ⟨_, rfl, rfl⟩⟩ rfl rfl ?_
      refine AOps.pass ⟨53, rfl, .inl ⟨_, rfl, rfl⟩⟩ rfl rfl ?_
      refine AOps.pass ⟨53, rfl, .inl ⟨_, rfl, rfl⟩⟩ rfl rfl ?_
      refine AOps.pass ⟨53, rfl, .inl ⟨_, rfl, rfl⟩⟩ rfl rfl ?_
      refine AOps.step rfl rfl rfl (AOp.pickT rfl rfl rfl) ?_
      refine AOps.aD rfl rfl rfl rfl rfl (.nil ?_)
      refine AWP.cond rfl (fun _ => ?_) (fun h => nomatch h)
      refine AWP.seq (AWP.region ?_)
      refine AOps.aD rfl rfl rfl rfl rfl (.nil ?_)
      refine AWP.ret ?_
      refine ⟨RetD.eq rfl ?_, trivial⟩
      all_goals (first | rw [HR] | (rw [HX, ffst_hit (f := usdF x.lines) hk.2 (by unfold usdF; rw [dif_pos hlt]; (first | (exfalso; omega) | ((repeat (first | rw [if_pos (by first | assumption | omega)] | rw [if_neg (by first | assumption | omega)])); first | done | rfl | omega | decide))) _ hlt]; unfold usdF; rw [dif_pos hlt]; (first | (exfalso; omega) | ((repeat (first | rw [if_pos (by first | assumption | omega)] | rw [if_neg (by first | assumption | omega)])); first | done | rfl | omega | decide))) | rw [show rptF x = 1 from by unfold rptF; (first | (exfalso; omega) | ((repeat (first | rw [if_pos (by first | assumption | omega)] | rw [if_neg (by first | assumption | omega)])); first | done | rfl | omega | decide))])
    replace g8 := bnot_f g8; replace g8 := of_decide_eq_true g8
    refine AOps.step ⟨53, rfl, .inl ⟨_, rfl, rfl⟩⟩ rfl rfl (AOp.fieldAddr rfl fo_93_2 rfl) ?_
    refine AOps.step ⟨53, rfl, .inl ⟨_, rfl, rfl⟩⟩ rfl rfl (AOp.load rfl sc_3 rfl) ?_
    refine AOps.step ⟨53, rfl, .inl ⟨_, rfl, rfl⟩⟩ rfl rfl (AOp.call rfl (.cons (ArgOk.rfl' rfl) (.cons (ArgOk.rfl' rfl) (.cons (ArgOk.rfl' rfl) .nil))) (c_pIn _ _ _)) ?_
    refine AOps.step ⟨53, rfl, .inl ⟨_, rfl, rfl⟩⟩ rfl rfl (AOp.not rfl rfl) ?_
    refine AOps.step rfl rfl rfl (AOp.pickF rfl rfl rfl) ?_
    refine AOps.aD rfl rfl rfl rfl rfl (.nil ?_)
    refine AWP.cond rfl (fun h9 => ?_) (fun h9 => ?_)
    · replace h9 := bnot_t h9; replace h9 := of_decide_eq_false h9
      refine AWP.seq (AWP.region ?_)
      refine AOps.aD rfl rfl rfl rfl rfl (.nil ?_)
      refine AWP.ret ?_
      refine ⟨RetD.eq rfl ?_, trivial⟩
      all_goals (first | rw [HR] | (rw [HX, ffst_hit (f := usdF x.lines) hk.2 (by unfold usdF; rw [dif_pos hlt]; (first | (exfalso; omega) | ((repeat (first | rw [if_pos (by first | assumption | omega)] | rw [if_neg (by first | assumption | omega)])); first | done | rfl | omega | decide))) _ hlt]; unfold usdF; rw [dif_pos hlt]; (first | (exfalso; omega) | ((repeat (first | rw [if_pos (by first | assumption | omega)] | rw [if_neg (by first | assumption | omega)])); first | done | rfl | omega | decide))) | rw [show rptF x = 1 from by unfold rptF; (first | (exfalso; omega) | ((repeat (first | rw [if_pos (by first | assumption | omega)] | rw [if_neg (by first | assumption | omega)])); first | done | rfl | omega | decide))])
    replace h9 := bnot_f h9; replace h9 := of_decide_eq_true h9
    refine AWP.seq ?_
    refine AWP.draw (by kernel_rfl) (by kernel_rfl) ?_
    refine DRun.step rfl rfl rfl (AOp.moveD rfl rfl) ?_
    refine DRun.step rfl rfl rfl (AOp.gtr rfl rfl rfl) ?_
    refine DRun.step rfl rfl rfl (AOp.moveD rfl rfl) ?_
    refine DRun.split 62 rfl (fun g10 => ?_) (fun g10 => ?_)
    · replace g10 := of_decide_eq_true g10
      have hk0 : 0 < k := by omega
      refine DRun.step ⟨62, rfl, .inl ⟨_, rfl, rfl⟩⟩ rfl rfl (AOp.fieldAddr rfl fo_93_0 rfl) ?_
      refine DRun.step ⟨62, rfl, .inl ⟨_, rfl, rfl⟩⟩ rfl rfl (AOp.load rfl sc_9 rfl) ?_
      refine DRun.step ⟨62, rfl, .inl ⟨_, rfl, rfl⟩⟩ rfl rfl (AOp.fieldAddr rfl fo_48_4 rfl) ?_
      refine DRun.step ⟨62, rfl, .inl ⟨_, rfl, rfl⟩⟩ rfl rfl (AOp.load rfl sc_46 rfl) ?_
      refine DRun.step ⟨62, rfl, .inl ⟨_, rfl, rfl⟩⟩ rfl rfl (AOp.moveD rfl rfl) ?_
      refine DRun.step ⟨62, rfl, .inl ⟨_, rfl, rfl⟩⟩ rfl rfl (AOp.sub64 rfl rfl rfl (by omega) (by omega)) ?_
      refine DRun.step ⟨62, rfl, .inl ⟨_, rfl, rfl⟩⟩ rfl rfl (AOp.indexAddr rfl et_46 rfl rfl (k - 1) (by omega) (at_lst (by omega)) rfl) ?_
      refine DRun.step ⟨62, rfl, .inl ⟨_, rfl, rfl⟩⟩ rfl rfl (AOp.fieldAddr rfl fo_93_0 rfl) ?_
      refine DRun.step ⟨62, rfl, .inl ⟨_, rfl, rfl⟩⟩ rfl rfl (AOp.load rfl sc_9 rfl) ?_
      refine DRun.step ⟨62, rfl, .inl ⟨_, rfl, rfl⟩⟩ rfl rfl (AOp.sleq rfl rfl rfl) ?_
      refine DRun.step rfl rfl rfl (AOp.pickT rfl rfl rfl) ?_
      refine DRun.step rfl rfl rfl (AOp.assignD rfl rfl) ?_
      refine DRun.nil ?_
      refine AWP.cond rfl (fun h11 => ?_) (fun h11 => ?_)
      · skip
        have n5 : (0 < k ∧ sle x.lines[k].title (x.lines[k-1]'(by omega)).title = true) := ⟨hk0, h11⟩
        refine AWP.seq (AWP.region ?_)
        refine AOps.aD rfl rfl rfl rfl rfl (.nil ?_)
        refine AWP.ret ?_
        refine ⟨RetD.eq rfl ?_, trivial⟩
        all_goals (first | rw [HR] | (rw [HX, ffst_hit (f := usdF x.lines) hk.2 (by unfold usdF; rw [dif_pos hlt]; (first | (exfalso; omega) | ((repeat (first | rw [if_pos (by first | assumption | omega)] | rw [if_neg (by first | assumption | omega)])); first | done | rfl | omega | decide))) _ hlt]; unfold usdF; rw [dif_pos hlt]; (first | (exfalso; omega) | ((repeat (first | rw [if_pos (by first | assumption | omega)] | rw [if_neg (by first | assumption | omega)])); first | done | rfl | omega | decide))) | rw [show rptF x = 1 from by unfold rptF; (first | (exfalso; omega) | ((repeat (first | rw [if_pos (by first | assumption | omega)] | rw [if_neg (by first | assumption | omega)])); first | done | rfl | omega | decide))])
      have n5 : ¬ (0 < k ∧ sle x.lines[k].title (x.lines[k-1]'(by omega)).title = true) := fun hh => by have h5 := hh.2; rw [show sle x.lines[k].title (x.lines[k-1]'(by omega)).title = false from h11] at h5; cases h5
      refine AWP.skip ?_
      refine AWP.region ?_
      refine AOps.step rfl rfl rfl (AOp.add64 rfl rfl rfl (by omega) (by omega)) ?_
      refine AOps.mD rfl rfl rfl rfl rfl (.nil ?_)
      refine ⟨k + 1, ⟨by omega, ffst_next hk.2 (by unfold usdF; rw [dif_pos hlt]; (first | (exfalso; omega) | ((repeat (first | rw [if_pos (by first | assumption | omega)] | rw [if_neg (by first | assumption | omega)])); first | done | rfl | omega | decide)))⟩, (by dsimp only; omega), Sub.less ⟨(SLe.of_eq rfl), SLe.refl _, SLe.refl _, SLe.refl _, trivial⟩ (fun _ h => h)⟩
    replace g10 := of_decide_eq_false g10
    have n5 : ¬ (0 < k ∧ sle x.lines[k].title (x.lines[k-1]'(by omega)).title = true) := fun hh => by omega
    refine DRun.pass ⟨62, rfl, .inl ⟨_, rfl, rfl⟩⟩ rfl rfl ?_
    refine DRun.pass ⟨62, rfl, .inl ⟨_, rfl, rfl⟩⟩ rfl rfl ?_
    refine DRun.pass ⟨62, rfl, .inl ⟨_, rfl, rfl⟩⟩ rfl rfl ?_
    refine DRun.pass ⟨62, rfl, .inl ⟨_, rfl, rfl⟩⟩ rfl rfl ?_
    refine DRun.pass ⟨62, rfl, .inl ⟨_, rfl, rfl⟩⟩ rfl rfl ?_
    refine DRun.pass ⟨62, rfl, .inl ⟨_, rfl, rfl⟩⟩ rfl rfl ?_
    refine DRun.pass ⟨62, rfl, .inl ⟨_, rfl, rfl⟩⟩ rfl rfl ?_
    refine DRun.pass ⟨62, rfl, .inl ⟨_, rfl, rfl⟩⟩ rfl rfl ?_
    refine DRun.pass ⟨62, rfl, .inl ⟨_, rfl, rfl⟩⟩ rfl rfl ?_
    refine DRun.pass ⟨62, rfl, .inl ⟨_, rfl, rfl⟩⟩ rfl rfl ?_
    refine DRun.step rfl rfl rfl (AOp.pickF rfl rfl rfl) ?_
    refine DRun.step rfl rfl rfl (AOp.assignD rfl rfl) ?_
    refine DRun.nil ?_
    refine AWP.cond rfl (fun h => nomatch h) (fun _ => ?_)
    refine AWP.skip ?_
    refine AWP.region ?_
    refine AOps.step rfl rfl rfl (AOp.add64 rfl rfl rfl (by omega) (by omega)) ?_
    refine AOps.mD rfl rfl rfl rfl rfl (.nil ?_)
    refine ⟨k + 1, ⟨by omega, ffst_next hk.2 (by unfold usdF; rw [dif_pos hlt]; (first | (exfalso; omega) | ((repeat (first | rw [if_pos (by first | assumption | omega)] | rw [if_neg (by first | assumption | omega)])); first | done | rfl | omega | decide)))⟩, (by dsimp only; omega), Sub.less ⟨(SLe.of_eq rfl), SLe.refl _, SLe.refl _, SLe.refl _, trivial⟩ (fun _ h => h)⟩
  replace h6 := of_decide_eq_false h6
  rw [List.length_map] at h6
  have HR : rptF x = 0 := by rw [HX, show x.lines.length = k by omega]; exact hk.2
  refine AWP.exit ?_
  refine AWP.seq (AWP.region ?_)
  refine AOps.aD rfl rfl rfl rfl rfl (.nil ?_)
  refine AWP.ret ?_
  refine ⟨RetD.eq rfl ?_, trivial⟩
  all_goals (first | rw [HR] | (rw [HX, ffst_hit (f := usdF x.lines) hk.2 (by unfold usdF; rw [dif_pos hlt]; (first | (exfalso; omega) | ((repeat (first | rw [if_pos (by first | assumption | omega)] | rw [if_neg (by first | assumption | omega)])); first | done | rfl | omega | decide))) _ hlt]; unfold usdF; rw [dif_pos hlt]; (first | (exfalso; omega) | ((repeat (first | rw [if_pos (by first | assumption | omega)] | rw [if_neg (by first | assumption | omega)])); first | done | rfl | omega | decide))) | rw [show rptF x = 1 from by unfold rptF; (first | (exfalso; omega) | ((repeat (first | rw [if_pos (by first | assumption | omega)] | rw [if_neg (by first | assumption | omega)])); first | done | rfl | omega | decide))])

set_option maxRecDepth 100000 in
set_option maxHeartbeats 1000000 in
theorem c_rRpt (x : Rpt) (hx : okRpt x) : ACallT Tryd.prog MaxT 19 [.agg x.ds] (.v (.int .i64 (rptF x))) := by
  refine acall_ofT (n := 75) (ds' := [.v (.int .i64 (rptF x))]) Tryd.func19 rfl (by kernel_rfl) rfl [2] rfl rfl ?_
  intro B w0 F0 hT
  refine AWP.seq (AWP.region ?_)
  refine AOps.step rfl rfl rfl (AOp.box rfl rfl rfl) ?_
  refine AOps.aD rfl rfl rfl rfl rfl (.nil ?_)
  refine AWP.seq ?_
  refine AWP.block ?_
  refine AWP.seq (AWP.region ?_)
  refine AOps.step rfl rfl rfl (AOp.fieldAddr rfl fo_48_0 rfl) ?_
  refine AOps.step rfl rfl rfl (AOp.load rfl sc_9 rfl) ?_
  refine AOps.step rfl rfl rfl (AOp.call rfl (.cons (ArgOk.rfl' rfl) .nil) (c_rName _ hx.1)) ?_
  refine AOps.step rfl rfl rfl (AOp.not rfl rfl) ?_
  refine AOps.aD rfl rfl rfl rfl rfl (.nil ?_)
  refine AWP.cond rfl (fun h1 => ?_) (fun h1 => ?_)
  · replace h1 := bnot_t h1
    have n0 := h1
    have HR : rptF x = 5 := by unfold rptF; (first | (exfalso; omega) | ((repeat (first | rw [if_pos (by first | assumption | omega)] | rw [if_neg (by first | assumption | omega)])); first | done | rfl | omega | decide))
    refine AWP.seq (AWP.region ?_)
    refine AOps.aD rfl rfl rfl rfl rfl (.nil ?_)
    refine AWP.ret ?_
    refine ⟨RetD.eq rfl ?_, trivial⟩
    all_goals (first | rw [HR] | (rw [HX, ffst_hit (f := usdF x.lines) hk.2 (by unfold usdF; rw [dif_pos hlt]; (first | (exfalso; omega) | ((repeat (first | rw [if_pos (by first | assumption | omega)] | rw [if_neg (by first | assumption | omega)])); first | done | rfl | omega | decide))) _ hlt]; unfold usdF; rw [dif_pos hlt]; (first | (exfalso; omega) | ((repeat (first | rw [if_pos (by first | assumption | omega)] | rw [if_neg (by first | assumption | omega)])); first | done | rfl | omega | decide))) | rw [show rptF x = 1 from by unfold rptF; (first | (exfalso; omega) | ((repeat (first | rw [if_pos (by first | assumption | omega)] | rw [if_neg (by first | assumption | omega)])); first | done | rfl | omega | decide))])
  replace h1 := bnot_f h1
  have n1 : ¬ nameOk x.source = false := by rw [h1]; decide
  refine AWP.seq (AWP.region ?_)
  refine AOps.step rfl rfl rfl (AOp.fieldAddr rfl fo_48_1 rfl) ?_
  refine AOps.step rfl rfl rfl (AOp.load rfl sc_3 rfl) ?_
  refine AOps.step rfl rfl rfl (AOp.call rfl (.cons (ArgOk.rfl' rfl) (.cons (ArgOk.rfl' rfl) (.cons (ArgOk.rfl' rfl) .nil))) (c_rIn _ _ _)) ?_
  refine AOps.step rfl rfl rfl (AOp.not rfl rfl) ?_
  refine AOps.mD rfl rfl rfl rfl rfl ?_
  refine AOps.split 15 rfl (fun g2 => ?_) (fun g2 => ?_)
  · replace g2 := bnot_t g2; replace g2 := of_decide_eq_false g2
    refine AOps.pass ⟨15, rfl, .inl ⟨_, rfl, rfl⟩⟩ rfl rfl ?_
    refine AOps.pass ⟨15, rfl, .inl ⟨_, rfl, rfl⟩⟩ rfl rfl ?_
    refine AOps.pass ⟨15, rfl, .inl ⟨_, rfl, rfl⟩⟩ rfl rfl ?_
    refine AOps.pass ⟨15, rfl, .inl ⟨_, rfl, rfl⟩⟩ rfl rfl ?_
    refine AOps.step rfl rfl rfl (AOp.pickT rfl rfl rfl) ?_
    refine AOps.mD rfl rfl rfl rfl rfl ?_
    refine AOps.pass ⟨21, rfl, .inl ⟨_, rfl, rfl⟩⟩ rfl rfl ?_
    refine AOps.pass ⟨21, rfl, .inl ⟨_, rfl, rfl⟩⟩ rfl rfl ?_
    refine AOps.pass ⟨21, rfl, .inl ⟨_, rfl, rfl⟩⟩ rfl rfl ?_
    refine AOps.pass ⟨21, rfl, .inl ⟨_, rfl, rfl⟩⟩ rfl rfl ?_
    refine AOps.pass ⟨21, rfl, .inl ⟨_, rfl, rfl⟩⟩ rfl rfl ?_
    refine AOps.pass ⟨21, rfl, .inl ⟨_, rfl, rfl⟩⟩ rfl rfl ?_
    refine AOps.pass ⟨21, rfl, .inl ⟨_, rfl, rfl⟩⟩ rfl rfl ?_
    refine AOps.step rfl rfl rfl (AOp.pickT rfl rfl rfl) ?_
    refine AOps.aD rfl rfl rfl rfl rfl (.nil ?_)
    refine AWP.cond rfl (fun _ => ?_) (fun h => nomatch h)
    refine AWP.seq (AWP.region ?_)
    refine AOps.aD rfl rfl rfl rfl rfl (.nil ?_)
    refine AWP.ret ?_
    refine ⟨RetD.eq rfl ?_, trivial⟩
    all_goals (first | rw [HR] | (rw [HX, ffst_hit (f := usdF x.lines) hk.2 (by unfold usdF; rw [dif_pos hlt]; (first | (exfalso; omega) | ((repeat (first | rw [if_pos (by first | assumption | omega)] | rw [if_neg (by first | assumption | omega)])); first | done | rfl | omega | decide))) _ hlt]; unfold usdF; rw [dif_pos hlt]; (first | (exfalso; omega) | ((repeat (first | rw [if_pos (by first | assumption | omega)] | rw [if_neg (by first | assumption | omega)])); first | done | rfl | omega | decide))) | rw [show rptF x = 1 from by unfold rptF; (first | (exfalso; omega) | ((repeat (first | rw [if_pos (by first | assumption | omega)] | rw [if_neg (by first | assumption | omega)])); first | done | rfl | omega | decide))])
  replace g2 := bnot_f g2; replace g2 := of_decide_eq_true g2
  refine AOps.step ⟨15, rfl, .inl ⟨_, rfl, rfl⟩⟩ rfl rfl (AOp.fieldAddr rfl fo_48_2 rfl) ?_
  refine AOps.step ⟨15, rfl, .inl ⟨_, rfl, rfl⟩⟩ rfl rfl (AOp.load rfl sc_3 rfl) ?_
  refine AOps.step ⟨15, rfl, .inl ⟨_, rfl, rfl⟩⟩ rfl rfl (AOp.call rfl (.cons (ArgOk.rfl' rfl) (.cons (ArgOk.rfl' rfl) (.cons (ArgOk.rfl' rfl) .nil))) (c_rIn _ _ _)) ?_
  refine AOps.step ⟨15, rfl, .inl ⟨_, rfl, rfl⟩⟩ rfl rfl (AOp.not rfl rfl) ?_
  refine AOps.step rfl rfl rfl (AOp.pickF rfl rfl rfl) ?_
  refine AOps.mD rfl rfl rfl rfl rfl ?_
  refine AOps.split 21 rfl (fun g3 => ?_) (fun g3 => ?_)
  · replace g3 := bnot_t g3; replace g3 := of_decide_eq_false g3
    refine AOps.pass ⟨21, rfl, .inl ⟨_, rfl, rfl⟩⟩ rfl rfl ?_
    refine AOps.pass ⟨21, rfl, .inl ⟨_, rfl, rfl⟩⟩ rfl rfl ?_
    refine AOps.pass ⟨21, rfl, .inl ⟨_, rfl, rfl⟩⟩ rfl rfl ?_
    refine AOps.pass ⟨21, rfl, .inl ⟨_, rfl, rfl⟩⟩ rfl rfl ?_
    refine AOps.pass ⟨21, rfl, .inl ⟨_, rfl, rfl⟩⟩ rfl rfl ?_
    refine AOps.pass ⟨21, rfl, .inl ⟨_, rfl, rfl⟩⟩ rfl rfl ?_
    refine AOps.pass ⟨21, rfl, .inl ⟨_, rfl, rfl⟩⟩ rfl rfl ?_
    refine AOps.step rfl rfl rfl (AOp.pickT rfl rfl rfl) ?_
    refine AOps.aD rfl rfl rfl rfl rfl (.nil ?_)
    refine AWP.cond rfl (fun _ => ?_) (fun h => nomatch h)
    refine AWP.seq (AWP.region ?_)
    refine AOps.aD rfl rfl rfl rfl rfl (.nil ?_)
    refine AWP.ret ?_
    refine ⟨RetD.eq rfl ?_, trivial⟩
    all_goals (first | rw [HR] | (rw [HX, ffst_hit (f := usdF x.lines) hk.2 (by unfold usdF; rw [dif_pos hlt]; (first | (exfalso; omega) | ((repeat (first | rw [if_pos (by first | assumption | omega)] | rw [if_neg (by first | assumption | omega)])); first | done | rfl | omega | decide))) _ hlt]; unfold usdF; rw [dif_pos hlt]; (first | (exfalso; omega) | ((repeat (first | rw [if_pos (by first | assumption | omega)] | rw [if_neg (by first | assumption | omega)])); first | done | rfl | omega | decide))) | rw [show rptF x = 1 from by unfold rptF; (first | (exfalso; omega) | ((repeat (first | rw [if_pos (by first | assumption | omega)] | rw [if_neg (by first | assumption | omega)])); first | done | rfl | omega | decide))])
  replace g3 := bnot_f g3; replace g3 := of_decide_eq_true g3
  refine AOps.step ⟨21, rfl, .inl ⟨_, rfl, rfl⟩⟩ rfl rfl (AOp.fieldAddr rfl fo_48_3 rfl) ?_
  refine AOps.step ⟨21, rfl, .inl ⟨_, rfl, rfl⟩⟩ rfl rfl (AOp.load rfl sc_3 rfl) ?_
  refine AOps.step ⟨21, rfl, .inl ⟨_, rfl, rfl⟩⟩ rfl rfl (AOp.fieldAddr rfl fo_48_1 rfl) ?_
  refine AOps.step ⟨21, rfl, .inl ⟨_, rfl, rfl⟩⟩ rfl rfl (AOp.load rfl sc_3 rfl) ?_
  refine AOps.step ⟨21, rfl, .inl ⟨_, rfl, rfl⟩⟩ rfl rfl (AOp.sub64 rfl rfl rfl (by omega) (by omega)) ?_
  refine AOps.step ⟨21, rfl, .inl ⟨_, rfl, rfl⟩⟩ rfl rfl (AOp.call rfl (.cons (ArgOk.rfl' rfl) (.cons (ArgOk.rfl' rfl) (.cons (ArgOk.rfl' rfl) .nil))) (c_rIn _ _ _)) ?_
  refine AOps.step ⟨21, rfl, .inl ⟨_, rfl, rfl⟩⟩ rfl rfl (AOp.not rfl rfl) ?_
  refine AOps.step rfl rfl rfl (AOp.pickF rfl rfl rfl) ?_
  refine AOps.aD rfl rfl rfl rfl rfl (.nil ?_)
  refine AWP.cond rfl (fun h4 => ?_) (fun h4 => ?_)
  · replace h4 := bnot_t h4; replace h4 := of_decide_eq_false h4
    have HR : rptF x = 1 := by unfold rptF; (first | (exfalso; omega) | ((repeat (first | rw [if_pos (by first | assumption | omega)] | rw [if_neg (by first | assumption | omega)])); first | done | rfl | omega | decide))
    refine AWP.seq (AWP.region ?_)
    refine AOps.aD rfl rfl rfl rfl rfl (.nil ?_)
    refine AWP.ret ?_
    refine ⟨RetD.eq rfl ?_, trivial⟩
    all_goals (first | rw [HR] | (rw [HX, ffst_hit (f := usdF x.lines) hk.2 (by unfold usdF; rw [dif_pos hlt]; (first | (exfalso; omega) | ((repeat (first | rw [if_pos (by first | assumption | omega)] | rw [if_neg (by first | assumption | omega)])); first | done | rfl | omega | decide))) _ hlt]; unfold usdF; rw [dif_pos hlt]; (first | (exfalso; omega) | ((repeat (first | rw [if_pos (by first | assumption | omega)] | rw [if_neg (by first | assumption | omega)])); first | done | rfl | omega | decide))) | rw [show rptF x = 1 from by unfold rptF; (first | (exfalso; omega) | ((repeat (first | rw [if_pos (by first | assumption | omega)] | rw [if_neg (by first | assumption | omega)])); first | done | rfl | omega | decide))])
  replace h4 := bnot_f h4; replace h4 := of_decide_eq_true h4
  refine AWP.seq (AWP.region ?_)
  refine AOps.step rfl rfl rfl (AOp.fieldAddr rfl fo_48_4 rfl) ?_
  refine AOps.step rfl rfl rfl (AOp.load rfl sc_46 rfl) ?_
  refine AOps.step rfl rfl rfl (AOp.lenSl rfl et_46.ht rfl) ?_
  refine AOps.step rfl rfl rfl (AOp.gtr rfl rfl rfl) ?_
  refine AOps.aD rfl rfl rfl rfl rfl (.nil ?_)
  refine AWP.cond rfl (fun h5 => ?_) (fun h5 => ?_)
  · replace h5 := of_decide_eq_true h5
    rw [List.length_map] at h5
    have HR : rptF x = 2 := by unfold rptF; (first | (exfalso; omega) | ((repeat (first | rw [if_pos (by first | assumption | omega)] | rw [if_neg (by first | assumption | omega)])); first | done | rfl | omega | decide))
    refine AWP.seq (AWP.region ?_)
    refine AOps.aD rfl rfl rfl rfl rfl (.nil ?_)
    refine AWP.ret ?_
    refine ⟨RetD.eq rfl ?_, trivial⟩
    all_goals (first | rw [HR] | (rw [HX, ffst_hit (f := usdF x.lines) hk.2 (by unfold usdF; rw [dif_pos hlt]; (first | (exfalso; omega) | ((repeat (first | rw [if_pos (by first | assumption | omega)] | rw [if_neg (by first | assumption | omega)])); first | done | rfl | omega | decide))) _ hlt]; unfold usdF; rw [dif_pos hlt]; (first | (exfalso; omega) | ((repeat (first | rw [if_pos (by first | assumption | omega)] | rw [if_neg (by first | assumption | omega)])); first | done | rfl | omega | decide))) | rw [show rptF x = 1 from by unfold rptF; (first | (exfalso; omega) | ((repeat (first | rw [if_pos (by first | assumption | omega)] | rw [if_neg (by first | assumption | omega)])); first | done | rfl | omega | decide))])
  replace h5 := of_decide_eq_false h5
  rw [List.length_map] at h5
  have HX : rptF x = ffst (usdF x.lines) x.lines.length := by unfold rptF; (first | (exfalso; omega) | ((repeat (first | rw [if_pos (by first | assumption | omega)] | rw [if_neg (by first | assumption | omega)])); first | done | rfl | omega | decide))
  refine AWP.skip ?_
  refine AWP.seq ?_
  refine AWP.seq (AWP.region ?_)
  refine AOps.step rfl rfl rfl (AOp.fieldAddr rfl fo_48_4 rfl) ?_
  refine AOps.step rfl rfl rfl (AOp.load rfl sc_46 rfl) ?_
  refine AOps.step rfl rfl rfl (AOp.lenSl rfl et_46.ht rfl) ?_
  refine AOps.mD rfl rfl rfl rfl rfl (.nil ?_)
  refine AWP.block ?_
  refine AWP.loop (G := Nat) (fun k => Env.of [(38, .d (.v (.int .i64 (k : Int)))), (36, .d (.sl (x.lines.map Usd.ds))), (37, .d (.v (.int .i64 ((x.lines.map Usd.ds).length : Int)))), (1, .d (.fp x.ds))]) (fun k => []) (fun k => k ≤ x.lines.length ∧ ffst (usdF x.lines) k = 0) (fun k => x.lines.length - k) 0 ⟨Nat.zero_le _, rfl⟩ (Sub.less ⟨(SLe.of_eq rfl), SLe.refl _, SLe.refl _, SLe.refl _, trivial⟩ (fun _ h => h)) ?_
  intro k hk
  refine AWP.seq (AWP.region ?_)
  refine AOps.step rfl rfl rfl (AOp.lss rfl rfl rfl) (.nil ?_)
  refine AWP.seq ?_
  refine AWP.cond rfl (fun h6 => ?_) (fun h6 => ?_)
  · replace h6 := of_decide_eq_true h6
    rw [List.length_map] at h6
    have hlt : k < x.lines.length := by omega
    have hbk := hx.2 _ (List.getElem_mem hlt)
    refine AWP.skip ?_
    refine AWP.seq ?_
    refine AWP.block ?_
    refine AWP.seq (AWP.region ?_)
    refine AOps.mD rfl rfl rfl rfl rfl ?_
    refine AOps.step rfl rfl rfl (AOp.indexAddr rfl et_46 rfl rfl k rfl (at_lst hlt) rfl) ?_
    refine AOps.step rfl rfl rfl (AOp.loadAgg rfl ag_93 rfl rfl) ?_
    refine AOps.alloc 101 rfl rfl rfl rfl zt_93 rfl rfl rfl ?_
    refine AOps.aD rfl rfl rfl rfl rfl ?_
    refine AOps.store rfl rfl rfl sz_93 rfl (.head _) rfl rfl rfl (Nat.le_of_ble_eq_true rfl) ?_
    refine AOps.freezeCells 4 (ds := x.lines[k].ds) rfl (.head _) (.nil ?_)
    refine AWP.block ?_
    refine AWP.seq (AWP.region ?_)
    refine AOps.step rfl rfl rfl (AOp.fieldAddr rfl fo_93_0 rfl) ?_
    refine AOps.step rfl rfl rfl (AOp.load rfl sc_9 rfl) ?_
    -- wants the world
    refine AOps.callT rfl rfl rfl hT maxT_stays rfl (.cons (ArgOk.rfl' rfl) .nil) (c_rTitle _ hbk) ?_
    refine AOps.step rfl rfl rfl (AOp.not rfl rfl) ?_
    refine AOps.aD rfl rfl rfl rfl rfl (.nil ?_)
    refine AWP.cond rfl (fun h7 => ?_) (fun h7 => ?_)
    · replace h7 := bnot_t h7
      refine AWP.seq (AWP.region ?_)
      refine AOps.aD rfl rfl rfl rfl rfl (.nil ?_)
      refine AWP.ret ?_
      refine ⟨RetD.eq rfl ?_, trivial⟩
      all_goals (first | rw [HR] | (rw [HX, ffst_hit (f := usdF x.lines) hk.2 (by unfold usdF; rw [dif_pos hlt]; (first | (exfalso; omega) | ((repeat (first | rw [if_pos (by first | assumption | omega)] | rw [if_neg (by first | assumption | omega)])); first | done | rfl | omega | decide))) _ hlt]; unfold usdF; rw [dif_pos hlt]; (first | (exfalso; omega) | ((repeat (first | rw [if_pos (by first | assumption | omega)] | rw [if_neg (by first | assumption | omega)])); first | done | rfl | omega | decide))) | rw [show rptF x = 1 from by unfold rptF; (first | (exfalso; omega) | ((repeat (first | rw [if_pos (by first | assumption | omega)] | rw [if_neg (by first | assumption | omega)])); first | done | rfl | omega | decide))])
    replace h7 := bnot_f h7
    have n4 : ¬ titleOk x.lines[k].title = false := by rw [h7]; decide
    refine AWP.seq (AWP.region ?_)
    refine AOps.step rfl rfl rfl (AOp.fieldAddr rfl fo_93_1 rfl) ?_
    refine AOps.step rfl rfl rfl (AOp.load rfl sc_3 rfl) ?_
    refine AOps.step rfl rfl rfl (AOp.call rfl (.cons (ArgOk.rfl' rfl) (.cons (ArgOk.rfl' rfl) (.cons (ArgOk.rfl' rfl) .nil))) (c_rIn _ _ _)) ?_
    refine AOps.step rfl rfl rfl (AOp.not rfl rfl) ?_
    refine AOps.mD rfl rfl rfl rfl rfl ?_
    refine AOps.split 53 rfl (fun g8 => ?_) (fun g8 => ?_)
    · replace g8 := bnot_t g8; replace g8 := of_decide_eq_false g8
      refine AOps.pass ⟨53, rfl, .inl ⟨_, rfl, rfl⟩⟩ rfl rfl ?_
      refine AOps.pass ⟨53, rfl, .inl ⟨_, rfl, rfl⟩⟩ rfl rfl ?_
      refine AOps.pass ⟨53, rfl, .inl ⟨_, rfl, rfl⟩⟩ rfl rfl ?_
      refine AOps.pass ⟨53, rfl, .inl ⟨_, rfl, rfl⟩⟩ rfl rfl ?_
      refine AOps.step rfl rfl rfl (AOp.pickT rfl rfl rfl) ?_
      refine AOps.aD rfl rfl rfl rfl rfl (.nil ?_)
      refine AWP.cond rfl (fun _ => ?_) (fun h => nomatch h)
      refine AWP.seq (AWP.region ?_)
      refine AOps.aD rfl rfl rfl rfl rfl (.nil ?_)
      refine AWP.ret ?_
      refine ⟨RetD.eq rfl ?_, trivial⟩
      all_goals (first | rw [HR] | (rw [HX, ffst_hit (f := usdF x.lines) hk.2 (by unfold usdF; rw [dif_pos hlt]; (first | (exfalso; omega) | ((repeat (first | rw [if_pos (by first | assumption | omega)] | rw [if_neg (by first | assumption | omega)])); first | done | rfl | omega | decide))) _ hlt]; unfold usdF; rw [dif_pos hlt]; (first | (exfalso; omega) | ((repeat (first | rw [if_pos (by first | assumption | omega)] | rw [if_neg (by first | assumption | omega)])); first | done | rfl | omega | decide))) | rw [show rptF x = 1 from by unfold rptF; (first | (exfalso; omega) | ((repeat (first | rw [if_pos (by first | assumption | omega)] | rw [if_neg (by first | assumption | omega)])); first | done | rfl | omega | decide))])
    replace g8 := bnot_f g8; replace g8 := of_decide_eq_true g8
    refine AOps.step ⟨53, rfl, .inl ⟨_, rfl, rfl⟩⟩ rfl rfl (AOp.fieldAddr rfl fo_93_2 rfl) ?_
    refine AOps.step ⟨53, rfl, .inl ⟨_, rfl, rfl⟩⟩ rfl rfl (AOp.load rfl sc_3 rfl) ?_
    refine AOps.step ⟨53, rfl, .inl ⟨_, rfl, rfl⟩⟩ rfl rfl (AOp.call rfl (.cons (ArgOk.rfl' rfl) (.cons (ArgOk.rfl' rfl) (.cons (ArgOk.rfl' rfl) .nil))) (c_rIn _ _ _)) ?_
    refine AOps.step ⟨53, rfl, .inl ⟨_, rfl, rfl⟩⟩ rfl rfl (AOp.not rfl rfl) ?_
    refine AOps.step rfl rfl rfl (AOp.pickF rfl rfl rfl) ?_
    refine AOps.aD rfl rfl rfl rfl rfl (.nil ?_)
    refine AWP.cond rfl (fun h9 => ?_) (fun h9 => ?_)
    · replace h9 := bnot_t h9; replace h9 := of_decide_eq_false h9
      refine AWP.seq (AWP.region ?_)
      refine AOps.aD rfl rfl rfl rfl rfl (.nil ?_)
      refine AWP.ret ?_
      refine ⟨RetD.eq rfl ?_, trivial⟩
      all_goals (first | rw [HR] | (rw [HX, ffst_hit (f := usdF x.lines) hk.2 (by unfold usdF; rw [dif_pos hlt]; (first | (exfalso; omega) | ((repeat (first | rw [if_pos (by first | assumption | omega)] | rw [if_neg (by first | assumption | omega)])); first | done | rfl | omega | decide))) _ hlt]; unfold usdF; rw [dif_pos hlt]; (first | (exfalso; omega) | ((repeat (first | rw [if_pos (by first | assumption | omega)] | rw [if_neg (by first | assumption | omega)])); first | done | rfl | omega | decide))) | rw [show rptF x = 1 from by unfold rptF; (first | (exfalso; omega) | ((repeat (first | rw [if_pos (by first | assumption | omega)] | rw [if_neg (by first | assumption | omega)])); first | done | rfl | omega | decide))])
    replace h9 := bnot_f h9; replace h9 := of_decide_eq_true h9
    refine AWP.seq ?_
    refine AWP.draw (by kernel_rfl) (by kernel_rfl) ?_
    refine DRun.step rfl rfl rfl (AOp.moveD rfl rfl) ?_
    refine DRun.step rfl rfl rfl (AOp.gtr rfl rfl rfl) ?_
    refine DRun.step rfl rfl rfl (AOp.moveD rfl rfl) ?_
    refine DRun.split 62 rfl (fun g10 => ?_) (fun g10 => ?_)
    · replace g10 := of_decide_eq_true g10
      have hk0 : 0 < k := by omega
      refine DRun.step ⟨62, rfl, .inl ⟨_, rfl, rfl⟩⟩ rfl rfl (AOp.fieldAddr rfl fo_93_0 rfl) ?_
      refine DRun.step ⟨62, rfl, .inl ⟨_, rfl, rfl⟩⟩ rfl rfl (AOp.load rfl sc_9 rfl) ?_
      refine DRun.step ⟨62, rfl, .inl ⟨_, rfl, rfl⟩⟩ rfl rfl (AOp.fieldAddr rfl fo_48_4 rfl) ?_
      refine DRun.step ⟨62, rfl, .inl ⟨_, rfl, rfl⟩⟩ rfl rfl (AOp.load rfl sc_46 rfl) ?_
      refine DRun.step ⟨62, rfl, .inl ⟨_, rfl, rfl⟩⟩ rfl rfl (AOp.moveD rfl rfl) ?_
      refine DRun.step ⟨62, rfl, .inl ⟨_, rfl, rfl⟩⟩ rfl rfl (AOp.sub64 rfl rfl rfl (by omega) (by omega)) ?_
      refine DRun.step ⟨62, rfl, .inl ⟨_, rfl, rfl⟩⟩ rfl rfl (AOp.indexAddr rfl et_46 rfl rfl (k - 1) (by omega) (at_lst (by omega)) rfl) ?_
      refine DRun.step ⟨62, rfl, .inl ⟨_, rfl, rfl⟩⟩ rfl rfl (AOp.fieldAddr rfl fo_93_0 rfl) ?_
      refine DRun.step ⟨62, rfl, .inl ⟨_, rfl, rfl⟩⟩ rfl rfl (AOp.load rfl sc_9 rfl) ?_
      refine DRun.step ⟨62, rfl, .inl ⟨_, rfl, rfl⟩⟩ rfl rfl (AOp.sleq rfl rfl rfl) ?_
      refine DRun.step rfl rfl rfl (AOp.pickT rfl rfl rfl) ?_
      refine DRun.step rfl rfl rfl (AOp.assignD rfl rfl) ?_
      refine DRun.nil ?_
      refine AWP.cond rfl (fun h11 => ?_) (fun h11 => ?_)
      · skip
        have n5 : (0 < k ∧ sle x.lines[k].title (x.lines[k-1]'(by omega)).title = true) := ⟨hk0, h11⟩
        refine AWP.seq (AWP.region ?_)
        refine AOps.aD rfl rfl rfl rfl rfl (.nil ?_)
        refine AWP.ret ?_
        refine ⟨RetD.eq rfl ?_, trivial⟩
        all_goals (first | rw [HR] | (rw [HX, ffst_hit (f := usdF x.lines) hk.2 (by unfold usdF; rw [dif_pos hlt]; (first | (exfalso; omega) | ((repeat (first | rw [if_pos (by first | assumption | omega)] | rw [if_neg (by first | assumption | omega)])); first | done | rfl | omega | decide))) _ hlt]; unfold usdF; rw [dif_pos hlt]; (first | (exfalso; omega) | ((repeat (first | rw [if_pos (by first | assumption | omega)] | rw [if_neg (by first | assumption | omega)])); first | done | rfl | omega | decide))) | rw [show rptF x = 1 from by unfold rptF; (first | (exfalso; omega) | ((repeat (first | rw [if_pos (by first | assumption | omega)] | rw [if_neg (by first | assumption | omega)])); first | done | rfl | omega | decide))])
      have n5 : ¬ (0 < k ∧ sle x.lines[k].title (x.lines[k-1]'(by omega)).title = true) := fun hh => by have h5 := hh.2; rw [show sle x.lines[k].title (x.lines[k-1]'(by omega)).title = false from h11] at h5; cases h5
      refine AWP.skip ?_
      refine AWP.region ?_
      refine AOps.step rfl rfl rfl (AOp.add64 rfl rfl rfl (by omega) (by omega)) ?_
      refine AOps.mD rfl rfl rfl rfl rfl (.nil ?_)
      refine ⟨k + 1, ⟨by omega, ffst_next hk.2 (by unfold usdF; rw [dif_pos hlt]; (first | (exfalso; omega) | ((repeat (first | rw [if_pos (by first | assumption | omega)] | rw [if_neg (by first | assumption | omega)])); first | done | rfl | omega | decide)))⟩, (by dsimp only; omega), Sub.less ⟨(SLe.of_eq rfl), SLe.refl _, SLe.refl _, SLe.refl _, trivial⟩ (fun _ h => h)⟩
    replace g10 := of_decide_eq_false g10
    have n5 : ¬ (0 < k ∧ sle x.lines[k].title (x.lines[k-1]'(by omega)).title = true) := fun hh => by omega
    refine DRun.pass ⟨62, rfl, .inl ⟨_, rfl, rfl⟩⟩ rfl rfl ?_
    refine DRun.pass ⟨62, rfl, .inl ⟨_, rfl, rfl⟩⟩ rfl rfl ?_
    refine DRun.pass ⟨62, rfl, .inl ⟨_, rfl, rfl⟩⟩ rfl rfl ?_
    refine DRun.pass ⟨62, rfl, .inl ⟨_, rfl, rfl⟩⟩ rfl rfl ?_
    refine DRun.pass ⟨62, rfl, .inl ⟨_, rfl, rfl⟩⟩ rfl rfl ?_
    refine DRun.pass ⟨62, rfl, .inl ⟨_, rfl, rfl⟩⟩ rfl rfl ?_
    refine DRun.pass ⟨62, rfl, .inl ⟨_, rfl, rfl⟩⟩ rfl rfl ?_
    refine DRun.pass ⟨62, rfl, .inl ⟨_, rfl, rfl⟩⟩ rfl rfl ?_
    refine DRun.pass ⟨62, rfl, .inl ⟨_, rfl, rfl⟩⟩ rfl rfl ?_
    refine DRun.pass ⟨62, rfl, .inl ⟨_, rfl, rfl⟩⟩ rfl rfl ?_
    refine DRun.step rfl rfl rfl (AOp.pickF rfl rfl rfl) ?_
    refine DRun.step rfl rfl rfl (AOp.assignD rfl rfl) ?_
    refine DRun.nil ?_
    refine AWP.cond rfl (fun h => nomatch h) (fun _ => ?_)
    refine AWP.skip ?_
    refine AWP.region ?_
    refine AOps.step rfl rfl rfl (AOp.add64 rfl rfl rfl (by omega) (by omega)) ?_
    refine AOps.mD rfl rfl rfl rfl rfl (.nil ?_)
    refine ⟨k + 1, ⟨by omega, ffst_next hk.2 (by unfold usdF; rw [dif_pos hlt]; (first | (exfalso; omega) | ((repeat (first | rw [if_pos (by first | assumption | omega)] | rw [if_neg (by first | assumption | omega)])); first | done | rfl | omega | decide)))⟩, (by dsimp only; omega), Sub.less ⟨(SLe.of_eq rfl), SLe.refl _, SLe.refl _, SLe.refl _, trivial⟩ (fun _ h => h)⟩
  replace h6 := of_decide_eq_false h6
  rw [List.length_map] at h6
  have HR : rptF x = 0 := by rw [HX, show x.lines.length = k by omega]; exact hk.2
  refine AWP.exit ?_
  refine AWP.seq (AWP.region ?_)
  refine AOps.aD rfl rfl rfl rfl rfl (.nil ?_)
  refine AWP.ret ?_
  refine ⟨RetD.eq rfl ?_, trivial⟩
  all_goals (first | rw [HR] | (rw [HX, ffst_hit (f := usdF x.lines) hk.2 (by unfold usdF; rw [dif_pos hlt]; (first | (exfalso; omega) | ((repeat (first | rw [if_pos (by first | assumption | omega)] | rw [if_neg (by first | assumption | omega)])); first | done | rfl | omega | decide))) _ hlt]; unfold usdF; rw [dif_pos hlt]; (first | (exfalso; omega) | ((repeat (first | rw [if_pos (by first | assumption | omega)] | rw [if_neg (by first | assumption | omega)])); first | done | rfl | omega | decide))) | rw [show rptF x = 1 from by unfold rptF; (first | (exfalso; omega) | ((repeat (first | rw [if_pos (by first | assumption | omega)] | rw [if_neg (by first | assumption | omega)])); first | done | rfl | omega | decide))])

set_option maxRecDepth 100000 in
set_option maxHeartbeats 1000000 in
theorem c_cmpRpt (a b : Rpt) : ACall Tryd.prog 48 [.agg a.ds, .agg b.ds] (.v (.int .i64 (rCmp a b))) := by
  refine acall_of (n := 17) (ds' := [.v (.int .i64 (rCmp a b))]) Tryd.func48 rfl (by kernel_rfl) rfl [4] rfl rfl ?_
  intro B w0 F0 fr
  refine AWP.seq (AWP.region ?_)
  refine AOps.step rfl rfl rfl (AOp.box rfl rfl rfl) ?_
  refine AOps.step rfl rfl rfl (AOp.box rfl rfl rfl) ?_
  refine AOps.aD rfl rfl rfl rfl rfl (.nil ?_)
  refine AWP.seq ?_
  refine AWP.draw (by kernel_rfl) (by kernel_rfl) ?_
  refine DRun.step rfl rfl rfl (AOp.fieldAddr rfl fo_48_0 rfl) ?_
  refine DRun.step rfl rfl rfl (AOp.load rfl sc_9 rfl) ?_
  refine DRun.step rfl rfl rfl (AOp.fieldAddr rfl fo_48_0 rfl) ?_
  refine DRun.step rfl rfl rfl (AOp.load rfl sc_9 rfl) ?_
  refine DRun.step rfl rfl rfl (AOp.call rfl (.cons (ArgOk.rfl' rfl) (.cons (ArgOk.rfl' rfl) .nil)) (c_strCmp _ _)) ?_
  refine DRun.step rfl rfl rfl (AOp.fieldAddr rfl fo_48_1 rfl) ?_
  refine DRun.step rfl rfl rfl (AOp.load rfl sc_3 rfl) ?_
  refine DRun.step rfl rfl rfl (AOp.fieldAddr rfl fo_48_1 rfl) ?_
  refine DRun.step rfl rfl rfl (AOp.load rfl sc_3 rfl) ?_
  refine DRun.step rfl rfl rfl (AOp.call rfl (.cons (ArgOk.rfl' rfl) (.cons (ArgOk.rfl' rfl) .nil)) (c_cmpInt _ _)) ?_
  refine DRun.step rfl rfl rfl (AOp.buildSlice rfl et_27 (.cons rfl rfl rfl (.cons rfl rfl rfl .nil)) rfl (by decide)) ?_
  refine DRun.step rfl rfl rfl (AOp.call rfl (.cons (ArgOk.rfl' rfl) .nil) (c_or [strCmp a.source b.source, if a.no < b.no then -1 else if b.no < a.no then 1 else 0])) ?_
  refine DRun.step rfl rfl rfl (AOp.assignD rfl rfl) ?_
  refine DRun.nil ?_
  refine AWP.ret ?_
  refine ⟨RetD.eq rfl ?_, trivial⟩
  all_goals (rw [orI_rpt])

set_option maxRecDepth 100000 in
set_option maxHeartbeats 1000000 in
theorem c_before (a b : Rpt) : ACall Tryd.prog 45 [.agg a.ds, .agg b.ds] (.v (.bool (ltR a b))) := by
  refine acall_of (n := 24) (ds' := [.v (.bool (ltR a b))]) Tryd.func45 rfl (by kernel_rfl) rfl [4] rfl rfl ?_
  intro B w0 F0 fr
  refine AWP.seq (AWP.region ?_)
  refine AOps.step rfl rfl rfl (AOp.box rfl rfl rfl) ?_
  refine AOps.step rfl rfl rfl (AOp.box rfl rfl rfl) ?_
  refine AOps.aD rfl rfl rfl rfl rfl (.nil ?_)
  refine AWP.seq (AWP.region ?_)
  refine AOps.step rfl rfl rfl (AOp.fieldAddr rfl fo_48_0 rfl) ?_
  refine AOps.step rfl rfl rfl (AOp.load rfl sc_9 rfl) ?_
  refine AOps.step rfl rfl rfl (AOp.fieldAddr rfl fo_48_0 rfl) ?_
  refine AOps.step rfl rfl rfl (AOp.load rfl sc_9 rfl) ?_
  refine AOps.step rfl rfl rfl (AOp.slss rfl rfl rfl) ?_
  refine AOps.mD rfl rfl rfl rfl rfl ?_
  refine AOps.split 10 rfl (fun g1 => ?_) (fun g1 => ?_)
  · skip
    rw [bf_1 g1]
    refine AOps.pass ⟨10, rfl, .inl ⟨_, rfl, rfl⟩⟩ rfl rfl ?_
    refine AOps.pass ⟨10, rfl, .inl ⟨_, rfl, rfl⟩⟩ rfl rfl ?_
    refine AOps.pass ⟨10, rfl, .inl ⟨_, rfl, rfl⟩⟩ rfl rfl ?_
    refine AOps.pass ⟨10, rfl, .inl ⟨_, rfl, rfl⟩⟩ rfl rfl ?_
    refine AOps.pass ⟨10, rfl, .inl ⟨_, rfl, rfl⟩⟩ rfl rfl ?_
    refine AOps.pass ⟨10, rfl, .inl ⟨_, rfl, rfl⟩⟩ rfl rfl ?_
    refine AOps.pass ⟨16, rfl, .inr ⟨rfl, rfl⟩⟩ rfl rfl ?_
    refine AOps.pass ⟨16, rfl, .inr ⟨rfl, rfl⟩⟩ rfl rfl ?_
    refine AOps.pass ⟨16, rfl, .inr ⟨rfl, rfl⟩⟩ rfl rfl ?_
    refine AOps.pass ⟨16, rfl, .inr ⟨rfl, rfl⟩⟩ rfl rfl ?_
    refine AOps.pass ⟨16, rfl, .inr ⟨rfl, rfl⟩⟩ rfl rfl ?_
    refine AOps.pass ⟨10, rfl, .inl ⟨_, rfl, rfl⟩⟩ rfl rfl ?_
    refine AOps.step rfl rfl rfl (AOp.pickT rfl rfl rfl) ?_
    refine AOps.aD rfl rfl rfl rfl rfl (.nil ?_)
    refine AWP.ret ?_
    refine ⟨RetD.eq rfl ?_, trivial⟩
    all_goals (rfl)
  have n1 := g1
  refine AOps.step ⟨10, rfl, .inl ⟨_, rfl, rfl⟩⟩ rfl rfl (AOp.fieldAddr rfl fo_48_0 rfl) ?_
  refine AOps.step ⟨10, rfl, .inl ⟨_, rfl, rfl⟩⟩ rfl rfl (AOp.load rfl sc_9 rfl) ?_
  refine AOps.step ⟨10, rfl, .inl ⟨_, rfl, rfl⟩⟩ rfl rfl (AOp.fieldAddr rfl fo_48_0 rfl) ?_
  refine AOps.step ⟨10, rfl, .inl ⟨_, rfl, rfl⟩⟩ rfl rfl (AOp.load rfl sc_9 rfl) ?_
  refine AOps.step ⟨10, rfl, .inl ⟨_, rfl, rfl⟩⟩ rfl rfl (AOp.seql rfl rfl rfl) ?_
  refine AOps.step ⟨10, rfl, .inl ⟨_, rfl, rfl⟩⟩ rfl rfl (AOp.moveD rfl rfl) ?_
  refine AOps.split 16 rfl (fun g2 => ?_) (fun g2 => ?_)
  · replace g2 := of_decide_eq_true g2
    rw [bf_3 g2]
    refine AOps.step ⟨16, rfl, .inl ⟨_, rfl, rfl⟩⟩ rfl rfl (AOp.fieldAddr rfl fo_48_1 rfl) ?_
    refine AOps.step ⟨16, rfl, .inl ⟨_, rfl, rfl⟩⟩ rfl rfl (AOp.load rfl sc_3 rfl) ?_
    refine AOps.step ⟨16, rfl, .inl ⟨_, rfl, rfl⟩⟩ rfl rfl (AOp.fieldAddr rfl fo_48_1 rfl) ?_
    refine AOps.step ⟨16, rfl, .inl ⟨_, rfl, rfl⟩⟩ rfl rfl (AOp.load rfl sc_3 rfl) ?_
    refine AOps.step ⟨16, rfl, .inl ⟨_, rfl, rfl⟩⟩ rfl rfl (AOp.lss rfl rfl rfl) ?_
    refine AOps.step ⟨10, rfl, .inl ⟨_, rfl, rfl⟩⟩ rfl rfl (AOp.pickT rfl rfl rfl) ?_
    refine AOps.step rfl rfl rfl (AOp.pickF rfl rfl rfl) ?_
    refine AOps.aD rfl rfl rfl rfl rfl (.nil ?_)
    refine AWP.ret ?_
    refine ⟨RetD.eq rfl ?_, trivial⟩
    all_goals (rfl)
  replace g2 := of_decide_eq_false g2
  rw [bf_2 n1 g2]
  refine AOps.pass ⟨16, rfl, .inl ⟨_, rfl, rfl⟩⟩ rfl rfl ?_
  refine AOps.pass ⟨16, rfl, .inl ⟨_, rfl, rfl⟩⟩ rfl rfl ?_
  refine AOps.pass ⟨16, rfl, .inl ⟨_, rfl, rfl⟩⟩ rfl rfl ?_
  refine AOps.pass ⟨16, rfl, .inl ⟨_, rfl, rfl⟩⟩ rfl rfl ?_
  refine AOps.pass ⟨16, rfl, .inl ⟨_, rfl, rfl⟩⟩ rfl rfl ?_
  refine AOps.step ⟨10, rfl, .inl ⟨_, rfl, rfl⟩⟩ rfl rfl (AOp.pickF rfl rfl rfl) ?_
  refine AOps.step rfl rfl rfl (AOp.pickF rfl rfl rfl) ?_
  refine AOps.aD rfl rfl rfl rfl rfl (.nil ?_)
  refine AWP.ret ?_
  refine ⟨RetD.eq rfl ?_, trivial⟩
  all_goals (rfl)

set_option maxRecDepth 100000 in
set_option maxHeartbeats 1000000 in
theorem c_pLog (l : List Rpt) (hl : ∀ x ∈ l, okRpt x) : ACallT Tryd.prog MaxT 21 [.sl (l.map Rpt.ds)] (.v (.int .i64 (logF l))) := by
  refine acall_ofT (n := 34) (ds' := [.v (.int .i64 (logF l))]) Tryd.func21 rfl (by kernel_rfl) rfl [2] rfl rfl ?_
  intro B w0 F0 hT
  refine AWP.seq (AWP.region ?_)
  refine AOps.aD rfl rfl rfl rfl rfl (.nil ?_)
  refine AWP.seq ?_
  refine AWP.seq (AWP.region ?_)
  refine AOps.mD rfl rfl rfl rfl rfl ?_
  refine AOps.step rfl rfl rfl (AOp.lenSl rfl et_40.ht rfl) ?_
  refine AOps.step rfl rfl rfl (AOp.gtr rfl rfl rfl) (.nil ?_)
  refine AWP.cond rfl (fun h1 => ?_) (fun h1 => ?_)
  · replace h1 := of_decide_eq_true h1
    rw [List.length_map] at h1
    have HR : logF l = 2 := if_pos (by omega)
    refine AWP.seq (AWP.region ?_)
    refine AOps.aD rfl rfl rfl rfl rfl (.nil ?_)
    refine AWP.ret ?_
    refine ⟨RetD.eq rfl ?_, trivial⟩
    all_goals (first | rw [HR] | (rw [HX, ffst_hit (f := repF l) hk.2 (by unfold repF; rw [dif_pos hlt]; (first | (exfalso; omega) | ((repeat (first | rw [if_pos (by first | assumption | omega)] | rw [if_neg (by first | assumption | omega)])); first | done | rfl | omega | decide))) _ hlt]; unfold repF; rw [dif_pos hlt]; (first | (exfalso; omega) | ((repeat (first | rw [if_pos (by first | assumption | omega)] | rw [if_neg (by first | assumption | omega)])); first | done | rfl | omega | decide))))
  replace h1 := of_decide_eq_false h1
  rw [List.length_map] at h1
  have HX : logF l = ffst (repF l) l.length := if_neg (by omega)
  refine AWP.skip ?_
  refine AWP.seq ?_
  refine AWP.seq (AWP.region ?_)
  refine AOps.mD rfl rfl rfl rfl rfl ?_
  refine AOps.step rfl rfl rfl (AOp.lenSl rfl et_40.ht rfl) ?_
  refine AOps.mD rfl rfl rfl rfl rfl (.nil ?_)
  refine AWP.block ?_
  refine AWP.loop (G := Nat) (fun k => Env.of [(11, .d (.v (.int .i64 (k : Int)))), (9, .d (.sl (l.map Rpt.ds))), (10, .d (.v (.int .i64 ((l.map Rpt.ds).length : Int)))), (0, .d (.sl (l.map Rpt.ds)))]) (fun k => []) (fun k => k ≤ l.length ∧ ffst (repF l) k = 0) (fun k => l.length - k) 0 ⟨Nat.zero_le _, rfl⟩ (Sub.less ⟨(SLe.of_eq rfl), SLe.refl _, SLe.refl _, SLe.refl _, trivial⟩ (fun _ h => h)) ?_
  intro k hk
  refine AWP.seq (AWP.region ?_)
  refine AOps.step rfl rfl rfl (AOp.lss rfl rfl rfl) (.nil ?_)
  refine AWP.seq ?_
  refine AWP.cond rfl (fun h2 => ?_) (fun h2 => ?_)
  · replace h2 := of_decide_eq_true h2
    rw [List.length_map] at h2
    have hlt : k < l.length := by omega
    have hbk := hl _ (List.getElem_mem hlt)
    refine AWP.skip ?_
    refine AWP.seq ?_
    refine AWP.block ?_
    refine AWP.seq (AWP.region ?_)
    refine AOps.mD rfl rfl rfl rfl rfl ?_
    refine AOps.step rfl rfl rfl (AOp.indexAddr rfl et_40 rfl rfl k rfl (at_lst hlt) rfl) ?_
    refine AOps.step rfl rfl rfl (AOp.loadAgg rfl ag_48 rfl rfl) ?_
    refine AOps.alloc 101 rfl rfl rfl rfl zt_48 rfl rfl rfl ?_
    refine AOps.aD rfl rfl rfl rfl rfl ?_
    refine AOps.store rfl rfl rfl sz_48 rfl (.head _) rfl rfl rfl (Nat.le_of_ble_eq_true rfl) ?_
    refine AOps.freezeCells 4 (ds := l[k].ds) rfl (.head _) (.nil ?_)
    refine AWP.seq ?_
    refine AWP.seq (AWP.region ?_)
    refine AOps.step rfl rfl rfl (AOp.loadAgg rfl ag_48 rfl rfl) ?_
    -- wants the world
    refine AOps.callT rfl rfl rfl hT maxT_stays rfl (.cons (ArgOk.rfl' rfl) .nil) (c_pRpt _ hbk) ?_
    refine AOps.aD rfl rfl rfl rfl rfl (.nil ?_)
    refine AWP.seq (AWP.region ?_)
    refine AOps.mD rfl rfl rfl rfl rfl ?_
    refine AOps.step rfl rfl rfl (AOp.neq rfl rfl rfl) (.nil ?_)
    refine AWP.cond rfl (fun h3 => ?_) (fun h3 => ?_)
    · replace h3 := of_decide_eq_true h3
      have n1 : rptF l[k] ≠ 0 := by omega
      refine AWP.seq (AWP.region ?_)
      refine AOps.mD rfl rfl rfl rfl rfl ?_
      refine AOps.aD rfl rfl rfl rfl rfl (.nil ?_)
      refine AWP.ret ?_
      refine ⟨RetD.eq rfl ?_, trivial⟩
      all_goals (first | rw [HR] | (rw [HX, ffst_hit (f := repF l) hk.2 (by unfold repF; rw [dif_pos hlt]; (first | (exfalso; omega) | ((repeat (first | rw [if_pos (by first | assumption | omega)] | rw [if_neg (by first | assumption | omega)])); first | done | rfl | omega | decide))) _ hlt]; unfold repF; rw [dif_pos hlt]; (first | (exfalso; omega) | ((repeat (first | rw [if_pos (by first | assumption | omega)] | rw [if_neg (by first | assumption | omega)])); first | done | rfl | omega | decide))))
    replace h3 := of_decide_eq_false h3
    have n1 : ¬ rptF l[k] ≠ 0 := by omega
    refine AWP.skip ?_
    refine AWP.seq ?_
    refine AWP.draw (by kernel_rfl) (by kernel_rfl) ?_
    refine DRun.step rfl rfl rfl (AOp.moveD rfl rfl) ?_
    refine DRun.step rfl rfl rfl (AOp.gtr rfl rfl rfl) ?_
    refine DRun.step rfl rfl rfl (AOp.moveD rfl rfl) ?_
    refine DRun.split 23 rfl (fun g4 => ?_) (fun g4 => ?_)
    · replace g4 := of_decide_eq_true g4
      have hk0 : 0 < k := by omega
      refine DRun.step ⟨23, rfl, .inl ⟨_, rfl, rfl⟩⟩ rfl rfl (AOp.moveD rfl rfl) ?_
      refine DRun.step ⟨23, rfl, .inl ⟨_, rfl, rfl⟩⟩ rfl rfl (AOp.moveD rfl rfl) ?_
      refine DRun.step ⟨23, rfl, .inl ⟨_, rfl, rfl⟩⟩ rfl rfl (AOp.sub64 rfl rfl rfl (by omega) (by omega)) ?_
      refine DRun.step ⟨23, rfl, .inl ⟨_, rfl, rfl⟩⟩ rfl rfl (AOp.indexAddr rfl et_40 rfl rfl (k - 1) (by omega) (at_lst (by omega)) rfl) ?_
      refine DRun.step ⟨23, rfl, .inl ⟨_, rfl, rfl⟩⟩ rfl rfl (AOp.loadAgg rfl ag_48 rfl rfl) ?_
      refine DRun.step ⟨23, rfl, .inl ⟨_, rfl, rfl⟩⟩ rfl rfl (AOp.loadAgg rfl ag_48 rfl rfl) ?_
      refine DRun.step ⟨23, rfl, .inl ⟨_, rfl, rfl⟩⟩ rfl rfl (AOp.call rfl (.cons (ArgOk.rfl' rfl) (.cons (ArgOk.rfl' rfl) .nil)) (c_cmpRpt _ _)) ?_
      refine DRun.step ⟨23, rfl, .inl ⟨_, rfl, rfl⟩⟩ rfl rfl (AOp.geq rfl rfl rfl) ?_
      refine DRun.step rfl rfl rfl (AOp.pickT rfl rfl rfl) ?_
      refine DRun.nil ?_
      refine AWP.cond rfl (fun h5 => ?_) (fun h5 => ?_)
      · replace h5 := of_decide_eq_true h5
        have n3 : (0 < k ∧ 0 ≤ rCmp (l[k-1]'(by omega)) l[k]) := ⟨hk0, by omega⟩
        refine AWP.seq (AWP.region ?_)
        refine AOps.aD rfl rfl rfl rfl rfl (.nil ?_)
        refine AWP.ret ?_
        refine ⟨RetD.eq rfl ?_, trivial⟩
        all_goals (first | rw [HR] | (rw [HX, ffst_hit (f := repF l) hk.2 (by unfold repF; rw [dif_pos hlt]; (first | (exfalso; omega) | ((repeat (first | rw [if_pos (by first | assumption | omega)] | rw [if_neg (by first | assumption | omega)])); first | done | rfl | omega | decide))) _ hlt]; unfold repF; rw [dif_pos hlt]; (first | (exfalso; omega) | ((repeat (first | rw [if_pos (by first | assumption | omega)] | rw [if_neg (by first | assumption | omega)])); first | done | rfl | omega | decide))))
      replace h5 := of_decide_eq_false h5
      have n3 : ¬ (0 < k ∧ 0 ≤ rCmp (l[k-1]'(by omega)) l[k]) := fun hh => by have := hh.2; omega
      refine AWP.skip ?_
      refine AWP.region ?_
      refine AOps.step rfl rfl rfl (AOp.add64 rfl rfl rfl (by omega) (by omega)) ?_
      refine AOps.mD rfl rfl rfl rfl rfl (.nil ?_)
      refine ⟨k + 1, ⟨by omega, ffst_next hk.2 (by unfold repF; rw [dif_pos hlt]; (first | (exfalso; omega) | ((repeat (first | rw [if_pos (by first | assumption | omega)] | rw [if_neg (by first | assumption | omega)])); first | done | rfl | omega | decide)))⟩, (by dsimp only; omega), Sub.less ⟨(SLe.of_eq rfl), SLe.refl _, SLe.refl _, SLe.refl _, trivial⟩ (fun _ h => h)⟩
    replace g4 := of_decide_eq_false g4
    have n3 : ¬ (0 < k ∧ 0 ≤ rCmp (l[k-1]'(by omega)) l[k]) := fun hh => by omega
    refine DRun.pass ⟨23, rfl, .inl ⟨_, rfl, rfl⟩⟩ rfl rfl ?_
    refine DRun.pass ⟨23, rfl, .inl ⟨_, rfl, rfl⟩⟩ rfl rfl ?_
    refine DRun.pass ⟨23, rfl, .inl ⟨_, rfl, rfl⟩⟩ rfl rfl ?_
    refine DRun.pass ⟨23, rfl, .inl ⟨_, rfl, rfl⟩⟩ rfl rfl ?_
    refine DRun.pass ⟨23, rfl, .inl ⟨_, rfl, rfl⟩⟩ rfl rfl ?_
    refine DRun.pass ⟨23, rfl, .inl ⟨_, rfl, rfl⟩⟩ rfl rfl ?_
    refine DRun.pass ⟨23, rfl, .inl ⟨_, rfl, rfl⟩⟩ rfl rfl ?_
    refine DRun.pass ⟨23, rfl, .inl ⟨_, rfl, rfl⟩⟩ rfl rfl ?_
    refine DRun.step rfl rfl rfl (AOp.pickF rfl rfl rfl) ?_
    refine DRun.nil ?_
    refine AWP.cond rfl (fun h => nomatch h) (fun _ => ?_)
    refine AWP.skip ?_
    refine AWP.region ?_
    refine AOps.step rfl rfl rfl (AOp.add64 rfl rfl rfl (by omega) (by omega)) ?_
    refine AOps.mD rfl rfl rfl rfl rfl (.nil ?_)
    refine ⟨k + 1, ⟨by omega, ffst_next hk.2 (by unfold repF; rw [dif_pos hlt]; (first | (exfalso; omega) | ((repeat (first | rw [if_pos (by first | assumption | omega)] | rw [if_neg (by first | assumption | omega)])); first | done | rfl | omega | decide)))⟩, (by dsimp only; omega), Sub.less ⟨(SLe.of_eq rfl), SLe.refl _, SLe.refl _, SLe.refl _, trivial⟩ (fun _ h => h)⟩
  replace h2 := of_decide_eq_false h2
  rw [List.length_map] at h2
  have HR : logF l = 0 := by rw [HX, show l.length = k by omega]; exact hk.2
  refine AWP.exit ?_
  refine AWP.seq (AWP.region ?_)
  refine AOps.aD rfl rfl rfl rfl rfl (.nil ?_)
  refine AWP.ret ?_
  refine ⟨RetD.eq rfl ?_, trivial⟩
  all_goals (first | rw [HR] | (rw [HX, ffst_hit (f := repF l) hk.2 (by unfold repF; rw [dif_pos hlt]; (first | (exfalso; omega) | ((repeat (first | rw [if_pos (by first | assumption | omega)] | rw [if_neg (by first | assumption | omega)])); first | done | rfl | omega | decide))) _ hlt]; unfold repF; rw [dif_pos hlt]; (first | (exfalso; omega) | ((repeat (first | rw [if_pos (by first | assumption | omega)] | rw [if_neg (by first | assumption | omega)])); first | done | rfl | omega | decide))))

set_option maxRecDepth 100000 in
set_option maxHeartbeats 1000000 in
theorem c_rLog (l : List Rpt) (hl : ∀ x ∈ l, okRpt x) : ACallT Tryd.prog MaxT 15 [.sl (l.map Rpt.ds)] (.v (.int .i64 (logF l))) := by
  refine acall_ofT (n := 34) (ds' := [.v (.int .i64 (logF l))]) Tryd.func15 rfl (by kernel_rfl) rfl [2] rfl rfl ?_
  intro B w0 F0 hT
  refine AWP.seq (AWP.region ?_)
  refine AOps.aD rfl rfl rfl rfl rfl (.nil ?_)
  refine AWP.seq ?_
  refine AWP.seq (AWP.region ?_)
  refine AOps.mD rfl rfl rfl rfl rfl ?_
  refine AOps.step rfl rfl rfl (AOp.lenSl rfl et_40.ht rfl) ?_
  refine AOps.step rfl rfl rfl (AOp.gtr rfl rfl rfl) (.nil ?_)
  refine AWP.cond rfl (fun h1 => ?_) (fun h1 => ?_)
  · replace h1 := of_decide_eq_true h1
    rw [List.length_map] at h1
    have HR : logF l = 2 := if_pos (by omega)
    refine AWP.seq (AWP.region ?_)
    refine AOps.aD rfl rfl rfl rfl rfl (.nil ?_)
    refine AWP.ret ?_
    refine ⟨RetD.eq rfl ?_, trivial⟩
    all_goals (first | rw [HR] | (rw [HX, ffst_hit (f := repF l) hk.2 (by unfold repF; rw [dif_pos hlt]; (first | (exfalso; omega) | ((repeat (first | rw [if_pos (by first | assumption | omega)] | rw [if_neg (by first | assumption | omega)])); first | done | rfl | omega | decide))) _ hlt]; unfold repF; rw [dif_pos hlt]; (first | (exfalso; omega) | ((repeat (first | rw [if_pos (by first | assumption | omega)] | rw [if_neg (by first | assumption | omega)])); first | done | rfl | omega | decide))))
  replace h1 := of_decide_eq_false h1
  rw [List.length_map] at h1
  have HX : logF l = ffst (repF l) l.length := if_neg (by omega)
  refine AWP.skip ?_
  refine AWP.seq ?_
  refine AWP.seq (AWP.region ?_)
  refine AOps.mD rfl rfl rfl rfl rfl ?_
  refine AOps.step rfl rfl rfl (AOp.lenSl rfl et_40.ht rfl) ?_
  refine AOps.mD rfl rfl rfl rfl rfl (.nil ?_)
  refine AWP.block ?_
  refine AWP.loop (G := Nat) (fun k => Env.of [(11, .d (.v (.int .i64 (k : Int)))), (9, .d (.sl (l.map Rpt.ds))), (10, .d (.v (.int .i64 ((l.map Rpt.ds).length : Int)))), (0, .d (.sl (l.map Rpt.ds)))]) (fun k => []) (fun k => k ≤ l.length ∧ ffst (repF l) k = 0) (fun k => l.length - k) 0 ⟨Nat.zero_le _, rfl⟩ (Sub.less ⟨(SLe.of_eq rfl), SLe.refl _, SLe.refl _, SLe.refl _, trivial⟩ (fun _ h => h)) ?_
  intro k hk
  refine AWP.seq (AWP.region ?_)
  refine AOps.step rfl rfl rfl (AOp.lss rfl rfl rfl) (.nil ?_)
  refine AWP.seq ?_
  refine AWP.cond rfl (fun h2 => ?_) (fun h2 => ?_)
  · replace h2 := of_decide_eq_true h2
    rw [List.length_map] at h2
    have hlt : k < l.length := by omega
    have hbk := hl _ (List.getElem_mem hlt)
    refine AWP.skip ?_
    refine AWP.seq ?_
    refine AWP.block ?_
    refine AWP.seq (AWP.region ?_)
    refine AOps.mD rfl rfl rfl rfl rfl ?_
    refine AOps.step rfl rfl rfl (AOp.indexAddr rfl et_40 rfl rfl k rfl (at_lst hlt) rfl) ?_
    refine AOps.step rfl rfl rfl (AOp.loadAgg rfl ag_48 rfl rfl) ?_
    refine AOps.alloc 101 rfl rfl rfl rfl zt_48 rfl rfl rfl ?_
    refine AOps.aD rfl rfl rfl rfl rfl ?_
    refine AOps.store rfl rfl rfl sz_48 rfl (.head _) rfl rfl rfl (Nat.le_of_ble_eq_true rfl) ?_
    refine AOps.freezeCells 4 (ds := l[k].ds) rfl (.head _) (.nil ?_)
    refine AWP.seq ?_
    refine AWP.seq (AWP.region ?_)
    refine AOps.step rfl rfl rfl (AOp.loadAgg rfl ag_48 rfl rfl) ?_
    -- wants the world
    refine AOps.callT rfl rfl rfl hT maxT_stays rfl (.cons (ArgOk.rfl' rfl) .nil) (c_rRpt _ hbk) ?_
    refine AOps.aD rfl rfl rfl rfl rfl (.nil ?_)
    refine AWP.seq (AWP.region ?_)
    refine AOps.mD rfl rfl rfl rfl rfl ?_
    refine AOps.step rfl rfl rfl (AOp.neq rfl rfl rfl) (.nil ?_)
    refine AWP.cond rfl (fun h3 => ?_) (fun h3 => ?_)
    · replace h3 := of_decide_eq_true h3
      have n1 : rptF l[k] ≠ 0 := by omega
      refine AWP.seq (AWP.region ?_)
      refine AOps.mD rfl rfl rfl rfl rfl ?_
      refine AOps.aD rfl rfl rfl rfl rfl (.nil ?_)
      refine AWP.ret ?_
      refine ⟨RetD.eq rfl ?_, trivial⟩
      all_goals (first | rw [HR] | (rw [HX, ffst_hit (f := repF l) hk.2 (by unfold repF; rw [dif_pos hlt]; (first | (exfalso; omega) | ((repeat (first | rw [if_pos (by first | assumption | omega)] | rw [if_neg (by first | assumption | omega)])); first | done | rfl | omega | decide))) _ hlt]; unfold repF; rw [dif_pos hlt]; (first | (exfalso; omega) | ((repeat (first | rw [if_pos (by first | assumption | omega)] | rw [if_neg (by first | assumption | omega)])); first | done | rfl | omega | decide))))
    replace h3 := of_decide_eq_false h3
    have n1 : ¬ rptF l[k] ≠ 0 := by omega
    refine AWP.skip ?_
    refine AWP.seq ?_
    refine AWP.draw (by kernel_rfl) (by kernel_rfl) ?_
    refine DRun.step rfl rfl rfl (AOp.moveD rfl rfl) ?_
    refine DRun.step rfl rfl rfl (AOp.gtr rfl rfl rfl) ?_
    refine DRun.step rfl rfl rfl (AOp.moveD rfl rfl) ?_
    refine DRun.split 23 rfl (fun g4 => ?_) (fun g4 => ?_)
    · replace g4 := of_decide_eq_true g4
      have hk0 : 0 < k := by omega
      refine DRun.step ⟨23, rfl, .inl ⟨_, rfl, rfl⟩⟩ rfl rfl (AOp.moveD rfl rfl) ?_
      refine DRun.step ⟨23, rfl, .inl ⟨_, rfl, rfl⟩⟩ rfl rfl (AOp.moveD rfl rfl) ?_
      refine DRun.step ⟨23, rfl, .inl ⟨_, rfl, rfl⟩⟩ rfl rfl (AOp.sub64 rfl rfl rfl (by omega) (by omega)) ?_
      refine DRun.step ⟨23, rfl, .inl ⟨_, rfl, rfl⟩⟩ rfl rfl (AOp.indexAddr rfl et_40 rfl rfl (k - 1) (by omega) (at_lst (by omega)) rfl) ?_
      refine DRun.step ⟨23, rfl, .inl ⟨_, rfl, rfl⟩⟩ rfl rfl (AOp.loadAgg rfl ag_48 rfl rfl) ?_
      refine DRun.step ⟨23, rfl, .inl ⟨_, rfl, rfl⟩⟩ rfl rfl (AOp.loadAgg rfl ag_48 rfl rfl) ?_
      refine DRun.step ⟨23, rfl, .inl ⟨_, rfl, rfl⟩⟩ rfl rfl (AOp.call rfl (.cons (ArgOk.rfl' rfl) (.cons (ArgOk.rfl' rfl) .nil)) (c_before _ _)) ?_
      refine DRun.step ⟨23, rfl, .inl ⟨_, rfl, rfl⟩⟩ rfl rfl (AOp.not rfl rfl) ?_
      refine DRun.step rfl rfl rfl (AOp.pickT rfl rfl rfl) ?_
      refine DRun.nil ?_
      refine AWP.cond rfl (fun h5 => ?_) (fun h5 => ?_)
      · replace h5 := bnot_t h5
        have n3 : (0 < k ∧ 0 ≤ rCmp (l[k-1]'(by omega)) l[k]) := ⟨hk0, ltR_no h5⟩
        refine AWP.seq (AWP.region ?_)
        refine AOps.aD rfl rfl rfl rfl rfl (.nil ?_)
        refine AWP.ret ?_
        refine ⟨RetD.eq rfl ?_, trivial⟩
        all_goals (first | rw [HR] | (rw [HX, ffst_hit (f := repF l) hk.2 (by unfold repF; rw [dif_pos hlt]; (first | (exfalso; omega) | ((repeat (first | rw [if_pos (by first | assumption | omega)] | rw [if_neg (by first | assumption | omega)])); first | done | rfl | omega | decide))) _ hlt]; unfold repF; rw [dif_pos hlt]; (first | (exfalso; omega) | ((repeat (first | rw [if_pos (by first | assumption | omega)] | rw [if_neg (by first | assumption | omega)])); first | done | rfl | omega | decide))))
      replace h5 := bnot_f h5
      have n3 : ¬ (0 < k ∧ 0 ≤ rCmp (l[k-1]'(by omega)) l[k]) := fun hh => ltR_yes h5 hh.2
      refine AWP.skip ?_
      refine AWP.region ?_
      refine AOps.step rfl rfl rfl (AOp.add64 rfl rfl rfl (by omega) (by omega)) ?_
      refine AOps.mD rfl rfl rfl rfl rfl (.nil ?_)
      refine ⟨k + 1, ⟨by omega, ffst_next hk.2 (by unfold repF; rw [dif_pos hlt]; (first | (exfalso; omega) | ((repeat (first | rw [if_pos (by first | assumption | omega)] | rw [if_neg (by first | assumption | omega)])); first | done | rfl | omega | decide)))⟩, (by dsimp only; omega), Sub.less ⟨(SLe.of_eq rfl), SLe.refl _, SLe.refl _, SLe.refl _, trivial⟩ (fun _ h => h)⟩
    replace g4 := of_decide_eq_false g4
    have n3 : ¬ (0 < k ∧ 0 ≤ rCmp (l[k-1]'(by omega)) l[k]) := fun hh => by omega
    refine DRun.pass ⟨23, rfl, .inl ⟨_, rfl, rfl⟩⟩ rfl rfl ?_
    refine DRun.pass ⟨23, rfl, .inl ⟨_, rfl, rfl⟩⟩ rfl rfl ?_
    refine DRun.pass ⟨23, rfl, .inl ⟨_, rfl, rfl⟩⟩ rfl rfl ?_
    refine DRun.pass ⟨23, rfl, .inl ⟨_, rfl, rfl⟩⟩ rfl rfl ?_
    refine DRun.pass ⟨23, rfl, .inl ⟨_, rfl, rfl⟩⟩ rfl rfl ?_
    refine DRun.pass ⟨23, rfl, .inl ⟨_, rfl, rfl⟩⟩ rfl rfl ?_
    refine DRun.pass ⟨23, rfl, .inl ⟨_, rfl, rfl⟩⟩ rfl rfl ?_
    refine DRun.pass ⟨23, rfl, .inl ⟨_, rfl, rfl⟩⟩ rfl rfl ?_
    refine DRun.step rfl rfl rfl (AOp.pickF rfl rfl rfl) ?_
    refine DRun.nil ?_
    refine AWP.cond rfl (fun h => nomatch h) (fun _ => ?_)
    refine AWP.skip ?_
    refine AWP.region ?_
    refine AOps.step rfl rfl rfl (AOp.add64 rfl rfl rfl (by omega) (by omega)) ?_
    refine AOps.mD rfl rfl rfl rfl rfl (.nil ?_)
    refine ⟨k + 1, ⟨by omega, ffst_next hk.2 (by unfold repF; rw [dif_pos hlt]; (first | (exfalso; omega) | ((repeat (first | rw [if_pos (by first | assumption | omega)] | rw [if_neg (by first | assumption | omega)])); first | done | rfl | omega | decide)))⟩, (by dsimp only; omega), Sub.less ⟨(SLe.of_eq rfl), SLe.refl _, SLe.refl _, SLe.refl _, trivial⟩ (fun _ h => h)⟩
  replace h2 := of_decide_eq_false h2
  rw [List.length_map] at h2
  have HR : logF l = 0 := by rw [HX, show l.length = k by omega]; exact hk.2
  refine AWP.exit ?_
  refine AWP.seq (AWP.region ?_)
  refine AOps.aD rfl rfl rfl rfl rfl (.nil ?_)
  refine AWP.ret ?_
  refine ⟨RetD.eq rfl ?_, trivial⟩
  all_goals (first | rw [HR] | (rw [HX, ffst_hit (f := repF l) hk.2 (by unfold repF; rw [dif_pos hlt]; (first | (exfalso; omega) | ((repeat (first | rw [if_pos (by first | assumption | omega)] | rw [if_neg (by first | assumption | omega)])); first | done | rfl | omega | decide))) _ hlt]; unfold repF; rw [dif_pos hlt]; (first | (exfalso; omega) | ((repeat (first | rw [if_pos (by first | assumption | omega)] | rw [if_neg (by first | assumption | omega)])); first | done | rfl | omega | decide))))

end Go.Proofs.YtfajemnegkfigaaDoor


namespace Go.Proofs.YtfajemnegkfigaaDoor
open Go.RowKit
set_option linter.unusedVariables false

/-! Types. -/
namespace TyM3
theorem ag_48 : AggT Tryd.prog 48 5 := .of (by kernel_rfl)
theorem ag_93 : AggT Tryd.prog 93 3 := .of (by kernel_rfl)
theorem et_40 : ElemTy Tryd.prog 40 48 5 64 (.agg #[(.string ⟨#[]⟩), (.int .i64 0), (.int .i64 0), (.int .i64 0), (.slice none 0 0)]) := ⟨by kernel_rfl, by kernel_rfl, by kernel_rfl, by decide⟩
theorem et_46 : ElemTy Tryd.prog 46 93 3 32 (.agg #[(.string ⟨#[]⟩), (.int .i64 0), (.int .i64 0)]) := ⟨by kernel_rfl, by kernel_rfl, by kernel_rfl, by decide⟩
theorem fo_48_0 : fieldOff Tryd.prog 48 0 = some 0 := by kernel_rfl
theorem fo_48_1 : fieldOff Tryd.prog 48 1 = some 1 := by kernel_rfl
theorem fo_48_2 : fieldOff Tryd.prog 48 2 = some 2 := by kernel_rfl
theorem fo_48_3 : fieldOff Tryd.prog 48 3 = some 3 := by kernel_rfl
theorem fo_48_4 : fieldOff Tryd.prog 48 4 = some 4 := by kernel_rfl
theorem sc_3 : Scal Tryd.prog 3 := .of (by kernel_rfl)
theorem sc_46 : Scal Tryd.prog 46 := .of (by kernel_rfl)
theorem sc_9 : Scal Tryd.prog 9 := .of (by kernel_rfl)
theorem sz_46 : ∀ w, (sizeOf 46).run Tryd.prog w = .ok 1 w := SizeT.of (by kernel_rfl)
theorem sz_48 : ∀ w, (sizeOf 48).run Tryd.prog w = .ok 5 w := SizeT.of (by kernel_rfl)
theorem zt_48 : (Tryd.prog.info? 48).bind (·.zero) = some (.agg #[(.string ⟨#[]⟩), (.int .i64 0), (.int .i64 0), (.int .i64 0), (.slice none 0 0)]) := by kernel_rfl
end TyM3
open TyM3


open Go.Lib
theorem take_eq {α : Type} {l r : List α} {k : Nat} (h1 : k < l.length) (h2 : k < r.length) (h : l.take k = r.take k) (e : l[k] = r[k]) : l.take (k + 1) = r.take (k + 1) := by
  rw [List.take_add_one, List.take_add_one, List.getElem?_eq_getElem h1, List.getElem?_eq_getElem h2, h, e]
theorem take_all_eq {α : Type} {l r : List α} (hl : l.length = r.length) (h : l.take l.length = r.take l.length) : l = r := by
  rw [List.take_length, hl, List.take_length] at h
  exact h
theorem usd_ext {x y : Usd} (h : x.title = y.title ∧ x.units = y.units ∧ x.money = y.money) : x = y := by
  cases x; cases y
  simp only [Usd.mk.injEq]
  exact h
theorem eqT_usd : EqT Tryd.prog 93 [.str, .int .i64, .int .i64] := .of (by kernel_rfl)
theorem eq_usd (x y : Usd) : EqD Tryd.prog 93 x.ds y.ds (decide (x.title = y.title ∧ x.units = y.units ∧ x.money = y.money)) := .of eqT_usd [.string x.title, .int .i64 x.units, .int .i64 x.money] [.string y.title, .int .i64 y.units, .int .i64 y.money] rfl rfl rfl rfl (by simp [sameL, sameV])
theorem rpt_eq {x y : Rpt} (e1 : x.source = y.source) (e2 : x.no = y.no) (e3 : x.period = y.period) (e4 : x.corrects = y.corrects) : decide (x = y) = decide (x.lines = y.lines) := by
  cases x; cases y
  simp only at e1 e2 e3 e4
  subst e1; subst e2; subst e3; subst e4
  simp
theorem rpt_ext {x y : Rpt} (h : sameK x y = true) (e3 : x.period = y.period) (e4 : x.corrects = y.corrects) (e5 : x.lines = y.lines) : x = y := by
  rw [sameK_iff] at h
  cases x; cases y
  simp only at h e3 e4 e5
  simp [h.1, h.2, e3, e4, e5]
/-- The binary search: the number to which it comes. -/
def bsr (lt : Nat → Bool) (i j : Nat) : Nat := if h : i < j then (if lt ((i + j) / 2) = true then bsr lt ((i + j) / 2 + 1) j else bsr lt i ((i + j) / 2)) else i
termination_by j - i
decreasing_by all_goals omega
theorem bsr_up {lt : Nat → Bool} {i j : Nat} (h : i < j) (h2 : lt ((i + j) / 2) = true) : bsr lt i j = bsr lt ((i + j) / 2 + 1) j := by rw [bsr, dif_pos h, if_pos h2]
theorem bsr_dn {lt : Nat → Bool} {i j : Nat} (h : i < j) (h2 : lt ((i + j) / 2) = false) : bsr lt i j = bsr lt i ((i + j) / 2) := by rw [bsr, dif_pos h, if_neg (by rw [h2]; simp)]
theorem bsr_end {lt : Nat → Bool} {i j : Nat} (h : ¬ i < j) : bsr lt i j = i := by rw [bsr, dif_neg h]
/-- Where it comes to, if what is less lies ahead of what is not. -/
theorem bsr_spec {lt : Nat → Bool} (hm : ∀ a b, a ≤ b → lt b = true → lt a = true) : ∀ (n i j : Nat), j - i ≤ n → i ≤ j → (∀ k, k < i → lt k = true) → (∀ k, i ≤ k → k < bsr lt i j → lt k = true) ∧ (∀ k, bsr lt i j ≤ k → k < j → lt k = false)
  | 0, i, j, h, hij, _ => by rw [bsr_end (by omega)]; exact ⟨fun k h1 h2 => by omega, fun k h1 h2 => by omega⟩
  | n + 1, i, j, h, hij, h0 => by
    by_cases hlt : i < j
    · by_cases hb : lt ((i + j) / 2) = true
      · rw [bsr_up hlt hb]
        have h1 := bsr_spec hm n ((i + j) / 2 + 1) j (by omega) (by omega) (fun k hk => hm k _ (by omega) hb)
        refine ⟨fun k h2 h3 => ?_, h1.2⟩
        by_cases hk : k ≤ (i + j) / 2
        · exact hm k _ hk hb
        · exact h1.1 k (by omega) h3
      · have hb' : lt ((i + j) / 2) = false := by simpa using hb
        rw [bsr_dn hlt hb']
        have h1 := bsr_spec hm n i ((i + j) / 2) (by omega) (by omega) h0
        refine ⟨h1.1, fun k h2 h3 => ?_⟩
        by_cases hk : k < (i + j) / 2
        · exact h1.2 k h2 hk
        · cases hlk : lt k with
          | false => rfl
          | true => rw [hm _ k (by omega) hlk] at hb'; simp at hb'
    · rw [bsr_end hlt]; exact ⟨fun k h1 h2 => by omega, fun k h1 h2 => by omega⟩

def ltQ (l : List Rpt) (t : Rpt) (k : Nat) : Bool := decide (k < l.length) && decide (rCmp (l.getD k default) t < 0)
def posR (l : List Rpt) (t : Rpt) : Nat := bsr (ltQ l t) 0 l.length
def hasR (l : List Rpt) (t : Rpt) : Bool := decide (posR l t < l.length) && decide (rCmp (l.getD (posR l t) default) t = 0)
theorem ltQ_at {l : List Rpt} {t : Rpt} {k : Nat} (hk : k < l.length) : ltQ l t k = ltR l[k] t := by unfold ltQ ltR; rw [decide_eq_true hk, List.getD_eq_getElem?_getD, List.getElem?_eq_getElem hk]; rfl
theorem ltQ_t {l : List Rpt} {t : Rpt} {k : Nat} (hk : k < l.length) (h : rCmp l[k] t < 0) : ltQ l t k = true := by rw [ltQ_at hk]; exact decide_eq_true h
theorem ltQ_f {l : List Rpt} {t : Rpt} {k : Nat} (hk : k < l.length) (h : ¬ rCmp l[k] t < 0) : ltQ l t k = false := by rw [ltQ_at hk]; exact decide_eq_false h
theorem hasR_at {l : List Rpt} {t : Rpt} (hk : posR l t < l.length) : hasR l t = decide (rCmp l[posR l t] t = 0) := by unfold hasR; rw [decide_eq_true hk, List.getD_eq_getElem?_getD, List.getElem?_eq_getElem hk]; rfl
theorem hasR_t {l : List Rpt} {t : Rpt} {k : Nat} (hk : k < l.length) (hp : posR l t = k) (h : rCmp l[k] t = 0) : hasR l t = true := by subst hp; rw [hasR_at hk]; exact decide_eq_true h
theorem hasR_e {l : List Rpt} {t : Rpt} {k : Nat} (hk : ¬ k < l.length) (hp : posR l t = k) : hasR l t = false := by unfold hasR; rw [hp]; simp [hk]
theorem hasR_k {l : List Rpt} {t : Rpt} {k : Nat} (hk : k < l.length) (hp : posR l t = k) : hasR l t = decide (rCmp l[k] t = 0) := by subst hp; exact hasR_at hk
theorem hasR_yes {l : List Rpt} {t : Rpt} (h : hasR l t = true) : ∃ hp : posR l t < l.length, sameK l[posR l t] t = true := by
  by_cases hp : posR l t < l.length
  · rw [hasR_at hp] at h
    exact ⟨hp, sameK_cmp.1 (of_decide_eq_true h)⟩
  · rw [hasR_e hp rfl] at h; cases h
theorem ltQ_mono {l : List Rpt} (hr : Rise l) (t : Rpt) : ∀ a b, a ≤ b → ltQ l t b = true → ltQ l t a = true := fun a b hab h => by
  by_cases hb : b < l.length
  · rw [ltQ_at hb] at h
    rw [ltQ_at (show a < l.length by omega)]
    by_cases e : a = b
    · subst e; exact h
    · exact ltR_trans (List.pairwise_iff_getElem.1 hr a b (by omega) hb (by omega)) h
  · unfold ltQ at h
    rw [decide_eq_false hb] at h; cases h
theorem hasR_eq {l : List Rpt} (hr : Rise l) (t : Rpt) : hasR l t = hasK l t := by
  cases h : hasK l t with
  | true =>
    obtain ⟨y, hy, hk⟩ := hasK_iff.1 h
    obtain ⟨i, hi, rfl⟩ := List.mem_iff_getElem.1 hy
    have h1 := bsr_spec (ltQ_mono hr t) l.length 0 l.length (by omega) (Nat.zero_le _) (fun k hk => by omega)
    have hi0 : ltQ l t i = false := by rw [ltQ_at hi, (ltR_same hk).1, ltR_irr]
    have hle : posR l t ≤ i := Nat.not_lt.1 fun hlt => by
      have := h1.1 i (Nat.zero_le _) hlt
      rw [hi0] at this; cases this
    have hge : ¬ posR l t < i := fun hlt => by
      have h2 := h1.2 (posR l t) (Nat.le_refl _) (show posR l t < l.length by omega)
      rw [ltQ_at (show posR l t < l.length by omega)] at h2
      have h3 := List.pairwise_iff_getElem.1 hr (posR l t) i (by omega) hi hlt
      rw [(ltR_same (sameK_symm hk)).2, h3] at h2; cases h2
    have e : posR l t = i := by omega
    exact hasR_t hi e (sameK_cmp.2 hk)
  | false =>
    cases h2 : hasR l t with
    | false => rfl
    | true =>
      obtain ⟨hp, hs⟩ := hasR_yes h2
      rw [hasK_iff.2 ⟨_, List.getElem_mem hp, hs⟩] at h; cases h


set_option maxRecDepth 100000 in
set_option maxHeartbeats 1000000 in
theorem c_eqUsd (l r : List Usd) : ACall Tryd.prog 49 [.sl (l.map Usd.ds), .sl (r.map Usd.ds)] (.v (.bool (decide (l = r)))) := by
  refine acall_of (n := 26) (ds' := [.v (.bool (decide (l = r)))]) Tryd.func49 rfl (by kernel_rfl) rfl [4] rfl rfl ?_
  intro B w0 F0 fr
  refine AWP.bound 0 rfl (fun hbd0 => ?_)
  rw [List.length_map] at hbd0
  refine AWP.bound 1 rfl (fun hbd1 => ?_)
  rw [List.length_map] at hbd1
  refine AWP.seq (AWP.region ?_)
  refine AOps.aD rfl rfl rfl rfl rfl (.nil ?_)
  refine AWP.seq ?_
  refine AWP.seq (AWP.region ?_)
  refine AOps.mD rfl rfl rfl rfl rfl ?_
  refine AOps.step rfl rfl rfl (AOp.lenSl rfl et_46.ht rfl) ?_
  refine AOps.mD rfl rfl rfl rfl rfl ?_
  refine AOps.step rfl rfl rfl (AOp.lenSl rfl et_46.ht rfl) ?_
  refine AOps.step rfl rfl rfl (AOp.neq rfl rfl rfl) (.nil ?_)
  refine AWP.cond rfl (fun h1 => ?_) (fun h1 => ?_)
  · replace h1 := of_decide_eq_true h1
    rw [List.length_map, List.length_map] at h1
    rw [decide_eq_false (show ¬ l = r from fun e => h1 (by rw [e]))]
    refine AWP.seq (AWP.region ?_)
    refine AOps.aD rfl rfl rfl rfl rfl (.nil ?_)
    refine AWP.ret ?_
    refine ⟨RetD.eq rfl ?_, trivial⟩
    all_goals (rfl)
  replace h1 := of_decide_eq_false h1
  rw [List.length_map, List.length_map] at h1
  have hle : l.length = r.length := by omega
  refine AWP.skip ?_
  refine AWP.seq ?_
  refine AWP.seq (AWP.region ?_)
  refine AOps.mD rfl rfl rfl rfl rfl ?_
  refine AOps.step rfl rfl rfl (AOp.lenSl rfl et_46.ht rfl) ?_
  refine AOps.mD rfl rfl rfl rfl rfl (.nil ?_)
  refine AWP.block ?_
  refine AWP.loop (G := Nat) (fun k => Env.of [(13, .d (.v (.int .i64 (k : Int)))), (11, .d (.sl (l.map Usd.ds))), (12, .d (.v (.int .i64 ((l.map Usd.ds).length : Int)))), (0, .d (.sl (l.map Usd.ds))), (1, .d (.sl (r.map Usd.ds)))]) (fun k => []) (fun k => k ≤ l.length ∧ l.take k = r.take k) (fun k => l.length - k) 0 ⟨Nat.zero_le _, by simp⟩ (Sub.less ⟨(SLe.of_eq rfl), SLe.refl _, SLe.refl _, SLe.refl _, SLe.refl _, trivial⟩ (fun _ h => h)) ?_
  intro k hk
  refine AWP.seq (AWP.region ?_)
  refine AOps.step rfl rfl rfl (AOp.lss rfl rfl rfl) (.nil ?_)
  refine AWP.seq ?_
  refine AWP.cond rfl (fun h2 => ?_) (fun h2 => ?_)
  · replace h2 := of_decide_eq_true h2
    rw [List.length_map] at h2
    have hlt : k < l.length := by omega
    have hlr : k < r.length := by omega
    refine AWP.skip ?_
    refine AWP.seq ?_
    refine AWP.block ?_
    refine AWP.seq (AWP.region ?_)
    refine AOps.mD rfl rfl rfl rfl rfl ?_
    refine AOps.aD rfl rfl rfl rfl rfl (.nil ?_)
    refine AWP.seq ?_
    refine AWP.draw (by kernel_rfl) (by kernel_rfl) ?_
    refine DRun.step rfl rfl rfl (AOp.moveD rfl rfl) ?_
    refine DRun.step rfl rfl rfl (AOp.moveD rfl rfl) ?_
    refine DRun.step rfl rfl rfl (AOp.indexAddr rfl et_46 rfl rfl k rfl (at_lst hlt) rfl) ?_
    refine DRun.step rfl rfl rfl (AOp.loadAgg rfl ag_93 rfl rfl) ?_
    refine DRun.step rfl rfl rfl (AOp.moveD rfl rfl) ?_
    refine DRun.step rfl rfl rfl (AOp.moveD rfl rfl) ?_
    refine DRun.step rfl rfl rfl (AOp.indexAddr rfl et_46 rfl rfl k rfl (at_lst hlr) rfl) ?_
    refine DRun.step rfl rfl rfl (AOp.loadAgg rfl ag_93 rfl rfl) ?_
    refine DRun.step rfl rfl rfl (AOp.aggNeq rfl rfl rfl (eq_usd _ _)) ?_
    refine DRun.nil ?_
    refine AWP.cond rfl (fun h3 => ?_) (fun h3 => ?_)
    · replace h3 := bnot_t h3; replace h3 := of_decide_eq_false h3
      rw [decide_eq_false (show ¬ l = r from fun e => h3 (by subst e; exact ⟨rfl, rfl, rfl⟩))]
      refine AWP.seq (AWP.region ?_)
      refine AOps.aD rfl rfl rfl rfl rfl (.nil ?_)
      refine AWP.ret ?_
      refine ⟨RetD.eq rfl ?_, trivial⟩
      all_goals (rfl)
    replace h3 := bnot_f h3; replace h3 := of_decide_eq_true h3
    have hT := take_eq hlt hlr hk.2 (usd_ext h3)
    refine AWP.skip ?_
    refine AWP.region ?_
    refine AOps.step rfl rfl rfl (AOp.add64 rfl rfl rfl (by omega) (by omega)) ?_
    refine AOps.mD rfl rfl rfl rfl rfl (.nil ?_)
    refine ⟨k + 1, ⟨by omega, hT⟩, (by dsimp only; omega), Sub.less ⟨(SLe.of_eq rfl), SLe.refl _, SLe.refl _, SLe.refl _, SLe.refl _, trivial⟩ (fun _ h => h)⟩
  replace h2 := of_decide_eq_false h2
  rw [List.length_map] at h2
  obtain rfl : k = l.length := by omega
  rw [decide_eq_true (take_all_eq hle hk.2)]
  refine AWP.exit ?_
  refine AWP.seq (AWP.region ?_)
  refine AOps.aD rfl rfl rfl rfl rfl (.nil ?_)
  refine AWP.ret ?_
  refine ⟨RetD.eq rfl ?_, trivial⟩
  all_goals (rfl)

set_option maxRecDepth 100000 in
set_option maxHeartbeats 1000000 in
theorem c_sameR (x y : Rpt) : ACall Tryd.prog 51 [.agg x.ds, .agg y.ds] (.v (.bool (decide (x = y)))) := by
  refine acall_of (n := 38) (ds' := [.v (.bool (decide (x = y)))]) Tryd.func51 rfl (by kernel_rfl) rfl [4] rfl rfl ?_
  intro B w0 F0 fr
  refine AWP.seq (AWP.region ?_)
  refine AOps.step rfl rfl rfl (AOp.box rfl rfl rfl) ?_
  refine AOps.step rfl rfl rfl (AOp.box rfl rfl rfl) ?_
  refine AOps.aD rfl rfl rfl rfl rfl (.nil ?_)
  refine AWP.seq (AWP.region ?_)
  refine AOps.step rfl rfl rfl (AOp.fieldAddr rfl fo_48_0 rfl) ?_
  refine AOps.step rfl rfl rfl (AOp.load rfl sc_9 rfl) ?_
  refine AOps.step rfl rfl rfl (AOp.fieldAddr rfl fo_48_0 rfl) ?_
  refine AOps.step rfl rfl rfl (AOp.load rfl sc_9 rfl) ?_
  refine AOps.step rfl rfl rfl (AOp.seql rfl rfl rfl) ?_
  refine AOps.mD rfl rfl rfl rfl rfl ?_
  refine AOps.split 10 rfl (fun g1 => ?_) (fun g1 => ?_)
  · replace g1 := of_decide_eq_true g1
    have e1 := g1
    refine AOps.step ⟨10, rfl, .inl ⟨_, rfl, rfl⟩⟩ rfl rfl (AOp.fieldAddr rfl fo_48_1 rfl) ?_
    refine AOps.step ⟨10, rfl, .inl ⟨_, rfl, rfl⟩⟩ rfl rfl (AOp.load rfl sc_3 rfl) ?_
    refine AOps.step ⟨10, rfl, .inl ⟨_, rfl, rfl⟩⟩ rfl rfl (AOp.fieldAddr rfl fo_48_1 rfl) ?_
    refine AOps.step ⟨10, rfl, .inl ⟨_, rfl, rfl⟩⟩ rfl rfl (AOp.load rfl sc_3 rfl) ?_
    refine AOps.step ⟨10, rfl, .inl ⟨_, rfl, rfl⟩⟩ rfl rfl (AOp.eql rfl rfl rfl) ?_
    refine AOps.step rfl rfl rfl (AOp.pickT rfl rfl rfl) ?_
    refine AOps.mD rfl rfl rfl rfl rfl ?_
    refine AOps.split 17 rfl (fun g2 => ?_) (fun g2 => ?_)
    · replace g2 := of_decide_eq_true g2
      have e2 := g2
      refine AOps.step ⟨17, rfl, .inl ⟨_, rfl, rfl⟩⟩ rfl rfl (AOp.fieldAddr rfl fo_48_2 rfl) ?_
      refine AOps.step ⟨17, rfl, .inl ⟨_, rfl, rfl⟩⟩ rfl rfl (AOp.load rfl sc_3 rfl) ?_
      refine AOps.step ⟨17, rfl, .inl ⟨_, rfl, rfl⟩⟩ rfl rfl (AOp.fieldAddr rfl fo_48_2 rfl) ?_
      refine AOps.step ⟨17, rfl, .inl ⟨_, rfl, rfl⟩⟩ rfl rfl (AOp.load rfl sc_3 rfl) ?_
      refine AOps.step ⟨17, rfl, .inl ⟨_, rfl, rfl⟩⟩ rfl rfl (AOp.eql rfl rfl rfl) ?_
      refine AOps.step rfl rfl rfl (AOp.pickT rfl rfl rfl) ?_
      refine AOps.mD rfl rfl rfl rfl rfl ?_
      refine AOps.split 24 rfl (fun g3 => ?_) (fun g3 => ?_)
      · replace g3 := of_decide_eq_true g3
        have e3 := g3
        refine AOps.step ⟨24, rfl, .inl ⟨_, rfl, rfl⟩⟩ rfl rfl (AOp.fieldAddr rfl fo_48_3 rfl) ?_
        refine AOps.step ⟨24, rfl, .inl ⟨_, rfl, rfl⟩⟩ rfl rfl (AOp.load rfl sc_3 rfl) ?_
        refine AOps.step ⟨24, rfl, .inl ⟨_, rfl, rfl⟩⟩ rfl rfl (AOp.fieldAddr rfl fo_48_3 rfl) ?_
        refine AOps.step ⟨24, rfl, .inl ⟨_, rfl, rfl⟩⟩ rfl rfl (AOp.load rfl sc_3 rfl) ?_
        refine AOps.step ⟨24, rfl, .inl ⟨_, rfl, rfl⟩⟩ rfl rfl (AOp.eql rfl rfl rfl) ?_
        refine AOps.step rfl rfl rfl (AOp.pickT rfl rfl rfl) ?_
        refine AOps.mD rfl rfl rfl rfl rfl ?_
        refine AOps.split 31 rfl (fun g4 => ?_) (fun g4 => ?_)
        · replace g4 := of_decide_eq_true g4
          have e4 := g4
          rw [rpt_eq e1 e2 e3 e4]
          refine AOps.step ⟨31, rfl, .inl ⟨_, rfl, rfl⟩⟩ rfl rfl (AOp.fieldAddr rfl fo_48_4 rfl) ?_
          refine AOps.step ⟨31, rfl, .inl ⟨_, rfl, rfl⟩⟩ rfl rfl (AOp.load rfl sc_46 rfl) ?_
          refine AOps.step ⟨31, rfl, .inl ⟨_, rfl, rfl⟩⟩ rfl rfl (AOp.fieldAddr rfl fo_48_4 rfl) ?_
          refine AOps.step ⟨31, rfl, .inl ⟨_, rfl, rfl⟩⟩ rfl rfl (AOp.load rfl sc_46 rfl) ?_
          refine AOps.step ⟨31, rfl, .inl ⟨_, rfl, rfl⟩⟩ rfl rfl (AOp.call rfl (.cons (ArgOk.rfl' rfl) (.cons (ArgOk.rfl' rfl) .nil)) (c_eqUsd _ _)) ?_
          refine AOps.step rfl rfl rfl (AOp.pickT rfl rfl rfl) ?_
          refine AOps.aD rfl rfl rfl rfl rfl (.nil ?_)
          refine AWP.ret ?_
          refine ⟨RetD.eq rfl ?_, trivial⟩
          all_goals (rfl)
        replace g4 := of_decide_eq_false g4
        have HX : decide (x = y) = false := decide_eq_false (fun e => g4 (by rw [e]))
        rw [HX]
        refine AOps.pass ⟨31, rfl, .inl ⟨_, rfl, rfl⟩⟩ rfl rfl ?_
        refine AOps.pass ⟨31, rfl, .inl ⟨_, rfl, rfl⟩⟩ rfl rfl ?_
        refine AOps.pass ⟨31, rfl, .inl ⟨_, rfl, rfl⟩⟩ rfl rfl ?_
        refine AOps.pass ⟨31, rfl, .inl ⟨_, rfl, rfl⟩⟩ rfl rfl ?_
        refine AOps.pass ⟨31, rfl, .inl ⟨_, rfl, rfl⟩⟩ rfl rfl ?_
        refine AOps.step rfl rfl rfl (AOp.pickF rfl rfl rfl) ?_
        refine AOps.aD rfl rfl rfl rfl rfl (.nil ?_)
        refine AWP.ret ?_
        refine ⟨RetD.eq rfl ?_, trivial⟩
        all_goals (rfl)
      replace g3 := of_decide_eq_false g3
      have HX : decide (x = y) = false := decide_eq_false (fun e => g3 (by rw [e]))
      rw [HX]
      refine AOps.pass ⟨24, rfl, .inl ⟨_, rfl, rfl⟩⟩ rfl rfl ?_
      refine AOps.pass ⟨24, rfl, .inl ⟨_, rfl, rfl⟩⟩ rfl rfl ?_
      refine AOps.pass ⟨24, rfl, .inl ⟨_, rfl, rfl⟩⟩ rfl rfl ?_
      refine AOps.pass ⟨24, rfl, .inl ⟨_, rfl, rfl⟩⟩ rfl rfl ?_
      refine AOps.pass ⟨24, rfl, .inl ⟨_, rfl, rfl⟩⟩ rfl rfl ?_
      refine AOps.step rfl rfl rfl (AOp.pickF rfl rfl rfl) ?_
      refine AOps.mD rfl rfl rfl rfl rfl ?_
      refine AOps.pass ⟨31, rfl, .inl ⟨_, rfl, rfl⟩⟩ rfl rfl ?_
      refine AOps.pass ⟨31, rfl, .inl ⟨_, rfl, rfl⟩⟩ rfl rfl ?_
      refine AOps.pass ⟨31, rfl, .inl ⟨_, rfl, rfl⟩⟩ rfl rfl ?_
      refine AOps.pass ⟨31, rfl, .inl ⟨_, rfl, rfl⟩⟩ rfl rfl ?_
      refine AOps.pass ⟨31, rfl, .inl ⟨_, rfl, rfl⟩⟩ rfl rfl ?_
      refine AOps.step rfl rfl rfl (AOp.pickF rfl rfl rfl) ?_
      refine AOps.aD rfl rfl rfl rfl rfl (.nil ?_)
      refine AWP.ret ?_
      refine ⟨RetD.eq rfl ?_, trivial⟩
      all_goals (rfl)
    replace g2 := of_decide_eq_false g2
    have HX : decide (x = y) = false := decide_eq_false (fun e => g2 (by rw [e]))
    rw [HX]
    refine AOps.pass ⟨17, rfl, .inl ⟨_, rfl, rfl⟩⟩ rfl rfl ?_
    refine AOps.pass ⟨17, rfl, .inl ⟨_, rfl, rfl⟩⟩ rfl rfl ?_
    refine AOps.pass ⟨17, rfl, .inl ⟨_, rfl, rfl⟩⟩ rfl rfl ?_
    refine AOps.pass ⟨17, rfl, .inl ⟨_, rfl, rfl⟩⟩ rfl rfl ?_
    refine AOps.pass ⟨17, rfl, .inl ⟨_, rfl, rfl⟩⟩ rfl rfl ?_
    refine AOps.step rfl rfl rfl (AOp.pickF rfl rfl rfl) ?_
    refine AOps.mD rfl rfl rfl rfl rfl ?_
    refine AOps.pass ⟨24, rfl, .inl ⟨_, rfl, rfl⟩⟩ rfl rfl ?_
    refine AOps.pass ⟨24, rfl, .inl ⟨_, rfl, rfl⟩⟩ rfl rfl ?_
    refine AOps.pass ⟨24, rfl, .inl ⟨_, rfl, rfl⟩⟩ rfl rfl ?_
    refine AOps.pass ⟨24, rfl, .inl ⟨_, rfl, rfl⟩⟩ rfl rfl ?_
    refine AOps.pass ⟨24, rfl, .inl ⟨_, rfl, rfl⟩⟩ rfl rfl ?_
    refine AOps.step rfl rfl rfl (AOp.pickF rfl rfl rfl) ?_
    refine AOps.mD rfl rfl rfl rfl rfl ?_
    refine AOps.pass ⟨31, rfl, .inl ⟨_, rfl, rfl⟩⟩ rfl rfl ?_
    refine AOps.pass ⟨31, rfl, .inl ⟨_, rfl, rfl⟩⟩ rfl rfl ?_
    refine AOps.pass ⟨31, rfl, .inl ⟨_, rfl, rfl⟩⟩ rfl rfl ?_
    refine AOps.pass ⟨31, rfl, .inl ⟨_, rfl, rfl⟩⟩ rfl rfl ?_
    refine AOps.pass ⟨31, rfl, .inl ⟨_, rfl, rfl⟩⟩ rfl rfl ?_
    refine AOps.step rfl rfl rfl (AOp.pickF rfl rfl rfl) ?_
    refine AOps.aD rfl rfl rfl rfl rfl (.nil ?_)
    refine AWP.ret ?_
    refine ⟨RetD.eq rfl ?_, trivial⟩
    all_goals (rfl)
  replace g1 := of_decide_eq_false g1
  have HX : decide (x = y) = false := decide_eq_false (fun e => g1 (by rw [e]))
  rw [HX]
  refine AOps.pass ⟨10, rfl, .inl ⟨_, rfl, rfl⟩⟩ rfl rfl ?_
  refine AOps.pass ⟨10, rfl, .inl ⟨_, rfl, rfl⟩⟩ rfl rfl ?_
  refine AOps.pass ⟨10, rfl, .inl ⟨_, rfl, rfl⟩⟩ rfl rfl ?_
  refine AOps.pass ⟨10, rfl, .inl ⟨_, rfl, rfl⟩⟩ rfl rfl ?_
  refine AOps.pass ⟨10, rfl, .inl ⟨_, rfl, rfl⟩⟩ rfl rfl ?_
  refine AOps.step rfl rfl rfl (AOp.pickF rfl rfl rfl) ?_
  refine AOps.mD rfl rfl rfl rfl rfl ?_
  refine AOps.pass ⟨17, rfl, .inl ⟨_, rfl, rfl⟩⟩ rfl rfl ?_
  refine AOps.pass ⟨17, rfl, .inl ⟨_, rfl, rfl⟩⟩ rfl rfl ?_
  refine AOps.pass ⟨17, rfl, .inl ⟨_, rfl, rfl⟩⟩ rfl rfl ?_
  refine AOps.pass ⟨17, rfl, .inl ⟨_, rfl, rfl⟩⟩ rfl rfl ?_
  refine AOps.pass ⟨17, rfl, .inl ⟨_, rfl, rfl⟩⟩ rfl rfl ?_
  refine AOps.step rfl rfl rfl (AOp.pickF rfl rfl rfl) ?_
  refine AOps.mD rfl rfl rfl rfl rfl ?_
  refine AOps.pass ⟨24, rfl, .inl ⟨_, rfl, rfl⟩⟩ rfl rfl ?_
  refine AOps.pass ⟨24, rfl, .inl ⟨_, rfl, rfl⟩⟩ rfl rfl ?_
  refine AOps.pass ⟨24, rfl, .inl ⟨_, rfl, rfl⟩⟩ rfl rfl ?_
  refine AOps.pass ⟨24, rfl, .inl ⟨_, rfl, rfl⟩⟩ rfl rfl ?_
  refine AOps.pass ⟨24, rfl, .inl ⟨_, rfl, rfl⟩⟩ rfl rfl ?_
  refine AOps.step rfl rfl rfl (AOp.pickF rfl rfl rfl) ?_
  refine AOps.mD rfl rfl rfl rfl rfl ?_
  refine AOps.pass ⟨31, rfl, .inl ⟨_, rfl, rfl⟩⟩ rfl rfl ?_
  refine AOps.pass ⟨31, rfl, .inl ⟨_, rfl, rfl⟩⟩ rfl rfl ?_
  refine AOps.pass ⟨31, rfl, .inl ⟨_, rfl, rfl⟩⟩ rfl rfl ?_
  refine AOps.pass ⟨31, rfl, .inl ⟨_, rfl, rfl⟩⟩ rfl rfl ?_
  refine AOps.pass ⟨31, rfl, .inl ⟨_, rfl, rfl⟩⟩ rfl rfl ?_
  refine AOps.step rfl rfl rfl (AOp.pickF rfl rfl rfl) ?_
  refine AOps.aD rfl rfl rfl rfl rfl (.nil ?_)
  refine AWP.ret ?_
  refine ⟨RetD.eq rfl ?_, trivial⟩
  all_goals (rfl)

set_option maxRecDepth 100000 in
set_option maxHeartbeats 1000000 in
theorem c_sameL (l r : List Rpt) : ACall Tryd.prog 17 [.sl (l.map Rpt.ds), .sl (r.map Rpt.ds)] (.v (.bool (decide (l = r)))) := by
  refine acall_of (n := 27) (ds' := [.v (.bool (decide (l = r)))]) Tryd.func17 rfl (by kernel_rfl) rfl [4] rfl rfl ?_
  intro B w0 F0 fr
  refine AWP.bound 0 rfl (fun hbd0 => ?_)
  rw [List.length_map] at hbd0
  refine AWP.bound 1 rfl (fun hbd1 => ?_)
  rw [List.length_map] at hbd1
  refine AWP.seq (AWP.region ?_)
  refine AOps.aD rfl rfl rfl rfl rfl (.nil ?_)
  refine AWP.seq ?_
  refine AWP.seq (AWP.region ?_)
  refine AOps.mD rfl rfl rfl rfl rfl ?_
  refine AOps.step rfl rfl rfl (AOp.lenSl rfl et_40.ht rfl) ?_
  refine AOps.mD rfl rfl rfl rfl rfl ?_
  refine AOps.step rfl rfl rfl (AOp.lenSl rfl et_40.ht rfl) ?_
  refine AOps.step rfl rfl rfl (AOp.neq rfl rfl rfl) (.nil ?_)
  refine AWP.cond rfl (fun h1 => ?_) (fun h1 => ?_)
  · replace h1 := of_decide_eq_true h1
    rw [List.length_map, List.length_map] at h1
    rw [decide_eq_false (show ¬ l = r from fun e => h1 (by rw [e]))]
    refine AWP.seq (AWP.region ?_)
    refine AOps.aD rfl rfl rfl rfl rfl (.nil ?_)
    refine AWP.ret ?_
    refine ⟨RetD.eq rfl ?_, trivial⟩
    all_goals (rfl)
  replace h1 := of_decide_eq_false h1
  rw [List.length_map, List.length_map] at h1
  have hle : l.length = r.length := by omega
  refine AWP.skip ?_
  refine AWP.seq ?_
  refine AWP.seq (AWP.region ?_)
  refine AOps.mD rfl rfl rfl rfl rfl ?_
  refine AOps.step rfl rfl rfl (AOp.lenSl rfl et_40.ht rfl) ?_
  refine AOps.mD rfl rfl rfl rfl rfl (.nil ?_)
  refine AWP.block ?_
  refine AWP.loop (G := Nat) (fun k => Env.of [(13, .d (.v (.int .i64 (k : Int)))), (11, .d (.sl (l.map Rpt.ds))), (12, .d (.v (.int .i64 ((l.map Rpt.ds).length : Int)))), (0, .d (.sl (l.map Rpt.ds))), (1, .d (.sl (r.map Rpt.ds)))]) (fun k => []) (fun k => k ≤ l.length ∧ l.take k = r.take k) (fun k => l.length - k) 0 ⟨Nat.zero_le _, by simp⟩ (Sub.less ⟨(SLe.of_eq rfl), SLe.refl _, SLe.refl _, SLe.refl _, SLe.refl _, trivial⟩ (fun _ h => h)) ?_
  intro k hk
  refine AWP.seq (AWP.region ?_)
  refine AOps.step rfl rfl rfl (AOp.lss rfl rfl rfl) (.nil ?_)
  refine AWP.seq ?_
  refine AWP.cond rfl (fun h2 => ?_) (fun h2 => ?_)
  · replace h2 := of_decide_eq_true h2
    rw [List.length_map] at h2
    have hlt : k < l.length := by omega
    have hlr : k < r.length := by omega
    refine AWP.skip ?_
    refine AWP.seq ?_
    refine AWP.block ?_
    refine AWP.seq (AWP.region ?_)
    refine AOps.mD rfl rfl rfl rfl rfl ?_
    refine AOps.aD rfl rfl rfl rfl rfl (.nil ?_)
    refine AWP.seq ?_
    refine AWP.draw (by kernel_rfl) (by kernel_rfl) ?_
    refine DRun.step rfl rfl rfl (AOp.moveD rfl rfl) ?_
    refine DRun.step rfl rfl rfl (AOp.moveD rfl rfl) ?_
    refine DRun.step rfl rfl rfl (AOp.indexAddr rfl et_40 rfl rfl k rfl (at_lst hlt) rfl) ?_
    refine DRun.step rfl rfl rfl (AOp.loadAgg rfl ag_48 rfl rfl) ?_
    refine DRun.step rfl rfl rfl (AOp.moveD rfl rfl) ?_
    refine DRun.step rfl rfl rfl (AOp.moveD rfl rfl) ?_
    refine DRun.step rfl rfl rfl (AOp.indexAddr rfl et_40 rfl rfl k rfl (at_lst hlr) rfl) ?_
    refine DRun.step rfl rfl rfl (AOp.loadAgg rfl ag_48 rfl rfl) ?_
    refine DRun.step rfl rfl rfl (AOp.call rfl (.cons (ArgOk.rfl' rfl) (.cons (ArgOk.rfl' rfl) .nil)) (c_sameR _ _)) ?_
    refine DRun.step rfl rfl rfl (AOp.not rfl rfl) ?_
    refine DRun.nil ?_
    refine AWP.cond rfl (fun h3 => ?_) (fun h3 => ?_)
    · replace h3 := bnot_t h3; replace h3 := of_decide_eq_false h3
      rw [decide_eq_false (show ¬ l = r from fun e => h3 (by subst e; rfl))]
      refine AWP.seq (AWP.region ?_)
      refine AOps.aD rfl rfl rfl rfl rfl (.nil ?_)
      refine AWP.ret ?_
      refine ⟨RetD.eq rfl ?_, trivial⟩
      all_goals (rfl)
    replace h3 := bnot_f h3; replace h3 := of_decide_eq_true h3
    have hT := take_eq hlt hlr hk.2 h3
    refine AWP.skip ?_
    refine AWP.region ?_
    refine AOps.step rfl rfl rfl (AOp.add64 rfl rfl rfl (by omega) (by omega)) ?_
    refine AOps.mD rfl rfl rfl rfl rfl (.nil ?_)
    refine ⟨k + 1, ⟨by omega, hT⟩, (by dsimp only; omega), Sub.less ⟨(SLe.of_eq rfl), SLe.refl _, SLe.refl _, SLe.refl _, SLe.refl _, trivial⟩ (fun _ h => h)⟩
  replace h2 := of_decide_eq_false h2
  rw [List.length_map] at h2
  obtain rfl : k = l.length := by omega
  rw [decide_eq_true (take_all_eq hle hk.2)]
  refine AWP.exit ?_
  refine AWP.seq (AWP.region ?_)
  refine AOps.aD rfl rfl rfl rfl rfl (.nil ?_)
  refine AWP.ret ?_
  refine ⟨RetD.eq rfl ?_, trivial⟩
  all_goals (rfl)

set_option maxRecDepth 100000 in
set_option maxHeartbeats 1000000 in
theorem c_clUsd (l : List Usd) (hl : l.length ≤ 1000000) : OCall Tryd.prog 76 [.sl (l.map Usd.ds)] 93 3 (l.map Usd.ds) := by
  refine ocall_of (n := 8) Tryd.func76 rfl (by kernel_rfl) rfl 2 rfl rfl ?_
  intro B w0 F0 fr
  refine (Classical.em (l = [])).elim (fun hn => ?_) (fun hn => ?_)
  subst hn
  refine AWP.nilOr 0 rfl ?_ (fun ad cap hcap => ?_)
  · skip
    refine AWP.seq (AWP.region ?_)
    refine AOps.aD rfl rfl rfl rfl rfl (.nil ?_)
    refine AWP.seq ?_
    refine AWP.seq (AWP.region ?_)
    refine AOps.mD rfl rfl rfl rfl rfl ?_
    refine AOps.step rfl rfl rfl (AOp.eqNilV rfl Tryd.underlying46 rfl rfl) (.nil ?_)
    refine AWP.cond rfl (fun _ => ?_) (fun h => nomatch h)
    refine AWP.seq (AWP.region ?_)
    refine AOps.aD rfl rfl rfl rfl rfl (.nil ?_)
    refine AWP.adopt 2 51 93 3 rfl rfl ?_
    refine AWP.ret ?_
    refine ⟨51, rfl, mem_row_eq (.head _) ?_⟩
    first | rfl | simp
  · skip
    refine AWP.seq (AWP.region ?_)
    refine AOps.aD rfl rfl rfl rfl rfl (.nil ?_)
    refine AWP.seq ?_
    refine AWP.seq (AWP.region ?_)
    refine AOps.mD rfl rfl rfl rfl rfl ?_
    refine AOps.step rfl rfl rfl (AOp.eqNilV rfl Tryd.underlying46 rfl rfl) (.nil ?_)
    refine AWP.cond rfl (fun h => nomatch h) (fun _ => ?_)
    refine AWP.skip ?_
    refine AWP.seq (AWP.region ?_)
    refine AOps.build0 102 rfl rfl rfl rfl et_46 rfl ?_
    refine AOps.mD rfl rfl rfl rfl rfl ?_
    refine AOps.le 6 rfl (SLe.d (Le.empty hcap)) ?_
    -- append 7
    refine AOps.append rfl rfl rfl rfl et_46 rfl (.head _) rfl (fun y hy => by first | exact absurd hy List.not_mem_nil | (obtain ⟨x, _, rfl⟩ := List.mem_map.1 hy; rfl)) (by simp; try omega) (by simp; try omega) ?_
    refine AOps.step rfl rfl rfl (AOp.assignO rfl rfl) (.nil ?_)
    refine AWP.ret ?_
    refine ⟨102, rfl, mem_row_eq (.head _) ?_⟩
    first | rfl | simp
  refine AWP.seq (AWP.region ?_)
  refine AOps.aD rfl rfl rfl rfl rfl (.nil ?_)
  refine AWP.seq ?_
  refine AWP.seq (AWP.region ?_)
  refine AOps.mD rfl rfl rfl rfl rfl ?_
  refine AOps.step rfl rfl rfl (AOp.eqNilS rfl Tryd.underlying46 rfl rfl (fun h => hn (List.map_eq_nil_iff.1 h))) (.nil ?_)
  refine AWP.cond rfl (fun h => nomatch h) (fun _ => ?_)
  refine AWP.skip ?_
  refine AWP.seq (AWP.region ?_)
  refine AOps.build0 103 rfl rfl rfl rfl et_46 rfl ?_
  refine AOps.mD rfl rfl rfl rfl rfl ?_
  -- append 7
  refine AOps.append rfl rfl rfl rfl et_46 rfl (.head _) rfl (fun y hy => by first | exact absurd hy List.not_mem_nil | (obtain ⟨x, _, rfl⟩ := List.mem_map.1 hy; rfl)) (by simp; try omega) (by simp; try omega) ?_
  refine AOps.step rfl rfl rfl (AOp.assignO rfl rfl) (.nil ?_)
  refine AWP.ret ?_
  refine ⟨103, rfl, mem_row_eq (.head _) ?_⟩
  first | rfl | simp

set_option maxRecDepth 100000 in
set_option maxHeartbeats 1000000 in
theorem c_own (x : Rpt) (hl : x.lines.length ≤ 1000000) : ACall Tryd.prog 46 [.agg x.ds] (.agg x.ds) := by
  refine acall_ofR (n := 8) (ds' := [.agg x.ds]) Tryd.func46 rfl (by kernel_rfl) rfl [.cell 2 48] rfl rfl ?_
  intro B w0 F0 fr
  refine AWP.seq (AWP.region ?_)
  refine AOps.boxOwn 101 rfl rfl rfl rfl rfl rfl rfl ?_
  refine AOps.alloc 102 rfl rfl rfl rfl zt_48 rfl rfl rfl (.nil ?_)
  refine AWP.seq (AWP.region ?_)
  refine AOps.step rfl rfl rfl (AOp.fieldAddrP rfl fo_48_4 rfl) ?_
  refine AOps.step rfl rfl rfl (AOp.loadP rfl sc_46 rfl (.tail _ (.head _)) rfl) ?_
  refine AOps.step rfl rfl rfl (AOp.call rfl (.cons (ArgOk.rfl' rfl) .nil) (c_clUsd x.lines hl).toA) ?_
  refine AOps.step rfl rfl rfl (AOp.fieldAddrP rfl fo_48_4 rfl) ?_
  refine AOps.store rfl rfl rfl sz_46 rfl (.tail _ (.head _)) rfl rfl rfl (Nat.le_of_ble_eq_true rfl) (.nil ?_)
  refine AWP.seq (AWP.region ?_)
  refine AOps.step rfl rfl rfl (AOp.loadPU rfl ag_48 rfl (.tail _ (.head _)) rfl rfl) ?_
  refine AOps.store rfl rfl rfl sz_48 rfl (.head _) rfl rfl rfl (Nat.le_of_ble_eq_true rfl) (.nil ?_)
  refine AWP.ret ?_
  refine ⟨RetR.agg rfl (.head _) ag_48 rfl (.cons (by first | exact CellD.nil | exact CellD.d | exact CellD.eq (by simp) | (refine CellD.own (by first | exact .head _ | exact .tail _ (.head _)) ?_; rfl)) (.cons (by first | exact CellD.nil | exact CellD.d | exact CellD.eq (by simp) | (refine CellD.own (by first | exact .head _ | exact .tail _ (.head _)) ?_; rfl)) (.cons (by first | exact CellD.nil | exact CellD.d | exact CellD.eq (by simp) | (refine CellD.own (by first | exact .head _ | exact .tail _ (.head _)) ?_; rfl)) (.cons (by first | exact CellD.nil | exact CellD.d | exact CellD.eq (by simp) | (refine CellD.own (by first | exact .head _ | exact .tail _ (.head _)) ?_; rfl)) (.cons (by first | exact CellD.nil | exact CellD.d | exact CellD.eq (by simp) | (refine CellD.own (by first | exact .head _ | exact .tail _ (.head _)) ?_; rfl)) .nil))))), trivial⟩
  all_goals (rfl)

set_option maxRecDepth 100000 in
set_option maxHeartbeats 1000000 in
theorem c_bsR (l : List Rpt) (x : Rpt) (hl : l.length ≤ 100000) : ACall Tryd.prog 47 [.sl (l.map Rpt.ds), .agg x.ds, .clo (.func 48) []] (.tup [.v (.int .i64 (posR l x : Int)), .v (.bool (hasR l x))]) := by
  refine acall_of (n := 49) (ds' := [.v (.int .i64 (posR l x : Int)), .v (.bool (hasR l x))]) Tryd.func47 rfl (by kernel_rfl) rfl [6, 7] rfl rfl ?_
  intro B w0 F0 fr
  refine AWP.seq (AWP.region ?_)
  refine AOps.step rfl rfl rfl (AOp.box rfl rfl rfl) ?_
  refine AOps.aD rfl rfl rfl rfl rfl ?_
  refine AOps.aD rfl rfl rfl rfl rfl (.nil ?_)
  refine AWP.seq (AWP.region ?_)
  refine AOps.mD rfl rfl rfl rfl rfl ?_
  refine AOps.step rfl rfl rfl (AOp.lenSl rfl et_40.ht rfl) ?_
  refine AOps.aD rfl rfl rfl rfl rfl (.nil ?_)
  refine AWP.seq (AWP.region ?_)
  refine AOps.mD rfl rfl rfl rfl rfl ?_
  refine AOps.aD rfl rfl rfl rfl rfl ?_
  refine AOps.aD rfl rfl rfl rfl rfl (.nil ?_)
  refine AWP.seq ?_
  refine AWP.block ?_
  refine AWP.loop (G := Nat × Nat) (fun g => Env.of [(9, .d (.v (.int .i64 (g.1 : Int)))), (10, .d (.v (.int .i64 (g.2 : Int)))), (8, .d (.v (.int .i64 (l.length : Int)))), (0, .d (.sl (l.map Rpt.ds))), (4, .d (.fp x.ds)), (2, .d (.clo (.func 48) []))]) (fun g => []) (fun g => g.1 ≤ g.2 ∧ g.2 ≤ l.length ∧ posR l x = bsr (ltQ l x) g.1 g.2) (fun g => g.2 - g.1) (0, l.length) ⟨Nat.zero_le _, Nat.le_refl _, rfl⟩ (Sub.less ⟨(SLe.i64 rfl), (SLe.i64 (by simp)), (SLe.i64 (by simp)), SLe.refl _, SLe.refl _, SLe.refl _, trivial⟩ (fun _ h => h)) ?_
  rintro ⟨i, j⟩ ⟨hij, hjl, hb⟩
  dsimp only at hij hjl hb ⊢
  refine AWP.seq ?_
  refine AWP.seq (AWP.region ?_)
  refine AOps.mD rfl rfl rfl rfl rfl ?_
  refine AOps.mD rfl rfl rfl rfl rfl ?_
  refine AOps.step rfl rfl rfl (AOp.lss rfl rfl rfl) (.nil ?_)
  refine AWP.cond rfl (fun h1 => ?_) (fun h1 => ?_)
  · replace h1 := of_decide_eq_true h1
    have hlt : i < j := by omega
    refine AWP.skip ?_
    refine AWP.block ?_
    refine AWP.seq (AWP.region ?_)
    refine AOps.mD rfl rfl rfl rfl rfl ?_
    refine AOps.mD rfl rfl rfl rfl rfl ?_
    refine AOps.step rfl rfl rfl (AOp.add64 rfl rfl rfl (by omega) (by omega)) ?_
    refine AOps.step rfl rfl rfl (AOp.convSame rfl (by kernel_rfl) rfl (wrapU64 (by omega) (by omega))) ?_
    refine AOps.step rfl rfl rfl (AOp.half rfl rfl rfl) ?_
    refine AOps.step rfl rfl rfl (AOp.convSame rfl (by kernel_rfl) rfl (w64 (by omega) (by omega))) ?_
    refine AOps.aD rfl rfl rfl rfl rfl (.nil ?_)
    refine AWP.seq ?_
    refine AWP.draw (by kernel_rfl) (by kernel_rfl) ?_
    refine DRun.step rfl rfl rfl (AOp.moveD rfl rfl) ?_
    refine DRun.step rfl rfl rfl (AOp.moveD rfl rfl) ?_
    refine DRun.step rfl rfl rfl (AOp.moveD rfl rfl) ?_
    refine DRun.step rfl rfl rfl (AOp.indexAddr rfl et_40 rfl rfl ((i + j) / 2) (by omega) (at_lst (by omega)) rfl) ?_
    refine DRun.step rfl rfl rfl (AOp.loadAgg rfl ag_48 rfl rfl) ?_
    refine DRun.step rfl rfl rfl (AOp.loadAgg rfl ag_48 rfl rfl) ?_
    refine DRun.step rfl rfl rfl (AOp.callClo rfl rfl (.cons (ArgOk.rfl' rfl) (.cons (ArgOk.rfl' rfl) .nil)) (c_cmpRpt l[(i + j) / 2] x)) ?_
    refine DRun.step rfl rfl rfl (AOp.lss rfl rfl rfl) ?_
    refine DRun.nil ?_
    refine AWP.cond rfl (fun h2 => ?_) (fun h2 => ?_)
    · replace h2 := of_decide_eq_true h2
      have HB := bsr_up hlt (ltQ_t (by omega) h2)
      refine AWP.region ?_
      refine AOps.mD rfl rfl rfl rfl rfl ?_
      refine AOps.step rfl rfl rfl (AOp.add64 rfl rfl rfl (by omega) (by omega)) ?_
      refine AOps.aD rfl rfl rfl rfl rfl (.nil ?_)
      refine ⟨((i + j) / 2 + 1, j), ⟨by dsimp only; omega, by dsimp only; omega, by dsimp only; rw [hb]; exact HB⟩, (by dsimp only; omega), Sub.less ⟨(SLe.i64 (by dsimp only; omega)), (SLe.refl _), SLe.refl _, SLe.refl _, SLe.refl _, SLe.refl _, trivial⟩ (fun _ h => h)⟩
    replace h2 := of_decide_eq_false h2
    have HB := bsr_dn hlt (ltQ_f (by omega) h2)
    refine AWP.region ?_
    refine AOps.mD rfl rfl rfl rfl rfl ?_
    refine AOps.aD rfl rfl rfl rfl rfl (.nil ?_)
    refine ⟨(i, (i + j) / 2), ⟨by dsimp only; omega, by dsimp only; omega, by dsimp only; rw [hb]; exact HB⟩, (by dsimp only; omega), Sub.less ⟨(SLe.refl _), (SLe.i64 (by dsimp only; omega)), SLe.refl _, SLe.refl _, SLe.refl _, SLe.refl _, trivial⟩ (fun _ h => h)⟩
  replace h1 := of_decide_eq_false h1
  rw [bsr_end (by omega)] at hb
  refine AWP.exit ?_
  refine AWP.seq ?_
  refine AWP.draw (by kernel_rfl) (by kernel_rfl) ?_
  refine DRun.step rfl rfl rfl (AOp.moveD rfl rfl) ?_
  refine DRun.step rfl rfl rfl (AOp.moveD rfl rfl) ?_
  refine DRun.step rfl rfl rfl (AOp.moveD rfl rfl) ?_
  refine DRun.step rfl rfl rfl (AOp.lss rfl rfl rfl) ?_
  refine DRun.step rfl rfl rfl (AOp.moveD rfl rfl) ?_
  refine DRun.split 39 rfl (fun g3 => ?_) (fun g3 => ?_)
  · replace g3 := of_decide_eq_true g3
    have hil : i < l.length := by omega
    refine DRun.step ⟨39, rfl, .inl ⟨_, rfl, rfl⟩⟩ rfl rfl (AOp.moveD rfl rfl) ?_
    refine DRun.step ⟨39, rfl, .inl ⟨_, rfl, rfl⟩⟩ rfl rfl (AOp.moveD rfl rfl) ?_
    refine DRun.step ⟨39, rfl, .inl ⟨_, rfl, rfl⟩⟩ rfl rfl (AOp.moveD rfl rfl) ?_
    refine DRun.step ⟨39, rfl, .inl ⟨_, rfl, rfl⟩⟩ rfl rfl (AOp.indexAddr rfl et_40 rfl rfl i rfl (at_lst hil) rfl) ?_
    refine DRun.step ⟨39, rfl, .inl ⟨_, rfl, rfl⟩⟩ rfl rfl (AOp.loadAgg rfl ag_48 rfl rfl) ?_
    refine DRun.step ⟨39, rfl, .inl ⟨_, rfl, rfl⟩⟩ rfl rfl (AOp.loadAgg rfl ag_48 rfl rfl) ?_
    refine DRun.step ⟨39, rfl, .inl ⟨_, rfl, rfl⟩⟩ rfl rfl (AOp.callClo rfl rfl (.cons (ArgOk.rfl' rfl) (.cons (ArgOk.rfl' rfl) .nil)) (c_cmpRpt l[i] x)) ?_
    refine DRun.step ⟨39, rfl, .inl ⟨_, rfl, rfl⟩⟩ rfl rfl (AOp.eql rfl rfl rfl) ?_
    refine DRun.step rfl rfl rfl (AOp.pickT rfl rfl rfl) ?_
    refine DRun.step rfl rfl rfl (AOp.assignD rfl rfl) ?_
    refine DRun.step rfl rfl rfl (AOp.assignD rfl rfl) ?_
    refine DRun.nil ?_
    refine AWP.ret ?_
    refine ⟨RetD.eq rfl ?_, RetD.eq rfl ?_, trivial⟩
    all_goals (first | rfl | rw [hb] | rw [HX] | rw [hasR_k hil hb])
  replace g3 := of_decide_eq_false g3
  have HX : hasR l x = false := hasR_e (by omega) hb
  refine DRun.pass ⟨39, rfl, .inl ⟨_, rfl, rfl⟩⟩ rfl rfl ?_
  refine DRun.pass ⟨39, rfl, .inl ⟨_, rfl, rfl⟩⟩ rfl rfl ?_
  refine DRun.pass ⟨39, rfl, .inl ⟨_, rfl, rfl⟩⟩ rfl rfl ?_
  refine DRun.pass ⟨39, rfl, .inl ⟨_, rfl, rfl⟩⟩ rfl rfl ?_
  refine DRun.pass ⟨39, rfl, .inl ⟨_, rfl, rfl⟩⟩ rfl rfl ?_
  refine DRun.pass ⟨39, rfl, .inl ⟨_, rfl, rfl⟩⟩ rfl rfl ?_
  refine DRun.pass ⟨39, rfl, .inl ⟨_, rfl, rfl⟩⟩ rfl rfl ?_
  refine DRun.pass ⟨39, rfl, .inl ⟨_, rfl, rfl⟩⟩ rfl rfl ?_
  refine DRun.step rfl rfl rfl (AOp.pickF rfl rfl rfl) ?_
  refine DRun.step rfl rfl rfl (AOp.assignD rfl rfl) ?_
  refine DRun.step rfl rfl rfl (AOp.assignD rfl rfl) ?_
  refine DRun.nil ?_
  refine AWP.ret ?_
  refine ⟨RetD.eq rfl ?_, RetD.eq rfl ?_, trivial⟩
  all_goals (first | rfl | rw [hb] | rw [HX] | rw [hasR_k hil hb])

end Go.Proofs.YtfajemnegkfigaaDoor


namespace Go.Proofs.YtfajemnegkfigaaDoor
open Go.RowKit Go.Shelf Go.Lib Go.Sort
set_option linter.unusedVariables false
set_option linter.unusedSimpArgs false

set_option maxHeartbeats 2000000 in
/-- cmp.Or at two. -/
theorem or2 (a b : Int) (blk : Nat) (W : World) (h0 : W.cell? ⟨blk, 0, none⟩ = some (.int .i64 a)) (h1 : W.cell? ⟨blk, 1, none⟩ = some (.int .i64 b)) :
    Calls Tryd.prog 71 #[.slice (some ⟨blk, 0, none⟩) 2 2] W fun e w' => e = .returned (.int .i64 (if a = 0 then b else a)) ∧ w' = W := by
  go_enter Tryd.func71, Tryd.ntmps71
  go_wp2
  refine wp_loop_rounds 3 ?_
  rw [rounds_succ]
  by_cases ha : a = 0
  · subst ha
    go_wp2
    rw [rounds_succ]
    by_cases hb : b = 0
    · subst hb
      go_wp2
      rw [rounds_succ]
      go_wp2
      go_ret
      exact ⟨rfl, rfl⟩
    · go_wp2
      go_ret
      exact ⟨rfl, rfl⟩
  · go_wp2
    go_ret
    exact ⟨rfl, rfl⟩
theorem cell_top {W : World} {b i e : Nat} {cs : Array Value} {v : Value} (hb : b = W.heap.size) (hv : cs[i]? = some v) : (W.alloc (.cells cs e)).cell? ⟨b, i, none⟩ = some v := by
  subst hb
  have h : (W.alloc (.cells cs e)).heap[W.heap.size]? = some (.cells cs e (0, 0)) := heap_alloc_new W _
  rw [cell_of_row _ _ i cs e (0, 0) h, hv]
set_option maxHeartbeats 4000000 in
set_option maxRecDepth 1000000 in
/-- compareReports, in whatever world. -/
theorem cmpRpt_any (xs ys : ByteArray) (xn yn : Int) (x2 x3 x4 y2 y3 y4 : Value) (W : World) : Calls Tryd.prog 48 #[.agg #[.string xs, .int .i64 xn, x2, x3, x4], .agg #[.string ys, .int .i64 yn, y2, y3, y4]] W fun e w' => e = .returned (.int .i64 (if compareBytes xs.data.toList ys.data.toList = 0 then compareInt xn yn else compareBytes xs.data.toList ys.data.toList)) ∧ ∃ q os', w' = grow (W.drewN q) os' := by
  have hcon := fun W' => AnyG.cmp_Compare_int Tryd.cmpI xn yn W'
  change ∀ W', Calls Tryd.prog 73 #[.int .i64 xn, .int .i64 yn] W' _ at hcon
  have hstr := fun W' => Any.strings_Compare Tryd.l106 xs ys W'
  change ∀ W', Calls Tryd.prog 72 #[.string xs, .string ys] W' _ at hstr
  have hor := or2 (compareBytes xs.data.toList ys.data.toList) (compareInt xn yn)
  generalize compareInt xn yn = s at *
  generalize compareBytes xs.data.toList ys.data.toList = r at *
  have hor2 : ∀ (X : World) (b e : Nat), b = X.heap.size → Calls Tryd.prog 71 #[.slice (some ⟨b, 0, none⟩) 2 2] (X.alloc (.cells #[.int .i64 r, .int .i64 s] e)) fun e' w' => e' = .returned (.int .i64 (if r = 0 then s else r)) ∧ w' = X.alloc (.cells #[.int .i64 r, .int .i64 s] e) :=
    fun X b e hb => hor b _ (cell_top hb rfl) (cell_top hb rfl)
  clear hor
  generalize (if r = 0 then s else r) = t at hor2 ⊢
  go_enter Tryd.func48, Tryd.ntmps48
  go_wp2
  generalize hW2 : (W.alloc (Obj.cells #[Value.string xs, Value.int IntKind.i64 xn, x2, x3, x4] 48)).alloc (Obj.cells #[Value.string ys, Value.int IntKind.i64 yn, y2, y3, y4] 48) = W2
  have c1 : W2.cell? ⟨W.heap.size, 0, none⟩ = some (.string xs) := by rw [← hW2]; simp [go_sem]
  have c2 : W2.cell? ⟨W.heap.size, 1, none⟩ = some (.int .i64 xn) := by rw [← hW2]; simp [go_sem]
  have c3 : W2.cell? ⟨W.heap.size + 1, 0, none⟩ = some (.string ys) := by rw [← hW2]; simp [go_sem]
  have c4 : W2.cell? ⟨W.heap.size + 1, 1, none⟩ = some (.int .i64 yn) := by rw [← hW2]; simp [go_sem]
  have hG : ∃ os, W2 = grow W os := ⟨_, by rw [← hW2, alloc_eq_grow, alloc_eq_grow, grow_grow]⟩
  clear hW2
  refine wp_region_still_tail 10 (by kernel_rfl) (by kernel_rfl) ?_
  simp only [List.take_succ_cons, List.take_zero, List.drop_succ_cons, List.drop_zero]
  have e3 : ({ W2 with drawn := W2.drawn + 1 } : World) = W2.drew := rfl
  simp only [e3]
  have c1' : W2.drew.cell? ⟨W.heap.size, 0, none⟩ = some (.string xs) := c1
  have c2' : W2.drew.cell? ⟨W.heap.size, 1, none⟩ = some (.int .i64 xn) := c2
  have c3' : W2.drew.cell? ⟨W.heap.size + 1, 0, none⟩ = some (.string ys) := c3
  have c4' : W2.drew.cell? ⟨W.heap.size + 1, 1, none⟩ = some (.int .i64 yn) := c4
  have hG' : ∃ q os, W2.drew = grow (W.drewN q) os := by obtain ⟨os, rfl⟩ := hG; exact ⟨1, os, rfl⟩
  clear c1 c2 c3 c4 hG e3
  generalize W2.drew = W3 at *
  still_step
  still_step
  still_step
  still_step
  still_call (hstr _)
  still_step
  still_step
  still_step
  still_step
  still_call (hcon _)
  refine wpStill_nil ?_
  clear hcon hstr c1' c2' c3' c4'
  go_wp2_with (go_at_call 71; refine (hor2 _ _ _ (by simp)).mono ?_; rintro e w' ⟨rfl, rfl⟩)
  go_ret
  obtain ⟨q, os, rfl⟩ := hG'
  exact ⟨rfl, q, _, by rw [alloc_eq_grow, grow_grow]⟩

/-! ## A row of structs, by its elements' numbers -/
section
variable {α : Type} [Inhabited α]
theorem put_blockG (enc : α → List Value) (k : Nat) {w : World} {g n e : Nat} {cur : Array Value} {os : Array Obj} {zs : Array α} (h : w.heap[g]? = some (.cells cur e (0, 0))) :
    (Sort.grow (putRowK enc k (Sort.ahead w n) g 0 zs) os).heap[g]? = some (.cells (Sort.putCells id 0 (flatK enc k zs) cur) e (0, 0)) ∧
    (∀ j, j < w.heap.size → j ≠ g → (Sort.grow (putRowK enc k (Sort.ahead w n) g 0 zs) os).heap[j]? = w.heap[j]?) := by
  unfold putRowK
  have hg : g < w.heap.size := (Array.getElem?_eq_some_iff.1 h).1
  have hs : ∀ j, j < w.heap.size → (Sort.grow (Sort.putRow id (Sort.ahead w n) g 0 (flatK enc k zs)) os).heap[j]? = (Sort.putRow id (Sort.ahead w n) g 0 (flatK enc k zs)).heap[j]? := fun j hj => Sort.heap_grow_old _ _ (by rw [Sort.size_putRow]; exact hj)
  refine ⟨?_, fun j hj hne => ?_⟩
  · rw [hs g hg]
    show (w.heap.modify g _)[g]? = _
    rw [Array.getElem?_modify, if_pos rfl, h]
    rfl
  · rw [hs j hj]
    show (w.heap.modify g _)[j]? = _
    rw [Array.getElem?_modify, if_neg (Ne.symm hne)]
theorem put_cellsG (enc : α → List Value) (k : Nat) (zs : Array α) (cur : Array Value) (hl : zs.size * k ≤ cur.size) (i c : Nat) (hi : i < zs.size) (hc : c < k) : (Sort.putCells id 0 (flatK enc k zs) cur)[i * k + c]? = some ((enc zs[i]!)[c]!) := by
  have hk0 : 0 < k := by omega
  have hb : i * k + c < zs.size * k := by
    have := Nat.mul_le_mul_right k (show i + 1 ≤ zs.size by omega)
    rw [Nat.add_mul, Nat.one_mul] at this
    omega
  unfold Sort.putCells
  rw [Array.getElem?_mapIdx, Array.getElem?_eq_getElem (by omega), Option.map_some, if_pos ⟨Nat.zero_le _, by rw [size_flatK]; omega⟩]
  rw [Nat.sub_zero, get_flatK enc k zs _ hb]
  have e1 : (i * k + c) / k = i := by rw [Nat.mul_comm, Nat.mul_add_div hk0, Nat.div_eq_of_lt hc, Nat.add_zero]
  have e2 : (i * k + c) % k = c := by rw [Nat.mul_comm, Nat.mul_add_mod, Nat.mod_eq_of_lt hc]
  rw [e1, e2]
  rfl
end
theorem repSL_fn {F : Nat → Prop} {ρ : Nat → Value} {w : World} {vs : List Value} {id : Nat} {f : Fn} (h : RepSL F ρ w vs [.own id, .d (.clo f [])]) : vs = [ρ id, .func f #[] #[]] := by
  obtain ⟨v, u, rfl⟩ : ∃ v u, vs = [v, u] := by
    match vs, h.1 with
    | [v, u], _ => exact ⟨v, u, rfl⟩
  have h1 := h.2 0 (by simp) (by simp)
  have h2 := h.2 1 (by simp) (by simp)
  simp only [List.getElem_cons_zero, List.getElem_cons_succ] at h1 h2
  cases h1
  have h3 := repS_d h2
  cases h3 with
  | clo _ cs _ hl _ =>
    have : cs = [] := List.eq_nil_of_length_eq_zero hl
    subst this
    rfl
/-- The cells of the element with a number. -/
def encN (ys : Nat → Nat → Value) (n i : Nat) : List Value := if i < n then (List.range 5).map (ys i) else [.string ⟨#[]⟩, .int .i64 0, .int .i64 0, .int .i64 0, .slice none 0 0]
def cfN (xs : List Rpt) (i j : Nat) : Int := rCmp (xs.getD i default) (xs.getD j default)
theorem swoN (xs : List Rpt) : SWO (ltOf (cfN xs)) where
  irrefl x := swoR.irrefl (xs.getD x default)
  trans x y z h1 h2 := swoR.trans (xs.getD x default) (xs.getD y default) (xs.getD z default) h1 h2
  ntrans x y z h1 h2 := swoR.ntrans (xs.getD x default) (xs.getD y default) (xs.getD z default) h1 h2
theorem encN_five (ys : Nat → Nat → Value) (n i : Nat) : ∃ s no p c l, encN ys n i = [s, no, p, c, l] ∧ (i < n → s = ys i 0 ∧ no = ys i 1) ∧ (¬ i < n → s = .string ⟨#[]⟩ ∧ no = .int .i64 0) := by
  unfold encN
  by_cases h : i < n
  · rw [if_pos h]
    exact ⟨_, _, _, _, _, rfl, fun _ => ⟨rfl, rfl⟩, fun h2 => absurd h h2⟩
  · rw [if_neg h]
    exact ⟨_, _, _, _, _, rfl, fun h2 => absurd h2 h, fun _ => ⟨rfl, rfl⟩⟩
theorem hagR (w : World) : (isAgg 48).run Tryd.prog w = .ok true w := (AggT.of (by kernel_rfl) : AggT Tryd.prog 48 5).agg w
theorem hszR (w : World) : (Go.sizeOf 48).run Tryd.prog w = .ok 5 w := (AggT.of (by kernel_rfl) : AggT Tryd.prog 48 5).size w
theorem rngK {α : Type} [Inhabited α] (n : Nat) (i : Nat) (h : i < n) : (Array.range n)[i]! = i := by
  rw [getElem!_pos (Array.range n) i (by simpa using h)]; simp
set_option maxHeartbeats 1000000 in
theorem c_sortR (xs : List Rpt) (hn : xs.length < 4611686018427387904) (hd : Dist xs) (e : Nat) : RCall Tryd.prog 50 e 5 (xs.map Rpt.ds) ((sortR xs).map Rpt.ds) [.clo (.func 48) []] (.tup []) := by
  intro id
  refine ⟨.of Tryd.func50 (by kernel_rfl) rfl, fun F ρ B w vs hF hB hσ hv => ?_⟩
  obtain rfl := repSL_fn hv
  have hsl : (sortR xs).length = xs.length := (sortR_perm xs).length_eq
  have hl : (xs.map Rpt.ds).length = xs.length := List.length_map ..
  obtain ⟨ys, h1, h2, h3, h4⟩ := hσ.ok _ (List.mem_singleton.2 rfl)
  rw [hl] at h1
  have h1' : w.ownsRow B e 5 (ρ id) xs.length (flat ys xs.length 5) := h1
  have hcell : ∀ i, (hi : i < xs.length) → ∀ c, (hc : c < 5) → (ys i c).oneCell' = true ∧ Rep F w (ys i c) (xs[i].ds[c]'(by simpa [Rpt.ds] using hc)) := fun i hi c hc => by
    have := h3 i (by rw [hl]; exact hi) c (by rw [List.getElem_map]; simpa [Rpt.ds] using hc)
    simpa only [List.getElem_map] using this
  have hkey : ∀ i, (hi : i < xs.length) → ys i 0 = .string xs[i].source ∧ ys i 1 = .int .i64 xs[i].no := fun i hi =>
    ⟨rep_v (hcell i hi 0 (by omega)).2, rep_v (hcell i hi 1 (by omega)).2⟩
  rcases h1'.2 with ⟨h5, h6⟩ | ⟨g, cap, cur, h5, h6, h7, h8, h9, h10, h11⟩
  · have h6' := List.eq_nil_of_length_eq_zero h6
    subst h6'
    rw [h5]
    have h := AnyF.slices_SortFunc_none Tryd.sortF none 0 (.func (.func 48) #[] #[]) w
    change Calls Tryd.prog 50 #[.slice none 0 0, .func (.func 48) #[] #[]] w _ at h
    refine h.mono fun e' w' ⟨he, hw⟩ => ?_
    subst hw
    refine ⟨_, F, ρ, he, .tup [] [] rfl (fun i h1 => by simp at h1), fun _ hb => hb, fun _ hb => .inl hb, hF, Kept.refl _ _, ?_, ?_, fun _ _ => rfl⟩
    · have : (sortR ([] : List Rpt)).map Rpt.ds = ([] : List Rpt).map Rpt.ds := by unfold sortR; rw [List.mergeSort_nil]
      rw [this]
      exact hσ
    intro p hp g hg
    have : p = (id, .row e 5 ((sortR ([] : List Rpt)).map Rpt.ds)) := by simpa using hp
    subst this
    rw [h5] at hg
    simp [blk] at hg
  rw [h5]
  have hg : g < w.heap.size := (Array.getElem?_eq_some_iff.1 h7).1
  have hcur : ∀ i c, i < xs.length → c < 5 → cur[i * 5 + c]? = some (ys i c) := fun i c hi hc => by
    have hcc := row_cell h1' h5 h7 hi hc
    rwa [cell_of_row w g (i * 5 + c) cur e (0, 0) h7] at hcc
  have eg : ∀ args w, (callFunc 48 args).run Tryd.prog w = .ok (.enter 48 args) w := enters_of Tryd.func48 (by kernel_rfl) rfl
  have hH : HoldsK (encN ys xs.length) 5 w g 0 (Array.range xs.length) := by
    intro j hj
    have hj' : j < xs.length * 5 := by simpa using hj
    have hpi : j / 5 < xs.length := by omega
    have h12 := hcur (j / 5) (j % 5) hpi (by omega)
    rw [show j / 5 * 5 + j % 5 = j by omega] at h12
    rw [Nat.zero_add, cell_of_row w g j cur e (0, 0) h7, h12, get_flatK _ 5 _ _ (by simpa using hj'), rngK (α := Nat) _ _ hpi]
    refine ⟨?_, ?_⟩
    · unfold encN
      rw [if_pos hpi]
      have : j % 5 < 5 := by omega
      generalize j % 5 = c at *
      match c, this with
      | 0, _ => rfl
      | 1, _ => rfl
      | 2, _ => rfl
      | 3, _ => rfl
      | 4, _ => rfl
    unfold World.frozen?
    rw [h7]
    simp
  have hC : CmpLays Tryd.prog 48 #[] (encN ys xs.length) 5 (cfN xs) g 0 (Array.range xs.length).size w := fun m os dk _ x y => by
    obtain ⟨s1, n1, p1, c1, l1, e1, a1, b1⟩ := encN_five ys xs.length x
    obtain ⟨s2, n2, p2, c2, l2, e2, a2, b2⟩ := encN_five ys xs.length y
    have k1 : s1 = .string (xs.getD x default).source ∧ n1 = .int .i64 (xs.getD x default).no := by
      by_cases hx : x < xs.length
      · rw [(a1 hx).1, (a1 hx).2, List.getD_eq_getElem?_getD, List.getElem?_eq_getElem hx]
        exact hkey x hx
      rw [(b1 hx).1, (b1 hx).2, List.getD_eq_getElem?_getD, List.getElem?_eq_none (by omega)]
      exact ⟨rfl, rfl⟩
    have k2 : s2 = .string (xs.getD y default).source ∧ n2 = .int .i64 (xs.getD y default).no := by
      by_cases hy : y < xs.length
      · rw [(a2 hy).1, (a2 hy).2, List.getD_eq_getElem?_getD, List.getElem?_eq_getElem hy]
        exact hkey y hy
      rw [(b2 hy).1, (b2 hy).2, List.getD_eq_getElem?_getD, List.getElem?_eq_none (by omega)]
      exact ⟨rfl, rfl⟩
    rw [e1, e2, k1.1, k1.2, k2.1, k2.2]
    exact cmpRpt_any _ _ _ _ p1 c1 l1 p2 c2 l2 _
  have h := AnyQ.slices_SortFunc Tryd.sortF 5 hagR hszR (encN ys xs.length) (fun x => by obtain ⟨_, _, _, _, _, e1, _⟩ := encN_five ys xs.length x; rw [e1]; rfl)
    (fun x v hv => by
      unfold encN at hv
      by_cases hx : x < xs.length
      · rw [if_pos hx] at hv
        obtain ⟨c, hc, rfl⟩ := List.mem_map.1 hv
        exact (hcell x hx c (List.mem_range.1 hc)).1
      rw [if_neg hx] at hv
      simp at hv
      rcases hv with rfl | rfl | rfl <;> rfl) (cfN xs) (swoN xs) 48 #[] g 0 cap (Array.range xs.length) w eg hC hH hg (by simpa using hn)
  rw [show (Array.range xs.length).size = xs.length by simp] at h
  change Calls Tryd.prog 50 #[.slice (some ⟨g, 0, none⟩) xs.length cap, .func (.func 48) #[] #[]] w _ at h
  refine h.mono fun e' w' ⟨he, d', n, os, hp, hs, hw⟩ => ?_
  obtain ⟨hp1, _, hp3⟩ := hp
  have hds : d'.size = xs.length := by rw [hp1]; simp
  have hperm : d'.toList.Perm (List.range xs.length) := by
    have e1 : d'.extract 0 xs.length = d' := by rw [← hds]; exact Array.extract_size
    have e2 : (Array.range xs.length).extract 0 xs.length = Array.range xs.length := by
      have := Array.extract_size (xs := Array.range xs.length)
      rwa [show (Array.range xs.length).size = xs.length by simp] at this
    rw [e1, e2] at hp3
    simpa using hp3
  have hlt : ∀ i, i < xs.length → d'[i]! < xs.length := fun i hi => by
    rw [getElem!_pos d' i (by omega)]
    have : d'[i] ∈ d'.toList := by rw [Array.mem_toList_iff]; exact Array.getElem_mem _
    exact List.mem_range.1 (hperm.mem_iff.1 this)
  have hsort : (d'.toList.map fun i => xs.getD i default) = sortR xs := by
    refine sortR_uniq hd ?_ ?_
    · have h12 := hperm.map fun i => xs.getD i default
      have h13 : (List.range xs.length).map (fun i => xs.getD i default) = xs := by
        apply List.ext_getElem
        · simp
        intro i a1 a2
        simp [List.getD_eq_getElem?_getD, List.getElem?_eq_getElem a2]
      rwa [h13] at h12
    rw [List.pairwise_map, List.pairwise_iff_getElem]
    intro i j hi hj hij
    have hj' : j < xs.length := by rw [← hds]; simpa using hj
    have h12 := hs i j (Nat.zero_le _) hij (by rw [← hds]; simpa using hj)
    rw [getElem!_pos d' i (by omega), getElem!_pos d' j (by omega)] at h12
    have h13 : ltR (xs.getD d'[j] default) (xs.getD d'[i] default) = false := h12
    simpa using h13
  have hat : ∀ i, (hi : i < xs.length) → (sortR xs)[i]'(by rw [hsl]; exact hi) = xs[d'[i]!]'(hlt i hi) := fun i hi => by
    have h12 : (d'.toList.map fun i => xs.getD i default)[i]? = some (xs[d'[i]!]'(hlt i hi)) := by
      rw [List.getElem?_map, Array.getElem?_toList, Array.getElem?_eq_getElem (by omega)]
      have := hlt i hi
      rw [getElem!_pos d' i (by omega)] at this
      simp only [Option.map_some, List.getD_eq_getElem?_getD, List.getElem?_eq_getElem this, Option.getD_some]
      congr 1
      simp [getElem!_pos d' i (by omega)]
    rw [hsort, List.getElem?_eq_getElem (by rw [hsl]; exact hi)] at h12
    exact Option.some.inj h12
  have hw2 : w' = Sort.grow (putRowK (encN ys xs.length) 5 (Sort.ahead w n) g 0 d') os := hw
  obtain ⟨hb1, hb2⟩ := put_blockG (encN ys xs.length) 5 (n := n) (os := os) (zs := d') h7
  have hsz : w.heap.size ≤ w'.heap.size := by rw [hw2, Sort.size_grow, size_putRowK]; exact Nat.le_add_right _ _
  have hob : ownB [(id, Ob.row e 5 (xs.map Rpt.ds))] ρ g := ⟨_, List.mem_singleton.2 rfl, by rw [h5]; rfl⟩
  have hnF : ¬ F g := h4 g (by rw [h5]; rfl)
  have hkeep : ∀ b, F b → w'.heap[b]? = w.heap[b]? := fun b hb => by
    rw [hw2]
    exact hb2 b (hF b hb) (fun e => hnF (e ▸ hb))
  refine ⟨_, F, ρ, he, .tup [] [] rfl (fun i h1 => by simp at h1), fun _ hb => hb, fun _ hb => .inl hb, fun b hb => Nat.lt_of_lt_of_le (hF b hb) hsz, ⟨by rw [hw2]; rfl, by rw [hw2]; rfl, by rw [hw2]; rfl, hsz, fun k hk hne => ?_⟩, ?_, ?_, fun _ _ => rfl⟩
  · rw [hw2]
    exact hb2 k hk (fun he => hne (.inr (he ▸ hob)))
  · refine ⟨fun p hp => ?_, fun p hp q hq hne => ?_, fun p hp q hq _ => ?_⟩
    · have : p = (id, .row e 5 ((sortR xs).map Rpt.ds)) := by simpa using hp
      subst this
      have hl2 : ((sortR xs).map Rpt.ds).length = xs.length := by rw [List.length_map, hsl]
      have hc2 : ∀ i c, i < xs.length → c < 5 → (Sort.putCells _root_.id 0 (flatK (encN ys xs.length) 5 d') cur)[i * 5 + c]? = some (ys d'[i]! c) := fun i c hi hc => by
        rw [put_cellsG (encN ys xs.length) 5 d' cur (by rw [hds, h10]; exact Nat.mul_le_mul_right 5 h8) i c (by omega) hc]
        unfold encN
        rw [if_pos (hlt i hi)]
        match c, hc with
        | 0, _ => rfl
        | 1, _ => rfl
        | 2, _ => rfl
        | 3, _ => rfl
        | 4, _ => rfl
      refine ⟨fun i c => ys d'[i]! c, ?_, fun i hi => by simp [Rpt.ds], fun i hi c hc => ?_, fun g' hg' => ?_⟩
      · rw [hl2]
        refine ⟨flat_length _ _ _, .inr ⟨g, cap, _, h5, h6, by rw [hw2]; exact hb1, h8, h9, by simp [Sort.putCells, h10], ?_⟩⟩
        apply List.ext_getElem?
        intro p
        by_cases hp : p < xs.length * 5
        · have hpi : p / 5 < xs.length := by omega
          have := flatten_get (fun i c => ys d'[i]! c) 5 xs.length (p / 5) (p % 5) hpi (by omega)
          rw [show p / 5 * 5 + p % 5 = p by omega] at this
          have h12 := hc2 (p / 5) (p % 5) hpi (by omega)
          rw [show p / 5 * 5 + p % 5 = p by omega] at h12
          rw [this, List.getElem?_take, if_pos hp, Array.getElem?_toList, h12]
        rw [List.getElem?_eq_none (by rw [List.length_take]; omega)]
        exact (List.getElem?_eq_none (by have := flat_length (fun i c => ys d'[i]! c) xs.length 5; unfold flat at this; rw [this]; omega)).symm
      · rw [hl2] at hi
        have hc5 : c < 5 := by simpa [Rpt.ds] using hc
        have h12 := hcell d'[i]! (hlt i hi) c hc5
        refine ⟨h12.1, ?_⟩
        simp only [List.getElem_map]
        have h13 := h12.2.mono (F' := F) (w' := w') (fun _ h => h) hkeep
        have e1 := hat i hi
        simp only [e1]
        exact h13
      rw [h5] at hg'
      simp [blk] at hg'
      subst hg'
      exact hnF
    · have h1 : p = (id, .row e 5 ((sortR xs).map Rpt.ds)) := by simpa using hp
      have h2 : q = (id, .row e 5 ((sortR xs).map Rpt.ds)) := by simpa using hq
      rw [h1, h2] at hne
      exact absurd rfl hne
    have h1 : p = (id, .row e 5 ((sortR xs).map Rpt.ds)) := by simpa using hp
    have h2 : q = (id, .row e 5 ((sortR xs).map Rpt.ds)) := by simpa using hq
    rw [h1, h2]
  intro p hp g' hg'
  have : p = (id, .row e 5 ((sortR xs).map Rpt.ds)) := by simpa using hp
  subst this
  exact .inr ⟨_, List.mem_singleton.2 rfl, hg'⟩
end Go.Proofs.YtfajemnegkfigaaDoor


namespace Go.Proofs.YtfajemnegkfigaaDoor
open Go.RowKit
set_option linter.unusedVariables false

/-! Types. -/
namespace TyM4
theorem ag_48 : AggT Tryd.prog 48 5 := .of (by kernel_rfl)
theorem et_40 : ElemTy Tryd.prog 40 48 5 64 (.agg #[(.string ⟨#[]⟩), (.int .i64 0), (.int .i64 0), (.int .i64 0), (.slice none 0 0)]) := ⟨by kernel_rfl, by kernel_rfl, by kernel_rfl, by decide⟩
theorem et_86 : ElemTy Tryd.prog 86 40 1 24 (.slice none 0 0) := ⟨by kernel_rfl, by kernel_rfl, by kernel_rfl, by decide⟩
theorem fo_48_2 : fieldOff Tryd.prog 48 2 = some 2 := by kernel_rfl
theorem fo_48_3 : fieldOff Tryd.prog 48 3 = some 3 := by kernel_rfl
theorem fo_48_4 : fieldOff Tryd.prog 48 4 = some 4 := by kernel_rfl
theorem sc_3 : Scal Tryd.prog 3 := .of (by kernel_rfl)
theorem sc_40 : Scal Tryd.prog 40 := .of (by kernel_rfl)
theorem sc_46 : Scal Tryd.prog 46 := .of (by kernel_rfl)
theorem sz_48 : ∀ w, (sizeOf 48).run Tryd.prog w = .ok 5 w := SizeT.of (by kernel_rfl)
theorem zt_48 : (Tryd.prog.info? 48).bind (·.zero) = some (.agg #[(.string ⟨#[]⟩), (.int .i64 0), (.int .i64 0), (.int .i64 0), (.slice none 0 0)]) := by kernel_rfl
end TyM4
open TyM4


open Go.Lib
theorem SLe.fn (f : Nat) : SLe (.d (.v (.func (.func f) #[] #[]))) (.d (.clo (.func f) [])) := fun F ρ w x h => by
  cases repS_v h
  exact .d (.clo _ [] [] rfl (fun i h => absurd h (Nat.not_lt_zero i)))
theorem ArgOk.fn {e : Env} {x : Operand} {f : Fn} (h : e.ev x = .d (.v (.func f #[] #[]))) : ArgOk e x (.clo f []) := ⟨_, h, fun F w y hy => by
  rw [rep_v hy]
  exact .clo f [] [] rfl (fun i h1 => absurd h1 (by simp))⟩
theorem row_sameM {i e s : Nat} {els els' : List (List D)} {τ : Obs} (h : els = els') : ∀ p ∈ [(i, Ob.row e s els')], p ∈ (i, Ob.row e s els) :: τ := fun p hp => by
  subst h
  rw [List.mem_singleton] at hp; subst hp; exact .head _
def selL (a b : List Rpt) (k : Nat) : List Rpt := if k = 0 then a else b
theorem sel_at {a b : List Rpt} {k : Nat} (h : k < 2) : ([[.sl (a.map Rpt.ds)], [.sl (b.map Rpt.ds)]] : List (List D))[k]? = some [.sl ((selL a b k).map Rpt.ds)] := by
  match k, h with
  | 0, _ => rfl
  | 1, _ => rfl
theorem sel_ok {a b : List Rpt} {k : Nat} (ha : ∀ x ∈ a, okRpt x) (hb : ∀ x ∈ b, okRpt x) : ∀ x ∈ selL a b k, okRpt x := by
  unfold selL
  split
  · exact ha
  · exact hb
theorem rpt_lines {x : Rpt} (h : rptF x = 0) : x.lines.length ≤ 100 := by
  unfold rptF at h
  split at h
  · omega
  · split at h
    · omega
    · split at h
      · omega
      · omega
theorem join_f1 {a b : List Rpt} {k : Nat} (hk : k < 2) (h0 : 0 < k → logF a = 0) (h : logF (selL a b k) ≠ 0) : joinF a b = logF (selL a b k) ∧ joinR a b = [] := by
  have e : joinF a b = logF (selL a b k) := by
    unfold joinF
    match k, hk with
    | 0, _ => exact if_pos h
    | 1, _ => rw [if_neg (by rw [h0 (by omega)]; simp)]; exact if_pos h
  exact ⟨e, join_len (by rw [e]; exact h)⟩
theorem join_k1 {a b : List Rpt} {k : Nat} (hk : k < 2) (h1 : 0 < k → logF a = 0) (h : logF (selL a b k) = 0) : logF a = 0 := by
  match k, hk with
  | 0, _ => exact h
  | 1, _ => exact h1 (by omega)
theorem join_k2 {a b : List Rpt} {k : Nat} (hk : k = 1) (h : logF (selL a b k) = 0) : logF b = 0 := by
  subst hk; exact h
theorem join_f2 {a b : List Rpt} (ha : logF a = 0) (hb : logF b = 0) (h : clashB a b = true) : joinF a b = 12 ∧ joinR a b = [] := by
  have e : joinF a b = 12 := by
    unfold joinF
    rw [if_neg (by rw [ha]; simp), if_neg (by rw [hb]; simp), if_pos h]
  exact ⟨e, join_len (by rw [e]; decide)⟩
theorem join_f3 {a b : List Rpt} (ha : logF a = 0) (hb : logF b = 0) (h : clashB a b = false) (hl : 300 < (a ++ newK a b).length) : joinF a b = 2 ∧ joinR a b = [] := by
  have e : joinF a b = 2 := by
    unfold joinF
    rw [if_neg (by rw [ha]; simp), if_neg (by rw [hb]; simp), if_neg (by rw [h]; simp), if_pos hl]
  exact ⟨e, join_len (by rw [e]; decide)⟩
theorem join_f4 {a b : List Rpt} (ha : logF a = 0) (hb : logF b = 0) (h : clashB a b = false) (hl : ¬ 300 < (a ++ newK a b).length) : joinF a b = 0 ∧ joinR a b = sortR (a ++ newK a b) := by
  have e : joinF a b = 0 := by
    unfold joinF
    rw [if_neg (by rw [ha]; simp), if_neg (by rw [hb]; simp), if_neg (by rw [h]; simp), if_neg hl]
  exact ⟨e, joinR_ok e⟩
theorem clash_hit {a b : List Rpt} {k j : Nat} (hk : k < b.length) (hj : j < a.length) (hs : sameK a[j] b[k] = true) (hne : ¬ a[j] = b[k]) : clashB a b = true := by
  cases h : clashB a b with
  | true => rfl
  | false => exact absurd (clash_no.1 h _ (List.getElem_mem hk) _ (List.getElem_mem hj) hs) hne
theorem new_snoc {a b : List Rpt} {k : Nat} (hk : k < b.length) : newK a (b.take (k + 1)) = newK a (b.take k) ++ (if hasK a b[k] = true then [] else [b[k]]) := by
  unfold newK
  rw [List.take_add_one, List.getElem?_eq_getElem hk, Option.toList_some, List.filter_append, List.filter_cons, List.filter_nil]
  cases hasK a b[k] <;> rfl
theorem clash_snoc {a b : List Rpt} {k : Nat} (hk : k < b.length) (h : clashB a (b.take k) = false) (h2 : ∀ y ∈ a, sameK y b[k] = true → y = b[k]) : clashB a (b.take (k + 1)) = false := by
  rw [clash_no] at *
  intro x hx y hy hs
  rw [List.take_add_one, List.getElem?_eq_getElem hk, Option.toList_some, List.mem_append, List.mem_singleton] at hx
  rcases hx with hx | rfl
  · exact h x hx y hy hs
  · exact h2 y hy hs
theorem miss_all {a : List Rpt} {x : Rpt} (h : hasK a x = false) : ∀ y ∈ a, sameK y x = true → y = x := fun y hy hs => by
  rw [hasK_iff.2 ⟨y, hy, hs⟩] at h; cases h
theorem same_one {a : List Rpt} (hr : Rise a) {j : Nat} (hj : j < a.length) {x : Rpt} (hs : sameK a[j] x = true) (he : a[j] = x) : ∀ y ∈ a, sameK y x = true → y = x := fun y hy hk => by
  subst he
  obtain ⟨i, hi, rfl⟩ := List.mem_iff_getElem.1 hy
  have hd := rise_dist hr
  rcases Nat.lt_trichotomy i j with h1 | h1 | h1
  · have := List.pairwise_iff_getElem.1 hd i j hi hj h1
    rw [hk] at this; cases this
  · subst h1; rfl
  · have := List.pairwise_iff_getElem.1 hd j i hj hi h1
    rw [sameK_symm hk] at this; cases this
theorem newK_len (a b : List Rpt) : (newK a b).length ≤ b.length := List.length_filter_le _ _


set_option maxRecDepth 100000 in
set_option maxHeartbeats 8000000 in
theorem c_pJoin (a b : List Rpt) (ha : ∀ x ∈ a, okRpt x) (hb : ∀ x ∈ b, okRpt x) : ACallT Tryd.prog MaxT 16 [.sl (a.map Rpt.ds), .sl (b.map Rpt.ds)] (.tup [.sl ((joinR a b).map Rpt.ds), .v (.int .i64 (joinF a b))]) := by
  refine acall_ofT (n := 93) (ds' := [.sl ((joinR a b).map Rpt.ds), .v (.int .i64 (joinF a b))]) Tryd.func16 rfl (by kernel_rfl) rfl [4, 5] rfl rfl ?_
  intro B w0 F0 hT
  refine AWP.seq (AWP.region ?_)
  refine AOps.aD rfl rfl rfl rfl rfl ?_
  refine AOps.aD rfl rfl rfl rfl rfl (.nil ?_)
  refine AWP.seq ?_
  refine AWP.seq (AWP.region ?_)
  refine AOps.mD rfl rfl rfl rfl rfl ?_
  refine AOps.mD rfl rfl rfl rfl rfl ?_
  refine AOps.step rfl rfl rfl (AOp.buildSlice rfl et_86 (.cons rfl rfl rfl (.cons rfl rfl rfl .nil)) rfl (by decide)) ?_
  refine AOps.step rfl rfl rfl (AOp.lenSl rfl et_86.ht rfl) ?_
  refine AOps.mD rfl rfl rfl rfl rfl (.nil ?_)
  refine AWP.block ?_
  refine AWP.loop (G := Nat) (fun k => Env.of [(21, .d (.v (.int .i64 (k : Int)))), (19, .d (.sl [[.sl (a.map Rpt.ds)], [.sl (b.map Rpt.ds)]])), (20, .d (.v (.int .i64 2))), (0, .d (.sl (a.map Rpt.ds))), (1, .d (.sl (b.map Rpt.ds)))]) (fun k => []) (fun k => k ≤ 2 ∧ (0 < k → logF a = 0) ∧ (1 < k → logF b = 0)) (fun k => 2 - k) 0 ⟨by omega, fun h => by omega, fun h => by omega⟩ (Sub.less ⟨(SLe.of_eq rfl), (SLe.of_eq rfl), (SLe.of_eq rfl), SLe.refl _, SLe.refl _, trivial⟩ (fun _ h => h)) ?_
  intro k hk
  refine AWP.seq (AWP.region ?_)
  refine AOps.step rfl rfl rfl (AOp.lss rfl rfl rfl) (.nil ?_)
  refine AWP.seq ?_
  refine AWP.cond rfl (fun h1 => ?_) (fun h1 => ?_)
  · replace h1 := of_decide_eq_true h1
    have hlt : k < 2 := by omega
    refine AWP.skip ?_
    refine AWP.seq ?_
    refine AWP.block ?_
    refine AWP.seq (AWP.region ?_)
    refine AOps.step rfl rfl rfl (AOp.indexAddr rfl et_86 rfl rfl k rfl (sel_at hlt) rfl) ?_
    refine AOps.step rfl rfl rfl (AOp.load rfl sc_40 rfl) ?_
    refine AOps.aD rfl rfl rfl rfl rfl (.nil ?_)
    refine AWP.seq (AWP.region ?_)
    refine AOps.mD rfl rfl rfl rfl rfl ?_
    -- wants the world
    refine AOps.callT rfl rfl rfl hT maxT_stays rfl (.cons (ArgOk.rfl' rfl) .nil) (c_pLog (selL a b k) (sel_ok ha hb)) ?_
    refine AOps.aD rfl rfl rfl rfl rfl (.nil ?_)
    refine AWP.seq (AWP.region ?_)
    refine AOps.mD rfl rfl rfl rfl rfl ?_
    refine AOps.step rfl rfl rfl (AOp.neq rfl rfl rfl) (.nil ?_)
    refine AWP.cond rfl (fun h2 => ?_) (fun h2 => ?_)
    · replace h2 := of_decide_eq_true h2
      obtain ⟨HF, HR⟩ := join_f1 hlt hk.2.1 h2
      rw [HF, HR]
      refine AWP.seq (AWP.region ?_)
      refine AOps.mD rfl rfl rfl rfl rfl ?_
      refine AOps.aD rfl rfl rfl rfl rfl ?_
      refine AOps.aD rfl rfl rfl rfl rfl (.nil ?_)
      refine AWP.ret ?_
      refine ⟨RetD.nil rfl, RetD.eq rfl ?_, trivial⟩
      all_goals (rfl)
    replace h2 := of_decide_eq_false h2
    have h0 : logF (selL a b k) = 0 := by omega
    refine AWP.skip ?_
    refine AWP.region ?_
    refine AOps.step rfl rfl rfl (AOp.add64 rfl rfl rfl (by omega) (by omega)) ?_
    refine AOps.mD rfl rfl rfl rfl rfl (.nil ?_)
    refine ⟨k + 1, ⟨by omega, fun _ => join_k1 hlt hk.2.1 h0, fun _ => join_k2 (by omega) h0⟩, (by dsimp only; omega), Sub.less ⟨(SLe.of_eq rfl), SLe.refl _, SLe.refl _, SLe.refl _, SLe.refl _, trivial⟩ (fun _ h => h)⟩
  replace h1 := of_decide_eq_false h1
  obtain rfl : k = 2 := by omega
  have hla := hk.2.1 (by omega)
  have hlb := hk.2.2 (by omega)
  have la := log_of hla
  have lb := log_of hlb
  have hal := la.len
  have hbl := lb.len
  refine AWP.exit ?_
  refine AWP.seq (AWP.region ?_)
  refine AOps.aD rfl rfl rfl rfl rfl (.nil ?_)
  refine AWP.seq ?_
  refine AWP.seq (AWP.region ?_)
  refine AOps.mD rfl rfl rfl rfl rfl ?_
  refine AOps.step rfl rfl rfl (AOp.lenSl rfl et_40.ht rfl) ?_
  refine AOps.mD rfl rfl rfl rfl rfl (.nil ?_)
  refine AWP.block ?_
  refine AWP.adopt 9 61 48 5 rfl rfl ?_
  refine AWP.loop (G := Nat) (fun k => Env.of [(33, .d (.v (.int .i64 (k : Int)))), (31, .d (.sl (a.map Rpt.ds))), (32, .d (.v (.int .i64 ((a.map Rpt.ds).length : Int)))), (0, .d (.sl (a.map Rpt.ds))), (1, .d (.sl (b.map Rpt.ds))), (9, .own 61)]) (fun k => [(61, .row 48 5 ((a.take k).map Rpt.ds))]) (fun k => k ≤ a.length) (fun k => a.length - k) 0 (Nat.zero_le _) (Sub.less ⟨(SLe.of_eq rfl), SLe.refl _, SLe.refl _, SLe.refl _, SLe.refl _, SLe.refl _, trivial⟩ (row_sameM rfl)) ?_
  intro k hk
  refine AWP.seq (AWP.region ?_)
  refine AOps.step rfl rfl rfl (AOp.lss rfl rfl rfl) (.nil ?_)
  refine AWP.seq ?_
  refine AWP.cond rfl (fun h3 => ?_) (fun h3 => ?_)
  · replace h3 := of_decide_eq_true h3
    rw [List.length_map] at h3
    have hlt : k < a.length := by omega
    refine AWP.skip ?_
    refine AWP.seq ?_
    refine AWP.block ?_
    refine AWP.seq (AWP.region ?_)
    refine AOps.step rfl rfl rfl (AOp.indexAddr rfl et_40 rfl rfl k rfl (at_lst hlt) rfl) ?_
    refine AOps.step rfl rfl rfl (AOp.loadAgg rfl ag_48 rfl rfl) ?_
    refine AOps.alloc 101 rfl rfl rfl rfl zt_48 rfl rfl rfl ?_
    refine AOps.store rfl rfl rfl sz_48 rfl (.head _) rfl rfl rfl (Nat.le_of_ble_eq_true rfl) ?_
    refine AOps.freezeCells 11 (ds := a[k].ds) rfl (.head _) (.nil ?_)
    refine AWP.region ?_
    refine AOps.step rfl rfl rfl (AOp.moveO rfl rfl) ?_
    refine AOps.step rfl rfl rfl (AOp.loadAgg rfl ag_48 rfl rfl) ?_
    refine AOps.step rfl rfl rfl (AOp.call rfl (.cons (ArgOk.rfl' rfl) .nil) (c_own a[k] (by have := rpt_lines (la.ok _ (List.getElem_mem hlt)); omega))) ?_
    refine AOps.step rfl rfl rfl (AOp.buildSlice rfl et_40 (.cons rfl rfl rfl .nil) rfl (by decide)) ?_
    -- append 41
    refine AOps.append rfl rfl rfl rfl et_40 rfl (.head _) rfl (fun y hy => by obtain rfl := List.mem_singleton.1 hy; rfl) (by simp; omega) (by simp; omega) ?_
    refine AOps.step rfl rfl rfl (AOp.assignO rfl rfl) (.nil ?_)
    refine AWP.region ?_
    refine AOps.step rfl rfl rfl (AOp.add64 rfl rfl rfl (by omega) (by omega)) ?_
    refine AOps.mD rfl rfl rfl rfl rfl (.nil ?_)
    refine ⟨k + 1, (by omega), (by dsimp only; omega), Sub.less ⟨(SLe.of_eq rfl), SLe.refl _, SLe.refl _, SLe.refl _, SLe.refl _, SLe.refl _, trivial⟩ (row_sameM (by rw [List.take_add_one, List.getElem?_eq_getElem hlt, Option.toList_some, List.map_append]; rfl))⟩
  replace h3 := of_decide_eq_false h3
  rw [List.length_map] at h3
  obtain rfl : k = a.length := by omega
  rw [List.take_length]
  refine AWP.exit ?_
  refine AWP.seq ?_
  refine AWP.seq (AWP.region ?_)
  refine AOps.mD rfl rfl rfl rfl rfl ?_
  refine AOps.step rfl rfl rfl (AOp.lenSl rfl et_40.ht rfl) ?_
  refine AOps.mD rfl rfl rfl rfl rfl (.nil ?_)
  refine AWP.block ?_
  refine AWP.loop (G := Nat) (fun k => Env.of [(45, .d (.v (.int .i64 (k : Int)))), (43, .d (.sl (b.map Rpt.ds))), (44, .d (.v (.int .i64 ((b.map Rpt.ds).length : Int)))), (0, .d (.sl (a.map Rpt.ds))), (9, .own 61)]) (fun k => [(61, .row 48 5 ((a ++ newK a (b.take k)).map Rpt.ds))]) (fun k => k ≤ b.length ∧ clashB a (b.take k) = false) (fun k => b.length - k) 0 ⟨Nat.zero_le _, by rw [List.take_zero]; rfl⟩ (Sub.less ⟨(SLe.of_eq rfl), SLe.refl _, SLe.refl _, SLe.refl _, SLe.refl _, trivial⟩ (row_sameM (by rw [List.take_zero]; simp [newK]))) ?_
  intro k hk
  refine AWP.seq (AWP.region ?_)
  refine AOps.step rfl rfl rfl (AOp.lss rfl rfl rfl) (.nil ?_)
  refine AWP.seq ?_
  refine AWP.cond rfl (fun h4 => ?_) (fun h4 => ?_)
  · replace h4 := of_decide_eq_true h4
    rw [List.length_map] at h4
    have hlt : k < b.length := by omega
    have hnl := newK_len a (b.take k)
    have hns := new_snoc (a := a) hlt
    rw [List.length_take] at hnl
    have hhe := hasR_eq la.rise b[k]
    refine AWP.skip ?_
    refine AWP.seq ?_
    refine AWP.block ?_
    refine AWP.seq (AWP.region ?_)
    refine AOps.step rfl rfl rfl (AOp.indexAddr rfl et_40 rfl rfl k rfl (at_lst hlt) rfl) ?_
    refine AOps.step rfl rfl rfl (AOp.loadAgg rfl ag_48 rfl rfl) ?_
    refine AOps.alloc 102 rfl rfl rfl rfl zt_48 rfl rfl rfl ?_
    refine AOps.store rfl rfl rfl sz_48 rfl (.head _) rfl rfl rfl (Nat.le_of_ble_eq_true rfl) ?_
    refine AOps.freezeCells 13 (ds := b[k].ds) rfl (.head _) (.nil ?_)
    refine AWP.seq (AWP.region ?_)
    refine AOps.mD rfl rfl rfl rfl rfl ?_
    refine AOps.step rfl rfl rfl (AOp.loadAgg rfl ag_48 rfl rfl) ?_
    refine AOps.step rfl rfl rfl (AOp.call rfl (.cons (ArgOk.rfl' rfl) (.cons (ArgOk.rfl' rfl) (.cons (ArgOk.fn rfl) .nil))) (c_bsR a b[k] (by have := la.len; omega))) ?_
    refine AOps.mD rfl rfl rfl rfl rfl ?_
    refine AOps.step rfl rfl rfl (AOp.extract rfl rfl rfl) ?_
    refine AOps.step rfl rfl rfl (AOp.extract rfl rfl rfl) ?_
    refine AOps.aD rfl rfl rfl rfl rfl ?_
    refine AOps.aD rfl rfl rfl rfl rfl (.nil ?_)
    refine AWP.seq ?_
    refine AWP.seq (AWP.region ?_)
    refine AOps.mD rfl rfl rfl rfl rfl ?_
    refine AOps.step rfl rfl rfl (AOp.not rfl rfl) (.nil ?_)
    refine AWP.cond rfl (fun h5 => ?_) (fun h5 => ?_)
    · replace h5 := bnot_t h5
      have hno : hasK a b[k] = false := by rw [← hhe]; exact h5
      rw [hno, if_neg (by decide)] at hns
      have HC := clash_snoc hlt hk.2 (miss_all hno)
      refine AWP.seq (AWP.region ?_)
      refine AOps.step rfl rfl rfl (AOp.moveO rfl rfl) ?_
      refine AOps.step rfl rfl rfl (AOp.loadAgg rfl ag_48 rfl rfl) ?_
      refine AOps.step rfl rfl rfl (AOp.call rfl (.cons (ArgOk.rfl' rfl) .nil) (c_own b[k] (by have := rpt_lines (lb.ok _ (List.getElem_mem hlt)); omega))) ?_
      refine AOps.step rfl rfl rfl (AOp.buildSlice rfl et_40 (.cons rfl rfl rfl .nil) rfl (by decide)) ?_
      -- append 61
      refine AOps.append rfl rfl rfl rfl et_40 rfl (.head _) rfl (fun y hy => by obtain rfl := List.mem_singleton.1 hy; rfl) (by simp; omega) (by simp; omega) ?_
      refine AOps.step rfl rfl rfl (AOp.assignO rfl rfl) (.nil ?_)
      refine AWP.exit ?_
      refine AWP.region ?_
      refine AOps.step rfl rfl rfl (AOp.add64 rfl rfl rfl (by omega) (by omega)) ?_
      refine AOps.mD rfl rfl rfl rfl rfl (.nil ?_)
      refine ⟨k + 1, ⟨by omega, HC⟩, (by dsimp only; omega), Sub.less ⟨(SLe.of_eq rfl), SLe.refl _, SLe.refl _, SLe.refl _, SLe.refl _, trivial⟩ (row_sameM (by first | (rw [hns]; done) | (rw [hns, ← List.append_assoc, List.map_append (l₂ := [b[k]])]; rfl)))⟩
    replace h5 := bnot_f h5
    have hyes : hasR a b[k] = true := h5
    obtain ⟨hp, hs⟩ := hasR_yes hyes
    rw [← hhe, hyes, if_pos rfl, List.append_nil] at hns
    refine AWP.skip ?_
    refine AWP.seq (AWP.region ?_)
    refine AOps.mD rfl rfl rfl rfl rfl ?_
    refine AOps.mD rfl rfl rfl rfl rfl ?_
    refine AOps.step rfl rfl rfl (AOp.indexAddr rfl et_40 rfl rfl (posR a b[k]) rfl (at_lst hp) rfl) ?_
    refine AOps.step rfl rfl rfl (AOp.loadAgg rfl ag_48 rfl rfl) ?_
    refine AOps.alloc 103 rfl rfl rfl rfl zt_48 rfl rfl rfl ?_
    refine AOps.store rfl rfl rfl sz_48 rfl (.head _) rfl rfl rfl (Nat.le_of_ble_eq_true rfl) ?_
    refine AOps.freezeCells 16 (ds := a[posR a b[k]].ds) rfl (.head _) (.nil ?_)
    refine AWP.seq (AWP.region ?_)
    refine AOps.step rfl rfl rfl (AOp.fieldAddr rfl fo_48_2 rfl) ?_
    refine AOps.step rfl rfl rfl (AOp.load rfl sc_3 rfl) ?_
    refine AOps.step rfl rfl rfl (AOp.fieldAddr rfl fo_48_2 rfl) ?_
    refine AOps.step rfl rfl rfl (AOp.load rfl sc_3 rfl) ?_
    refine AOps.step rfl rfl rfl (AOp.neq rfl rfl rfl) ?_
    refine AOps.mD rfl rfl rfl rfl rfl ?_
    refine AOps.split 71 rfl (fun g6 => ?_) (fun g6 => ?_)
    · replace g6 := of_decide_eq_true g6
      obtain ⟨HF, HR⟩ := join_f2 hla hlb (clash_hit hlt hp hs (fun e => g6 (by rw [e])))
      rw [HF, HR]
      refine AOps.pass ⟨71, rfl, .inl ⟨_, rfl, rfl⟩⟩ rfl rfl ?_
      refine AOps.pass ⟨71, rfl, .inl ⟨_, rfl, rfl⟩⟩ rfl rfl ?_
      refine AOps.pass ⟨71, rfl, .inl ⟨_, rfl, rfl⟩⟩ rfl rfl ?_
      refine AOps.pass ⟨71, rfl, .inl ⟨_, rfl, rfl⟩⟩ rfl rfl ?_
      refine AOps.pass ⟨71, rfl, .inl ⟨_, rfl, rfl⟩⟩ rfl rfl ?_
      refine AOps.step rfl rfl rfl (AOp.pickT rfl rfl rfl) ?_
      refine AOps.mD rfl rfl rfl rfl rfl ?_
      refine AOps.pass ⟨78, rfl, .inl ⟨_, rfl, rfl⟩⟩ rfl rfl ?_
      refine AOps.pass ⟨78, rfl, .inl ⟨_, rfl, rfl⟩⟩ rfl rfl ?_
      refine AOps.pass ⟨78, rfl, .inl ⟨_, rfl, rfl⟩⟩ rfl rfl ?_
      refine AOps.pass ⟨78, rfl, .inl ⟨_, rfl, rfl⟩⟩ rfl rfl ?_
      refine AOps.pass ⟨78, rfl, .inl ⟨_, rfl, rfl⟩⟩ rfl rfl ?_
      refine AOps.pass ⟨78, rfl, .inl ⟨_, rfl, rfl⟩⟩ rfl rfl ?_
      refine AOps.step rfl rfl rfl (AOp.pickT rfl rfl rfl) (.nil ?_)
      refine AWP.cond rfl (fun _ => ?_) (fun h => nomatch h)
      refine AWP.seq (AWP.region ?_)
      refine AOps.aD rfl rfl rfl rfl rfl ?_
      refine AOps.aD rfl rfl rfl rfl rfl (.nil ?_)
      refine AWP.ret ?_
      refine ⟨RetD.nil rfl, RetD.eq rfl ?_, trivial⟩
      all_goals (rfl)
    replace g6 := of_decide_eq_false g6
    have e3 : b[k].period = a[posR a b[k]].period := by omega
    refine AOps.step ⟨71, rfl, .inl ⟨_, rfl, rfl⟩⟩ rfl rfl (AOp.fieldAddr rfl fo_48_3 rfl) ?_
    refine AOps.step ⟨71, rfl, .inl ⟨_, rfl, rfl⟩⟩ rfl rfl (AOp.load rfl sc_3 rfl) ?_
    refine AOps.step ⟨71, rfl, .inl ⟨_, rfl, rfl⟩⟩ rfl rfl (AOp.fieldAddr rfl fo_48_3 rfl) ?_
    refine AOps.step ⟨71, rfl, .inl ⟨_, rfl, rfl⟩⟩ rfl rfl (AOp.load rfl sc_3 rfl) ?_
    refine AOps.step ⟨71, rfl, .inl ⟨_, rfl, rfl⟩⟩ rfl rfl (AOp.neq rfl rfl rfl) ?_
    refine AOps.step rfl rfl rfl (AOp.pickF rfl rfl rfl) ?_
    refine AOps.mD rfl rfl rfl rfl rfl ?_
    refine AOps.split 78 rfl (fun g7 => ?_) (fun g7 => ?_)
    · replace g7 := of_decide_eq_true g7
      obtain ⟨HF, HR⟩ := join_f2 hla hlb (clash_hit hlt hp hs (fun e => g7 (by rw [e])))
      rw [HF, HR]
      refine AOps.pass ⟨78, rfl, .inl ⟨_, rfl, rfl⟩⟩ rfl rfl ?_
      refine AOps.pass ⟨78, rfl, .inl ⟨_, rfl, rfl⟩⟩ rfl rfl ?_
      refine AOps.pass ⟨78, rfl, .inl ⟨_, rfl, rfl⟩⟩ rfl rfl ?_
      refine AOps.pass ⟨78, rfl, .inl ⟨_, rfl, rfl⟩⟩ rfl rfl ?_
      refine AOps.pass ⟨78, rfl, .inl ⟨_, rfl, rfl⟩⟩ rfl rfl ?_
      refine AOps.pass ⟨78, rfl, .inl ⟨_, rfl, rfl⟩⟩ rfl rfl ?_
      refine AOps.step rfl rfl rfl (AOp.pickT rfl rfl rfl) (.nil ?_)
      refine AWP.cond rfl (fun _ => ?_) (fun h => nomatch h)
      refine AWP.seq (AWP.region ?_)
      refine AOps.aD rfl rfl rfl rfl rfl ?_
      refine AOps.aD rfl rfl rfl rfl rfl (.nil ?_)
      refine AWP.ret ?_
      refine ⟨RetD.nil rfl, RetD.eq rfl ?_, trivial⟩
      all_goals (rfl)
    replace g7 := of_decide_eq_false g7
    have e4 : b[k].corrects = a[posR a b[k]].corrects := by omega
    refine AOps.step ⟨78, rfl, .inl ⟨_, rfl, rfl⟩⟩ rfl rfl (AOp.fieldAddr rfl fo_48_4 rfl) ?_
    refine AOps.step ⟨78, rfl, .inl ⟨_, rfl, rfl⟩⟩ rfl rfl (AOp.load rfl sc_46 rfl) ?_
    refine AOps.step ⟨78, rfl, .inl ⟨_, rfl, rfl⟩⟩ rfl rfl (AOp.fieldAddr rfl fo_48_4 rfl) ?_
    refine AOps.step ⟨78, rfl, .inl ⟨_, rfl, rfl⟩⟩ rfl rfl (AOp.load rfl sc_46 rfl) ?_
    refine AOps.step ⟨78, rfl, .inl ⟨_, rfl, rfl⟩⟩ rfl rfl (AOp.call rfl (.cons (ArgOk.rfl' rfl) (.cons (ArgOk.rfl' rfl) .nil)) (c_eqUsd _ _)) ?_
    refine AOps.step ⟨78, rfl, .inl ⟨_, rfl, rfl⟩⟩ rfl rfl (AOp.not rfl rfl) ?_
    refine AOps.step rfl rfl rfl (AOp.pickF rfl rfl rfl) (.nil ?_)
    refine AWP.cond rfl (fun h8 => ?_) (fun h8 => ?_)
    · replace h8 := bnot_t h8; replace h8 := of_decide_eq_false h8
      obtain ⟨HF, HR⟩ := join_f2 hla hlb (clash_hit hlt hp hs (fun e => h8 (by rw [e])))
      rw [HF, HR]
      refine AWP.seq (AWP.region ?_)
      refine AOps.aD rfl rfl rfl rfl rfl ?_
      refine AOps.aD rfl rfl rfl rfl rfl (.nil ?_)
      refine AWP.ret ?_
      refine ⟨RetD.nil rfl, RetD.eq rfl ?_, trivial⟩
      all_goals (rfl)
    replace h8 := bnot_f h8; replace h8 := of_decide_eq_true h8
    have HC := clash_snoc hlt hk.2 (same_one la.rise hp hs (rpt_ext hs e3.symm e4.symm (Eq.symm h8)))
    refine AWP.skip ?_
    refine AWP.region ?_
    refine AOps.step rfl rfl rfl (AOp.add64 rfl rfl rfl (by omega) (by omega)) ?_
    refine AOps.mD rfl rfl rfl rfl rfl (.nil ?_)
    refine ⟨k + 1, ⟨by omega, HC⟩, (by dsimp only; omega), Sub.less ⟨(SLe.of_eq rfl), SLe.refl _, SLe.refl _, SLe.refl _, SLe.refl _, trivial⟩ (row_sameM (by first | (rw [hns]; done) | (rw [hns, ← List.append_assoc, List.map_append (l₂ := [b[k]])]; rfl)))⟩
  replace h4 := of_decide_eq_false h4
  rw [List.length_map] at h4
  obtain rfl : k = b.length := by omega
  have hcl := hk.2
  rw [List.take_length] at hcl ⊢
  have hnl := newK_len a b
  refine AWP.exit ?_
  refine AWP.seq ?_
  refine AWP.seq (AWP.region ?_)
  refine AOps.step rfl rfl rfl (AOp.moveO rfl rfl) ?_
  refine AOps.step rfl rfl rfl (AOp.lenOwn rfl et_40.ht rfl (.head _)) ?_
  refine AOps.step rfl rfl rfl (AOp.gtr rfl rfl rfl) (.nil ?_)
  refine AWP.cond rfl (fun h9 => ?_) (fun h9 => ?_)
  · replace h9 := of_decide_eq_true h9
    rw [List.length_map] at h9
    obtain ⟨HF, HR⟩ := join_f3 hla hlb hcl (by omega)
    rw [HF, HR]
    refine AWP.seq (AWP.region ?_)
    refine AOps.aD rfl rfl rfl rfl rfl ?_
    refine AOps.aD rfl rfl rfl rfl rfl (.nil ?_)
    refine AWP.ret ?_
    refine ⟨RetD.nil rfl, RetD.eq rfl ?_, trivial⟩
    all_goals (rfl)
  replace h9 := of_decide_eq_false h9
  rw [List.length_map] at h9
  obtain ⟨HF, HR⟩ := join_f4 hla hlb hcl (by omega)
  rw [HF, HR]
  refine AWP.skip ?_
  refine AWP.seq (AWP.region ?_)
  refine AOps.step rfl rfl rfl (AOp.moveO rfl rfl) ?_
  -- turns 61
  refine AOps.callX rfl rfl rfl (.cons (SLe.refl _) (.cons (SLe.fn _) .nil)) ((c_sortR (a ++ newK a b) (by omega) (uni_dist la.rise lb.rise) 48) 61) ⟨(.head _), trivial⟩ rfl rfl (fun _ h => nomatch h) ?_
  refine AOps.nil ?_
  refine AWP.seq (AWP.region ?_)
  refine AOps.step rfl rfl rfl (AOp.moveO rfl rfl) ?_
  refine AOps.step rfl rfl rfl (AOp.assignO rfl rfl) ?_
  refine AOps.aD rfl rfl rfl rfl rfl (.nil ?_)
  refine AWP.ret ?_
  refine ⟨RetD.own rfl (.head _) ?_, RetD.eq rfl ?_, trivial⟩
  all_goals (rfl)

end Go.Proofs.YtfajemnegkfigaaDoor


namespace Go.Proofs.YtfajemnegkfigaaDoor
open Go.RowKit
set_option linter.unusedVariables false

/-- What it is as data, while the own objects rest. -/
inductive Snap (σ : Obs) : S → D → Prop where
  | d (x : D) : Snap σ (.d x) x
  | any (s : S) : Snap σ s .any
  | le {s : S} {d d' : D} (h : Snap σ s d) (k : Le d d') : Snap σ s d'
  | row {id e size : Nat} {els : List (List D)} (h : (id, Ob.row e size els) ∈ σ) : Snap σ (.own id) (.sl els)
  | rowS {id e size : Nat} {els : List (List S)} {ds : List (List D)} (h : (id, Ob.rowS e size els) ∈ σ) (hl : els.length = ds.length) (hs : ∀ i (h1 : i < els.length) (h2 : i < ds.length), els[i].length = ds[i].length)
      (hr : ∀ i (h1 : i < els.length) (h2 : i < ds.length) j (h3 : j < els[i].length) (h4 : j < ds[i].length), Snap σ els[i][j] ds[i][j]) : Snap σ (.own id) (.sl ds)
  | val {id : Nat} {ss : List S} {ds : List D} (h : (id, Ob.val ss) ∈ σ) (hl : ss.length = ds.length) (hr : ∀ i (h1 : i < ss.length) (h2 : i < ds.length), Snap σ ss[i] ds[i]) : Snap σ (.own id) (.agg ds)
  | ptr {id off : Nat} {ss : List S} {ds : List D} (h : (id, Ob.cells ss) ∈ σ) (hl : off + ds.length ≤ ss.length) (hr : ∀ i (h1 : off + i < ss.length) (h2 : i < ds.length), Snap σ ss[off + i] ds[i]) : Snap σ (.ptr id off) (.fp ds)
  | ptrS {id e size k : Nat} {els : List (List S)} {ds : List D} (h : (id, Ob.rowS e size els) ∈ σ) (hk : k < els.length) (hl : els[k].length = ds.length) (hr : ∀ j (h1 : j < els[k].length) (h2 : j < ds.length), Snap σ els[k][j] ds[j]) : Snap σ (.ptr id (k * size)) (.fp ds)
  | clo {f : FuncId} {caps : List Cap} {ds : List D} (hl : caps.length = ds.length) (hr : ∀ i (h1 : i < caps.length) (h2 : i < ds.length), Snap σ caps[i].toS ds[i]) : Snap σ (.clo f caps) (.clo (.func f) ds)

/-- Data that holds no memory. -/
inductive Plain : D → Prop where
  | v (x : Value) : Plain (.v x)
  | any : Plain .any
  | agg (ds : List D) (h : ∀ d ∈ ds, Plain d) : Plain (.agg ds)
  | tup (ds : List D) (h : ∀ d ∈ ds, Plain d) : Plain (.tup ds)
def SnapArgs (e : Env) (σ : Obs) : List Operand → List D → Prop
  | [], [] => True
  | x :: xs, d :: ds => Snap σ (e.ev x) d ∧ SnapArgs e σ xs ds
  | _, _ => False
theorem SnapArgs.nil {e : Env} {σ : Obs} : SnapArgs e σ [] [] := trivial
section
variable {P : Program} {B : Nat} {ops : Array Oper} {o : Oper} {e : Env} {σ : Obs}
/-- What of it is data. -/
def S.weak : S → D
  | .d x => x
  | _ => .any
def Ob.weak : Ob → Ob
  | .rowS e size els => .row e size (els.map fun ss => ss.map S.weak)
  | o => o
def Obs.weak : Obs → Obs
  | [] => []
  | p :: l => (p.1, p.2.weak) :: Obs.weak l
end
section
variable {cx : Cx} {ops : Array Oper} {o : Oper} {rest : List Oper} {e : Env} {σ : Obs} {Q : Post}
theorem AllIn.of {σ : Obs} : ∀ {l : Obs}, (∀ p ∈ l, p ∈ σ) → AllIn σ l
  | [], _ => trivial
  | x :: l, h => ⟨h x (by simp), AllIn.of fun p hp => h p (List.mem_cons_of_mem _ hp)⟩
end
end Go.Proofs.YtfajemnegkfigaaDoor


namespace Go.Proofs.YtfajemnegkfigaaDoor
open Go.RowKit
set_option linter.unusedVariables false

/-- One cell's worth. -/
def OneS (σ : Obs) (s : S) : Prop := (∃ x : D, s = .d x ∧ x.one = true ∧ x.parts = [x]) ∨ ∃ i ee size els, s = .own i ∧ (i, Ob.row ee size els) ∈ σ
theorem OneS.d {σ : Obs} {x : D} (h1 : x.one = true) (h2 : x.parts = [x]) : OneS σ (.d x) := .inl ⟨x, rfl, h1, h2⟩
theorem OneS.own {σ : Obs} {i ee size : Nat} {els : List (List D)} (h : (i, Ob.row ee size els) ∈ σ) : OneS σ (.own i) := .inr ⟨i, ee, size, els, rfl, h⟩
section
variable {cx : Cx} {ops : Array Oper} {o : Oper} {rest : List Oper} {e : Env} {σ : Obs} {Q : Post}
end
/-! A family of own rows: the numbers b + k, b + k + 1, .. -/
def fam (e size : Nat) : Nat → List (List (List D)) → Obs
  | _, [] => []
  | b, x :: l => (b, .row e size x) :: fam e size (b + 1) l
end Go.Proofs.YtfajemnegkfigaaDoor


namespace Go.Proofs.YtfajemnegkfigaaDoor
open Go.RowKit Go.Shelf
set_option linter.unusedVariables false

theorem setCells_turn (g : Nat) : ∀ (vs : List Value) (o : Nat) (w : World), Turn w (w.setCells g o vs) (some g)
  | [], _, _ => ⟨rfl, rfl, rfl, Nat.le_refl _, fun _ _ _ => rfl⟩
  | v :: vs, o, w => (setCell_turn w g o v).trans (setCells_turn g vs (o + 1) _)
theorem setCells_heap {g : Nat} {e : TypeId} : ∀ (vs : List Value) (o : Nat) (w : World) (cur : List Value), w.heap[g]? = some (.cells cur.toArray e (0, 0)) → o + vs.length ≤ cur.length →
    (w.setCells g o vs).heap[g]? = some (.cells (cur.take o ++ vs ++ cur.drop (o + vs.length)).toArray e (0, 0))
  | [], o, w, cur, h, _ => by simpa [World.setCells] using h
  | v :: vs, o, w, cur, h, hl => by
    simp only [List.length_cons] at hl
    have hset : (w.setCell ⟨g, o, none⟩ v).heap[g]? = some (.cells (cur.set o v).toArray e (0, 0)) := by
      unfold World.setCell
      simp [Array.getElem?_modify, h]
    rw [World.setCells, setCells_heap vs (o + 1) _ _ hset (by simp; omega)]
    congr 3
    have hn : o < cur.length := by omega
    apply List.ext_getElem?
    intro k
    rw [get3, get3]
    simp only [List.length_take, List.length_set, List.length_cons, Nat.min_eq_left (show o + 1 ≤ cur.length by omega), Nat.min_eq_left (show o ≤ cur.length by omega)]
    by_cases k1 : k < o
    · rw [if_pos (by omega), if_pos k1, List.getElem?_take, List.getElem?_take, if_pos (by omega), if_pos k1, List.getElem?_set, if_neg (by omega)]
    · by_cases k2 : k = o
      · subst k2
        rw [if_pos (by omega), if_neg (by omega), if_pos (by omega), List.getElem?_take, if_pos (by omega), List.getElem?_set, if_pos rfl, if_pos hn, Nat.sub_self]
        rfl
      · rw [if_neg (show ¬ k < o + 1 by omega), if_neg k1]
        by_cases k3 : k < o + 1 + vs.length
        · rw [if_pos k3, if_pos (by omega), show k - o = (k - (o + 1)) + 1 by omega, List.getElem?_cons_succ]
        · rw [if_neg k3, if_neg (by omega), List.getElem?_drop, List.getElem?_drop, List.getElem?_set, if_neg (by omega)]
          congr 1
          omega

/-- What Insert does with an own row. -/
structure InsEnd (B : Nat) (e : TypeId) (w : World) (v : Value) (n : Nat) (ys : List Value) (v' : Value) (w' : World) : Prop where
  own : w'.ownsRow B e 1 v' n ys
  turn : Turn w w' (blk v)
  new : ∀ g, blk v' = some g → blk v = some g ∨ w.heap.size ≤ g

theorem drew_turn (w : World) (row : Option Nat) : Turn w w.drew row := ⟨rfl, rfl, rfl, Nat.le_refl _, fun _ _ _ => rfl⟩
theorem alloc_turn (w : World) (o : Obj) (row : Option Nat) : Turn w (w.alloc o) row :=
  have h := (Below.refl w.heap.size w).alloc (Nat.le_refl _) o
  ⟨h.os, h.tape, h.output, h.size, fun k hk _ => h.block k hk⟩
/-- A block that was not there: the world as it was is what counts. -/
theorem Turn.behind {w a b : World} {g : Nat} {row : Option Nat} (h : Turn w a row) (hg : w.heap.size ≤ g) (k : Turn a b (some g)) : Turn w b row :=
  ⟨k.os.trans h.os, k.tape.trans h.tape, k.output.trans h.output, Nat.le_trans h.size k.size, fun i hi hne => (k.block i (Nat.lt_of_lt_of_le hi h.size) (fun e => by have := Option.some.inj e; omega)).trans (h.block i hi hne)⟩

theorem alloc_at (w : World) (o : Obj) : (w.alloc o).heap[w.heap.size]? = some o := (MapKept.heap_alloc w o).1

end Go.Proofs.YtfajemnegkfigaaDoor


namespace Go.Proofs.YtfajemnegkfigaaDoor
open Go.RowKit
set_option linter.unusedVariables false

/-- From k on each one waits for all before it but for the first b. -/
def Region.chain1B (ops : Array Oper) (b k : Nat) : Bool := Region.downB ops && Nat.ble k ops.size && Nat.ble b k && (List.range (ops.size - 1)).all fun j =>
  Nat.blt j b || (List.range ops.size).any fun m => Nat.blt j m && (Nat.ble m k || Nat.ble m (j + 1)) && Region.edge ops m j
structure Chain1 (ops : Array Oper) (b k : Nat) : Prop where
  down : Region.downB ops = true
  le : k ≤ ops.size
  bk : b ≤ k
  next : ∀ j, b ≤ j → j < ops.size - 1 → ∃ m, j < m ∧ (m ≤ k ∨ m ≤ j + 1) ∧ Region.edge ops m j = true
theorem Chain1.of {ops : Array Oper} {b k : Nat} (h : Region.chain1B ops b k = true) : Chain1 ops b k := by
  unfold Region.chain1B at h
  simp only [Bool.and_eq_true] at h
  obtain ⟨⟨⟨h1, h2⟩, h5⟩, h3⟩ := h
  refine ⟨h1, Nat.le_of_ble_eq_true h2, Nat.le_of_ble_eq_true h5, fun j hb hj => ?_⟩
  have h4 := List.all_eq_true.1 h3 j (List.mem_range.2 hj)
  rw [Bool.or_eq_true] at h4
  rcases h4 with h4 | h4
  · rw [Nat.blt_eq] at h4; omega
  · obtain ⟨m, _, hm⟩ := List.any_eq_true.1 h4
    simp only [Bool.and_eq_true, Bool.or_eq_true, Nat.blt_eq] at hm
    exact ⟨m, hm.1.1, hm.1.2.imp Nat.le_of_ble_eq_true Nat.le_of_ble_eq_true, hm.2⟩
section
variable {P : Program} {ops : Array Oper} {Q Q0 : Exit → Act → World → Prop} {b k : Nat}
end

def notSelect (o : Oper) : Bool := match o.op with | .select _ _ => false | _ => true
end Go.Proofs.YtfajemnegkfigaaDoor


namespace Go.Proofs.YtfajemnegkfigaaDoor
open Go.RowKit Go.Shelf
set_option linter.unusedVariables false

def intC (n : Int) : List D := [.v (.int .i64 n)]
section
variable {cx : Cx} {ops : Array Oper} {o : Oper} {rest : List Oper} {e : Env} {σ : Obs} {Q : Post}
end
section
variable {cx : Cx} {ops : Array Oper} {o : Oper} {rest : List Oper} {e : Env} {σ : Obs} {Q : Post}
end
def apartB (ops : Array Oper) (o0 : Oper) : Bool := (List.range ops.size).all fun j => Nat.beq j 0 || Region.edge ops j 0 || ((ops[j]?).map fun oj => o0.apart ops oj).getD true
def dstB (Φ : List Fr) (l : List Oper) : Bool := Φ.all fun f => (List.range l.length).all fun i => (List.range l.length).all fun j => Nat.beq i j || ((l[i]?).map fun o => neDst o f.dst).getD true || ((l[j]?).map fun o => neDst o f.dst).getD true
def openB (l : List Oper) (k2 k : Nat) (o0 : Oper) : Bool := Nat.blt 0 k2 && Nat.ble k2 k && Region.chainB l.toArray k && Region.chain1B (l.take k).toArray 1 k2 && (l.take k).all notSelect && apartB (l.take k).toArray o0 && (Array.all o0.after fun e => !(Region.binds .any e)) && Region.lexFrom .any (l.take k2).toArray (k2 - 1) 1 ((Array.replicate k2 false).setIfInBounds 0 true)
end Go.Proofs.YtfajemnegkfigaaDoor
