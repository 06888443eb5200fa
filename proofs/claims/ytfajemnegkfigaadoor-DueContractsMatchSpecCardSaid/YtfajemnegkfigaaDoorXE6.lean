/- Walks and laws over abstract values, merged by tools/merge.py. No statement of the seat. -/
import Derived.Laws.Cover3
import Derived.Test.YtfajemnegkfigaaDoorXE5

namespace Go.Proofs.YtfajemnegkfigaaDoor
open Go.RowKit
set_option linter.unusedVariables false

/-! Types. -/
namespace TyU6
theorem ag_26 : AggT Tryd.prog 26 3 := .of (by kernel_rfl)
theorem ag_66 : AggT Tryd.prog 66 3 := .of (by kernel_rfl)
theorem et_23 : ElemTy Tryd.prog 23 59 9 120 (.agg #[(.string ⟨#[]⟩), (.string ⟨#[]⟩), (.int .i64 0), (.int .i64 0), (.slice none 0 0), (.slice none 0 0), (.int .i64 0), (.int .i64 0), (.int .i64 0)]) := ⟨by kernel_rfl, by kernel_rfl, by kernel_rfl, by decide⟩
theorem et_24 : ElemTy Tryd.prog 24 55 3 48 (.agg #[(.string ⟨#[]⟩), (.int .i64 0), (.slice none 0 0)]) := ⟨by kernel_rfl, by kernel_rfl, by kernel_rfl, by decide⟩
theorem et_27 : ElemTy Tryd.prog 27 3 1 8 (.int .i64 0) := ⟨by kernel_rfl, by kernel_rfl, by kernel_rfl, by decide⟩
theorem et_28 : ElemTy Tryd.prog 28 66 3 32 (.agg #[(.string ⟨#[]⟩), (.int .i64 0), (.int .i64 0)]) := ⟨by kernel_rfl, by kernel_rfl, by kernel_rfl, by decide⟩
theorem fo_26_1 : fieldOff Tryd.prog 26 1 = some 1 := by kernel_rfl
theorem fo_26_2 : fieldOff Tryd.prog 26 2 = some 2 := by kernel_rfl
theorem fo_30_0 : fieldOff Tryd.prog 30 0 = some 0 := by kernel_rfl
theorem fo_30_1 : fieldOff Tryd.prog 30 1 = some 3 := by kernel_rfl
theorem fo_30_2 : fieldOff Tryd.prog 30 2 = some 4 := by kernel_rfl
theorem fo_30_3 : fieldOff Tryd.prog 30 3 = some 5 := by kernel_rfl
theorem fo_30_4 : fieldOff Tryd.prog 30 4 = some 6 := by kernel_rfl
theorem fo_59_0 : fieldOff Tryd.prog 59 0 = some 0 := by kernel_rfl
theorem fo_66_0 : fieldOff Tryd.prog 66 0 = some 0 := by kernel_rfl
theorem fo_66_1 : fieldOff Tryd.prog 66 1 = some 1 := by kernel_rfl
theorem fo_66_2 : fieldOff Tryd.prog 66 2 = some 2 := by kernel_rfl
theorem sc_23 : Scal Tryd.prog 23 := .of (by kernel_rfl)
theorem sc_24 : Scal Tryd.prog 24 := .of (by kernel_rfl)
theorem sc_27 : Scal Tryd.prog 27 := .of (by kernel_rfl)
theorem sc_28 : Scal Tryd.prog 28 := .of (by kernel_rfl)
theorem sc_3 : Scal Tryd.prog 3 := .of (by kernel_rfl)
theorem sc_9 : Scal Tryd.prog 9 := .of (by kernel_rfl)
theorem sz_66 : ∀ w, (sizeOf 66).run Tryd.prog w = .ok 3 w := SizeT.of (by kernel_rfl)
theorem zt_66 : (Tryd.prog.info? 66).bind (·.zero) = some (.agg #[(.string ⟨#[]⟩), (.int .i64 0), (.int .i64 0)]) := by kernel_rfl
end TyU6
open TyU6


open Go.Lib
theorem orI_hld (a b : Hld) : orI [strCmp a.deal b.deal, if a.period < b.period then -1 else if b.period < a.period then 1 else 0] = hldCmp a b := by
  rw [orI_two]
  unfold hldCmp
  by_cases h : a.deal = b.deal
  · rw [if_pos (strCmp_zero.2 h), if_pos h]
    split
    · rfl
    · split
      · split
        · omega
        · rfl
      · split
        · rfl
        · omega
  · rw [if_neg (fun hh => h (strCmp_zero.1 hh)), if_neg h]
def hLess (a b : Hld) : Bool := decide (hldCmp a b < 0)
theorem hl_1 {a b : Hld} (h : slt a.deal b.deal = true) : hLess a b = true := by
  have hne : ¬ a.deal = b.deal := fun e => by rw [e] at h; rw [show slt b.deal b.deal = false from less_irr _] at h; cases h
  exact decide_eq_true (by unfold hldCmp; rw [if_neg hne]; exact strCmp_lt.2 h)
theorem hl_2 {a b : Hld} (h : slt a.deal b.deal = false) (hne : ¬ a.deal = b.deal) : hLess a b = false := by
  refine decide_eq_false ?_
  unfold hldCmp
  rw [if_neg hne]
  intro hh
  rw [strCmp_lt.1 hh] at h; cases h
theorem hl_3 {a b : Hld} (h : a.deal = b.deal) : hLess a b = decide (a.period < b.period) := by
  unfold hLess hldCmp
  rw [if_pos h]
  apply decide_eq_decide.2
  split
  · simp [*]
  · split <;> simp [*]
def okBks (b : Bks) : Prop := okCtr b.ctr
theorem deal_any {l : List Deal} {nm : ByteArray} : idxBy (fun x : Deal => decide (x.name = nm)) l < 0 ↔ dealIdx l nm = false := idx_any


set_option maxRecDepth 100000 in
set_option maxHeartbeats 1000000 in
theorem c_cmpHld (a b : Hld) : ACall Tryd.prog 35 [.agg a.ds, .agg b.ds] (.v (.int .i64 (hldCmp a b))) := by
  refine acall_of (n := 17) (ds' := [.v (.int .i64 (hldCmp a b))]) Tryd.func35 rfl (by kernel_rfl) rfl [4] rfl rfl ?_
  intro B w0 F0 fr
  refine AWP.seq ?_
  refine AWP.region ?_
  refine AOps.step rfl rfl rfl (AOp.box rfl rfl rfl) ?_
  refine AOps.step rfl rfl rfl (AOp.box rfl rfl rfl) ?_
  refine AOps.step rfl rfl rfl (AOp.assignD rfl rfl) ?_
  refine AOps.nil ?_
  refine AWP.seq ?_
  refine AWP.draw (by kernel_rfl) (by kernel_rfl) ?_
  refine DRun.step rfl rfl rfl (AOp.fieldAddr rfl fo_66_0 rfl) ?_
  refine DRun.step rfl rfl rfl (AOp.load rfl sc_9 rfl) ?_
  refine DRun.step rfl rfl rfl (AOp.fieldAddr rfl fo_66_0 rfl) ?_
  refine DRun.step rfl rfl rfl (AOp.load rfl sc_9 rfl) ?_
  refine DRun.step rfl rfl rfl (AOp.call rfl (.cons (ArgOk.rfl' rfl) (.cons (ArgOk.rfl' rfl) .nil)) (c_strCmp _ _)) ?_
  refine DRun.step rfl rfl rfl (AOp.fieldAddr rfl fo_66_1 rfl) ?_
  refine DRun.step rfl rfl rfl (AOp.load rfl sc_3 rfl) ?_
  refine DRun.step rfl rfl rfl (AOp.fieldAddr rfl fo_66_1 rfl) ?_
  refine DRun.step rfl rfl rfl (AOp.load rfl sc_3 rfl) ?_
  refine DRun.step rfl rfl rfl (AOp.call rfl (.cons (ArgOk.rfl' rfl) (.cons (ArgOk.rfl' rfl) .nil)) (c_cmpInt _ _)) ?_
  refine DRun.step rfl rfl rfl (AOp.buildSlice rfl et_27 (.cons rfl rfl rfl (.cons rfl rfl rfl .nil)) rfl (by decide)) ?_
  refine DRun.step rfl rfl rfl (AOp.call rfl (.cons (ArgOk.rfl' rfl) .nil) (c_or [strCmp a.deal b.deal, if a.period < b.period then -1 else if b.period < a.period then 1 else 0])) ?_
  refine DRun.step rfl rfl rfl (AOp.assignD rfl rfl) ?_
  refine DRun.nil ?_
  refine AWP.ret ?_
  refine ⟨RetD.eq rfl ?_, trivial⟩
  all_goals (rw [orI_hld])

set_option maxRecDepth 100000 in
set_option maxHeartbeats 1000000 in
theorem c_hLess (a b : Hld) : ACall Tryd.prog 38 [.agg a.ds, .agg b.ds] (.v (.bool (hLess a b))) := by
  refine acall_of (n := 24) (ds' := [.v (.bool (hLess a b))]) Tryd.func38 rfl (by kernel_rfl) rfl [4] rfl rfl ?_
  intro B w0 F0 fr
  refine AWP.seq ?_
  refine AWP.region ?_
  refine AOps.step rfl rfl rfl (AOp.box rfl rfl rfl) ?_
  refine AOps.step rfl rfl rfl (AOp.box rfl rfl rfl) ?_
  refine AOps.step rfl rfl rfl (AOp.assignD rfl rfl) ?_
  refine AOps.nil ?_
  refine AWP.seq ?_
  refine AWP.region ?_
  refine AOps.step rfl rfl rfl (AOp.fieldAddr rfl fo_66_0 rfl) ?_
  refine AOps.step rfl rfl rfl (AOp.load rfl sc_9 rfl) ?_
  refine AOps.step rfl rfl rfl (AOp.fieldAddr rfl fo_66_0 rfl) ?_
  refine AOps.step rfl rfl rfl (AOp.load rfl sc_9 rfl) ?_
  refine AOps.step rfl rfl rfl (AOp.slss rfl rfl rfl) ?_
  refine AOps.step rfl rfl rfl (AOp.moveD rfl rfl) ?_
  refine AOps.split 10 rfl (fun g1 => ?_) (fun g1 => ?_)
  · skip
    rw [hl_1 g1]
    refine AOps.pass ⟨10, rfl, .inl ⟨_, rfl, rfl⟩⟩ rfl rfl ?_
    refine AOps.pass ⟨10, rfl, .inl ⟨_, rfl, rfl⟩⟩ rfl rfl ?_
    refine AOps.pass ⟨10, rfl, .inl ⟨_, rfl, rfl⟩⟩ rfl rfl ?_
    refine AOps.pass ⟨10, rfl, .inl ⟨_, rfl, rfl⟩⟩ rfl rfl ?_
    refine AOps.pass ⟨10, rfl, .inl ⟨_, rfl, rfl⟩⟩ rfl rfl ?_
    refine AOps.pass ⟨10, rfl, .inl ⟨_, rfl, rfl⟩⟩ rfl rfl ?_
    refine AOps.pass ⟨16, rfl, .inr ⟨rfl, rfl⟩⟩ rfl rfl ?_
    refine AOps.pass ⟨16, rfl, .inr ⟨rfl, rfl⟩⟩ rfl rfl ?_
    refine AOps.pass ⟨16, rfl, .inr ⟨rfl, rfl⟩⟩ rfl rfl ?_
    refine AOps.pass ⟨16, rfl, .inr ⟨rfl, rfl⟩⟩ rfl rfl ?_
    refine AOps.pass ⟨16, rfl, .inr ⟨rfl, rfl⟩⟩ rfl rfl ?_
    refine AOps.pass ⟨10, rfl, .inl ⟨_, rfl, rfl⟩⟩ rfl rfl ?_
    refine AOps.step rfl rfl rfl (AOp.pickT rfl rfl rfl) ?_
    refine AOps.step rfl rfl rfl (AOp.assignD rfl rfl) ?_
    refine AOps.nil ?_
    refine AWP.ret ?_
    refine ⟨RetD.eq rfl ?_, trivial⟩
    all_goals (rfl)
  · skip
    have n1 := g1
    refine AOps.step ⟨10, rfl, .inl ⟨_, rfl, rfl⟩⟩ rfl rfl (AOp.fieldAddr rfl fo_66_0 rfl) ?_
    refine AOps.step ⟨10, rfl, .inl ⟨_, rfl, rfl⟩⟩ rfl rfl (AOp.load rfl sc_9 rfl) ?_
    refine AOps.step ⟨10, rfl, .inl ⟨_, rfl, rfl⟩⟩ rfl rfl (AOp.fieldAddr rfl fo_66_0 rfl) ?_
    refine AOps.step ⟨10, rfl, .inl ⟨_, rfl, rfl⟩⟩ rfl rfl (AOp.load rfl sc_9 rfl) ?_
    refine AOps.step ⟨10, rfl, .inl ⟨_, rfl, rfl⟩⟩ rfl rfl (AOp.seql rfl rfl rfl) ?_
    refine AOps.step ⟨10, rfl, .inl ⟨_, rfl, rfl⟩⟩ rfl rfl (AOp.moveD rfl rfl) ?_
    refine AOps.split 16 rfl (fun g2 => ?_) (fun g2 => ?_)
    · replace g2 := of_decide_eq_true g2
      rw [hl_3 g2]
      refine AOps.step ⟨16, rfl, .inl ⟨_, rfl, rfl⟩⟩ rfl rfl (AOp.fieldAddr rfl fo_66_1 rfl) ?_
      refine AOps.step ⟨16, rfl, .inl ⟨_, rfl, rfl⟩⟩ rfl rfl (AOp.load rfl sc_3 rfl) ?_
      refine AOps.step ⟨16, rfl, .inl ⟨_, rfl, rfl⟩⟩ rfl rfl (AOp.fieldAddr rfl fo_66_1 rfl) ?_
      refine AOps.step ⟨16, rfl, .inl ⟨_, rfl, rfl⟩⟩ rfl rfl (AOp.load rfl sc_3 rfl) ?_
      refine AOps.step ⟨16, rfl, .inl ⟨_, rfl, rfl⟩⟩ rfl rfl (AOp.lss rfl rfl rfl) ?_
      refine AOps.step ⟨10, rfl, .inl ⟨_, rfl, rfl⟩⟩ rfl rfl (AOp.pickT rfl rfl rfl) ?_
      refine AOps.step rfl rfl rfl (AOp.pickF rfl rfl rfl) ?_
      refine AOps.step rfl rfl rfl (AOp.assignD rfl rfl) ?_
      refine AOps.nil ?_
      refine AWP.ret ?_
      refine ⟨RetD.eq rfl ?_, trivial⟩
      all_goals (rfl)
    · replace g2 := of_decide_eq_false g2
      rw [hl_2 n1 g2]
      refine AOps.pass ⟨16, rfl, .inl ⟨_, rfl, rfl⟩⟩ rfl rfl ?_
      refine AOps.pass ⟨16, rfl, .inl ⟨_, rfl, rfl⟩⟩ rfl rfl ?_
      refine AOps.pass ⟨16, rfl, .inl ⟨_, rfl, rfl⟩⟩ rfl rfl ?_
      refine AOps.pass ⟨16, rfl, .inl ⟨_, rfl, rfl⟩⟩ rfl rfl ?_
      refine AOps.pass ⟨16, rfl, .inl ⟨_, rfl, rfl⟩⟩ rfl rfl ?_
      refine AOps.step ⟨10, rfl, .inl ⟨_, rfl, rfl⟩⟩ rfl rfl (AOp.pickF rfl rfl rfl) ?_
      refine AOps.step rfl rfl rfl (AOp.pickF rfl rfl rfl) ?_
      refine AOps.step rfl rfl rfl (AOp.assignD rfl rfl) ?_
      refine AOps.nil ?_
      refine AWP.ret ?_
      refine ⟨RetD.eq rfl ?_, trivial⟩
      all_goals (rfl)

set_option maxRecDepth 100000 in
set_option maxHeartbeats 1000000 in
theorem c_hAt1 (x : Deal) (h : Hld) : ACall Tryd.prog 34 [.agg x.ds, .fp h.ds] (.v (.bool (decide (x.name = h.deal)))) := by
  refine acall_of (n := 9) (ds' := [.v (.bool (decide (x.name = h.deal)))]) Tryd.func34 rfl (by kernel_rfl) rfl [3] rfl rfl ?_
  intro B w0 F0 fr
  refine AWP.seq ?_
  refine AWP.region ?_
  refine AOps.step rfl rfl rfl (AOp.box rfl rfl rfl) ?_
  refine AOps.step rfl rfl rfl (AOp.assignD rfl rfl) ?_
  refine AOps.nil ?_
  refine AWP.seq ?_
  refine AWP.region ?_
  refine AOps.step rfl rfl rfl (AOp.fieldAddr rfl fo_59_0 rfl) ?_
  refine AOps.step rfl rfl rfl (AOp.load rfl sc_9 rfl) ?_
  refine AOps.step rfl rfl rfl (AOp.fieldAddr rfl fo_66_0 rfl) ?_
  refine AOps.step rfl rfl rfl (AOp.load rfl sc_9 rfl) ?_
  refine AOps.step rfl rfl rfl (AOp.seql rfl rfl rfl) ?_
  refine AOps.step rfl rfl rfl (AOp.assignD rfl rfl) ?_
  refine AOps.nil ?_
  refine AWP.ret ?_
  refine ⟨RetD.eq rfl ?_, trivial⟩
  all_goals (rfl)

set_option maxRecDepth 100000 in
set_option maxHeartbeats 1000000 in
theorem c_hasDeal (l : List Deal) (p : Deal → Bool) (f : Nat) (caps : List D) (hp : ∀ x : Deal, ACall Tryd.prog f (.agg x.ds :: caps) (.v (.bool (p x)))) : ACall Tryd.prog 33 [.sl (l.map Deal.ds), .clo (.func f) caps] (.v (.bool (l.any p))) := by
  refine acall_of (n := 9) (ds' := [.v (.bool (l.any p))]) Tryd.func33 rfl (by kernel_rfl) rfl [4] rfl rfl ?_
  intro B w0 F0 fr
  refine AWP.seq ?_
  refine AWP.region ?_
  refine AOps.step rfl rfl rfl (AOp.assignD rfl rfl) ?_
  refine AOps.nil ?_
  refine AWP.seq ?_
  refine AWP.region ?_
  refine AOps.step rfl rfl rfl (AOp.moveD rfl rfl) ?_
  refine AOps.step rfl rfl rfl (AOp.moveD rfl rfl) ?_
  refine AOps.step rfl rfl rfl (AOp.call rfl (.cons (ArgOk.rfl' rfl) (.cons (ArgOk.rfl' rfl) .nil)) (c_ixDeal l p f caps hp)) ?_
  refine AOps.step rfl rfl rfl (AOp.geq rfl rfl rfl) ?_
  refine AOps.step rfl rfl rfl (AOp.assignD rfl rfl) ?_
  refine AOps.nil ?_
  refine AWP.ret ?_
  refine ⟨RetD.eq rfl ?_, trivial⟩
  all_goals (refine congrArg (fun z => D.v (.bool z)) ?_; have h0 := idx_any (p := p) (l := l); cases ha : l.any p with | true => exact decide_eq_true (by have : ¬ idxBy p l < 0 := fun hh => (by rw [h0.1 hh] at ha; cases ha); omega) | false => exact decide_eq_false (by have := h0.2 ha; omega))

set_option maxRecDepth 100000 in
set_option maxHeartbeats 1000000 in
theorem c_pBks (b : Bks) (hb : okBks b) : ACallT Tryd.prog MaxT 10 [.agg b.ds] (.v (.int .i64 (bksF b))) := by
  refine acall_ofT (n := 103) (ds' := [.v (.int .i64 (bksF b))]) Tryd.func10 rfl (by kernel_rfl) rfl [2] rfl rfl ?_
  intro B w0 F0 hT
  refine AWP.seq ?_
  refine AWP.region ?_
  refine AOps.step rfl rfl rfl (AOp.box rfl rfl rfl) ?_
  refine AOps.step rfl rfl rfl (AOp.assignD rfl rfl) ?_
  refine AOps.nil ?_
  refine AWP.seq ?_
  refine AWP.seq ?_
  refine AWP.region ?_
  refine AOps.step rfl rfl rfl (AOp.fieldAddr rfl fo_30_0 rfl) ?_
  refine AOps.step rfl rfl rfl (AOp.loadAggT rfl ag_26 rfl (Nat.le_of_ble_eq_true rfl)) ?_
  -- wants the world
  refine AOps.callT rfl rfl rfl hT maxT_stays rfl (.cons (ArgOk.rfl' rfl) .nil) (c_pCtr b.ctr hb) ?_
  refine AOps.step rfl rfl rfl (AOp.assignD rfl rfl) ?_
  refine AOps.nil ?_
  refine AWP.seq ?_
  refine AWP.region ?_
  refine AOps.step rfl rfl rfl (AOp.moveD rfl rfl) ?_
  refine AOps.step rfl rfl rfl (AOp.neq rfl rfl rfl) ?_
  refine AOps.nil ?_
  refine AWP.cond rfl (fun h1 => ?_) (fun h1 => ?_)
  · replace h1 := of_decide_eq_true h1
    have HR : bksF b = ctrF b.ctr := if_pos h1
    refine AWP.seq ?_
    refine AWP.region ?_
    refine AOps.step rfl rfl rfl (AOp.moveD rfl rfl) ?_
    refine AOps.step rfl rfl rfl (AOp.assignD rfl rfl) ?_
    refine AOps.nil ?_
    refine AWP.ret ?_
    refine ⟨RetD.eq rfl ?_, trivial⟩
    all_goals (rw [HR])
  · replace h1 := of_decide_eq_false h1
    have n1 : ¬ ctrF b.ctr ≠ 0 := h1
    refine AWP.skip ?_
    refine AWP.seq ?_
    refine AWP.seq ?_
    refine AWP.region ?_
    refine AOps.step rfl rfl rfl (AOp.fieldAddr rfl fo_30_1 rfl) ?_
    refine AOps.step rfl rfl rfl (AOp.load rfl sc_3 rfl) ?_
    refine AOps.step rfl rfl rfl (AOp.call rfl (.cons (ArgOk.rfl' rfl) (.cons (ArgOk.rfl' rfl) (.cons (ArgOk.rfl' rfl) .nil))) (c_pIn _ _ _)) ?_
    refine AOps.step rfl rfl rfl (AOp.not rfl rfl) ?_
    refine AOps.nil ?_
    refine AWP.cond rfl (fun h2 => ?_) (fun h2 => ?_)
    · replace h2 := bnot_t h2; replace h2 := of_decide_eq_false h2
      have HR : bksF b = 1 := by unfold bksF; rw [if_neg n1, if_pos h2]
      refine AWP.seq ?_
      refine AWP.region ?_
      refine AOps.step rfl rfl rfl (AOp.assignD rfl rfl) ?_
      refine AOps.nil ?_
      refine AWP.ret ?_
      refine ⟨RetD.eq rfl ?_, trivial⟩
      all_goals (rw [HR])
    · replace h2 := bnot_f h2; replace h2 := of_decide_eq_true h2
      have n2 := h2
      refine AWP.skip ?_
      refine AWP.seq ?_
      refine AWP.seq ?_
      refine AWP.region ?_
      refine AOps.step rfl rfl rfl (AOp.fieldAddr rfl fo_30_2 rfl) ?_
      refine AOps.step rfl rfl rfl (AOp.load rfl sc_27 rfl) ?_
      refine AOps.step rfl rfl rfl (AOp.lenSl rfl et_27.ht rfl) ?_
      refine AOps.step rfl rfl rfl (AOp.fieldAddr rfl fo_30_0 rfl) ?_
      refine AOps.step rfl rfl rfl (AOp.fieldAddr rfl fo_26_1 rfl) ?_
      refine AOps.step rfl rfl rfl (AOp.load rfl sc_23 rfl) ?_
      refine AOps.step rfl rfl rfl (AOp.lenSl rfl et_23.ht rfl) ?_
      refine AOps.step rfl rfl rfl (AOp.neq rfl rfl rfl) ?_
      refine AOps.step rfl rfl rfl (AOp.moveD rfl rfl) ?_
      refine AOps.split 28 rfl (fun g3 => ?_) (fun g3 => ?_)
      · replace g3 := of_decide_eq_true g3
        rw [List.length_map, List.length_map] at g3
        have HR : bksF b = 3 := by unfold bksF; rw [if_neg n1, if_neg (Decidable.not_not.2 n2), if_pos (by omega)]
        refine AOps.pass ⟨28, rfl, .inl ⟨_, rfl, rfl⟩⟩ rfl rfl ?_
        refine AOps.pass ⟨28, rfl, .inl ⟨_, rfl, rfl⟩⟩ rfl rfl ?_
        refine AOps.pass ⟨28, rfl, .inl ⟨_, rfl, rfl⟩⟩ rfl rfl ?_
        refine AOps.pass ⟨28, rfl, .inl ⟨_, rfl, rfl⟩⟩ rfl rfl ?_
        refine AOps.pass ⟨28, rfl, .inl ⟨_, rfl, rfl⟩⟩ rfl rfl ?_
        refine AOps.pass ⟨28, rfl, .inl ⟨_, rfl, rfl⟩⟩ rfl rfl ?_
        refine AOps.pass ⟨28, rfl, .inl ⟨_, rfl, rfl⟩⟩ rfl rfl ?_
        refine AOps.pass ⟨28, rfl, .inl ⟨_, rfl, rfl⟩⟩ rfl rfl ?_
        refine AOps.step rfl rfl rfl (AOp.pickT rfl rfl rfl) ?_
        refine AOps.nil ?_
        refine AWP.cond rfl (fun _ => ?_) (fun h => nomatch h)
        refine AWP.seq ?_
        refine AWP.region ?_
        refine AOps.step rfl rfl rfl (AOp.assignD rfl rfl) ?_
        refine AOps.nil ?_
        refine AWP.ret ?_
        refine ⟨RetD.eq rfl ?_, trivial⟩
        all_goals (rw [HR])
      · replace g3 := of_decide_eq_false g3
        rw [List.length_map, List.length_map] at g3
        refine AOps.step ⟨28, rfl, .inl ⟨_, rfl, rfl⟩⟩ rfl rfl (AOp.fieldAddr rfl fo_30_4 rfl) ?_
        refine AOps.step ⟨28, rfl, .inl ⟨_, rfl, rfl⟩⟩ rfl rfl (AOp.load rfl sc_27 rfl) ?_
        refine AOps.step ⟨28, rfl, .inl ⟨_, rfl, rfl⟩⟩ rfl rfl (AOp.lenSl rfl et_27.ht rfl) ?_
        refine AOps.step ⟨28, rfl, .inl ⟨_, rfl, rfl⟩⟩ rfl rfl (AOp.fieldAddr rfl fo_30_0 rfl) ?_
        refine AOps.step ⟨28, rfl, .inl ⟨_, rfl, rfl⟩⟩ rfl rfl (AOp.fieldAddr rfl fo_26_2 rfl) ?_
        refine AOps.step ⟨28, rfl, .inl ⟨_, rfl, rfl⟩⟩ rfl rfl (AOp.load rfl sc_24 rfl) ?_
        refine AOps.step ⟨28, rfl, .inl ⟨_, rfl, rfl⟩⟩ rfl rfl (AOp.lenSl rfl et_24.ht rfl) ?_
        refine AOps.step ⟨28, rfl, .inl ⟨_, rfl, rfl⟩⟩ rfl rfl (AOp.neq rfl rfl rfl) ?_
        refine AOps.step rfl rfl rfl (AOp.pickF rfl rfl rfl) ?_
        refine AOps.nil ?_
        refine AWP.cond rfl (fun h4 => ?_) (fun h4 => ?_)
        · replace h4 := of_decide_eq_true h4
          rw [List.length_map, List.length_map] at h4
          have HR : bksF b = 3 := by unfold bksF; rw [if_neg n1, if_neg (Decidable.not_not.2 n2), if_pos (by omega)]
          refine AWP.seq ?_
          refine AWP.region ?_
          refine AOps.step rfl rfl rfl (AOp.assignD rfl rfl) ?_
          refine AOps.nil ?_
          refine AWP.ret ?_
          refine ⟨RetD.eq rfl ?_, trivial⟩
          all_goals (rw [HR])
        · replace h4 := of_decide_eq_false h4
          rw [List.length_map, List.length_map] at h4
          have n3 : ¬ (b.stated.length ≠ b.ctr.deals.length ∨ b.bal.length ≠ b.ctr.groups.length) := by omega
          refine AWP.skip ?_
          refine AWP.seq ?_
          refine AWP.seq ?_
          refine AWP.region ?_
          refine AOps.step rfl rfl rfl (AOp.fieldAddr rfl fo_30_2 rfl) ?_
          refine AOps.step rfl rfl rfl (AOp.load rfl sc_27 rfl) ?_
          refine AOps.step rfl rfl rfl (AOp.lenSl rfl et_27.ht rfl) ?_
          refine AOps.step rfl rfl rfl (AOp.moveD rfl rfl) ?_
          refine AOps.nil ?_
          refine AWP.block ?_
          refine AWP.bound 39 rfl (fun hbd => ?_)
          rw [List.length_map] at hbd
          refine AWP.loop (G := Nat) (fun k => Env.of [(41, .d (.v (.int .i64 (k : Int)))), (39, .d (.sl (b.stated.map intD))), (40, .d (.v (.int .i64 ((b.stated.map intD).length : Int)))), (1, .d (.fp b.ds))]) (fun k => []) (fun k => k ≤ b.stated.length ∧ ffst (statF b.stated) k = 0) (fun k => b.stated.length - k) 0 ⟨Nat.zero_le _, rfl⟩ (Sub.less ⟨(SLe.of_eq rfl), SLe.refl _, SLe.refl _, SLe.refl _, trivial⟩ (fun _ h => h)) ?_
          intro k hk
          refine AWP.seq ?_
          refine AWP.region ?_
          refine AOps.step rfl rfl rfl (AOp.lss rfl rfl rfl) ?_
          refine AOps.nil ?_
          refine AWP.seq ?_
          refine AWP.cond rfl (fun h5 => ?_) (fun h5 => ?_)
          · replace h5 := of_decide_eq_true h5
            rw [List.length_map] at h5
            have hlt : k < b.stated.length := by omega
            refine AWP.skip ?_
            refine AWP.seq ?_
            refine AWP.block ?_
            refine AWP.seq ?_
            refine AWP.region ?_
            refine AOps.step rfl rfl rfl (AOp.indexAddr rfl et_27 rfl rfl k rfl (at_lst hlt) rfl) ?_
            refine AOps.step rfl rfl rfl (AOp.load rfl sc_3 rfl) ?_
            refine AOps.step rfl rfl rfl (AOp.assignD rfl rfl) ?_
            refine AOps.nil ?_
            refine AWP.seq ?_
            refine AWP.region ?_
            refine AOps.step rfl rfl rfl (AOp.moveD rfl rfl) ?_
            refine AOps.step rfl rfl rfl (AOp.call rfl (.cons (ArgOk.rfl' rfl) (.cons (ArgOk.rfl' rfl) (.cons (ArgOk.rfl' rfl) .nil))) (c_pIn _ _ _)) ?_
            refine AOps.step rfl rfl rfl (AOp.not rfl rfl) ?_
            refine AOps.nil ?_
            refine AWP.cond rfl (fun h6 => ?_) (fun h6 => ?_)
            · replace h6 := bnot_t h6; replace h6 := of_decide_eq_false h6
              have n4 := h6
              have e1 : statF b.stated k = 1 := by unfold statF; rw [dif_pos hlt]; (first | (exfalso; omega) | ((repeat (first | rw [if_pos (by first | assumption | omega)] | rw [if_neg (by first | assumption | omega)])); first | done | rfl | omega | decide))
              have e2 := ffst_hit (f := statF b.stated) hk.2 (by rw [e1]; decide) _ hlt
              have HR : bksF b = 1 := by unfold bksF; rw [if_neg n1, if_neg (Decidable.not_not.2 n2), if_neg n3, if_pos (by rw [e2, e1]; decide), e2, e1]
              refine AWP.seq ?_
              refine AWP.region ?_
              refine AOps.step rfl rfl rfl (AOp.assignD rfl rfl) ?_
              refine AOps.nil ?_
              refine AWP.ret ?_
              refine ⟨RetD.eq rfl ?_, trivial⟩
              all_goals (rw [HR])
            · replace h6 := bnot_f h6; replace h6 := of_decide_eq_true h6
              have n4 := h6
              have e0 : statF b.stated k = 0 := by unfold statF; rw [dif_pos hlt]; (first | (exfalso; omega) | ((repeat (first | rw [if_pos (by first | assumption | omega)] | rw [if_neg (by first | assumption | omega)])); first | done | rfl | omega | decide))
              refine AWP.skip ?_
              refine AWP.region ?_
              refine AOps.step rfl rfl rfl (AOp.add64 rfl rfl rfl (by omega) (by omega)) ?_
              refine AOps.step rfl rfl rfl (AOp.moveD rfl rfl) ?_
              refine AOps.nil ?_
              refine ⟨k + 1, ⟨by omega, ffst_next hk.2 e0⟩, (by dsimp only; omega), Sub.less ⟨(SLe.of_eq rfl), SLe.refl _, SLe.refl _, SLe.refl _, trivial⟩ (fun _ h => h)⟩
          · replace h5 := of_decide_eq_false h5
            rw [List.length_map] at h5
            have HS : ffst (statF b.stated) b.stated.length = 0 := by rw [show b.stated.length = k by omega]; exact hk.2
            refine AWP.exit ?_
            refine AWP.seq ?_
            refine AWP.seq ?_
            refine AWP.region ?_
            refine AOps.step rfl rfl rfl (AOp.fieldAddr rfl fo_30_3 rfl) ?_
            refine AOps.step rfl rfl rfl (AOp.load rfl sc_28 rfl) ?_
            refine AOps.step rfl rfl rfl (AOp.lenSl rfl et_28.ht rfl) ?_
            refine AOps.step rfl rfl rfl (AOp.moveD rfl rfl) ?_
            refine AOps.nil ?_
            refine AWP.block ?_
            refine AWP.bound 50 rfl (fun hbd => ?_)
            rw [List.length_map] at hbd
            refine AWP.loop (G := Nat) (fun k => Env.of [(52, .d (.v (.int .i64 (k : Int)))), (50, .d (.sl (b.held.map Hld.ds))), (51, .d (.v (.int .i64 ((b.held.map Hld.ds).length : Int)))), (1, .d (.fp b.ds))]) (fun k => []) (fun k => k ≤ b.held.length ∧ ffst (hldF b) k = 0) (fun k => b.held.length - k) 0 ⟨Nat.zero_le _, rfl⟩ (Sub.less ⟨(SLe.of_eq rfl), SLe.refl _, SLe.refl _, SLe.refl _, trivial⟩ (fun _ h => h)) ?_
            intro k hk
            refine AWP.seq ?_
            refine AWP.region ?_
            refine AOps.step rfl rfl rfl (AOp.lss rfl rfl rfl) ?_
            refine AOps.nil ?_
            refine AWP.seq ?_
            refine AWP.cond rfl (fun h7 => ?_) (fun h7 => ?_)
            · replace h7 := of_decide_eq_true h7
              rw [List.length_map] at h7
              have hlt : k < b.held.length := by omega
              refine AWP.skip ?_
              refine AWP.seq ?_
              refine AWP.block ?_
              refine AWP.seq ?_
              refine AWP.region ?_
              refine AOps.step rfl rfl rfl (AOp.moveD rfl rfl) ?_
              refine AOps.step rfl rfl rfl (AOp.indexAddr rfl et_28 rfl rfl k rfl (at_lst hlt) rfl) ?_
              refine AOps.step rfl rfl rfl (AOp.loadAgg rfl ag_66 rfl rfl) ?_
              refine AOps.alloc 101 rfl rfl rfl rfl zt_66 rfl rfl rfl ?_
              refine AOps.step rfl rfl rfl (AOp.assignD rfl rfl) ?_
              refine AOps.store rfl rfl rfl sz_66 rfl (.head _) rfl rfl rfl (Nat.le_of_ble_eq_true rfl) ?_
              refine AOps.freezeCells 7 (ds := b.held[k].ds) rfl (.head _) ?_
              refine AOps.nil ?_
              refine AWP.block ?_
              refine AWP.seq ?_
              refine AWP.region ?_
              refine AOps.step rfl rfl rfl (AOp.fieldAddr rfl fo_30_0 rfl) ?_
              refine AOps.step rfl rfl rfl (AOp.fieldAddr rfl fo_26_1 rfl) ?_
              refine AOps.step rfl rfl rfl (AOp.load rfl sc_23 rfl) ?_
              refine AOps.step rfl rfl rfl (AOp.makeFunc rfl (.cons (ArgOk.rfl' rfl) .nil)) ?_
              refine AOps.step rfl rfl rfl (AOp.call rfl (.cons (ArgOk.rfl' rfl) (.cons (ArgOk.rfl' rfl) .nil)) (c_hasDeal b.ctr.deals (fun x => decide (x.name = b.held[k].deal)) 34 _ (fun x => c_hAt1 x b.held[k]))) ?_
              refine AOps.step rfl rfl rfl (AOp.not rfl rfl) ?_
              refine AOps.step rfl rfl rfl (AOp.assignD rfl rfl) ?_
              refine AOps.nil ?_
              refine AWP.cond rfl (fun h8 => ?_) (fun h8 => ?_)
              · replace h8 := bnot_t h8
                have n5 : dealIdx b.ctr.deals b.held[k].deal = false := h8
                have e1 : (hldF b) k = 9 := by unfold hldF; rw [dif_pos hlt]; (first | (exfalso; omega) | ((repeat (first | rw [if_pos (by first | assumption | omega)] | rw [if_neg (by first | assumption | omega)])); first | done | rfl | omega | decide))
                have e2 := ffst_hit (f := (hldF b)) hk.2 (by rw [e1]; decide) _ hlt
                have HR : bksF b = 9 := by unfold bksF; rw [if_neg n1, if_neg (Decidable.not_not.2 n2), if_neg n3, if_neg (by rw [HS]; decide), if_pos (by rw [e2, e1]; decide), e2, e1]
                refine AWP.seq ?_
                refine AWP.region ?_
                refine AOps.step rfl rfl rfl (AOp.assignD rfl rfl) ?_
                refine AOps.nil ?_
                refine AWP.ret ?_
                refine ⟨RetD.eq rfl ?_, trivial⟩
                all_goals (rw [HR])
              · replace h8 := bnot_f h8
                have n5 : ¬ dealIdx b.ctr.deals b.held[k].deal = false := fun hh => by rw [show dealIdx b.ctr.deals b.held[k].deal = true from h8] at hh; cases hh
                refine AWP.seq ?_
                refine AWP.draw (by kernel_rfl) (by kernel_rfl) ?_
                refine DRun.step rfl rfl rfl (AOp.moveD rfl rfl) ?_
                refine DRun.step rfl rfl rfl (AOp.gtr rfl rfl rfl) ?_
                refine DRun.step rfl rfl rfl (AOp.moveD rfl rfl) ?_
                refine DRun.split 67 rfl (fun g9 => ?_) (fun g9 => ?_)
                · replace g9 := of_decide_eq_true g9
                  have hk0 : 0 < k := by omega
                  refine DRun.step ⟨67, rfl, .inl ⟨_, rfl, rfl⟩⟩ rfl rfl (AOp.fieldAddr rfl fo_30_3 rfl) ?_
                  refine DRun.step ⟨67, rfl, .inl ⟨_, rfl, rfl⟩⟩ rfl rfl (AOp.load rfl sc_28 rfl) ?_
                  refine DRun.step ⟨67, rfl, .inl ⟨_, rfl, rfl⟩⟩ rfl rfl (AOp.moveD rfl rfl) ?_
                  refine DRun.step ⟨67, rfl, .inl ⟨_, rfl, rfl⟩⟩ rfl rfl (AOp.sub64 rfl rfl rfl (by omega) (by omega)) ?_
                  refine DRun.step ⟨67, rfl, .inl ⟨_, rfl, rfl⟩⟩ rfl rfl (AOp.indexAddr rfl et_28 rfl rfl (k - 1) (by omega) (at_lst (by omega)) rfl) ?_
                  refine DRun.step ⟨67, rfl, .inl ⟨_, rfl, rfl⟩⟩ rfl rfl (AOp.loadAgg rfl ag_66 rfl rfl) ?_
                  refine DRun.step ⟨67, rfl, .inl ⟨_, rfl, rfl⟩⟩ rfl rfl (AOp.loadAgg rfl ag_66 rfl rfl) ?_
                  refine DRun.step ⟨67, rfl, .inl ⟨_, rfl, rfl⟩⟩ rfl rfl (AOp.call rfl (.cons (ArgOk.rfl' rfl) (.cons (ArgOk.rfl' rfl) .nil)) (c_cmpHld _ _)) ?_
                  refine DRun.step ⟨67, rfl, .inl ⟨_, rfl, rfl⟩⟩ rfl rfl (AOp.geq rfl rfl rfl) ?_
                  refine DRun.step rfl rfl rfl (AOp.pickT rfl rfl rfl) ?_
                  refine DRun.step rfl rfl rfl (AOp.assignD rfl rfl) ?_
                  refine DRun.nil ?_
                  refine AWP.cond rfl (fun h10 => ?_) (fun h10 => ?_)
                  · replace h10 := of_decide_eq_true h10
                    have n6 : (0 < k ∧ 0 ≤ hldCmp (b.held[k-1]'(by omega)) b.held[k]) := ⟨hk0, by omega⟩
                    have e1 : (hldF b) k = 8 := by unfold hldF; rw [dif_pos hlt]; (first | (exfalso; omega) | ((repeat (first | rw [if_pos (by first | assumption | omega)] | rw [if_neg (by first | assumption | omega)])); first | done | rfl | omega | decide))
                    have e2 := ffst_hit (f := (hldF b)) hk.2 (by rw [e1]; decide) _ hlt
                    have HR : bksF b = 8 := by unfold bksF; rw [if_neg n1, if_neg (Decidable.not_not.2 n2), if_neg n3, if_neg (by rw [HS]; decide), if_pos (by rw [e2, e1]; decide), e2, e1]
                    refine AWP.seq ?_
                    refine AWP.region ?_
                    refine AOps.step rfl rfl rfl (AOp.assignD rfl rfl) ?_
                    refine AOps.nil ?_
                    refine AWP.ret ?_
                    refine ⟨RetD.eq rfl ?_, trivial⟩
                    all_goals (rw [HR])
                  · replace h10 := of_decide_eq_false h10
                    have n6 : ¬ (0 < k ∧ 0 ≤ hldCmp (b.held[k-1]'(by omega)) b.held[k]) := fun hh => h10 hh.2
                    refine AWP.seq ?_
                    refine AWP.region ?_
                    refine AOps.step rfl rfl rfl (AOp.fieldAddr rfl fo_66_1 rfl) ?_
                    refine AOps.step rfl rfl rfl (AOp.load rfl sc_3 rfl) ?_
                    refine AOps.step rfl rfl rfl (AOp.fieldAddr rfl fo_30_1 rfl) ?_
                    refine AOps.step rfl rfl rfl (AOp.load rfl sc_3 rfl) ?_
                    refine AOps.step rfl rfl rfl (AOp.call rfl (.cons (ArgOk.rfl' rfl) (.cons (ArgOk.rfl' rfl) (.cons (ArgOk.rfl' rfl) .nil))) (c_pIn _ _ _)) ?_
                    refine AOps.step rfl rfl rfl (AOp.not rfl rfl) ?_
                    refine AOps.step rfl rfl rfl (AOp.moveD rfl rfl) ?_
                    refine AOps.split 85 rfl (fun g11 => ?_) (fun g11 => ?_)
                    · replace g11 := bnot_t g11; replace g11 := of_decide_eq_false g11
                      have e1 : (hldF b) k = 1 := by unfold hldF; rw [dif_pos hlt]; (first | (exfalso; omega) | ((repeat (first | rw [if_pos (by first | assumption | omega)] | rw [if_neg (by first | assumption | omega)])); first | done | rfl | omega | decide))
                      have e2 := ffst_hit (f := (hldF b)) hk.2 (by rw [e1]; decide) _ hlt
                      have HR : bksF b = 1 := by unfold bksF; rw [if_neg n1, if_neg (Decidable.not_not.2 n2), if_neg n3, if_neg (by rw [HS]; decide), if_pos (by rw [e2, e1]; decide), e2, e1]
                      refine AOps.pass ⟨85, rfl, .inl ⟨_, rfl, rfl⟩⟩ rfl rfl ?_
                      refine AOps.pass ⟨85, rfl, .inl ⟨_, rfl, rfl⟩⟩ rfl rfl ?_
                      refine AOps.pass ⟨85, rfl, .inl ⟨_, rfl, rfl⟩⟩ rfl rfl ?_
                      refine AOps.pass ⟨85, rfl, .inl ⟨_, rfl, rfl⟩⟩ rfl rfl ?_
                      refine AOps.step rfl rfl rfl (AOp.pickT rfl rfl rfl) ?_
                      refine AOps.step rfl rfl rfl (AOp.assignD rfl rfl) ?_
                      refine AOps.nil ?_
                      refine AWP.cond rfl (fun _ => ?_) (fun h => nomatch h)
                      refine AWP.seq ?_
                      refine AWP.region ?_
                      refine AOps.step rfl rfl rfl (AOp.assignD rfl rfl) ?_
                      refine AOps.nil ?_
                      refine AWP.ret ?_
                      refine ⟨RetD.eq rfl ?_, trivial⟩
                      all_goals (rw [HR])
                    · replace g11 := bnot_f g11; replace g11 := of_decide_eq_true g11
                      refine AOps.step ⟨85, rfl, .inl ⟨_, rfl, rfl⟩⟩ rfl rfl (AOp.fieldAddr rfl fo_66_2 rfl) ?_
                      refine AOps.step ⟨85, rfl, .inl ⟨_, rfl, rfl⟩⟩ rfl rfl (AOp.load rfl sc_3 rfl) ?_
                      refine AOps.step ⟨85, rfl, .inl ⟨_, rfl, rfl⟩⟩ rfl rfl (AOp.call rfl (.cons (ArgOk.rfl' rfl) (.cons (ArgOk.rfl' rfl) (.cons (ArgOk.rfl' rfl) .nil))) (c_pIn _ _ _)) ?_
                      refine AOps.step ⟨85, rfl, .inl ⟨_, rfl, rfl⟩⟩ rfl rfl (AOp.not rfl rfl) ?_
                      refine AOps.step rfl rfl rfl (AOp.pickF rfl rfl rfl) ?_
                      refine AOps.step rfl rfl rfl (AOp.assignD rfl rfl) ?_
                      refine AOps.nil ?_
                      refine AWP.cond rfl (fun h12 => ?_) (fun h12 => ?_)
                      · replace h12 := bnot_t h12; replace h12 := of_decide_eq_false h12
                        have e1 : (hldF b) k = 1 := by unfold hldF; rw [dif_pos hlt]; (first | (exfalso; omega) | ((repeat (first | rw [if_pos (by first | assumption | omega)] | rw [if_neg (by first | assumption | omega)])); first | done | rfl | omega | decide))
                        have e2 := ffst_hit (f := (hldF b)) hk.2 (by rw [e1]; decide) _ hlt
                        have HR : bksF b = 1 := by unfold bksF; rw [if_neg n1, if_neg (Decidable.not_not.2 n2), if_neg n3, if_neg (by rw [HS]; decide), if_pos (by rw [e2, e1]; decide), e2, e1]
                        refine AWP.seq ?_
                        refine AWP.region ?_
                        refine AOps.step rfl rfl rfl (AOp.assignD rfl rfl) ?_
                        refine AOps.nil ?_
                        refine AWP.ret ?_
                        refine ⟨RetD.eq rfl ?_, trivial⟩
                        all_goals (rw [HR])
                      · replace h12 := bnot_f h12; replace h12 := of_decide_eq_true h12
                        have e0 : hldF b k = 0 := by unfold hldF; rw [dif_pos hlt]; (first | (exfalso; omega) | ((repeat (first | rw [if_pos (by first | assumption | omega)] | rw [if_neg (by first | assumption | omega)])); first | done | rfl | omega | decide))
                        refine AWP.skip ?_
                        refine AWP.region ?_
                        refine AOps.step rfl rfl rfl (AOp.add64 rfl rfl rfl (by omega) (by omega)) ?_
                        refine AOps.step rfl rfl rfl (AOp.moveD rfl rfl) ?_
                        refine AOps.nil ?_
                        refine ⟨k + 1, ⟨by omega, ffst_next hk.2 e0⟩, (by dsimp only; omega), Sub.less ⟨(SLe.of_eq rfl), SLe.refl _, SLe.refl _, SLe.refl _, trivial⟩ (fun _ h => h)⟩
                · replace g9 := of_decide_eq_false g9
                  have n6 : ¬ (0 < k ∧ 0 ≤ hldCmp (b.held[k-1]'(by omega)) b.held[k]) := fun hh => by omega
                  refine DRun.pass ⟨67, rfl, .inl ⟨_, rfl, rfl⟩⟩ rfl rfl ?_
                  refine DRun.pass ⟨67, rfl, .inl ⟨_, rfl, rfl⟩⟩ rfl rfl ?_
                  refine DRun.pass ⟨67, rfl, .inl ⟨_, rfl, rfl⟩⟩ rfl rfl ?_
                  refine DRun.pass ⟨67, rfl, .inl ⟨_, rfl, rfl⟩⟩ rfl rfl ?_
                  refine DRun.pass ⟨67, rfl, .inl ⟨_, rfl, rfl⟩⟩ rfl rfl ?_
                  refine DRun.pass ⟨67, rfl, .inl ⟨_, rfl, rfl⟩⟩ rfl rfl ?_
                  refine DRun.pass ⟨67, rfl, .inl ⟨_, rfl, rfl⟩⟩ rfl rfl ?_
                  refine DRun.pass ⟨67, rfl, .inl ⟨_, rfl, rfl⟩⟩ rfl rfl ?_
                  refine DRun.pass ⟨67, rfl, .inl ⟨_, rfl, rfl⟩⟩ rfl rfl ?_
                  refine DRun.step rfl rfl rfl (AOp.pickF rfl rfl rfl) ?_
                  refine DRun.step rfl rfl rfl (AOp.assignD rfl rfl) ?_
                  refine DRun.nil ?_
                  refine AWP.cond rfl (fun h => nomatch h) (fun _ => ?_)
                  refine AWP.seq ?_
                  refine AWP.region ?_
                  refine AOps.step rfl rfl rfl (AOp.fieldAddr rfl fo_66_1 rfl) ?_
                  refine AOps.step rfl rfl rfl (AOp.load rfl sc_3 rfl) ?_
                  refine AOps.step rfl rfl rfl (AOp.fieldAddr rfl fo_30_1 rfl) ?_
                  refine AOps.step rfl rfl rfl (AOp.load rfl sc_3 rfl) ?_
                  refine AOps.step rfl rfl rfl (AOp.call rfl (.cons (ArgOk.rfl' rfl) (.cons (ArgOk.rfl' rfl) (.cons (ArgOk.rfl' rfl) .nil))) (c_pIn _ _ _)) ?_
                  refine AOps.step rfl rfl rfl (AOp.not rfl rfl) ?_
                  refine AOps.step rfl rfl rfl (AOp.moveD rfl rfl) ?_
                  refine AOps.split 85 rfl (fun g13 => ?_) (fun g13 => ?_)
                  · replace g13 := bnot_t g13; replace g13 := of_decide_eq_false g13
                    have e1 : (hldF b) k = 1 := by unfold hldF; rw [dif_pos hlt]; (first | (exfalso; omega) | ((repeat (first | rw [if_pos (by first | assumption | omega)] | rw [if_neg (by first | assumption | omega)])); first | done | rfl | omega | decide))
                    have e2 := ffst_hit (f := (hldF b)) hk.2 (by rw [e1]; decide) _ hlt
                    have HR : bksF b = 1 := by unfold bksF; rw [if_neg n1, if_neg (Decidable.not_not.2 n2), if_neg n3, if_neg (by rw [HS]; decide), if_pos (by rw [e2, e1]; decide), e2, e1]
                    refine AOps.pass ⟨85, rfl, .inl ⟨_, rfl, rfl⟩⟩ rfl rfl ?_
                    refine AOps.pass ⟨85, rfl, .inl ⟨_, rfl, rfl⟩⟩ rfl rfl ?_
                    refine AOps.pass ⟨85, rfl, .inl ⟨_, rfl, rfl⟩⟩ rfl rfl ?_
                    refine AOps.pass ⟨85, rfl, .inl ⟨_, rfl, rfl⟩⟩ rfl rfl ?_
                    refine AOps.step rfl rfl rfl (AOp.pickT rfl rfl rfl) ?_
                    refine AOps.step rfl rfl rfl (AOp.assignD rfl rfl) ?_
                    refine AOps.nil ?_
                    refine AWP.cond rfl (fun _ => ?_) (fun h => nomatch h)
                    refine AWP.seq ?_
                    refine AWP.region ?_
                    refine AOps.step rfl rfl rfl (AOp.assignD rfl rfl) ?_
                    refine AOps.nil ?_
                    refine AWP.ret ?_
                    refine ⟨RetD.eq rfl ?_, trivial⟩
                    all_goals (rw [HR])
                  · replace g13 := bnot_f g13; replace g13 := of_decide_eq_true g13
                    refine AOps.step ⟨85, rfl, .inl ⟨_, rfl, rfl⟩⟩ rfl rfl (AOp.fieldAddr rfl fo_66_2 rfl) ?_
                    refine AOps.step ⟨85, rfl, .inl ⟨_, rfl, rfl⟩⟩ rfl rfl (AOp.load rfl sc_3 rfl) ?_
                    refine AOps.step ⟨85, rfl, .inl ⟨_, rfl, rfl⟩⟩ rfl rfl (AOp.call rfl (.cons (ArgOk.rfl' rfl) (.cons (ArgOk.rfl' rfl) (.cons (ArgOk.rfl' rfl) .nil))) (c_pIn _ _ _)) ?_
                    refine AOps.step ⟨85, rfl, .inl ⟨_, rfl, rfl⟩⟩ rfl rfl (AOp.not rfl rfl) ?_
                    refine AOps.step rfl rfl rfl (AOp.pickF rfl rfl rfl) ?_
                    refine AOps.step rfl rfl rfl (AOp.assignD rfl rfl) ?_
                    refine AOps.nil ?_
                    refine AWP.cond rfl (fun h14 => ?_) (fun h14 => ?_)
                    · replace h14 := bnot_t h14; replace h14 := of_decide_eq_false h14
                      have e1 : (hldF b) k = 1 := by unfold hldF; rw [dif_pos hlt]; (first | (exfalso; omega) | ((repeat (first | rw [if_pos (by first | assumption | omega)] | rw [if_neg (by first | assumption | omega)])); first | done | rfl | omega | decide))
                      have e2 := ffst_hit (f := (hldF b)) hk.2 (by rw [e1]; decide) _ hlt
                      have HR : bksF b = 1 := by unfold bksF; rw [if_neg n1, if_neg (Decidable.not_not.2 n2), if_neg n3, if_neg (by rw [HS]; decide), if_pos (by rw [e2, e1]; decide), e2, e1]
                      refine AWP.seq ?_
                      refine AWP.region ?_
                      refine AOps.step rfl rfl rfl (AOp.assignD rfl rfl) ?_
                      refine AOps.nil ?_
                      refine AWP.ret ?_
                      refine ⟨RetD.eq rfl ?_, trivial⟩
                      all_goals (rw [HR])
                    · replace h14 := bnot_f h14; replace h14 := of_decide_eq_true h14
                      have e0 : hldF b k = 0 := by unfold hldF; rw [dif_pos hlt]; (first | (exfalso; omega) | ((repeat (first | rw [if_pos (by first | assumption | omega)] | rw [if_neg (by first | assumption | omega)])); first | done | rfl | omega | decide))
                      refine AWP.skip ?_
                      refine AWP.region ?_
                      refine AOps.step rfl rfl rfl (AOp.add64 rfl rfl rfl (by omega) (by omega)) ?_
                      refine AOps.step rfl rfl rfl (AOp.moveD rfl rfl) ?_
                      refine AOps.nil ?_
                      refine ⟨k + 1, ⟨by omega, ffst_next hk.2 e0⟩, (by dsimp only; omega), Sub.less ⟨(SLe.of_eq rfl), SLe.refl _, SLe.refl _, SLe.refl _, trivial⟩ (fun _ h => h)⟩
            · replace h7 := of_decide_eq_false h7
              rw [List.length_map] at h7
              have HH : ffst (hldF b) b.held.length = 0 := by rw [show b.held.length = k by omega]; exact hk.2
              refine AWP.exit ?_
              refine AWP.seq ?_
              refine AWP.seq ?_
              refine AWP.region ?_
              refine AOps.step rfl rfl rfl (AOp.fieldAddr rfl fo_30_4 rfl) ?_
              refine AOps.step rfl rfl rfl (AOp.load rfl sc_27 rfl) ?_
              refine AOps.step rfl rfl rfl (AOp.lenSl rfl et_27.ht rfl) ?_
              refine AOps.step rfl rfl rfl (AOp.moveD rfl rfl) ?_
              refine AOps.nil ?_
              refine AWP.block ?_
              refine AWP.bound 93 rfl (fun hbd => ?_)
              rw [List.length_map] at hbd
              refine AWP.loop (G := Nat) (fun k => Env.of [(95, .d (.v (.int .i64 (k : Int)))), (93, .d (.sl (b.bal.map intD))), (94, .d (.v (.int .i64 ((b.bal.map intD).length : Int)))), (1, .d (.fp b.ds))]) (fun k => []) (fun k => k ≤ b.bal.length ∧ ffst (balF b.bal) k = 0) (fun k => b.bal.length - k) 0 ⟨Nat.zero_le _, rfl⟩ (Sub.less ⟨(SLe.of_eq rfl), SLe.refl _, SLe.refl _, SLe.refl _, trivial⟩ (fun _ h => h)) ?_
              intro k hk
              refine AWP.seq ?_
              refine AWP.region ?_
              refine AOps.step rfl rfl rfl (AOp.lss rfl rfl rfl) ?_
              refine AOps.nil ?_
              refine AWP.seq ?_
              refine AWP.cond rfl (fun h15 => ?_) (fun h15 => ?_)
              · replace h15 := of_decide_eq_true h15
                rw [List.length_map] at h15
                have hlt : k < b.bal.length := by omega
                refine AWP.skip ?_
                refine AWP.seq ?_
                refine AWP.block ?_
                refine AWP.seq ?_
                refine AWP.region ?_
                refine AOps.step rfl rfl rfl (AOp.indexAddr rfl et_27 rfl rfl k rfl (at_lst hlt) rfl) ?_
                refine AOps.step rfl rfl rfl (AOp.load rfl sc_3 rfl) ?_
                refine AOps.step rfl rfl rfl (AOp.assignD rfl rfl) ?_
                refine AOps.nil ?_
                refine AWP.seq ?_
                refine AWP.region ?_
                refine AOps.step rfl rfl rfl (AOp.moveD rfl rfl) ?_
                refine AOps.step rfl rfl rfl (AOp.call rfl (.cons (ArgOk.rfl' rfl) (.cons (ArgOk.rfl' rfl) (.cons (ArgOk.rfl' rfl) .nil))) (c_pIn _ _ _)) ?_
                refine AOps.step rfl rfl rfl (AOp.not rfl rfl) ?_
                refine AOps.nil ?_
                refine AWP.cond rfl (fun h16 => ?_) (fun h16 => ?_)
                · replace h16 := bnot_t h16; replace h16 := of_decide_eq_false h16
                  have n4 := h16
                  have e1 : balF b.bal k = 1 := by unfold balF; rw [dif_pos hlt]; (first | (exfalso; omega) | ((repeat (first | rw [if_pos (by first | assumption | omega)] | rw [if_neg (by first | assumption | omega)])); first | done | rfl | omega | decide))
                  have e2 := ffst_hit (f := balF b.bal) hk.2 (by rw [e1]; decide) _ hlt
                  have HR : bksF b = 1 := by unfold bksF; rw [if_neg n1, if_neg (Decidable.not_not.2 n2), if_neg n3, if_neg (by rw [HS]; decide), if_neg (by rw [HH]; decide), e2, e1]
                  refine AWP.seq ?_
                  refine AWP.region ?_
                  refine AOps.step rfl rfl rfl (AOp.assignD rfl rfl) ?_
                  refine AOps.nil ?_
                  refine AWP.ret ?_
                  refine ⟨RetD.eq rfl ?_, trivial⟩
                  all_goals (rw [HR])
                · replace h16 := bnot_f h16; replace h16 := of_decide_eq_true h16
                  have n4 := h16
                  have e0 : balF b.bal k = 0 := by unfold balF; rw [dif_pos hlt]; (first | (exfalso; omega) | ((repeat (first | rw [if_pos (by first | assumption | omega)] | rw [if_neg (by first | assumption | omega)])); first | done | rfl | omega | decide))
                  refine AWP.skip ?_
                  refine AWP.region ?_
                  refine AOps.step rfl rfl rfl (AOp.add64 rfl rfl rfl (by omega) (by omega)) ?_
                  refine AOps.step rfl rfl rfl (AOp.moveD rfl rfl) ?_
                  refine AOps.nil ?_
                  refine ⟨k + 1, ⟨by omega, ffst_next hk.2 e0⟩, (by dsimp only; omega), Sub.less ⟨(SLe.of_eq rfl), SLe.refl _, SLe.refl _, SLe.refl _, trivial⟩ (fun _ h => h)⟩
              · replace h15 := of_decide_eq_false h15
                rw [List.length_map] at h15
                have HR : bksF b = 0 := by unfold bksF; rw [if_neg n1, if_neg (Decidable.not_not.2 n2), if_neg n3, if_neg (by rw [HS]; decide), if_neg (by rw [HH]; decide), show b.bal.length = k by omega]; exact hk.2
                refine AWP.exit ?_
                refine AWP.seq ?_
                refine AWP.region ?_
                refine AOps.step rfl rfl rfl (AOp.assignD rfl rfl) ?_
                refine AOps.nil ?_
                refine AWP.ret ?_
                refine ⟨RetD.eq rfl ?_, trivial⟩
                all_goals (rw [HR])

set_option maxRecDepth 100000 in
set_option maxHeartbeats 1000000 in
theorem c_rBks (b : Bks) (hb : okBks b) : ACallT Tryd.prog MaxT 11 [.agg b.ds] (.v (.int .i64 (bksF b))) := by
  refine acall_ofT (n := 103) (ds' := [.v (.int .i64 (bksF b))]) Tryd.func11 rfl (by kernel_rfl) rfl [2] rfl rfl ?_
  intro B w0 F0 hT
  refine AWP.seq ?_
  refine AWP.region ?_
  refine AOps.step rfl rfl rfl (AOp.box rfl rfl rfl) ?_
  refine AOps.step rfl rfl rfl (AOp.assignD rfl rfl) ?_
  refine AOps.nil ?_
  refine AWP.seq ?_
  refine AWP.seq ?_
  refine AWP.region ?_
  refine AOps.step rfl rfl rfl (AOp.fieldAddr rfl fo_30_0 rfl) ?_
  refine AOps.step rfl rfl rfl (AOp.loadAggT rfl ag_26 rfl (Nat.le_of_ble_eq_true rfl)) ?_
  -- wants the world
  refine AOps.callT rfl rfl rfl hT maxT_stays rfl (.cons (ArgOk.rfl' rfl) .nil) (c_rCtr b.ctr hb) ?_
  refine AOps.step rfl rfl rfl (AOp.assignD rfl rfl) ?_
  refine AOps.nil ?_
  refine AWP.seq ?_
  refine AWP.region ?_
  refine AOps.step rfl rfl rfl (AOp.moveD rfl rfl) ?_
  refine AOps.step rfl rfl rfl (AOp.neq rfl rfl rfl) ?_
  refine AOps.nil ?_
  refine AWP.cond rfl (fun h1 => ?_) (fun h1 => ?_)
  · replace h1 := of_decide_eq_true h1
    have HR : bksF b = ctrF b.ctr := if_pos h1
    refine AWP.seq ?_
    refine AWP.region ?_
    refine AOps.step rfl rfl rfl (AOp.moveD rfl rfl) ?_
    refine AOps.step rfl rfl rfl (AOp.assignD rfl rfl) ?_
    refine AOps.nil ?_
    refine AWP.ret ?_
    refine ⟨RetD.eq rfl ?_, trivial⟩
    all_goals (rw [HR])
  · replace h1 := of_decide_eq_false h1
    have n1 : ¬ ctrF b.ctr ≠ 0 := h1
    refine AWP.skip ?_
    refine AWP.seq ?_
    refine AWP.seq ?_
    refine AWP.region ?_
    refine AOps.step rfl rfl rfl (AOp.fieldAddr rfl fo_30_1 rfl) ?_
    refine AOps.step rfl rfl rfl (AOp.load rfl sc_3 rfl) ?_
    refine AOps.step rfl rfl rfl (AOp.call rfl (.cons (ArgOk.rfl' rfl) (.cons (ArgOk.rfl' rfl) (.cons (ArgOk.rfl' rfl) .nil))) (c_rIn _ _ _)) ?_
    refine AOps.step rfl rfl rfl (AOp.not rfl rfl) ?_
    refine AOps.nil ?_
    refine AWP.cond rfl (fun h2 => ?_) (fun h2 => ?_)
    · replace h2 := bnot_t h2; replace h2 := of_decide_eq_false h2
      have HR : bksF b = 1 := by unfold bksF; rw [if_neg n1, if_pos h2]
      refine AWP.seq ?_
      refine AWP.region ?_
      refine AOps.step rfl rfl rfl (AOp.assignD rfl rfl) ?_
      refine AOps.nil ?_
      refine AWP.ret ?_
      refine ⟨RetD.eq rfl ?_, trivial⟩
      all_goals (rw [HR])
    · replace h2 := bnot_f h2; replace h2 := of_decide_eq_true h2
      have n2 := h2
      refine AWP.skip ?_
      refine AWP.seq ?_
      refine AWP.seq ?_
      refine AWP.region ?_
      refine AOps.step rfl rfl rfl (AOp.fieldAddr rfl fo_30_2 rfl) ?_
      refine AOps.step rfl rfl rfl (AOp.load rfl sc_27 rfl) ?_
      refine AOps.step rfl rfl rfl (AOp.lenSl rfl et_27.ht rfl) ?_
      refine AOps.step rfl rfl rfl (AOp.fieldAddr rfl fo_30_0 rfl) ?_
      refine AOps.step rfl rfl rfl (AOp.fieldAddr rfl fo_26_1 rfl) ?_
      refine AOps.step rfl rfl rfl (AOp.load rfl sc_23 rfl) ?_
      refine AOps.step rfl rfl rfl (AOp.lenSl rfl et_23.ht rfl) ?_
      refine AOps.step rfl rfl rfl (AOp.neq rfl rfl rfl) ?_
      refine AOps.step rfl rfl rfl (AOp.moveD rfl rfl) ?_
      refine AOps.split 28 rfl (fun g3 => ?_) (fun g3 => ?_)
      · replace g3 := of_decide_eq_true g3
        rw [List.length_map, List.length_map] at g3
        have HR : bksF b = 3 := by unfold bksF; rw [if_neg n1, if_neg (Decidable.not_not.2 n2), if_pos (by omega)]
        refine AOps.pass ⟨28, rfl, .inl ⟨_, rfl, rfl⟩⟩ rfl rfl ?_
        refine AOps.pass ⟨28, rfl, .inl ⟨_, rfl, rfl⟩⟩ rfl rfl ?_
        refine AOps.pass ⟨28, rfl, .inl ⟨_, rfl, rfl⟩⟩ rfl rfl ?_
        refine AOps.pass ⟨28, rfl, .inl ⟨_, rfl, rfl⟩⟩ rfl rfl ?_
        refine AOps.pass ⟨28, rfl, .inl ⟨_, rfl, rfl⟩⟩ rfl rfl ?_
        refine AOps.pass ⟨28, rfl, .inl ⟨_, rfl, rfl⟩⟩ rfl rfl ?_
        refine AOps.pass ⟨28, rfl, .inl ⟨_, rfl, rfl⟩⟩ rfl rfl ?_
        refine AOps.pass ⟨28, rfl, .inl ⟨_, rfl, rfl⟩⟩ rfl rfl ?_
        refine AOps.step rfl rfl rfl (AOp.pickT rfl rfl rfl) ?_
        refine AOps.nil ?_
        refine AWP.cond rfl (fun _ => ?_) (fun h => nomatch h)
        refine AWP.seq ?_
        refine AWP.region ?_
        refine AOps.step rfl rfl rfl (AOp.assignD rfl rfl) ?_
        refine AOps.nil ?_
        refine AWP.ret ?_
        refine ⟨RetD.eq rfl ?_, trivial⟩
        all_goals (rw [HR])
      · replace g3 := of_decide_eq_false g3
        rw [List.length_map, List.length_map] at g3
        refine AOps.step ⟨28, rfl, .inl ⟨_, rfl, rfl⟩⟩ rfl rfl (AOp.fieldAddr rfl fo_30_4 rfl) ?_
        refine AOps.step ⟨28, rfl, .inl ⟨_, rfl, rfl⟩⟩ rfl rfl (AOp.load rfl sc_27 rfl) ?_
        refine AOps.step ⟨28, rfl, .inl ⟨_, rfl, rfl⟩⟩ rfl rfl (AOp.lenSl rfl et_27.ht rfl) ?_
        refine AOps.step ⟨28, rfl, .inl ⟨_, rfl, rfl⟩⟩ rfl rfl (AOp.fieldAddr rfl fo_30_0 rfl) ?_
        refine AOps.step ⟨28, rfl, .inl ⟨_, rfl, rfl⟩⟩ rfl rfl (AOp.fieldAddr rfl fo_26_2 rfl) ?_
        refine AOps.step ⟨28, rfl, .inl ⟨_, rfl, rfl⟩⟩ rfl rfl (AOp.load rfl sc_24 rfl) ?_
        refine AOps.step ⟨28, rfl, .inl ⟨_, rfl, rfl⟩⟩ rfl rfl (AOp.lenSl rfl et_24.ht rfl) ?_
        refine AOps.step ⟨28, rfl, .inl ⟨_, rfl, rfl⟩⟩ rfl rfl (AOp.neq rfl rfl rfl) ?_
        refine AOps.step rfl rfl rfl (AOp.pickF rfl rfl rfl) ?_
        refine AOps.nil ?_
        refine AWP.cond rfl (fun h4 => ?_) (fun h4 => ?_)
        · replace h4 := of_decide_eq_true h4
          rw [List.length_map, List.length_map] at h4
          have HR : bksF b = 3 := by unfold bksF; rw [if_neg n1, if_neg (Decidable.not_not.2 n2), if_pos (by omega)]
          refine AWP.seq ?_
          refine AWP.region ?_
          refine AOps.step rfl rfl rfl (AOp.assignD rfl rfl) ?_
          refine AOps.nil ?_
          refine AWP.ret ?_
          refine ⟨RetD.eq rfl ?_, trivial⟩
          all_goals (rw [HR])
        · replace h4 := of_decide_eq_false h4
          rw [List.length_map, List.length_map] at h4
          have n3 : ¬ (b.stated.length ≠ b.ctr.deals.length ∨ b.bal.length ≠ b.ctr.groups.length) := by omega
          refine AWP.skip ?_
          refine AWP.seq ?_
          refine AWP.seq ?_
          refine AWP.region ?_
          refine AOps.step rfl rfl rfl (AOp.fieldAddr rfl fo_30_2 rfl) ?_
          refine AOps.step rfl rfl rfl (AOp.load rfl sc_27 rfl) ?_
          refine AOps.step rfl rfl rfl (AOp.lenSl rfl et_27.ht rfl) ?_
          refine AOps.step rfl rfl rfl (AOp.moveD rfl rfl) ?_
          refine AOps.nil ?_
          refine AWP.block ?_
          refine AWP.bound 39 rfl (fun hbd => ?_)
          rw [List.length_map] at hbd
          refine AWP.loop (G := Nat) (fun k => Env.of [(41, .d (.v (.int .i64 (k : Int)))), (39, .d (.sl (b.stated.map intD))), (40, .d (.v (.int .i64 ((b.stated.map intD).length : Int)))), (1, .d (.fp b.ds))]) (fun k => []) (fun k => k ≤ b.stated.length ∧ ffst (statF b.stated) k = 0) (fun k => b.stated.length - k) 0 ⟨Nat.zero_le _, rfl⟩ (Sub.less ⟨(SLe.of_eq rfl), SLe.refl _, SLe.refl _, SLe.refl _, trivial⟩ (fun _ h => h)) ?_
          intro k hk
          refine AWP.seq ?_
          refine AWP.region ?_
          refine AOps.step rfl rfl rfl (AOp.lss rfl rfl rfl) ?_
          refine AOps.nil ?_
          refine AWP.seq ?_
          refine AWP.cond rfl (fun h5 => ?_) (fun h5 => ?_)
          · replace h5 := of_decide_eq_true h5
            rw [List.length_map] at h5
            have hlt : k < b.stated.length := by omega
            refine AWP.skip ?_
            refine AWP.seq ?_
            refine AWP.block ?_
            refine AWP.seq ?_
            refine AWP.region ?_
            refine AOps.step rfl rfl rfl (AOp.indexAddr rfl et_27 rfl rfl k rfl (at_lst hlt) rfl) ?_
            refine AOps.step rfl rfl rfl (AOp.load rfl sc_3 rfl) ?_
            refine AOps.step rfl rfl rfl (AOp.assignD rfl rfl) ?_
            refine AOps.nil ?_
            refine AWP.seq ?_
            refine AWP.region ?_
            refine AOps.step rfl rfl rfl (AOp.moveD rfl rfl) ?_
            refine AOps.step rfl rfl rfl (AOp.call rfl (.cons (ArgOk.rfl' rfl) (.cons (ArgOk.rfl' rfl) (.cons (ArgOk.rfl' rfl) .nil))) (c_rIn _ _ _)) ?_
            refine AOps.step rfl rfl rfl (AOp.not rfl rfl) ?_
            refine AOps.nil ?_
            refine AWP.cond rfl (fun h6 => ?_) (fun h6 => ?_)
            · replace h6 := bnot_t h6; replace h6 := of_decide_eq_false h6
              have n4 := h6
              have e1 : statF b.stated k = 1 := by unfold statF; rw [dif_pos hlt]; (first | (exfalso; omega) | ((repeat (first | rw [if_pos (by first | assumption | omega)] | rw [if_neg (by first | assumption | omega)])); first | done | rfl | omega | decide))
              have e2 := ffst_hit (f := statF b.stated) hk.2 (by rw [e1]; decide) _ hlt
              have HR : bksF b = 1 := by unfold bksF; rw [if_neg n1, if_neg (Decidable.not_not.2 n2), if_neg n3, if_pos (by rw [e2, e1]; decide), e2, e1]
              refine AWP.seq ?_
              refine AWP.region ?_
              refine AOps.step rfl rfl rfl (AOp.assignD rfl rfl) ?_
              refine AOps.nil ?_
              refine AWP.ret ?_
              refine ⟨RetD.eq rfl ?_, trivial⟩
              all_goals (rw [HR])
            · replace h6 := bnot_f h6; replace h6 := of_decide_eq_true h6
              have n4 := h6
              have e0 : statF b.stated k = 0 := by unfold statF; rw [dif_pos hlt]; (first | (exfalso; omega) | ((repeat (first | rw [if_pos (by first | assumption | omega)] | rw [if_neg (by first | assumption | omega)])); first | done | rfl | omega | decide))
              refine AWP.skip ?_
              refine AWP.region ?_
              refine AOps.step rfl rfl rfl (AOp.add64 rfl rfl rfl (by omega) (by omega)) ?_
              refine AOps.step rfl rfl rfl (AOp.moveD rfl rfl) ?_
              refine AOps.nil ?_
              refine ⟨k + 1, ⟨by omega, ffst_next hk.2 e0⟩, (by dsimp only; omega), Sub.less ⟨(SLe.of_eq rfl), SLe.refl _, SLe.refl _, SLe.refl _, trivial⟩ (fun _ h => h)⟩
          · replace h5 := of_decide_eq_false h5
            rw [List.length_map] at h5
            have HS : ffst (statF b.stated) b.stated.length = 0 := by rw [show b.stated.length = k by omega]; exact hk.2
            refine AWP.exit ?_
            refine AWP.seq ?_
            refine AWP.seq ?_
            refine AWP.region ?_
            refine AOps.step rfl rfl rfl (AOp.fieldAddr rfl fo_30_3 rfl) ?_
            refine AOps.step rfl rfl rfl (AOp.load rfl sc_28 rfl) ?_
            refine AOps.step rfl rfl rfl (AOp.lenSl rfl et_28.ht rfl) ?_
            refine AOps.step rfl rfl rfl (AOp.moveD rfl rfl) ?_
            refine AOps.nil ?_
            refine AWP.block ?_
            refine AWP.bound 50 rfl (fun hbd => ?_)
            rw [List.length_map] at hbd
            refine AWP.loop (G := Nat) (fun k => Env.of [(52, .d (.v (.int .i64 (k : Int)))), (50, .d (.sl (b.held.map Hld.ds))), (51, .d (.v (.int .i64 ((b.held.map Hld.ds).length : Int)))), (1, .d (.fp b.ds))]) (fun k => []) (fun k => k ≤ b.held.length ∧ ffst (hldF b) k = 0) (fun k => b.held.length - k) 0 ⟨Nat.zero_le _, rfl⟩ (Sub.less ⟨(SLe.of_eq rfl), SLe.refl _, SLe.refl _, SLe.refl _, trivial⟩ (fun _ h => h)) ?_
            intro k hk
            refine AWP.seq ?_
            refine AWP.region ?_
            refine AOps.step rfl rfl rfl (AOp.lss rfl rfl rfl) ?_
            refine AOps.nil ?_
            refine AWP.seq ?_
            refine AWP.cond rfl (fun h7 => ?_) (fun h7 => ?_)
            · replace h7 := of_decide_eq_true h7
              rw [List.length_map] at h7
              have hlt : k < b.held.length := by omega
              refine AWP.skip ?_
              refine AWP.seq ?_
              refine AWP.block ?_
              refine AWP.seq ?_
              refine AWP.region ?_
              refine AOps.step rfl rfl rfl (AOp.moveD rfl rfl) ?_
              refine AOps.step rfl rfl rfl (AOp.indexAddr rfl et_28 rfl rfl k rfl (at_lst hlt) rfl) ?_
              refine AOps.step rfl rfl rfl (AOp.loadAgg rfl ag_66 rfl rfl) ?_
              refine AOps.alloc 101 rfl rfl rfl rfl zt_66 rfl rfl rfl ?_
              refine AOps.step rfl rfl rfl (AOp.assignD rfl rfl) ?_
              refine AOps.store rfl rfl rfl sz_66 rfl (.head _) rfl rfl rfl (Nat.le_of_ble_eq_true rfl) ?_
              refine AOps.freezeCells 7 (ds := b.held[k].ds) rfl (.head _) ?_
              refine AOps.nil ?_
              refine AWP.block ?_
              refine AWP.seq ?_
              refine AWP.region ?_
              refine AOps.step rfl rfl rfl (AOp.fieldAddr rfl fo_30_0 rfl) ?_
              refine AOps.step rfl rfl rfl (AOp.loadAggT rfl ag_26 rfl (Nat.le_of_ble_eq_true rfl)) ?_
              refine AOps.step rfl rfl rfl (AOp.fieldAddr rfl fo_66_0 rfl) ?_
              refine AOps.step rfl rfl rfl (AOp.load rfl sc_9 rfl) ?_
              refine AOps.step rfl rfl rfl (AOp.call rfl (.cons (ArgOk.rfl' rfl) (.cons (ArgOk.rfl' rfl) .nil)) (c_dealOf b.ctr _)) ?_
              refine AOps.step rfl rfl rfl (AOp.lss rfl rfl rfl) ?_
              refine AOps.step rfl rfl rfl (AOp.assignD rfl rfl) ?_
              refine AOps.nil ?_
              refine AWP.cond rfl (fun h8 => ?_) (fun h8 => ?_)
              · replace h8 := of_decide_eq_true h8
                have n5 : dealIdx b.ctr.deals b.held[k].deal = false := deal_any.1 h8
                have e1 : (hldF b) k = 9 := by unfold hldF; rw [dif_pos hlt]; (first | (exfalso; omega) | ((repeat (first | rw [if_pos (by first | assumption | omega)] | rw [if_neg (by first | assumption | omega)])); first | done | rfl | omega | decide))
                have e2 := ffst_hit (f := (hldF b)) hk.2 (by rw [e1]; decide) _ hlt
                have HR : bksF b = 9 := by unfold bksF; rw [if_neg n1, if_neg (Decidable.not_not.2 n2), if_neg n3, if_neg (by rw [HS]; decide), if_pos (by rw [e2, e1]; decide), e2, e1]
                refine AWP.seq ?_
                refine AWP.region ?_
                refine AOps.step rfl rfl rfl (AOp.assignD rfl rfl) ?_
                refine AOps.nil ?_
                refine AWP.ret ?_
                refine ⟨RetD.eq rfl ?_, trivial⟩
                all_goals (rw [HR])
              · replace h8 := of_decide_eq_false h8
                have n5 : ¬ dealIdx b.ctr.deals b.held[k].deal = false := fun hh => h8 (deal_any.2 hh)
                refine AWP.seq ?_
                refine AWP.draw (by kernel_rfl) (by kernel_rfl) ?_
                refine DRun.step rfl rfl rfl (AOp.moveD rfl rfl) ?_
                refine DRun.step rfl rfl rfl (AOp.gtr rfl rfl rfl) ?_
                refine DRun.step rfl rfl rfl (AOp.moveD rfl rfl) ?_
                refine DRun.split 67 rfl (fun g9 => ?_) (fun g9 => ?_)
                · replace g9 := of_decide_eq_true g9
                  have hk0 : 0 < k := by omega
                  refine DRun.step ⟨67, rfl, .inl ⟨_, rfl, rfl⟩⟩ rfl rfl (AOp.fieldAddr rfl fo_30_3 rfl) ?_
                  refine DRun.step ⟨67, rfl, .inl ⟨_, rfl, rfl⟩⟩ rfl rfl (AOp.load rfl sc_28 rfl) ?_
                  refine DRun.step ⟨67, rfl, .inl ⟨_, rfl, rfl⟩⟩ rfl rfl (AOp.moveD rfl rfl) ?_
                  refine DRun.step ⟨67, rfl, .inl ⟨_, rfl, rfl⟩⟩ rfl rfl (AOp.sub64 rfl rfl rfl (by omega) (by omega)) ?_
                  refine DRun.step ⟨67, rfl, .inl ⟨_, rfl, rfl⟩⟩ rfl rfl (AOp.indexAddr rfl et_28 rfl rfl (k - 1) (by omega) (at_lst (by omega)) rfl) ?_
                  refine DRun.step ⟨67, rfl, .inl ⟨_, rfl, rfl⟩⟩ rfl rfl (AOp.loadAgg rfl ag_66 rfl rfl) ?_
                  refine DRun.step ⟨67, rfl, .inl ⟨_, rfl, rfl⟩⟩ rfl rfl (AOp.loadAgg rfl ag_66 rfl rfl) ?_
                  refine DRun.step ⟨67, rfl, .inl ⟨_, rfl, rfl⟩⟩ rfl rfl (AOp.call rfl (.cons (ArgOk.rfl' rfl) (.cons (ArgOk.rfl' rfl) .nil)) (c_hLess _ _)) ?_
                  refine DRun.step ⟨67, rfl, .inl ⟨_, rfl, rfl⟩⟩ rfl rfl (AOp.not rfl rfl) ?_
                  refine DRun.step rfl rfl rfl (AOp.pickT rfl rfl rfl) ?_
                  refine DRun.step rfl rfl rfl (AOp.assignD rfl rfl) ?_
                  refine DRun.nil ?_
                  refine AWP.cond rfl (fun h10 => ?_) (fun h10 => ?_)
                  · replace h10 := bnot_t h10
                    have n6 : (0 < k ∧ 0 ≤ hldCmp (b.held[k-1]'(by omega)) b.held[k]) := ⟨hk0, by have := of_decide_eq_false (show decide (hldCmp (b.held[k-1]'(by omega)) b.held[k] < 0) = false from h10); omega⟩
                    have e1 : (hldF b) k = 8 := by unfold hldF; rw [dif_pos hlt]; (first | (exfalso; omega) | ((repeat (first | rw [if_pos (by first | assumption | omega)] | rw [if_neg (by first | assumption | omega)])); first | done | rfl | omega | decide))
                    have e2 := ffst_hit (f := (hldF b)) hk.2 (by rw [e1]; decide) _ hlt
                    have HR : bksF b = 8 := by unfold bksF; rw [if_neg n1, if_neg (Decidable.not_not.2 n2), if_neg n3, if_neg (by rw [HS]; decide), if_pos (by rw [e2, e1]; decide), e2, e1]
                    refine AWP.seq ?_
                    refine AWP.region ?_
                    refine AOps.step rfl rfl rfl (AOp.assignD rfl rfl) ?_
                    refine AOps.nil ?_
                    refine AWP.ret ?_
                    refine ⟨RetD.eq rfl ?_, trivial⟩
                    all_goals (rw [HR])
                  · replace h10 := bnot_f h10
                    have n6 : ¬ (0 < k ∧ 0 ≤ hldCmp (b.held[k-1]'(by omega)) b.held[k]) := fun hh => by have := of_decide_eq_true (show decide (hldCmp (b.held[k-1]'(by omega)) b.held[k] < 0) = true from h10); omega
                    refine AWP.seq ?_
                    refine AWP.region ?_
                    refine AOps.step rfl rfl rfl (AOp.fieldAddr rfl fo_66_1 rfl) ?_
                    refine AOps.step rfl rfl rfl (AOp.load rfl sc_3 rfl) ?_
                    refine AOps.step rfl rfl rfl (AOp.fieldAddr rfl fo_30_1 rfl) ?_
                    refine AOps.step rfl rfl rfl (AOp.load rfl sc_3 rfl) ?_
                    refine AOps.step rfl rfl rfl (AOp.call rfl (.cons (ArgOk.rfl' rfl) (.cons (ArgOk.rfl' rfl) (.cons (ArgOk.rfl' rfl) .nil))) (c_rIn _ _ _)) ?_
                    refine AOps.step rfl rfl rfl (AOp.not rfl rfl) ?_
                    refine AOps.step rfl rfl rfl (AOp.moveD rfl rfl) ?_
                    refine AOps.split 85 rfl (fun g11 => ?_) (fun g11 => ?_)
                    · replace g11 := bnot_t g11; replace g11 := of_decide_eq_false g11
                      have e1 : (hldF b) k = 1 := by unfold hldF; rw [dif_pos hlt]; (first | (exfalso; omega) | ((repeat (first | rw [if_pos (by first | assumption | omega)] | rw [if_neg (by first | assumption | omega)])); first | done | rfl | omega | decide))
                      have e2 := ffst_hit (f := (hldF b)) hk.2 (by rw [e1]; decide) _ hlt
                      have HR : bksF b = 1 := by unfold bksF; rw [if_neg n1, if_neg (Decidable.not_not.2 n2), if_neg n3, if_neg (by rw [HS]; decide), if_pos (by rw [e2, e1]; decide), e2, e1]
                      refine AOps.pass ⟨85, rfl, .inl ⟨_, rfl, rfl⟩⟩ rfl rfl ?_
                      refine AOps.pass ⟨85, rfl, .inl ⟨_, rfl, rfl⟩⟩ rfl rfl ?_
                      refine AOps.pass ⟨85, rfl, .inl ⟨_, rfl, rfl⟩⟩ rfl rfl ?_
                      refine AOps.pass ⟨85, rfl, .inl ⟨_, rfl, rfl⟩⟩ rfl rfl ?_
                      refine AOps.step rfl rfl rfl (AOp.pickT rfl rfl rfl) ?_
                      refine AOps.step rfl rfl rfl (AOp.assignD rfl rfl) ?_
                      refine AOps.nil ?_
                      refine AWP.cond rfl (fun _ => ?_) (fun h => nomatch h)
                      refine AWP.seq ?_
                      refine AWP.region ?_
                      refine AOps.step rfl rfl rfl (AOp.assignD rfl rfl) ?_
                      refine AOps.nil ?_
                      refine AWP.ret ?_
                      refine ⟨RetD.eq rfl ?_, trivial⟩
                      all_goals (rw [HR])
                    · replace g11 := bnot_f g11; replace g11 := of_decide_eq_true g11
                      refine AOps.step ⟨85, rfl, .inl ⟨_, rfl, rfl⟩⟩ rfl rfl (AOp.fieldAddr rfl fo_66_2 rfl) ?_
                      refine AOps.step ⟨85, rfl, .inl ⟨_, rfl, rfl⟩⟩ rfl rfl (AOp.load rfl sc_3 rfl) ?_
                      refine AOps.step ⟨85, rfl, .inl ⟨_, rfl, rfl⟩⟩ rfl rfl (AOp.call rfl (.cons (ArgOk.rfl' rfl) (.cons (ArgOk.rfl' rfl) (.cons (ArgOk.rfl' rfl) .nil))) (c_rIn _ _ _)) ?_
                      refine AOps.step ⟨85, rfl, .inl ⟨_, rfl, rfl⟩⟩ rfl rfl (AOp.not rfl rfl) ?_
                      refine AOps.step rfl rfl rfl (AOp.pickF rfl rfl rfl) ?_
                      refine AOps.step rfl rfl rfl (AOp.assignD rfl rfl) ?_
                      refine AOps.nil ?_
                      refine AWP.cond rfl (fun h12 => ?_) (fun h12 => ?_)
                      · replace h12 := bnot_t h12; replace h12 := of_decide_eq_false h12
                        have e1 : (hldF b) k = 1 := by unfold hldF; rw [dif_pos hlt]; (first | (exfalso; omega) | ((repeat (first | rw [if_pos (by first | assumption | omega)] | rw [if_neg (by first | assumption | omega)])); first | done | rfl | omega | decide))
                        have e2 := ffst_hit (f := (hldF b)) hk.2 (by rw [e1]; decide) _ hlt
                        have HR : bksF b = 1 := by unfold bksF; rw [if_neg n1, if_neg (Decidable.not_not.2 n2), if_neg n3, if_neg (by rw [HS]; decide), if_pos (by rw [e2, e1]; decide), e2, e1]
                        refine AWP.seq ?_
                        refine AWP.region ?_
                        refine AOps.step rfl rfl rfl (AOp.assignD rfl rfl) ?_
                        refine AOps.nil ?_
                        refine AWP.ret ?_
                        refine ⟨RetD.eq rfl ?_, trivial⟩
                        all_goals (rw [HR])
                      · replace h12 := bnot_f h12; replace h12 := of_decide_eq_true h12
                        have e0 : hldF b k = 0 := by unfold hldF; rw [dif_pos hlt]; (first | (exfalso; omega) | ((repeat (first | rw [if_pos (by first | assumption | omega)] | rw [if_neg (by first | assumption | omega)])); first | done | rfl | omega | decide))
                        refine AWP.skip ?_
                        refine AWP.region ?_
                        refine AOps.step rfl rfl rfl (AOp.add64 rfl rfl rfl (by omega) (by omega)) ?_
                        refine AOps.step rfl rfl rfl (AOp.moveD rfl rfl) ?_
                        refine AOps.nil ?_
                        refine ⟨k + 1, ⟨by omega, ffst_next hk.2 e0⟩, (by dsimp only; omega), Sub.less ⟨(SLe.of_eq rfl), SLe.refl _, SLe.refl _, SLe.refl _, trivial⟩ (fun _ h => h)⟩
                · replace g9 := of_decide_eq_false g9
                  have n6 : ¬ (0 < k ∧ 0 ≤ hldCmp (b.held[k-1]'(by omega)) b.held[k]) := fun hh => by omega
                  refine DRun.pass ⟨67, rfl, .inl ⟨_, rfl, rfl⟩⟩ rfl rfl ?_
                  refine DRun.pass ⟨67, rfl, .inl ⟨_, rfl, rfl⟩⟩ rfl rfl ?_
                  refine DRun.pass ⟨67, rfl, .inl ⟨_, rfl, rfl⟩⟩ rfl rfl ?_
                  refine DRun.pass ⟨67, rfl, .inl ⟨_, rfl, rfl⟩⟩ rfl rfl ?_
                  refine DRun.pass ⟨67, rfl, .inl ⟨_, rfl, rfl⟩⟩ rfl rfl ?_
                  refine DRun.pass ⟨67, rfl, .inl ⟨_, rfl, rfl⟩⟩ rfl rfl ?_
                  refine DRun.pass ⟨67, rfl, .inl ⟨_, rfl, rfl⟩⟩ rfl rfl ?_
                  refine DRun.pass ⟨67, rfl, .inl ⟨_, rfl, rfl⟩⟩ rfl rfl ?_
                  refine DRun.pass ⟨67, rfl, .inl ⟨_, rfl, rfl⟩⟩ rfl rfl ?_
                  refine DRun.step rfl rfl rfl (AOp.pickF rfl rfl rfl) ?_
                  refine DRun.step rfl rfl rfl (AOp.assignD rfl rfl) ?_
                  refine DRun.nil ?_
                  refine AWP.cond rfl (fun h => nomatch h) (fun _ => ?_)
                  refine AWP.seq ?_
                  refine AWP.region ?_
                  refine AOps.step rfl rfl rfl (AOp.fieldAddr rfl fo_66_1 rfl) ?_
                  refine AOps.step rfl rfl rfl (AOp.load rfl sc_3 rfl) ?_
                  refine AOps.step rfl rfl rfl (AOp.fieldAddr rfl fo_30_1 rfl) ?_
                  refine AOps.step rfl rfl rfl (AOp.load rfl sc_3 rfl) ?_
                  refine AOps.step rfl rfl rfl (AOp.call rfl (.cons (ArgOk.rfl' rfl) (.cons (ArgOk.rfl' rfl) (.cons (ArgOk.rfl' rfl) .nil))) (c_rIn _ _ _)) ?_
                  refine AOps.step rfl rfl rfl (AOp.not rfl rfl) ?_
                  refine AOps.step rfl rfl rfl (AOp.moveD rfl rfl) ?_
                  refine AOps.split 85 rfl (fun g13 => ?_) (fun g13 => ?_)
                  · replace g13 := bnot_t g13; replace g13 := of_decide_eq_false g13
                    have e1 : (hldF b) k = 1 := by unfold hldF; rw [dif_pos hlt]; (first | (exfalso; omega) | ((repeat (first | rw [if_pos (by first | assumption | omega)] | rw [if_neg (by first | assumption | omega)])); first | done | rfl | omega | decide))
                    have e2 := ffst_hit (f := (hldF b)) hk.2 (by rw [e1]; decide) _ hlt
                    have HR : bksF b = 1 := by unfold bksF; rw [if_neg n1, if_neg (Decidable.not_not.2 n2), if_neg n3, if_neg (by rw [HS]; decide), if_pos (by rw [e2, e1]; decide), e2, e1]
                    refine AOps.pass ⟨85, rfl, .inl ⟨_, rfl, rfl⟩⟩ rfl rfl ?_
                    refine AOps.pass ⟨85, rfl, .inl ⟨_, rfl, rfl⟩⟩ rfl rfl ?_
                    refine AOps.pass ⟨85, rfl, .inl ⟨_, rfl, rfl⟩⟩ rfl rfl ?_
                    refine AOps.pass ⟨85, rfl, .inl ⟨_, rfl, rfl⟩⟩ rfl rfl ?_
                    refine AOps.step rfl rfl rfl (AOp.pickT rfl rfl rfl) ?_
                    refine AOps.step rfl rfl rfl (AOp.assignD rfl rfl) ?_
                    refine AOps.nil ?_
                    refine AWP.cond rfl (fun _ => ?_) (fun h => nomatch h)
                    refine AWP.seq ?_
                    refine AWP.region ?_
                    refine AOps.step rfl rfl rfl (AOp.assignD rfl rfl) ?_
                    refine AOps.nil ?_
                    refine AWP.ret ?_
                    refine ⟨RetD.eq rfl ?_, trivial⟩
                    all_goals (rw [HR])
                  · replace g13 := bnot_f g13; replace g13 := of_decide_eq_true g13
                    refine AOps.step ⟨85, rfl, .inl ⟨_, rfl, rfl⟩⟩ rfl rfl (AOp.fieldAddr rfl fo_66_2 rfl) ?_
                    refine AOps.step ⟨85, rfl, .inl ⟨_, rfl, rfl⟩⟩ rfl rfl (AOp.load rfl sc_3 rfl) ?_
                    refine AOps.step ⟨85, rfl, .inl ⟨_, rfl, rfl⟩⟩ rfl rfl (AOp.call rfl (.cons (ArgOk.rfl' rfl) (.cons (ArgOk.rfl' rfl) (.cons (ArgOk.rfl' rfl) .nil))) (c_rIn _ _ _)) ?_
                    refine AOps.step ⟨85, rfl, .inl ⟨_, rfl, rfl⟩⟩ rfl rfl (AOp.not rfl rfl) ?_
                    refine AOps.step rfl rfl rfl (AOp.pickF rfl rfl rfl) ?_
                    refine AOps.step rfl rfl rfl (AOp.assignD rfl rfl) ?_
                    refine AOps.nil ?_
                    refine AWP.cond rfl (fun h14 => ?_) (fun h14 => ?_)
                    · replace h14 := bnot_t h14; replace h14 := of_decide_eq_false h14
                      have e1 : (hldF b) k = 1 := by unfold hldF; rw [dif_pos hlt]; (first | (exfalso; omega) | ((repeat (first | rw [if_pos (by first | assumption | omega)] | rw [if_neg (by first | assumption | omega)])); first | done | rfl | omega | decide))
                      have e2 := ffst_hit (f := (hldF b)) hk.2 (by rw [e1]; decide) _ hlt
                      have HR : bksF b = 1 := by unfold bksF; rw [if_neg n1, if_neg (Decidable.not_not.2 n2), if_neg n3, if_neg (by rw [HS]; decide), if_pos (by rw [e2, e1]; decide), e2, e1]
                      refine AWP.seq ?_
                      refine AWP.region ?_
                      refine AOps.step rfl rfl rfl (AOp.assignD rfl rfl) ?_
                      refine AOps.nil ?_
                      refine AWP.ret ?_
                      refine ⟨RetD.eq rfl ?_, trivial⟩
                      all_goals (rw [HR])
                    · replace h14 := bnot_f h14; replace h14 := of_decide_eq_true h14
                      have e0 : hldF b k = 0 := by unfold hldF; rw [dif_pos hlt]; (first | (exfalso; omega) | ((repeat (first | rw [if_pos (by first | assumption | omega)] | rw [if_neg (by first | assumption | omega)])); first | done | rfl | omega | decide))
                      refine AWP.skip ?_
                      refine AWP.region ?_
                      refine AOps.step rfl rfl rfl (AOp.add64 rfl rfl rfl (by omega) (by omega)) ?_
                      refine AOps.step rfl rfl rfl (AOp.moveD rfl rfl) ?_
                      refine AOps.nil ?_
                      refine ⟨k + 1, ⟨by omega, ffst_next hk.2 e0⟩, (by dsimp only; omega), Sub.less ⟨(SLe.of_eq rfl), SLe.refl _, SLe.refl _, SLe.refl _, trivial⟩ (fun _ h => h)⟩
            · replace h7 := of_decide_eq_false h7
              rw [List.length_map] at h7
              have HH : ffst (hldF b) b.held.length = 0 := by rw [show b.held.length = k by omega]; exact hk.2
              refine AWP.exit ?_
              refine AWP.seq ?_
              refine AWP.seq ?_
              refine AWP.region ?_
              refine AOps.step rfl rfl rfl (AOp.fieldAddr rfl fo_30_4 rfl) ?_
              refine AOps.step rfl rfl rfl (AOp.load rfl sc_27 rfl) ?_
              refine AOps.step rfl rfl rfl (AOp.lenSl rfl et_27.ht rfl) ?_
              refine AOps.step rfl rfl rfl (AOp.moveD rfl rfl) ?_
              refine AOps.nil ?_
              refine AWP.block ?_
              refine AWP.bound 93 rfl (fun hbd => ?_)
              rw [List.length_map] at hbd
              refine AWP.loop (G := Nat) (fun k => Env.of [(95, .d (.v (.int .i64 (k : Int)))), (93, .d (.sl (b.bal.map intD))), (94, .d (.v (.int .i64 ((b.bal.map intD).length : Int)))), (1, .d (.fp b.ds))]) (fun k => []) (fun k => k ≤ b.bal.length ∧ ffst (balF b.bal) k = 0) (fun k => b.bal.length - k) 0 ⟨Nat.zero_le _, rfl⟩ (Sub.less ⟨(SLe.of_eq rfl), SLe.refl _, SLe.refl _, SLe.refl _, trivial⟩ (fun _ h => h)) ?_
              intro k hk
              refine AWP.seq ?_
              refine AWP.region ?_
              refine AOps.step rfl rfl rfl (AOp.lss rfl rfl rfl) ?_
              refine AOps.nil ?_
              refine AWP.seq ?_
              refine AWP.cond rfl (fun h15 => ?_) (fun h15 => ?_)
              · replace h15 := of_decide_eq_true h15
                rw [List.length_map] at h15
                have hlt : k < b.bal.length := by omega
                refine AWP.skip ?_
                refine AWP.seq ?_
                refine AWP.block ?_
                refine AWP.seq ?_
                refine AWP.region ?_
                refine AOps.step rfl rfl rfl (AOp.indexAddr rfl et_27 rfl rfl k rfl (at_lst hlt) rfl) ?_
                refine AOps.step rfl rfl rfl (AOp.load rfl sc_3 rfl) ?_
                refine AOps.step rfl rfl rfl (AOp.assignD rfl rfl) ?_
                refine AOps.nil ?_
                refine AWP.seq ?_
                refine AWP.region ?_
                refine AOps.step rfl rfl rfl (AOp.moveD rfl rfl) ?_
                refine AOps.step rfl rfl rfl (AOp.call rfl (.cons (ArgOk.rfl' rfl) (.cons (ArgOk.rfl' rfl) (.cons (ArgOk.rfl' rfl) .nil))) (c_rIn _ _ _)) ?_
                refine AOps.step rfl rfl rfl (AOp.not rfl rfl) ?_
                refine AOps.nil ?_
                refine AWP.cond rfl (fun h16 => ?_) (fun h16 => ?_)
                · replace h16 := bnot_t h16; replace h16 := of_decide_eq_false h16
                  have n4 := h16
                  have e1 : balF b.bal k = 1 := by unfold balF; rw [dif_pos hlt]; (first | (exfalso; omega) | ((repeat (first | rw [if_pos (by first | assumption | omega)] | rw [if_neg (by first | assumption | omega)])); first | done | rfl | omega | decide))
                  have e2 := ffst_hit (f := balF b.bal) hk.2 (by rw [e1]; decide) _ hlt
                  have HR : bksF b = 1 := by unfold bksF; rw [if_neg n1, if_neg (Decidable.not_not.2 n2), if_neg n3, if_neg (by rw [HS]; decide), if_neg (by rw [HH]; decide), e2, e1]
                  refine AWP.seq ?_
                  refine AWP.region ?_
                  refine AOps.step rfl rfl rfl (AOp.assignD rfl rfl) ?_
                  refine AOps.nil ?_
                  refine AWP.ret ?_
                  refine ⟨RetD.eq rfl ?_, trivial⟩
                  all_goals (rw [HR])
                · replace h16 := bnot_f h16; replace h16 := of_decide_eq_true h16
                  have n4 := h16
                  have e0 : balF b.bal k = 0 := by unfold balF; rw [dif_pos hlt]; (first | (exfalso; omega) | ((repeat (first | rw [if_pos (by first | assumption | omega)] | rw [if_neg (by first | assumption | omega)])); first | done | rfl | omega | decide))
                  refine AWP.skip ?_
                  refine AWP.region ?_
                  refine AOps.step rfl rfl rfl (AOp.add64 rfl rfl rfl (by omega) (by omega)) ?_
                  refine AOps.step rfl rfl rfl (AOp.moveD rfl rfl) ?_
                  refine AOps.nil ?_
                  refine ⟨k + 1, ⟨by omega, ffst_next hk.2 e0⟩, (by dsimp only; omega), Sub.less ⟨(SLe.of_eq rfl), SLe.refl _, SLe.refl _, SLe.refl _, trivial⟩ (fun _ h => h)⟩
              · replace h15 := of_decide_eq_false h15
                rw [List.length_map] at h15
                have HR : bksF b = 0 := by unfold bksF; rw [if_neg n1, if_neg (Decidable.not_not.2 n2), if_neg n3, if_neg (by rw [HS]; decide), if_neg (by rw [HH]; decide), show b.bal.length = k by omega]; exact hk.2
                refine AWP.exit ?_
                refine AWP.seq ?_
                refine AWP.region ?_
                refine AOps.step rfl rfl rfl (AOp.assignD rfl rfl) ?_
                refine AOps.nil ?_
                refine AWP.ret ?_
                refine ⟨RetD.eq rfl ?_, trivial⟩
                all_goals (rw [HR])

end Go.Proofs.YtfajemnegkfigaaDoor


namespace Go.Proofs.YtfajemnegkfigaaDoor
open Go.RowKit
set_option linter.unusedVariables false

/-- f, called with what reads as ds, returns a new row whose elements read as els, and that nobody else has. -/
def OCall (P : Program) (f : FuncId) (ds : List D) (ee size : Nat) (els : List (List D)) : Prop := Enters P f ∧
  ∀ (F : Nat → Prop) (w : World) (vs : List Value), (∀ b, F b → b < w.heap.size) → RepL F w vs ds →
    Calls P f vs.toArray w fun r w' => ∃ v F', r = .returned v ∧ Ext F w F' w' ∧ ObOk w.heap.size F' (fun _ => v) w' 0 (.row ee size els)

theorem OCall.toA {P : Program} {f : FuncId} {ds : List D} {ee size : Nat} {els : List (List D)} (h : OCall P f ds ee size els) : ACall P f ds (.sl els) :=
  ⟨h.1, fun F w vs hF hv => (h.2 F w vs hF hv).mono fun r w' ⟨v, F', h1, h2, h3⟩ => by
    have ho : ObsOk w.heap.size F' (fun _ => v) w' [(0, .row ee size els)] := by
      refine ⟨fun p hp => ?_, fun p hp q hq hne => ?_, fun p hp q hq _ => ?_⟩
      · have : p = (0, .row ee size els) := by simpa using hp
        subst this
        exact h3
      · have h4 : p = (0, .row ee size els) := by simpa using hp
        have h5 : q = (0, .row ee size els) := by simpa using hq
        rw [h4, h5] at hne
        exact absurd rfl hne
      · have h4 : p = (0, .row ee size els) := by simpa using hp
        have h5 : q = (0, .row ee size els) := by simpa using hq
        rw [h4, h5]
    have hr := ob_rep ho (List.mem_singleton.2 rfl)
    refine ⟨v, _, h1, hr, fun b hb => .inl (h2.up b hb), ?_, ?_, h2.below⟩
    · rintro b (hb | ⟨p, hp, hb⟩)
      · exact h2.new b hb
      · have h4 : p = (0, .row ee size els) := by simpa using hp
        subst h4
        exact .inr (h3.blk_lt hb).1
    · rintro b (hb | ⟨p, hp, hb⟩)
      · exact h2.lt b hb
      · have h4 : p = (0, .row ee size els) := by simpa using hp
        subst h4
        exact (h3.blk_lt hb).2⟩

theorem OCall.eq {P : Program} {f : FuncId} {ds : List D} {ee size : Nat} {els els' : List (List D)} (h : OCall P f ds ee size els) (he : els = els') : OCall P f ds ee size els' := he ▸ h
theorem obOk_base {B B' : Nat} {F : Nat → Prop} {ρ ρ' : Nat → Value} {w : World} {id id' ee size : Nat} {els : List (List D)} (h : ObOk B F ρ w id (.row ee size els)) (hB : B' ≤ B) (he : ρ id = ρ' id') : ObOk B' F ρ' w id' (.row ee size els) := by
  obtain ⟨xs, h1, h2, h3, h4⟩ := h
  rw [he] at h1 h4
  refine ⟨xs, ⟨h1.1, ?_⟩, h2, h3, h4⟩
  rcases h1.2 with h5 | ⟨g, cap, cur, h5, h6, h7⟩
  · exact .inl h5
  · exact .inr ⟨g, cap, cur, h5, Nat.le_trans hB h6, h7⟩

/-- A new own object, where more is data now. -/
theorem R0.newObF {cx : Cx} {F F' : Nat → Prop} {ρ : Nat → Value} {e : Env} {σ : Obs} {a : Act} {w w' : World} (hr : R0 cx F ρ e σ a w) {id dst : Nat} {ob : Ob} {v : Value} (hid : ∀ p ∈ σ, p.1 ≠ id) (hd : dst < cx.N) (hE : Ext F w F' w')
    (hob : ObOk cx.B F' (fun j => if j = id then v else ρ j) w' id ob) (hnew : ∀ g, blk v = some g → w.heap.size ≤ g) (hfx : cx.free id = true) :
    ∃ ρ', R0 cx F' ρ' ((e.kill id).put (some dst) (.own id)) ((id, ob) :: Obs.kill id σ) (a.put (some dst) v) w' := by
  refine ⟨fun j => if j = id then v else ρ j, ?_⟩
  have h2 := hr.turn (ρ' := fun j => if j = id then v else ρ j) (id := id) (ob := ob) (row := none) (w' := w') (F' := F') (fun j hj => by simp [hj])
    ⟨hE.below.os, hE.below.tape, hE.below.output, hE.below.size, fun k hk _ => hE.below.block k hk⟩ hfx (fun g hg => by simp at hg) hE.up hE.new hE.lt hob
    (fun g hg => by rw [if_pos rfl] at hg; exact .inr (hnew g hg)) ((id, ob) :: Obs.kill id σ) (fun p hp => by
      cases hp with
      | head => exact .inl rfl
      | tail _ hp => obtain ⟨q, hq, rfl⟩ := Obs.mem_kill hp; exact .inr ⟨q, hq, hid q hq, rfl⟩)
  exact h2.put (o := ⟨some dst, .ready 0, 0, "", #[], none⟩) (v := v) (s := .own id) (Ext.refl h2.lt) (by
      have := RepS.own (F := F') (ρ := fun j => if j = id then v else ρ j) (w := w') id
      simpa using this) (by simpa [DstOk, Nat.blt_eq] using hd)

section
variable {cx : Cx} {ops : Array Oper} {o : Oper} {rest : List Oper} {e : Env} {σ : Obs} {Q : Post}
theorem AOps.callO {f : FuncId} {xs : List Operand} {ts : Array TypeId} {ds : List D} {ee size dst : Nat} {els : List (List D)} (id : Nat) (hg : o.guard = none) (ht : o.dst = some dst) (hdn : Nat.blt dst cx.N = true)
    (ho : o.op = .call { callee := .value (.func f), args := xs.toArray, argTypes := ts }) (ha : ArgsOk e xs ds) (h : OCall cx.P f ds ee size els) (hid : Obs.fresh id σ = true)
    (k : AOps cx ops rest ((e.kill id).put (some dst) (.own id)) ((id, .row ee size els) :: Obs.kill id σ) Q) (hfx : cx.free id = true := by rfl) : AOps cx ops (o :: rest) e σ Q := by
  intro a w ⟨F, ρ, hr⟩
  have hdn' : dst < cx.N := by simpa [Nat.blt_eq] using hdn
  have h4 := h.2 F w (xs.map a.eval) hr.lt (repL_ops ha (fun x _ => ev_rep fun t _ => hr.env t))
  have h5 := h.1 (xs.map a.eval).toArray w
  have hx : (execOp a.eval o).run cx.P w = .ok (.enter f (xs.map a.eval).toArray) w := by
    unfold execOp
    simp only [ho, resolve, Deferred.ofValue, Act.eval, invoke, Sem.run_bind, Sem.run_pure, Result.andThen_ok]
    simpa using h5
  refine wpList_plain hg fun K hK => ?_
  unfold Oper.wp
  rw [hx]
  refine h4.mono fun _ w' ⟨v, F', he, hE, hob⟩ => ?_
  subst he
  obtain ⟨ρ', h6⟩ := hr.newObF (ob := .row ee size els) (v := v) (Obs.fresh_spec hid) hdn' hE (obOk_base hob hr.hB (by simp)) (fun g hg => (hob.blk_lt hg).1) hfx
  have := k _ _ ⟨F', ρ', h6⟩
  rw [← ht] at this
  exact hK _ _ this
/-- []T{}: an own row of no elements. -/
theorem AOps.build0 {t el size bytes dst : Nat} {z : Value} (id : Nat) (hg : o.guard = none) (ht : o.dst = some dst) (hdn : Nat.blt dst cx.N = true) (ho : o.op = .buildSlice t 0 #[]) (T : ElemTy cx.P t el size bytes z) (hid : Obs.fresh id σ = true)
    (k : AOps cx ops rest ((e.kill id).put (some dst) (.own id)) ((id, .row el size []) :: Obs.kill id σ) Q) (hfx : cx.free id = true := by rfl) : AOps cx ops (o :: rest) e σ Q := by
  intro a w ⟨F, ρ, hr⟩
  have hdn' : dst < cx.N := by simpa [Nat.blt_eq] using hdn
  have hrun : (execOp a.eval o).run cx.P w = .ok (.value (.slice (some ⟨w.heap.size, 0, none⟩) 0 0)) (w.alloc (.cells #[] el)) := by
    unfold execOp
    simp only [ho, Instr.buildSlice, Sem.run_bind, run_underlying T.ht, Result.andThen_ok, T.sizeOf, Nat.zero_mul]
    rw [if_neg (show ¬ (0 > 2 ^ 24) by decide), if_pos trivial]
    simp only [Sem.run_bind, Sem.run_pure, Result.andThen_ok]
    have hfl : Instr.fill (fun i => some (i * size, size)) (Array.map (fun x => (#[] : Array Value)[x % (#[] : Array Value).size]!) (Array.range 0)) (Array.map (fun (x : Nat × Operand) => (x.fst, a.eval x.snd)) #[]).toList = some #[] := by simp [Instr.fill]
    rw [hfl]
    rfl
  have hrow : (w.alloc (.cells #[] el)).ownsRow cx.B el size (.slice (some ⟨w.heap.size, 0, none⟩) 0 0) 0 [] :=
    ⟨by simp, .inr ⟨w.heap.size, 0, #[], rfl, hr.hB, heap_alloc_new w _, Nat.zero_le _, by unfold maxLen; omega, by simp, by simp⟩⟩
  obtain ⟨ρ', h5⟩ := hr.newRow (v := .slice (some ⟨w.heap.size, 0, none⟩) 0 0) (els := []) (Obs.fresh_spec hid) hdn' ((Below.refl _ _).alloc (Nat.le_refl _) (.cells #[] el))
    ⟨fun _ _ => undef, by dsimp only; rw [if_pos rfl]; exact hrow, fun i hi => by simp at hi, fun i hi => by simp at hi, fun g hg hf => by dsimp only at hg; rw [if_pos rfl] at hg; simp [blk] at hg; have := hr.lt g hf; omega⟩
    (fun g hg => by simp [blk] at hg; omega) hfx
  refine wpList_plain hg fun K hK => ?_
  unfold Oper.wp
  rw [hrun]
  have := k _ _ ⟨F, ρ', h5⟩
  rw [← ht] at this
  exact hK _ _ this

/-- Rows are data from here on; every slot and every cell as before. -/
theorem R0.freeze0 {F : Nat → Prop} {ρ : Nat → Value} {a : Act} {w : World} (h : R0 cx F ρ e σ a w) {id ee size : Nat} {els : List (List D)} (hm : (id, Ob.row ee size els) ∈ σ) :
    ∃ F', R0 cx F' ρ e (Obs.del id σ) a w ∧ Rep F' w (ρ id) (.sl els) := by
  have hF2 : ∀ b, (F b ∨ blk (ρ id) = some b) → b < w.heap.size := fun b hb => by
    rcases hb with hb | hb
    · exact h.lt b hb
    · exact ((h.obs.ok _ hm).blk_lt hb).2
  refine ⟨fun b => F b ∨ blk (ρ id) = some b, ⟨h.size, h.defers, hF2, fun b hb => .inl (h.base b hb), fun b hb => ?_, h.below, h.hB, fun u => ?_, ?_, h.up, fun p hp => h.kown p (Obs.mem_del hp).1, h.fixed⟩, h.rep_row hm (fun b hb => .inl hb) (fun g hg => .inr hg)⟩
  · rcases hb with hb | hb
    · exact h.new b hb
    · exact .inr (h.kown _ hm b hb)
  · exact RepS.turn (row := none) (h.env u) h.lt (fun g hg => by simp at hg) ⟨rfl, rfl, rfl, Nat.le_refl _, fun _ _ _ => rfl⟩ (fun b hb => .inl hb)
  · refine ⟨fun p hp => ?_, fun p hp q hq => h.obs.apart p (Obs.mem_del hp).1 q (Obs.mem_del hq).1, fun p hp q hq => h.obs.uniq p (Obs.mem_del hp).1 q (Obs.mem_del hq).1⟩
    obtain ⟨h1, h2⟩ := Obs.mem_del hp
    have h3 := h.obs.ok p h1
    have hne : ∀ g, blk (ρ p.1) = some g → blk (ρ id) ≠ some g := fun g hg => h.obs.apart p h1 _ hm h2 g hg
    exact h3.more h.lt (fun b hb => .inl hb) (fun g hg hf => by
      rcases hf with hf | hf
      · exact h3.nF hg hf
      · exact hne g hg hf)
theorem R0.freezeIn {F : Nat → Prop} {ρ : Nat → Value} {a : Act} {w : World} (h : R0 cx F ρ e σ a w) {c off id ee size : Nat} {ss : List S} {els : List (List D)} (hc : (c, Ob.cells ss) ∈ Obs.del id σ) (hs : ss[off]? = some (.own id)) (hm : (id, Ob.row ee size els) ∈ σ) :
    ∃ F', R0 cx F' ρ e (Obs.upd c (.cells (ss.set off (.d (.sl els)))) (Obs.del id σ)) a w := by
  obtain ⟨F', h1, h2⟩ := h.freeze0 hm
  exact ⟨F', h1.recell hc hs fun x hx => by cases hx; exact .d h2⟩
theorem AWP.freezeIn {cd : Code} (c off : Nat) {id ee size : Nat} {ss : List S} {els : List (List D)} (hs : ss[off]? = some (.own id)) (hc : (c, Ob.cells ss) ∈ Obs.del id σ) (hm : (id, Ob.row ee size els) ∈ σ)
    (k : AWP cx cd e (Obs.upd c (.cells (ss.set off (.d (.sl els)))) (Obs.del id σ)) Q) : AWP cx cd e σ Q := fun a w ⟨_, ρ, hr⟩ => by
  obtain ⟨F', h⟩ := hr.freezeIn hc hs hm
  exact k a w ⟨F', ρ, h⟩
/-- A slice of no elements: nil, or not. -/
theorem AWP.nilOr {cd : Code} (t : Nat) (ht : e t = .d (.sl [])) (h1 : AWP cx cd (e.put (some t) (.d (.v (.slice none 0 0)))) σ Q) (h2 : ∀ ad cap, cap ≤ 9223372036854775807 → AWP cx cd (e.put (some t) (.d (.v (.slice (some ad) 0 cap)))) σ Q) : AWP cx cd e σ Q := fun a w ⟨F, ρ, hr⟩ => by
  have h3 := hr.env t
  rw [ht] at h3
  have h4 := repS_d h3
  have key : ∀ {v : Value}, a.tmps.getD t undef = v → R cx (e.put (some t) (.d (.v v))) σ a w := fun {v} hv => ⟨F, ρ, hr.size, hr.defers, hr.lt, hr.base, hr.new, hr.below, hr.hB, fun u => by
    by_cases hu : u = t
    · subst hu
      rw [Env.put_same, hv]
      exact .d (.v _)
    · rw [Env.put_other _ _ _ _ hu]
      exact hr.env u, hr.obs, hr.up, hr.kown, hr.fixed⟩
  rcases rep_sl_sl h4 with ⟨h5, _⟩ | ⟨ad, cap, size, vs, h5, hc, hm, _⟩
  · exact h1 a w (key h5)
  · exact h2 ad cap hm a w (key (by rw [h5]; rfl))
end

theorem Le.empty {ad : Addr} {cap : Nat} (h : cap ≤ 9223372036854775807) : Le (.v (.slice (some ad) 0 cap)) (.sl []) := fun F w x hx => by
  rw [rep_v hx]
  exact .sl ad cap 0 [] (fun _ _ => undef) (Nat.zero_le _) h (fun h => absurd h (by simp)) (fun i hi => by simp at hi) (fun i j hi => by simp at hi) (fun i j hi => by simp at hi) (fun i hi => by simp at hi)
theorem AOps.le {cx : Cx} {ops : Array Oper} {rest : List Oper} {e : Env} {σ : Obs} {Q : Post} (t : Nat) {s' : S} {s : S} (ht : e t = s) (h : SLe s s') (k : AOps cx ops rest (e.put (some t) s') σ Q) : AOps cx ops rest e σ Q := fun a w ⟨F, ρ, hr⟩ =>
  k a w ⟨F, ρ, hr.size, hr.defers, hr.lt, hr.base, hr.new, hr.below, hr.hB, fun u => by
    by_cases hu : u = t
    · subst hu
      rw [Env.put_same]
      have := hr.env u
      rw [ht] at this
      exact h F ρ w _ this
    · rw [Env.put_other _ _ _ _ hu]
      exact hr.env u, hr.obs, hr.up, hr.kown, hr.fixed⟩

section
variable {P : Program} {B : Nat} {ops : Array Oper} {o : Oper} {e : Env} {σ : Obs}
theorem eqGuard_sl (op : BinOp) (t : TypeId) (x y : Operand) (a b : Option Addr) (n m c d : Nat) (w : World) : (eqGuard op t x y (.slice a n c) (.slice b m d)).run P w = .ok () w := by
  unfold eqGuard; cases op <;> rfl
theorem run_slice_eq_nil {t el : TypeId} (w : World) (a : Option Addr) (n c : Nat) (ht : P.underlying t = some (.slice el)) : (binOp .eql t (.slice a n c) (.slice none 0 0)).run P w = .ok (.bool a.isNone) w := by
  unfold binOp
  simp only [Sem.run_bind, run_equal_slice_nil w t el a n c ht, Result.andThen_ok]
  rfl
/-- x == nil. -/
theorem AOp.eqNilV {t ty el : TypeId} {x y : Operand} {a : Option Addr} {n c : Nat} (ho : o.op = .binOp .eql t x y ty) (ht : P.underlying t = some (.slice el)) (hx : e.ev x = .d (.v (.slice a n c))) (hy : e.ev y = .d (.v (.slice none 0 0))) :
    AOp P B ops o e σ (.d (.v (.bool a.isNone))) := .bin ho hx hy fun w => by
  rw [Sem.run_bind, eqGuard_sl]
  exact run_slice_eq_nil w a n c ht
theorem AOp.eqNilS {t ty el : TypeId} {x y : Operand} {els : List (List D)} (ho : o.op = .binOp .eql t x y ty) (ht : P.underlying t = some (.slice el)) (hx : e.ev x = .d (.sl els)) (hy : e.ev y = .d (.v (.slice none 0 0))) (hne : els ≠ []) :
    AOp P B ops o e σ (.d (.v (.bool false))) := .value fun F ρ w a hF hr _ => by
  have h1 := hr x (by rw [ho]; simp [Op.operands])
  have h2 := hr y (by rw [ho]; simp [Op.operands])
  rw [hx] at h1
  rw [hy] at h2
  refine ⟨.bool false, F, w, ?_, .d (.v _), Ext.refl hF⟩
  rcases rep_sl_sl (repS_d h1) with ⟨_, h5⟩ | ⟨ad, cap, size, vs, h5, _⟩
  · exact absurd h5 hne
  · unfold execOp
    simp only [ho, h5, repS_v h2]
    have h3 : (do eqGuard .eql t x y (.slice (some ad) els.length cap) (.slice none 0 0); binOp .eql t (.slice (some ad) els.length cap) (.slice none 0 0) : Sem Value).run P w = .ok (.bool false) w := by
      rw [Sem.run_bind, eqGuard_sl]
      exact run_slice_eq_nil w _ _ _ ht
    rw [Sem.run_bind, h3]
    rfl
end

/-! ## Contracts -/
def RetO (t ee size : Nat) (els : List (List D)) : Post := fun ex e σ => match ex with
  | .ret => ∃ id, e t = .own id ∧ (id, Ob.row ee size els) ∈ σ
  | .normal => ∃ id, e t = .own id ∧ (id, Ob.row ee size els) ∈ σ
  | _ => False
theorem ocall_of {P : Program} {f : FuncId} {fn : Func} {c : Code} {n ee size : Nat} {ds : List D} {els : List (List D)} (hf : P.funcs[f]? = some fn) (hb : fn.body = some c) (hn : (fn.name == "runtime.NumGoroutine") = false) (hN : fn.ntmps = n)
    (t : Nat) (hr : fn.results = #[.tmp t]) (hle' : Nat.ble ds.length n = true) (h : ∀ B w0 F0 fr, AWP ⟨P, n, B, w0, F0, fr, fun _ => false, fun _ => undef⟩ c (Env.args 0 ds) [] (RetO t ee size els)) : OCall P f ds ee size els := by
  have hle : ds.length ≤ n := Nat.le_of_ble_eq_true hle'
  refine ⟨Enters.of hf hn (by rw [hb]; rfl), fun F w vs hF hv => ?_⟩
  refine calls_of_wp hf hb ?_
  have hR : R ⟨P, n, w.heap.size, w, F, (fun b => w.heap.size ≤ b), fun _ => false, fun _ => undef⟩ (Env.args 0 ds) [] { tmps := vs.toArray ++ Array.replicate (fn.ntmps - vs.toArray.size) undef, defers := [] } w := by
    refine ⟨F, fun _ => undef, ?_, rfl, hF, fun b hb => hb, fun b hb => .inl hb, Kept.refl _ _, Nat.le_refl _, fun t => ?_, ⟨fun p hp => by simp at hp, fun p hp => by simp at hp, fun p hp => by simp at hp⟩, fun b hb => hb, fun p hp => by simp at hp, fun i hi => by simp at hi⟩
    · simp [hN, hv.1]; omega
    · by_cases ht : t < ds.length
      · have := Env.args_get ds 0 t ht
        rw [Nat.zero_add] at this
        rw [this]
        have hvt : t < vs.length := by rw [hv.1]; exact ht
        have : (vs.toArray ++ Array.replicate (fn.ntmps - vs.toArray.size) undef).getD t undef = vs[t] := by
          rw [Array.getD_eq_getD_getElem?, Array.getElem?_append_left (by simpa using hvt)]
          simp [hvt]
        rw [this]
        exact .d (hv.2 t hvt ht)
      · have := Env.args_out ds 0 t (by omega)
        rw [Nat.zero_add] at this
        rw [this]
        exact .d (.any _)
  refine wp_mono (h _ _ _ _ _ _ hR) ?_
  rintro ex a w' ⟨e', σ', hq, F', ρ', hr'⟩
  have hres : (results fn a.tmps).run P w' = .ok (a.tmps.getD t undef) w' := by
    have key : ∀ (ts : List Nat), (List.mapM (fun r => match r with | .tmp t => pure (a.tmps.getD t undef) | .cell b t => do loadVar t (← asAddr (a.tmps.getD b undef))) (ts.map ResultVar.tmp) : Sem (List Value)).run P w' = .ok (ts.map fun t => a.tmps.getD t undef) w' := by
      intro ts
      induction ts with
      | nil => rfl
      | cons t ts ih =>
        rw [List.map_cons, List.mapM_cons, Sem.run_bind]
        simp only [Sem.run_pure, Result.andThen_ok, Sem.run_bind, ih, List.map_cons]
    unfold results
    rw [hr, Sem.run_bind]
    have h2 : (Array.mapM (fun r => match r with | ResultVar.tmp t => pure (a.tmps.getD t undef) | ResultVar.cell b t => do loadVar t (← asAddr (a.tmps.getD b undef))) (([t] : List Nat).map ResultVar.tmp).toArray : Sem (Array Value)).run P w' = .ok (([t] : List Nat).map fun t => a.tmps.getD t undef).toArray w' := by
      rw [List.mapM_toArray, Sem.run_map, key]
      rfl
    refine (congrArg (fun r => Result.andThen r _) h2).trans ?_
    simp only [Result.andThen_ok]
    rfl
  have hends : (∃ id, e' t = .own id ∧ (id, Ob.row ee size els) ∈ σ') → bodyPost P fn (fun r w' => ∃ v F', r = .returned v ∧ Ext F w F' w' ∧ ObOk w.heap.size F' (fun _ => v) w' 0 (.row ee size els)) .ret a w' := by
    rintro ⟨id, h1, h2⟩
    have h3 := hr'.env t
    rw [h1] at h3
    have h4 : a.tmps.getD t undef = ρ' id := by generalize a.tmps.getD t undef = v at h3; cases h3; rfl
    refine ⟨hr'.defers, _, hres, _, F', rfl, ⟨hr'.base, fun b hb => (hr'.new b hb).imp (fun x => x) fun x => x, hr'.lt, ⟨hr'.below.os, hr'.below.tape, hr'.below.output, hr'.below.size, fun k hk => hr'.below.block k hk (fun hf => by have h5 : w.heap.size ≤ k := hf; omega)⟩⟩, obOk_base (hr'.obs.ok _ h2) (Nat.le_refl _) h4.symm⟩
  cases ex with
  | ret => exact hends hq
  | normal => exact hends hq
  | exit id => exact hq.elim
  | goto l => exact hq.elim
  | panic c => exact hq.elim
  | outgrown => exact hq.elim
theorem XRun.callO {cx : Cx} {ops : Array Oper} {σ : Obs} {Φ : List Fr} {e : Env} {Qe : Env → Prop} {o : Oper} {l : List Oper} {fn : FuncId} {xs : List Operand} {ts : Array TypeId} {ds : List D} {ee size : Nat} {els : List (List D)} (f : Fr) (hf : f ∈ Φ) (hg : GW ops o e true) (hgn : o.guard = none) (ht : o.dst = some f.dst) (hd : Nat.blt f.dst cx.N = true)
    (ho : o.op = .call { callee := .value (.func fn), args := xs.toArray, argTypes := ts }) (ha : ArgsOk e xs ds) (h : OCall cx.P fn ds ee size els) (hob : f.ob = .row ee size els) (hs : f.s0 = .own f.id) (k : XRun cx ops σ Φ l (e.put (some f.dst) f.s0) Qe) (hfx : cx.free f.id = true := by rfl) : XRun cx ops σ Φ (o :: l) e Qe :=
  ⟨by unfold DstOk; rw [ht]; exact hd, _, .inl ⟨hg, .inl ⟨f, hf, ⟨ht, fun e0 σ he hfr => by
    have hev : ∀ x ∈ xs, e0.ev x = e.ev x := fun x hx => ev_same fun t hxt => he t (looks_op (by rw [ho, ← hxt]; simp [Op.operands, Call.operands, hx]))
    have ha0 : ArgsOk e0 xs ds := by
      have key : ∀ (xs : List Operand) (ds : List D), (∀ x ∈ xs, e0.ev x = e.ev x) → ArgsOk e xs ds → ArgsOk e0 xs ds := by
        intro xs
        induction xs with
        | nil => intro ds _ h; cases ds <;> exact h
        | cons x xs ih =>
          intro ds hx h
          cases ds with
          | nil => exact h
          | cons d ds =>
            obtain ⟨⟨d0, h1, h2⟩, h3⟩ := h
            exact ⟨⟨d0, (hx x (by simp)).trans h1, h2⟩, ih ds (fun y hy => hx y (by simp [hy])) h3⟩
      exact key xs ds hev ha
    exact AOps.callO f.id hgn ht hd ho ha0 h hfr (.nil ⟨by rw [hs], by rw [hob]⟩) hfx⟩, rfl⟩⟩, by rw [ht]; exact k⟩
theorem acall_ofRT {T : World → Prop} {P : Program} {f : FuncId} {fn : Func} {c : Code} {n : Nat} {ds ds' : List D} (hf : P.funcs[f]? = some fn) (hb : fn.body = some c) (hn : (fn.name == "runtime.NumGoroutine") = false) (hN : fn.ntmps = n)
    (rs : List ResultVar) (hr : fn.results = rs.toArray) (hle' : Nat.ble ds.length n = true) (h : ∀ B w0 F0, T w0 → AWP ⟨P, n, B, w0, F0, (fun b => w0.heap.size ≤ b), fun _ => false, fun _ => undef⟩ c (Env.args 0 ds) [] (RetQR P rs ds')) : ACallT P T f ds (retOf ds') := by
  have hle : ds.length ≤ n := Nat.le_of_ble_eq_true hle'
  refine ⟨Enters.of hf hn (by rw [hb]; rfl), fun F w vs hT hF hv => ?_⟩
  refine calls_of_wp hf hb ?_
  have hR : R ⟨P, n, w.heap.size, w, F, (fun b => w.heap.size ≤ b), fun _ => false, fun _ => undef⟩ (Env.args 0 ds) [] { tmps := vs.toArray ++ Array.replicate (fn.ntmps - vs.toArray.size) undef, defers := [] } w := by
    refine ⟨F, fun _ => undef, ?_, rfl, hF, fun b hb => hb, fun b hb => .inl hb, Kept.refl _ _, Nat.le_refl _, fun t => ?_, ⟨fun p hp => by simp at hp, fun p hp => by simp at hp, fun p hp => by simp at hp⟩, fun b hb => hb, fun p hp => by simp at hp, fun i hi => by simp at hi⟩
    · simp [hN, hv.1]; omega
    · by_cases ht : t < ds.length
      · have := Env.args_get ds 0 t ht
        rw [Nat.zero_add] at this
        rw [this]
        have hvt : t < vs.length := by rw [hv.1]; exact ht
        have : (vs.toArray ++ Array.replicate (fn.ntmps - vs.toArray.size) undef).getD t undef = vs[t] := by
          rw [Array.getD_eq_getD_getElem?, Array.getElem?_append_left (by simpa using hvt)]
          simp [hvt]
        rw [this]
        exact .d (hv.2 t hvt ht)
      · have := Env.args_out ds 0 t (by omega)
        rw [Nat.zero_add] at this
        rw [this]
        exact .d (.any _)
  refine wp_mono (h _ _ _ hT _ _ hR) ?_
  rintro ex a w' ⟨e', σ', hq, F', ρ', hr'⟩
  have hends : RetRs P e' σ' rs ds' → bodyPost P fn (fun e w' => ∃ v F', e = .returned v ∧ Rep F' w' v (retOf ds') ∧ Ext F w F' w') .ret a w' := by
    intro hq
    obtain ⟨vs', hrun, hl⟩ := RetRs.rep hr' hq
    have hres : (results fn a.tmps).run P w' = .ok (match vs' with | [x] => x | l => .tuple l.toArray) w' := by
      unfold results
      rw [hr, Sem.run_bind]
      have h2 : (Array.mapM (fun r => match r with | ResultVar.tmp t => pure (a.tmps.getD t undef) | ResultVar.cell b t => do loadVar t (← asAddr (a.tmps.getD b undef))) rs.toArray : Sem (Array Value)).run P w' = .ok vs'.toArray w' := by
        rw [List.mapM_toArray, Sem.run_map]
        have h4 : (List.mapM (fun r => match r with | ResultVar.tmp t => pure (a.tmps.getD t undef) | ResultVar.cell b t => do loadVar t (← asAddr (a.tmps.getD b undef))) rs : Sem (List Value)).run P w' = .ok vs' w' := hrun
        rw [h4]
        rfl
      refine (congrArg (fun r => Result.andThen r _) h2).trans ?_
      simp only [Result.andThen_ok]
      rcases vs' with _ | ⟨t, _ | ⟨t2, ts⟩⟩ <;> rfl
    refine ⟨hr'.defers, _, hres, _, endF F' ρ' σ', rfl, ?_, endF_ext hr' (fun b hb => hb)⟩
    obtain ⟨h1, h2⟩ := hl
    rcases ds' with _ | ⟨d, _ | ⟨d2, ds'⟩⟩
    · have : vs' = [] := List.eq_nil_of_length_eq_zero h1
      subst this
      exact .tup [] [] rfl (fun i h1 => absurd h1 (by simp))
    · rcases vs' with _ | ⟨x, _ | ⟨y, vs'⟩⟩ <;> simp at h1
      exact h2 0 (by simp) (by simp)
    · rcases vs' with _ | ⟨x, _ | ⟨y, vs'⟩⟩
      · simp at h1
      · simp at h1
      · exact .tup _ _ h1 h2
  cases ex with
  | ret => exact hends hq
  | normal => exact hends hq
  | exit id => exact hq.elim
  | goto l => exact hq.elim
  | panic c => exact hq.elim
  | outgrown => exact hq.elim

end Go.Proofs.YtfajemnegkfigaaDoor


namespace Go.Proofs.YtfajemnegkfigaaDoor
open Go.RowKit
set_option linter.unusedVariables false

/-! Types. -/
namespace TyU7
theorem et_22 : ElemTy Tryd.prog 22 76 3 40 (.agg #[(.string ⟨#[]⟩), (.string ⟨#[]⟩), (.int .i64 0)]) := ⟨by kernel_rfl, by kernel_rfl, by kernel_rfl, by decide⟩
theorem et_23 : ElemTy Tryd.prog 23 59 9 120 (.agg #[(.string ⟨#[]⟩), (.string ⟨#[]⟩), (.int .i64 0), (.int .i64 0), (.slice none 0 0), (.slice none 0 0), (.int .i64 0), (.int .i64 0), (.int .i64 0)]) := ⟨by kernel_rfl, by kernel_rfl, by kernel_rfl, by decide⟩
theorem et_24 : ElemTy Tryd.prog 24 55 3 48 (.agg #[(.string ⟨#[]⟩), (.int .i64 0), (.slice none 0 0)]) := ⟨by kernel_rfl, by kernel_rfl, by kernel_rfl, by decide⟩
theorem et_27 : ElemTy Tryd.prog 27 3 1 8 (.int .i64 0) := ⟨by kernel_rfl, by kernel_rfl, by kernel_rfl, by decide⟩
theorem et_53 : ElemTy Tryd.prog 53 82 2 24 (.agg #[(.string ⟨#[]⟩), (.int .i64 0)]) := ⟨by kernel_rfl, by kernel_rfl, by kernel_rfl, by decide⟩
theorem et_57 : ElemTy Tryd.prog 57 79 2 16 (.agg #[(.int .i64 0), (.int .i64 0)]) := ⟨by kernel_rfl, by kernel_rfl, by kernel_rfl, by decide⟩
end TyU7
open TyU7

set_option maxRecDepth 100000 in
set_option maxHeartbeats 1000000 in
theorem c_clAli (l : List Ali) (hl : l.length ≤ 1000000) : OCall Tryd.prog 59 [.sl (l.map Ali.ds)] 76 3 (l.map Ali.ds) := by
  refine ocall_of (n := 8) Tryd.func59 rfl (by kernel_rfl) rfl 2 rfl rfl ?_
  intro B w0 F0 fr
  refine (Classical.em (l = [])).elim (fun hn => ?_) (fun hn => ?_)
  subst hn
  refine AWP.nilOr 0 rfl ?_ (fun ad cap hcap => ?_)
  · skip
    refine AWP.seq ?_
    refine AWP.region ?_
    refine AOps.step rfl rfl rfl (AOp.assignD rfl rfl) ?_
    refine AOps.nil ?_
    refine AWP.seq ?_
    refine AWP.seq ?_
    refine AWP.region ?_
    refine AOps.step rfl rfl rfl (AOp.moveD rfl rfl) ?_
    refine AOps.step rfl rfl rfl (AOp.eqNilV rfl Tryd.underlying22 rfl rfl) ?_
    refine AOps.nil ?_
    refine AWP.cond rfl (fun _ => ?_) (fun h => nomatch h)
    refine AWP.seq ?_
    refine AWP.region ?_
    refine AOps.step rfl rfl rfl (AOp.assignD rfl rfl) ?_
    refine AOps.nil ?_
    refine AWP.adopt 2 51 76 3 rfl rfl ?_
    refine AWP.ret ?_
    refine ⟨51, rfl, mem_row_eq (.head _) ?_⟩
    first | rfl | simp
  · skip
    refine AWP.seq ?_
    refine AWP.region ?_
    refine AOps.step rfl rfl rfl (AOp.assignD rfl rfl) ?_
    refine AOps.nil ?_
    refine AWP.seq ?_
    refine AWP.seq ?_
    refine AWP.region ?_
    refine AOps.step rfl rfl rfl (AOp.moveD rfl rfl) ?_
    refine AOps.step rfl rfl rfl (AOp.eqNilV rfl Tryd.underlying22 rfl rfl) ?_
    refine AOps.nil ?_
    refine AWP.cond rfl (fun h => nomatch h) (fun _ => ?_)
    refine AWP.skip ?_
    refine AWP.seq ?_
    refine AWP.region ?_
    refine AOps.build0 102 rfl rfl rfl rfl et_22 rfl ?_
    refine AOps.step rfl rfl rfl (AOp.moveD rfl rfl) ?_
    refine AOps.le 6 rfl (SLe.d (Le.empty hcap)) ?_
    -- append 7
    refine AOps.append rfl rfl rfl rfl et_22 rfl (.head _) rfl (fun y hy => by first | exact absurd hy List.not_mem_nil | (obtain ⟨x, _, rfl⟩ := List.mem_map.1 hy; rfl)) (by simp; try omega) (by simp; try omega) ?_
    refine AOps.step rfl rfl rfl (AOp.assignO rfl rfl) ?_
    refine AOps.nil ?_
    refine AWP.ret ?_
    refine ⟨102, rfl, mem_row_eq (.head _) ?_⟩
    first | rfl | simp
  · skip
    refine AWP.seq ?_
    refine AWP.region ?_
    refine AOps.step rfl rfl rfl (AOp.assignD rfl rfl) ?_
    refine AOps.nil ?_
    refine AWP.seq ?_
    refine AWP.seq ?_
    refine AWP.region ?_
    refine AOps.step rfl rfl rfl (AOp.moveD rfl rfl) ?_
    refine AOps.step rfl rfl rfl (AOp.eqNilS rfl Tryd.underlying22 rfl rfl (fun h => hn (List.map_eq_nil_iff.1 h))) ?_
    refine AOps.nil ?_
    refine AWP.cond rfl (fun h => nomatch h) (fun _ => ?_)
    refine AWP.skip ?_
    refine AWP.seq ?_
    refine AWP.region ?_
    refine AOps.build0 103 rfl rfl rfl rfl et_22 rfl ?_
    refine AOps.step rfl rfl rfl (AOp.moveD rfl rfl) ?_
    -- append 7
    refine AOps.append rfl rfl rfl rfl et_22 rfl (.head _) rfl (fun y hy => by first | exact absurd hy List.not_mem_nil | (obtain ⟨x, _, rfl⟩ := List.mem_map.1 hy; rfl)) (by simp; try omega) (by simp; try omega) ?_
    refine AOps.step rfl rfl rfl (AOp.assignO rfl rfl) ?_
    refine AOps.nil ?_
    refine AWP.ret ?_
    refine ⟨103, rfl, mem_row_eq (.head _) ?_⟩
    first | rfl | simp

set_option maxRecDepth 100000 in
set_option maxHeartbeats 1000000 in
theorem c_clDeal (l : List Deal) (hl : l.length ≤ 1000000) : OCall Tryd.prog 60 [.sl (l.map Deal.ds)] 59 9 (l.map Deal.ds) := by
  refine ocall_of (n := 8) Tryd.func60 rfl (by kernel_rfl) rfl 2 rfl rfl ?_
  intro B w0 F0 fr
  refine (Classical.em (l = [])).elim (fun hn => ?_) (fun hn => ?_)
  subst hn
  refine AWP.nilOr 0 rfl ?_ (fun ad cap hcap => ?_)
  · skip
    refine AWP.seq ?_
    refine AWP.region ?_
    refine AOps.step rfl rfl rfl (AOp.assignD rfl rfl) ?_
    refine AOps.nil ?_
    refine AWP.seq ?_
    refine AWP.seq ?_
    refine AWP.region ?_
    refine AOps.step rfl rfl rfl (AOp.moveD rfl rfl) ?_
    refine AOps.step rfl rfl rfl (AOp.eqNilV rfl Tryd.underlying23 rfl rfl) ?_
    refine AOps.nil ?_
    refine AWP.cond rfl (fun _ => ?_) (fun h => nomatch h)
    refine AWP.seq ?_
    refine AWP.region ?_
    refine AOps.step rfl rfl rfl (AOp.assignD rfl rfl) ?_
    refine AOps.nil ?_
    refine AWP.adopt 2 51 59 9 rfl rfl ?_
    refine AWP.ret ?_
    refine ⟨51, rfl, mem_row_eq (.head _) ?_⟩
    first | rfl | simp
  · skip
    refine AWP.seq ?_
    refine AWP.region ?_
    refine AOps.step rfl rfl rfl (AOp.assignD rfl rfl) ?_
    refine AOps.nil ?_
    refine AWP.seq ?_
    refine AWP.seq ?_
    refine AWP.region ?_
    refine AOps.step rfl rfl rfl (AOp.moveD rfl rfl) ?_
    refine AOps.step rfl rfl rfl (AOp.eqNilV rfl Tryd.underlying23 rfl rfl) ?_
    refine AOps.nil ?_
    refine AWP.cond rfl (fun h => nomatch h) (fun _ => ?_)
    refine AWP.skip ?_
    refine AWP.seq ?_
    refine AWP.region ?_
    refine AOps.build0 102 rfl rfl rfl rfl et_23 rfl ?_
    refine AOps.step rfl rfl rfl (AOp.moveD rfl rfl) ?_
    refine AOps.le 6 rfl (SLe.d (Le.empty hcap)) ?_
    -- append 7
    refine AOps.append rfl rfl rfl rfl et_23 rfl (.head _) rfl (fun y hy => by first | exact absurd hy List.not_mem_nil | (obtain ⟨x, _, rfl⟩ := List.mem_map.1 hy; rfl)) (by simp; try omega) (by simp; try omega) ?_
    refine AOps.step rfl rfl rfl (AOp.assignO rfl rfl) ?_
    refine AOps.nil ?_
    refine AWP.ret ?_
    refine ⟨102, rfl, mem_row_eq (.head _) ?_⟩
    first | rfl | simp
  · skip
    refine AWP.seq ?_
    refine AWP.region ?_
    refine AOps.step rfl rfl rfl (AOp.assignD rfl rfl) ?_
    refine AOps.nil ?_
    refine AWP.seq ?_
    refine AWP.seq ?_
    refine AWP.region ?_
    refine AOps.step rfl rfl rfl (AOp.moveD rfl rfl) ?_
    refine AOps.step rfl rfl rfl (AOp.eqNilS rfl Tryd.underlying23 rfl rfl (fun h => hn (List.map_eq_nil_iff.1 h))) ?_
    refine AOps.nil ?_
    refine AWP.cond rfl (fun h => nomatch h) (fun _ => ?_)
    refine AWP.skip ?_
    refine AWP.seq ?_
    refine AWP.region ?_
    refine AOps.build0 103 rfl rfl rfl rfl et_23 rfl ?_
    refine AOps.step rfl rfl rfl (AOp.moveD rfl rfl) ?_
    -- append 7
    refine AOps.append rfl rfl rfl rfl et_23 rfl (.head _) rfl (fun y hy => by first | exact absurd hy List.not_mem_nil | (obtain ⟨x, _, rfl⟩ := List.mem_map.1 hy; rfl)) (by simp; try omega) (by simp; try omega) ?_
    refine AOps.step rfl rfl rfl (AOp.assignO rfl rfl) ?_
    refine AOps.nil ?_
    refine AWP.ret ?_
    refine ⟨103, rfl, mem_row_eq (.head _) ?_⟩
    first | rfl | simp

set_option maxRecDepth 100000 in
set_option maxHeartbeats 1000000 in
theorem c_clGrp (l : List Grp) (hl : l.length ≤ 1000000) : OCall Tryd.prog 61 [.sl (l.map Grp.ds)] 55 3 (l.map Grp.ds) := by
  refine ocall_of (n := 8) Tryd.func61 rfl (by kernel_rfl) rfl 2 rfl rfl ?_
  intro B w0 F0 fr
  refine (Classical.em (l = [])).elim (fun hn => ?_) (fun hn => ?_)
  subst hn
  refine AWP.nilOr 0 rfl ?_ (fun ad cap hcap => ?_)
  · skip
    refine AWP.seq ?_
    refine AWP.region ?_
    refine AOps.step rfl rfl rfl (AOp.assignD rfl rfl) ?_
    refine AOps.nil ?_
    refine AWP.seq ?_
    refine AWP.seq ?_
    refine AWP.region ?_
    refine AOps.step rfl rfl rfl (AOp.moveD rfl rfl) ?_
    refine AOps.step rfl rfl rfl (AOp.eqNilV rfl Tryd.underlying24 rfl rfl) ?_
    refine AOps.nil ?_
    refine AWP.cond rfl (fun _ => ?_) (fun h => nomatch h)
    refine AWP.seq ?_
    refine AWP.region ?_
    refine AOps.step rfl rfl rfl (AOp.assignD rfl rfl) ?_
    refine AOps.nil ?_
    refine AWP.adopt 2 51 55 3 rfl rfl ?_
    refine AWP.ret ?_
    refine ⟨51, rfl, mem_row_eq (.head _) ?_⟩
    first | rfl | simp
  · skip
    refine AWP.seq ?_
    refine AWP.region ?_
    refine AOps.step rfl rfl rfl (AOp.assignD rfl rfl) ?_
    refine AOps.nil ?_
    refine AWP.seq ?_
    refine AWP.seq ?_
    refine AWP.region ?_
    refine AOps.step rfl rfl rfl (AOp.moveD rfl rfl) ?_
    refine AOps.step rfl rfl rfl (AOp.eqNilV rfl Tryd.underlying24 rfl rfl) ?_
    refine AOps.nil ?_
    refine AWP.cond rfl (fun h => nomatch h) (fun _ => ?_)
    refine AWP.skip ?_
    refine AWP.seq ?_
    refine AWP.region ?_
    refine AOps.build0 102 rfl rfl rfl rfl et_24 rfl ?_
    refine AOps.step rfl rfl rfl (AOp.moveD rfl rfl) ?_
    refine AOps.le 6 rfl (SLe.d (Le.empty hcap)) ?_
    -- append 7
    refine AOps.append rfl rfl rfl rfl et_24 rfl (.head _) rfl (fun y hy => by first | exact absurd hy List.not_mem_nil | (obtain ⟨x, _, rfl⟩ := List.mem_map.1 hy; rfl)) (by simp; try omega) (by simp; try omega) ?_
    refine AOps.step rfl rfl rfl (AOp.assignO rfl rfl) ?_
    refine AOps.nil ?_
    refine AWP.ret ?_
    refine ⟨102, rfl, mem_row_eq (.head _) ?_⟩
    first | rfl | simp
  · skip
    refine AWP.seq ?_
    refine AWP.region ?_
    refine AOps.step rfl rfl rfl (AOp.assignD rfl rfl) ?_
    refine AOps.nil ?_
    refine AWP.seq ?_
    refine AWP.seq ?_
    refine AWP.region ?_
    refine AOps.step rfl rfl rfl (AOp.moveD rfl rfl) ?_
    refine AOps.step rfl rfl rfl (AOp.eqNilS rfl Tryd.underlying24 rfl rfl (fun h => hn (List.map_eq_nil_iff.1 h))) ?_
    refine AOps.nil ?_
    refine AWP.cond rfl (fun h => nomatch h) (fun _ => ?_)
    refine AWP.skip ?_
    refine AWP.seq ?_
    refine AWP.region ?_
    refine AOps.build0 103 rfl rfl rfl rfl et_24 rfl ?_
    refine AOps.step rfl rfl rfl (AOp.moveD rfl rfl) ?_
    -- append 7
    refine AOps.append rfl rfl rfl rfl et_24 rfl (.head _) rfl (fun y hy => by first | exact absurd hy List.not_mem_nil | (obtain ⟨x, _, rfl⟩ := List.mem_map.1 hy; rfl)) (by simp; try omega) (by simp; try omega) ?_
    refine AOps.step rfl rfl rfl (AOp.assignO rfl rfl) ?_
    refine AOps.nil ?_
    refine AWP.ret ?_
    refine ⟨103, rfl, mem_row_eq (.head _) ?_⟩
    first | rfl | simp

set_option maxRecDepth 100000 in
set_option maxHeartbeats 1000000 in
theorem c_clInt (l : List Int) (hl : l.length ≤ 1000000) : OCall Tryd.prog 62 [.sl (l.map intD)] 3 1 (l.map intD) := by
  refine ocall_of (n := 8) Tryd.func62 rfl (by kernel_rfl) rfl 2 rfl rfl ?_
  intro B w0 F0 fr
  refine (Classical.em (l = [])).elim (fun hn => ?_) (fun hn => ?_)
  subst hn
  refine AWP.nilOr 0 rfl ?_ (fun ad cap hcap => ?_)
  · skip
    refine AWP.seq ?_
    refine AWP.region ?_
    refine AOps.step rfl rfl rfl (AOp.assignD rfl rfl) ?_
    refine AOps.nil ?_
    refine AWP.seq ?_
    refine AWP.seq ?_
    refine AWP.region ?_
    refine AOps.step rfl rfl rfl (AOp.moveD rfl rfl) ?_
    refine AOps.step rfl rfl rfl (AOp.eqNilV rfl Tryd.underlying27 rfl rfl) ?_
    refine AOps.nil ?_
    refine AWP.cond rfl (fun _ => ?_) (fun h => nomatch h)
    refine AWP.seq ?_
    refine AWP.region ?_
    refine AOps.step rfl rfl rfl (AOp.assignD rfl rfl) ?_
    refine AOps.nil ?_
    refine AWP.adopt 2 51 3 1 rfl rfl ?_
    refine AWP.ret ?_
    refine ⟨51, rfl, mem_row_eq (.head _) ?_⟩
    first | rfl | simp
  · skip
    refine AWP.seq ?_
    refine AWP.region ?_
    refine AOps.step rfl rfl rfl (AOp.assignD rfl rfl) ?_
    refine AOps.nil ?_
    refine AWP.seq ?_
    refine AWP.seq ?_
    refine AWP.region ?_
    refine AOps.step rfl rfl rfl (AOp.moveD rfl rfl) ?_
    refine AOps.step rfl rfl rfl (AOp.eqNilV rfl Tryd.underlying27 rfl rfl) ?_
    refine AOps.nil ?_
    refine AWP.cond rfl (fun h => nomatch h) (fun _ => ?_)
    refine AWP.skip ?_
    refine AWP.seq ?_
    refine AWP.region ?_
    refine AOps.build0 102 rfl rfl rfl rfl et_27 rfl ?_
    refine AOps.step rfl rfl rfl (AOp.moveD rfl rfl) ?_
    refine AOps.le 6 rfl (SLe.d (Le.empty hcap)) ?_
    -- append 7
    refine AOps.append rfl rfl rfl rfl et_27 rfl (.head _) rfl (fun y hy => by first | exact absurd hy List.not_mem_nil | (obtain ⟨x, _, rfl⟩ := List.mem_map.1 hy; rfl)) (by simp; try omega) (by simp; try omega) ?_
    refine AOps.step rfl rfl rfl (AOp.assignO rfl rfl) ?_
    refine AOps.nil ?_
    refine AWP.ret ?_
    refine ⟨102, rfl, mem_row_eq (.head _) ?_⟩
    first | rfl | simp
  · skip
    refine AWP.seq ?_
    refine AWP.region ?_
    refine AOps.step rfl rfl rfl (AOp.assignD rfl rfl) ?_
    refine AOps.nil ?_
    refine AWP.seq ?_
    refine AWP.seq ?_
    refine AWP.region ?_
    refine AOps.step rfl rfl rfl (AOp.moveD rfl rfl) ?_
    refine AOps.step rfl rfl rfl (AOp.eqNilS rfl Tryd.underlying27 rfl rfl (fun h => hn (List.map_eq_nil_iff.1 h))) ?_
    refine AOps.nil ?_
    refine AWP.cond rfl (fun h => nomatch h) (fun _ => ?_)
    refine AWP.skip ?_
    refine AWP.seq ?_
    refine AWP.region ?_
    refine AOps.build0 103 rfl rfl rfl rfl et_27 rfl ?_
    refine AOps.step rfl rfl rfl (AOp.moveD rfl rfl) ?_
    -- append 7
    refine AOps.append rfl rfl rfl rfl et_27 rfl (.head _) rfl (fun y hy => by first | exact absurd hy List.not_mem_nil | (obtain ⟨x, _, rfl⟩ := List.mem_map.1 hy; rfl)) (by simp; try omega) (by simp; try omega) ?_
    refine AOps.step rfl rfl rfl (AOp.assignO rfl rfl) ?_
    refine AOps.nil ?_
    refine AWP.ret ?_
    refine ⟨103, rfl, mem_row_eq (.head _) ?_⟩
    first | rfl | simp

set_option maxRecDepth 100000 in
set_option maxHeartbeats 1000000 in
theorem c_clTr (l : List Tr) (hl : l.length ≤ 1000000) : OCall Tryd.prog 63 [.sl (l.map Tr.ds)] 79 2 (l.map Tr.ds) := by
  refine ocall_of (n := 8) Tryd.func63 rfl (by kernel_rfl) rfl 2 rfl rfl ?_
  intro B w0 F0 fr
  refine (Classical.em (l = [])).elim (fun hn => ?_) (fun hn => ?_)
  subst hn
  refine AWP.nilOr 0 rfl ?_ (fun ad cap hcap => ?_)
  · skip
    refine AWP.seq ?_
    refine AWP.region ?_
    refine AOps.step rfl rfl rfl (AOp.assignD rfl rfl) ?_
    refine AOps.nil ?_
    refine AWP.seq ?_
    refine AWP.seq ?_
    refine AWP.region ?_
    refine AOps.step rfl rfl rfl (AOp.moveD rfl rfl) ?_
    refine AOps.step rfl rfl rfl (AOp.eqNilV rfl Tryd.underlying57 rfl rfl) ?_
    refine AOps.nil ?_
    refine AWP.cond rfl (fun _ => ?_) (fun h => nomatch h)
    refine AWP.seq ?_
    refine AWP.region ?_
    refine AOps.step rfl rfl rfl (AOp.assignD rfl rfl) ?_
    refine AOps.nil ?_
    refine AWP.adopt 2 51 79 2 rfl rfl ?_
    refine AWP.ret ?_
    refine ⟨51, rfl, mem_row_eq (.head _) ?_⟩
    first | rfl | simp
  · skip
    refine AWP.seq ?_
    refine AWP.region ?_
    refine AOps.step rfl rfl rfl (AOp.assignD rfl rfl) ?_
    refine AOps.nil ?_
    refine AWP.seq ?_
    refine AWP.seq ?_
    refine AWP.region ?_
    refine AOps.step rfl rfl rfl (AOp.moveD rfl rfl) ?_
    refine AOps.step rfl rfl rfl (AOp.eqNilV rfl Tryd.underlying57 rfl rfl) ?_
    refine AOps.nil ?_
    refine AWP.cond rfl (fun h => nomatch h) (fun _ => ?_)
    refine AWP.skip ?_
    refine AWP.seq ?_
    refine AWP.region ?_
    refine AOps.build0 102 rfl rfl rfl rfl et_57 rfl ?_
    refine AOps.step rfl rfl rfl (AOp.moveD rfl rfl) ?_
    refine AOps.le 6 rfl (SLe.d (Le.empty hcap)) ?_
    -- append 7
    refine AOps.append rfl rfl rfl rfl et_57 rfl (.head _) rfl (fun y hy => by first | exact absurd hy List.not_mem_nil | (obtain ⟨x, _, rfl⟩ := List.mem_map.1 hy; rfl)) (by simp; try omega) (by simp; try omega) ?_
    refine AOps.step rfl rfl rfl (AOp.assignO rfl rfl) ?_
    refine AOps.nil ?_
    refine AWP.ret ?_
    refine ⟨102, rfl, mem_row_eq (.head _) ?_⟩
    first | rfl | simp
  · skip
    refine AWP.seq ?_
    refine AWP.region ?_
    refine AOps.step rfl rfl rfl (AOp.assignD rfl rfl) ?_
    refine AOps.nil ?_
    refine AWP.seq ?_
    refine AWP.seq ?_
    refine AWP.region ?_
    refine AOps.step rfl rfl rfl (AOp.moveD rfl rfl) ?_
    refine AOps.step rfl rfl rfl (AOp.eqNilS rfl Tryd.underlying57 rfl rfl (fun h => hn (List.map_eq_nil_iff.1 h))) ?_
    refine AOps.nil ?_
    refine AWP.cond rfl (fun h => nomatch h) (fun _ => ?_)
    refine AWP.skip ?_
    refine AWP.seq ?_
    refine AWP.region ?_
    refine AOps.build0 103 rfl rfl rfl rfl et_57 rfl ?_
    refine AOps.step rfl rfl rfl (AOp.moveD rfl rfl) ?_
    -- append 7
    refine AOps.append rfl rfl rfl rfl et_57 rfl (.head _) rfl (fun y hy => by first | exact absurd hy List.not_mem_nil | (obtain ⟨x, _, rfl⟩ := List.mem_map.1 hy; rfl)) (by simp; try omega) (by simp; try omega) ?_
    refine AOps.step rfl rfl rfl (AOp.assignO rfl rfl) ?_
    refine AOps.nil ?_
    refine AWP.ret ?_
    refine ⟨103, rfl, mem_row_eq (.head _) ?_⟩
    first | rfl | simp

set_option maxRecDepth 100000 in
set_option maxHeartbeats 1000000 in
theorem c_clStk (l : List Stk) (hl : l.length ≤ 1000000) : OCall Tryd.prog 64 [.sl (l.map Stk.ds)] 82 2 (l.map Stk.ds) := by
  refine ocall_of (n := 8) Tryd.func64 rfl (by kernel_rfl) rfl 2 rfl rfl ?_
  intro B w0 F0 fr
  refine (Classical.em (l = [])).elim (fun hn => ?_) (fun hn => ?_)
  subst hn
  refine AWP.nilOr 0 rfl ?_ (fun ad cap hcap => ?_)
  · skip
    refine AWP.seq ?_
    refine AWP.region ?_
    refine AOps.step rfl rfl rfl (AOp.assignD rfl rfl) ?_
    refine AOps.nil ?_
    refine AWP.seq ?_
    refine AWP.seq ?_
    refine AWP.region ?_
    refine AOps.step rfl rfl rfl (AOp.moveD rfl rfl) ?_
    refine AOps.step rfl rfl rfl (AOp.eqNilV rfl Tryd.underlying53 rfl rfl) ?_
    refine AOps.nil ?_
    refine AWP.cond rfl (fun _ => ?_) (fun h => nomatch h)
    refine AWP.seq ?_
    refine AWP.region ?_
    refine AOps.step rfl rfl rfl (AOp.assignD rfl rfl) ?_
    refine AOps.nil ?_
    refine AWP.adopt 2 51 82 2 rfl rfl ?_
    refine AWP.ret ?_
    refine ⟨51, rfl, mem_row_eq (.head _) ?_⟩
    first | rfl | simp
  · skip
    refine AWP.seq ?_
    refine AWP.region ?_
    refine AOps.step rfl rfl rfl (AOp.assignD rfl rfl) ?_
    refine AOps.nil ?_
    refine AWP.seq ?_
    refine AWP.seq ?_
    refine AWP.region ?_
    refine AOps.step rfl rfl rfl (AOp.moveD rfl rfl) ?_
    refine AOps.step rfl rfl rfl (AOp.eqNilV rfl Tryd.underlying53 rfl rfl) ?_
    refine AOps.nil ?_
    refine AWP.cond rfl (fun h => nomatch h) (fun _ => ?_)
    refine AWP.skip ?_
    refine AWP.seq ?_
    refine AWP.region ?_
    refine AOps.build0 102 rfl rfl rfl rfl et_53 rfl ?_
    refine AOps.step rfl rfl rfl (AOp.moveD rfl rfl) ?_
    refine AOps.le 6 rfl (SLe.d (Le.empty hcap)) ?_
    -- append 7
    refine AOps.append rfl rfl rfl rfl et_53 rfl (.head _) rfl (fun y hy => by first | exact absurd hy List.not_mem_nil | (obtain ⟨x, _, rfl⟩ := List.mem_map.1 hy; rfl)) (by simp; try omega) (by simp; try omega) ?_
    refine AOps.step rfl rfl rfl (AOp.assignO rfl rfl) ?_
    refine AOps.nil ?_
    refine AWP.ret ?_
    refine ⟨102, rfl, mem_row_eq (.head _) ?_⟩
    first | rfl | simp
  · skip
    refine AWP.seq ?_
    refine AWP.region ?_
    refine AOps.step rfl rfl rfl (AOp.assignD rfl rfl) ?_
    refine AOps.nil ?_
    refine AWP.seq ?_
    refine AWP.seq ?_
    refine AWP.region ?_
    refine AOps.step rfl rfl rfl (AOp.moveD rfl rfl) ?_
    refine AOps.step rfl rfl rfl (AOp.eqNilS rfl Tryd.underlying53 rfl rfl (fun h => hn (List.map_eq_nil_iff.1 h))) ?_
    refine AOps.nil ?_
    refine AWP.cond rfl (fun h => nomatch h) (fun _ => ?_)
    refine AWP.skip ?_
    refine AWP.seq ?_
    refine AWP.region ?_
    refine AOps.build0 103 rfl rfl rfl rfl et_53 rfl ?_
    refine AOps.step rfl rfl rfl (AOp.moveD rfl rfl) ?_
    -- append 7
    refine AOps.append rfl rfl rfl rfl et_53 rfl (.head _) rfl (fun y hy => by first | exact absurd hy List.not_mem_nil | (obtain ⟨x, _, rfl⟩ := List.mem_map.1 hy; rfl)) (by simp; try omega) (by simp; try omega) ?_
    refine AOps.step rfl rfl rfl (AOp.assignO rfl rfl) ?_
    refine AOps.nil ?_
    refine AWP.ret ?_
    refine ⟨103, rfl, mem_row_eq (.head _) ?_⟩
    first | rfl | simp

end Go.Proofs.YtfajemnegkfigaaDoor


namespace Go.Proofs.YtfajemnegkfigaaDoor
open Go.RowKit
set_option linter.unusedVariables false

/-! Types. -/
namespace TyU8
theorem ag_26 : AggT Tryd.prog 26 3 := .of (by kernel_rfl)
theorem et_23 : ElemTy Tryd.prog 23 59 9 120 (.agg #[(.string ⟨#[]⟩), (.string ⟨#[]⟩), (.int .i64 0), (.int .i64 0), (.slice none 0 0), (.slice none 0 0), (.int .i64 0), (.int .i64 0), (.int .i64 0)]) := ⟨by kernel_rfl, by kernel_rfl, by kernel_rfl, by decide⟩
theorem et_24 : ElemTy Tryd.prog 24 55 3 48 (.agg #[(.string ⟨#[]⟩), (.int .i64 0), (.slice none 0 0)]) := ⟨by kernel_rfl, by kernel_rfl, by kernel_rfl, by decide⟩
theorem fo_26_0 : fieldOff Tryd.prog 26 0 = some 0 := by kernel_rfl
theorem fo_26_1 : fieldOff Tryd.prog 26 1 = some 1 := by kernel_rfl
theorem fo_26_2 : fieldOff Tryd.prog 26 2 = some 2 := by kernel_rfl
theorem fo_55_2 : fieldOff Tryd.prog 55 2 = some 2 := by kernel_rfl
theorem fo_59_4 : fieldOff Tryd.prog 59 4 = some 4 := by kernel_rfl
theorem fo_59_5 : fieldOff Tryd.prog 59 5 = some 5 := by kernel_rfl
theorem sc_22 : Scal Tryd.prog 22 := .of (by kernel_rfl)
theorem sc_23 : Scal Tryd.prog 23 := .of (by kernel_rfl)
theorem sc_24 : Scal Tryd.prog 24 := .of (by kernel_rfl)
theorem sc_27 : Scal Tryd.prog 27 := .of (by kernel_rfl)
theorem sc_53 : Scal Tryd.prog 53 := .of (by kernel_rfl)
theorem sc_57 : Scal Tryd.prog 57 := .of (by kernel_rfl)
theorem sz_22 : ∀ w, (sizeOf 22).run Tryd.prog w = .ok 1 w := SizeT.of (by kernel_rfl)
theorem sz_23 : ∀ w, (sizeOf 23).run Tryd.prog w = .ok 1 w := SizeT.of (by kernel_rfl)
theorem sz_24 : ∀ w, (sizeOf 24).run Tryd.prog w = .ok 1 w := SizeT.of (by kernel_rfl)
theorem sz_26 : ∀ w, (sizeOf 26).run Tryd.prog w = .ok 3 w := SizeT.of (by kernel_rfl)
theorem sz_27 : ∀ w, (sizeOf 27).run Tryd.prog w = .ok 1 w := SizeT.of (by kernel_rfl)
theorem sz_53 : ∀ w, (sizeOf 53).run Tryd.prog w = .ok 1 w := SizeT.of (by kernel_rfl)
theorem sz_57 : ∀ w, (sizeOf 57).run Tryd.prog w = .ok 1 w := SizeT.of (by kernel_rfl)
theorem zt_26 : (Tryd.prog.info? 26).bind (·.zero) = some (.agg #[(.slice none 0 0), (.slice none 0 0), (.slice none 0 0)]) := by kernel_rfl
end TyU8
open TyU8


theorem obs4 {i e s : Nat} {els els' : List (List D)} {x y z : Nat × Ob} {τ : Obs} (h : els = els') : ∀ p ∈ [(i, Ob.row e s els'), x, y, z], p ∈ (i, Ob.row e s els) :: x :: y :: z :: τ := fun p hp => by
  subst h
  simp only [List.mem_cons, List.not_mem_nil, or_false] at hp ⊢
  rcases hp with h | h | h | h
  · exact .inl h
  · exact .inr (.inl h)
  · exact .inr (.inr (.inl h))
  · exact .inr (.inr (.inr (.inl h)))
theorem obs4b {i e s : Nat} {els els' : List (List D)} {x y z : Nat × Ob} {τ : Obs} (h : els = els') : ∀ p ∈ [x, (i, Ob.row e s els'), y, z], p ∈ x :: (i, Ob.row e s els) :: y :: z :: τ := fun p hp => by
  subst h
  simp only [List.mem_cons, List.not_mem_nil, or_false] at hp ⊢
  rcases hp with h | h | h | h
  · exact .inl h
  · exact .inr (.inl h)
  · exact .inr (.inr (.inl h))
  · exact .inr (.inr (.inr (.inl h)))
theorem set_set_back {α : Type} {l : List α} {f : α → List D} {k : Nat} {X Y : List D} (hk : k < l.length) (hY : Y = f l[k]) : ((l.map f).set k X).set k Y = l.map f := by
  subst hY
  rw [List.set_set]
  apply List.ext_getElem
  · simp
  · intro i h1 h2
    rw [List.getElem_set]
    by_cases h : k = i
    · subst h; simp
    · rw [if_neg h]
theorem set_back {α : Type} {l : List α} {f : α → List D} {k : Nat} {Y : List D} (hk : k < l.length) (hY : Y = f l[k]) : (l.map f).set k Y = l.map f := by
  subst hY
  apply List.ext_getElem
  · simp
  · intro i h1 h2
    rw [List.getElem_set]
    by_cases h : k = i
    · subst h; simp
    · rw [if_neg h]
/-- What a contract that is right gives. -/
structure COk (c : Ctr) : Prop where
  als : c.als.length ≤ 1000000
  deals : c.deals.length ≤ 1000000
  groups : c.groups.length ≤ 1000000
  recs : ∀ d ∈ c.deals, d.recs.length ≤ 1000000 ∧ d.tiers.length ≤ 1000000
  cut : ∀ g ∈ c.groups, g.cut.length ≤ 1000000
theorem tiers_len {l : List Tr} (h : tiersF l = 0) : l.length ≤ 10 := by
  unfold tiersF at h
  split at h
  · omega
  · split at h
    · omega
    · omega
theorem deal0_ok {c : Ctr} {d : Deal} (h : dealF0 c d = 0) : d.recs.length ≤ 100 ∧ d.tiers.length ≤ 10 := by
  unfold dealF0 at h
  split at h
  · omega
  · split at h
    · omega
    · split at h
      · omega
      · split at h
        · omega
        · split at h
          · omega
          · rename_i h1 h2 h3 h4 h5
            exact ⟨by omega, tiers_len (by omega)⟩
theorem grp0_ok {g : Grp} (h : grpF0 g = 0) : g.cut.length ≤ 20 := by
  unfold grpF0 at h
  split at h
  · omega
  · split at h
    · omega
    · split at h
      · omega
      · omega
theorem ctr_ok {c : Ctr} (h : ctrF c = 0) : COk c := by
  unfold ctrF at h
  split at h
  · omega
  rename_i ha
  split at h
  · omega
  rename_i hl
  split at h
  · omega
  rename_i hg
  have hal : c.als.length ≤ 500 := by
    have h0 : alisF c.als = 0 := by omega
    unfold alisF at h0
    split at h0 <;> omega
  refine ⟨by omega, by omega, by omega, fun d hd => ?_, fun g hgm => ?_⟩
  · obtain ⟨k, hk, rfl⟩ := List.getElem_of_mem hd
    have h1 := ffst_all (f := dealF c) _ h k hk
    unfold dealF at h1
    rw [dif_pos hk] at h1
    split at h1
    · omega
    · split at h1
      · omega
      · have := deal0_ok h1; omega
  · obtain ⟨k, hk, rfl⟩ := List.getElem_of_mem hgm
    have h1 := ffst_all (f := grpF c.groups) c.groups.length (by omega) k hk
    unfold grpF at h1
    rw [dif_pos hk] at h1
    split at h1
    · omega
    · split at h1
      · omega
      · have := grp0_ok h1; omega


set_option maxRecDepth 100000 in
set_option maxHeartbeats 1000000 in
theorem c_ownCtr (c : Ctr) (ok : COk c) : ACall Tryd.prog 24 [.agg c.ds] (.agg c.ds) := by
  refine acall_ofR (n := 65) (ds' := [.agg c.ds]) Tryd.func24 rfl (by kernel_rfl) rfl [.cell 2 26] rfl rfl ?_
  intro B w0 F0 fr
  refine AWP.seq ?_
  refine AWP.region ?_
  refine AOps.boxOwn 101 rfl rfl rfl rfl rfl rfl rfl ?_
  refine AOps.alloc 102 rfl rfl rfl rfl zt_26 rfl rfl rfl ?_
  refine AOps.nil ?_
  refine AWP.seq ?_
  refine AWP.drawFresh 10 [⟨11, 103, .own 103, .row 59 9 (c.deals.map Deal.ds)⟩, ⟨14, 104, .own 104, .row 55 3 (c.groups.map Grp.ds)⟩] (FrOk.two rfl (by simp) rfl rfl rfl rfl (by simp) rfl rfl rfl (Nat.ne_of_beq_eq_false rfl) (Nat.ne_of_beq_eq_false rfl) rfl rfl rfl rfl) (by kernel_rfl) (by kernel_rfl) (by kernel_rfl) (by kernel_rfl) ?_
  refine XRun.step rfl rfl rfl (AOp.fieldAddrP rfl fo_26_0 rfl) ?_
  refine XRun.step rfl rfl rfl (AOp.loadP rfl sc_22 rfl (.tail _ (.head _)) rfl) ?_
  refine XRun.step rfl rfl rfl (AOp.call rfl (.cons (ArgOk.rfl' rfl) .nil) (c_clAli c.als ok.als).toA) ?_
  refine XRun.step rfl rfl rfl (AOp.fieldAddrP rfl fo_26_1 rfl) ?_
  refine XRun.step rfl rfl rfl (AOp.loadP rfl sc_23 rfl (.tail _ (.head _)) rfl) ?_
  refine XRun.callO _ (.head _) rfl rfl rfl rfl rfl (.cons (ArgOk.rfl' rfl) .nil) (c_clDeal c.deals ok.deals) rfl rfl ?_
  refine XRun.step rfl rfl rfl (AOp.fieldAddrP rfl fo_26_2 rfl) ?_
  refine XRun.step rfl rfl rfl (AOp.loadP rfl sc_24 rfl (.tail _ (.head _)) rfl) ?_
  refine XRun.callO _ (.tail _ (.head _)) rfl rfl rfl rfl rfl (.cons (ArgOk.rfl' rfl) .nil) (c_clGrp c.groups ok.groups) rfl rfl ?_
  refine XRun.step rfl rfl rfl (AOp.fieldAddrP rfl fo_26_0 rfl) ?_
  refine XRun.nil ⟨rfl, rfl, trivial⟩ ?_
  refine AOps.store rfl rfl rfl sz_22 rfl (.tail _ (.tail _ (.tail _ (.head _)))) rfl rfl rfl (Nat.le_of_ble_eq_true rfl) ?_
  refine AOps.step rfl rfl rfl (AOp.fieldAddrP rfl fo_26_1 rfl) ?_
  refine AOps.storeS rfl rfl rfl sz_23 rfl (.tail _ (.tail _ (.tail _ (.head _)))) rfl (.head _) (Nat.le_of_ble_eq_true rfl) ?_
  refine AOps.step rfl rfl rfl (AOp.fieldAddrP rfl fo_26_2 rfl) ?_
  refine AOps.storeS rfl rfl rfl sz_24 rfl (.tail _ (.tail _ (.tail _ (.head _)))) rfl (.tail _ (.head _)) (Nat.le_of_ble_eq_true rfl) ?_
  refine AOps.nil ?_
  refine AWP.seq ?_
  refine AWP.seq ?_
  refine AWP.region ?_
  refine AOps.step rfl rfl rfl (AOp.fieldAddrP rfl fo_26_1 rfl) ?_
  refine AOps.step rfl rfl rfl (AOp.loadP rfl sc_23 rfl (.tail _ (.tail _ (.tail _ (.head _)))) rfl) ?_
  refine AOps.step rfl rfl rfl (AOp.lenOwn rfl et_23.ht rfl (.head _)) ?_
  refine AOps.step rfl rfl rfl (AOp.moveD rfl rfl) ?_
  refine AOps.nil ?_
  refine AWP.block ?_
  have okd := ok.deals
  refine AWP.loop (G := Nat) (fun k => Env.of [(21, .d (.v (.int .i64 (k : Int)))), (20, .d (.v (.int .i64 ((c.deals.map Deal.ds).length : Int)))), (1, .ptr 101 0), (2, .ptr 102 0)]) (fun k => [(103, .row 59 9 (c.deals.map Deal.ds)), (104, .row 55 3 (c.groups.map Grp.ds)), (102, .cells [.d (.v (.slice none 0 0)), .d (.v (.slice none 0 0)), .d (.v (.slice none 0 0))]), (101, .cells [.d (.sl (c.als.map Ali.ds)), .own 103, .own 104])]) (fun k => k ≤ c.deals.length) (fun k => c.deals.length - k) 0 (Nat.zero_le _) (Sub.less ⟨(SLe.of_eq rfl), SLe.refl _, SLe.refl _, SLe.refl _, trivial⟩ (fun _ h => h)) ?_
  intro k hk
  refine AWP.seq ?_
  refine AWP.region ?_
  refine AOps.step rfl rfl rfl (AOp.lss rfl rfl rfl) ?_
  refine AOps.nil ?_
  refine AWP.seq ?_
  refine AWP.cond rfl (fun h1 => ?_) (fun h1 => ?_)
  · replace h1 := of_decide_eq_true h1
    rw [List.length_map] at h1
    have hlt : k < c.deals.length := by omega
    have hdk := ok.recs _ (List.getElem_mem hlt)
    refine AWP.skip ?_
    refine AWP.seq ?_
    refine AWP.block ?_
    refine AWP.seq ?_
    refine AWP.region ?_
    refine AOps.step rfl rfl rfl (AOp.moveD rfl rfl) ?_
    refine AOps.step rfl rfl rfl (AOp.assignD rfl rfl) ?_
    refine AOps.nil ?_
    refine AWP.seq ?_
    refine AWP.region ?_
    refine AOps.step rfl rfl rfl (AOp.fieldAddrP rfl fo_26_1 rfl) ?_
    refine AOps.step rfl rfl rfl (AOp.loadP rfl sc_23 rfl (.tail _ (.tail _ (.tail _ (.head _)))) rfl) ?_
    refine AOps.step rfl rfl rfl (AOp.moveD rfl rfl) ?_
    refine AOps.step rfl rfl rfl (AOp.indexOwn rfl et_23 rfl rfl (.head _) k rfl (by rw [List.length_map]; exact hlt)) ?_
    refine AOps.step rfl rfl rfl (AOp.assignP rfl rfl) ?_
    refine AOps.nil ?_
    refine AWP.drawG (fun k => (Nat.beq k 14 || Nat.beq k 17) || (Nat.beq k 5 || Nat.beq k 10)) (fun k => Nat.beq k 14 || Nat.beq k 17) (fun k h => Bool.or_eq_true_iff.2 (.inl h)) (by kernel_rfl) (by kernel_rfl) (by kernel_rfl) ?_
    refine GRun.step rfl rfl rfl (fun _ => AOp.moveP rfl rfl) ?_
    refine GRun.step rfl rfl rfl (fun _ => AOp.moveP rfl rfl) ?_
    refine GRun.step rfl rfl rfl (fun _ => AOp.moveP rfl rfl) ?_
    refine GRun.step rfl rfl rfl (fun _ => AOp.nilCheckP rfl rfl) ?_
    refine GRun.step rfl rfl rfl (fun _ => AOp.fieldAddrP rfl fo_59_4 rfl) ?_
    refine GRun.stepS rfl rfl rfl rfl (AOp.loadRow rfl sc_27 rfl (.head _) k 4 rfl (at_lst hlt) rfl) ?_
    refine GRun.step rfl rfl rfl (fun _ => AOp.call rfl (.cons (ArgOk.rfl' rfl) .nil) (c_clInt _ hdk.1).toA) ?_
    refine GRun.step rfl rfl rfl (fun _ => AOp.moveP rfl rfl) ?_
    refine GRun.step rfl rfl rfl (fun _ => AOp.nilCheckP rfl rfl) ?_
    refine GRun.step rfl rfl rfl (fun _ => AOp.fieldAddrP rfl fo_59_5 rfl) ?_
    refine GRun.stepS rfl rfl rfl rfl (AOp.loadRow rfl sc_57 rfl (.head _) k 5 rfl (at_lst hlt) rfl) ?_
    refine GRun.step rfl rfl rfl (fun _ => AOp.call rfl (.cons (ArgOk.rfl' rfl) .nil) (c_clTr _ hdk.2).toA) ?_
    refine GRun.step rfl rfl rfl (fun _ => AOp.nilCheckP rfl rfl) ?_
    refine GRun.step rfl rfl rfl (fun _ => AOp.fieldAddrP rfl fo_59_4 rfl) ?_
    refine GRun.eff rfl rfl rfl (EOp.storeRow rfl rfl sz_27 rfl (.head _) rfl rfl rfl k 4 rfl (at_lst hlt) (Nat.le_of_ble_eq_true rfl)) ?_
    refine GRun.step rfl rfl rfl (fun _ => AOp.nilCheckP rfl rfl) ?_
    refine GRun.step rfl rfl rfl (fun _ => AOp.fieldAddrP rfl fo_59_5 rfl) ?_
    refine GRun.eff rfl rfl rfl (EOp.storeRow rfl rfl sz_57 rfl (.head _) rfl rfl rfl k 5 rfl (List.getElem?_set_self (by rw [List.length_map]; exact hlt)) (Nat.le_of_ble_eq_true rfl)) ?_
    refine GRun.nil ?_
    refine AWP.region ?_
    refine AOps.step rfl rfl rfl (AOp.add64 rfl rfl rfl (by omega) (by omega)) ?_
    refine AOps.step rfl rfl rfl (AOp.moveD rfl rfl) ?_
    refine AOps.nil ?_
    refine ⟨k + 1, (by omega), (by dsimp only; omega), Sub.less ⟨(SLe.of_eq rfl), SLe.refl _, SLe.refl _, SLe.refl _, trivial⟩ (obs4 (set_set_back hlt rfl))⟩
  · replace h1 := of_decide_eq_false h1
    refine AWP.exit ?_
    refine AWP.seq ?_
    refine AWP.seq ?_
    refine AWP.region ?_
    refine AOps.step rfl rfl rfl (AOp.fieldAddrP rfl fo_26_2 rfl) ?_
    refine AOps.step rfl rfl rfl (AOp.loadP rfl sc_24 rfl (.tail _ (.tail _ (.tail _ (.head _)))) rfl) ?_
    refine AOps.step rfl rfl rfl (AOp.lenOwn rfl et_24.ht rfl (.tail _ (.head _))) ?_
    refine AOps.step rfl rfl rfl (AOp.moveD rfl rfl) ?_
    refine AOps.nil ?_
    refine AWP.block ?_
    have okg := ok.groups
    refine AWP.loop (G := Nat) (fun k => Env.of [(48, .d (.v (.int .i64 (k : Int)))), (47, .d (.v (.int .i64 ((c.groups.map Grp.ds).length : Int)))), (1, .ptr 101 0), (2, .ptr 102 0)]) (fun k => [(103, .row 59 9 (c.deals.map Deal.ds)), (104, .row 55 3 (c.groups.map Grp.ds)), (102, .cells [.d (.v (.slice none 0 0)), .d (.v (.slice none 0 0)), .d (.v (.slice none 0 0))]), (101, .cells [.d (.sl (c.als.map Ali.ds)), .own 103, .own 104])]) (fun k => k ≤ c.groups.length) (fun k => c.groups.length - k) 0 (Nat.zero_le _) (Sub.less ⟨(SLe.of_eq rfl), SLe.refl _, SLe.refl _, SLe.refl _, trivial⟩ (fun _ h => h)) ?_
    intro k hk
    refine AWP.seq ?_
    refine AWP.region ?_
    refine AOps.step rfl rfl rfl (AOp.lss rfl rfl rfl) ?_
    refine AOps.nil ?_
    refine AWP.seq ?_
    refine AWP.cond rfl (fun h2 => ?_) (fun h2 => ?_)
    · replace h2 := of_decide_eq_true h2
      rw [List.length_map] at h2
      have hlt : k < c.groups.length := by omega
      have hgk := ok.cut _ (List.getElem_mem hlt)
      refine AWP.skip ?_
      refine AWP.seq ?_
      refine AWP.block ?_
      refine AWP.seq ?_
      refine AWP.region ?_
      refine AOps.step rfl rfl rfl (AOp.moveD rfl rfl) ?_
      refine AOps.step rfl rfl rfl (AOp.assignD rfl rfl) ?_
      refine AOps.nil ?_
      refine AWP.drawG (fun k => (Nat.beq k 12) || (Nat.beq k 1 || Nat.beq k 4 || Nat.beq k 6 || Nat.beq k 8 || Nat.beq k 10)) (fun k => Nat.beq k 12) (fun k h => Bool.or_eq_true_iff.2 (.inl h)) (by kernel_rfl) (by kernel_rfl) (by kernel_rfl) ?_
      refine GRun.step rfl rfl rfl (fun _ => AOp.fieldAddrP rfl fo_26_2 rfl) ?_
      refine GRun.stepS rfl rfl rfl rfl (AOp.loadP rfl sc_24 rfl (.tail _ (.tail _ (.tail _ (.head _)))) rfl) ?_
      refine GRun.step rfl rfl rfl (fun _ => AOp.moveD rfl rfl) ?_
      refine GRun.step rfl rfl rfl (fun _ => AOp.fieldAddrP rfl fo_26_2 rfl) ?_
      refine GRun.stepS rfl rfl rfl rfl (AOp.loadP rfl sc_24 rfl (.tail _ (.tail _ (.tail _ (.head _)))) rfl) ?_
      refine GRun.step rfl rfl rfl (fun _ => AOp.moveD rfl rfl) ?_
      refine GRun.stepS rfl rfl rfl rfl (AOp.indexOwn rfl et_24 rfl rfl (.tail _ (.head _)) k rfl (by rw [List.length_map]; exact hlt)) ?_
      refine GRun.step rfl rfl rfl (fun _ => AOp.fieldAddrP rfl fo_55_2 rfl) ?_
      refine GRun.stepS rfl rfl rfl rfl (AOp.loadRow rfl sc_53 rfl (.tail _ (.head _)) k 2 rfl (at_lst hlt) rfl) ?_
      refine GRun.step rfl rfl rfl (fun _ => AOp.call rfl (.cons (ArgOk.rfl' rfl) .nil) (c_clStk _ hgk).toA) ?_
      refine GRun.stepS rfl rfl rfl rfl (AOp.indexOwn rfl et_24 rfl rfl (.tail _ (.head _)) k rfl (by rw [List.length_map]; exact hlt)) ?_
      refine GRun.step rfl rfl rfl (fun _ => AOp.fieldAddrP rfl fo_55_2 rfl) ?_
      refine GRun.eff rfl rfl rfl (EOp.storeRow rfl rfl sz_53 rfl (.tail _ (.head _)) rfl rfl rfl k 2 rfl (at_lst hlt) (Nat.le_of_ble_eq_true rfl)) ?_
      refine GRun.nil ?_
      refine AWP.region ?_
      refine AOps.step rfl rfl rfl (AOp.add64 rfl rfl rfl (by omega) (by omega)) ?_
      refine AOps.step rfl rfl rfl (AOp.moveD rfl rfl) ?_
      refine AOps.nil ?_
      refine ⟨k + 1, (by omega), (by dsimp only; omega), Sub.less ⟨(SLe.of_eq rfl), SLe.refl _, SLe.refl _, SLe.refl _, trivial⟩ (obs4b (set_back hlt rfl))⟩
    · replace h2 := of_decide_eq_false h2
      refine AWP.exit ?_
      refine AWP.seq ?_
      refine AWP.freezeIn 101 1 rfl (.tail _ (.tail _ (.head _))) (.head _) ?_
      refine AWP.freezeIn 101 2 rfl (.tail _ (.head _)) (.head _) ?_
      refine AWP.region ?_
      refine AOps.step rfl rfl rfl (AOp.loadPU rfl ag_26 rfl (.tail _ (.head _)) rfl rfl) ?_
      refine AOps.store rfl rfl rfl sz_26 rfl (.head _) rfl rfl rfl (Nat.le_of_ble_eq_true rfl) ?_
      refine AOps.nil ?_
      refine AWP.ret ?_
      refine ⟨RetR.agg rfl (.head _) ag_26 rfl (.cons (by first | exact CellD.nil | exact CellD.d | exact CellD.eq (by simp) | (refine CellD.own (by first | exact .head _ | exact .tail _ (.head _)) ?_; rfl)) (.cons (by first | exact CellD.nil | exact CellD.d | exact CellD.eq (by simp) | (refine CellD.own (by first | exact .head _ | exact .tail _ (.head _)) ?_; rfl)) (.cons (by first | exact CellD.nil | exact CellD.d | exact CellD.eq (by simp) | (refine CellD.own (by first | exact .head _ | exact .tail _ (.head _)) ?_; rfl)) .nil))), trivial⟩
      all_goals (rfl)

end Go.Proofs.YtfajemnegkfigaaDoor


namespace Go.Proofs.YtfajemnegkfigaaDoor
open Go.RowKit
set_option linter.unusedVariables false

/-! Types. -/
namespace TyU9
theorem ag_26 : AggT Tryd.prog 26 3 := .of (by kernel_rfl)
theorem ag_30 : AggT Tryd.prog 30 7 := .of (by kernel_rfl)
theorem bu_30 : StructT Tryd.prog 30 (fun i => (#[(0, 3), (3, 1), (4, 1), (5, 1), (6, 1)] : Array (Nat × Nat))[i]?) [(.slice none 0 0), (.slice none 0 0), (.slice none 0 0), (.int .i64 0), (.slice none 0 0), (.slice none 0 0), (.slice none 0 0)] := .of (by kernel_rfl) (by kernel_rfl) (by decide)
theorem et_23 : ElemTy Tryd.prog 23 59 9 120 (.agg #[(.string ⟨#[]⟩), (.string ⟨#[]⟩), (.int .i64 0), (.int .i64 0), (.slice none 0 0), (.slice none 0 0), (.int .i64 0), (.int .i64 0), (.int .i64 0)]) := ⟨by kernel_rfl, by kernel_rfl, by kernel_rfl, by decide⟩
theorem et_24 : ElemTy Tryd.prog 24 55 3 48 (.agg #[(.string ⟨#[]⟩), (.int .i64 0), (.slice none 0 0)]) := ⟨by kernel_rfl, by kernel_rfl, by kernel_rfl, by decide⟩
theorem et_27 : ElemTy Tryd.prog 27 3 1 8 (.int .i64 0) := ⟨by kernel_rfl, by kernel_rfl, by kernel_rfl, by decide⟩
theorem fo_26_1 : fieldOff Tryd.prog 26 1 = some 1 := by kernel_rfl
theorem fo_26_2 : fieldOff Tryd.prog 26 2 = some 2 := by kernel_rfl
theorem sc_23 : Scal Tryd.prog 23 := .of (by kernel_rfl)
theorem sc_24 : Scal Tryd.prog 24 := .of (by kernel_rfl)
theorem sz_30 : ∀ w, (sizeOf 30).run Tryd.prog w = .ok 7 w := SizeT.of (by kernel_rfl)
theorem zt_30 : (Tryd.prog.info? 30).bind (·.zero) = some (.agg #[(.slice none 0 0), (.slice none 0 0), (.slice none 0 0), (.int .i64 0), (.slice none 0 0), (.slice none 0 0), (.slice none 0 0)]) := by kernel_rfl
end TyU9
open TyU9


/-- What New makes. -/
def newB (c : Ctr) : Bks := if ctrF c = 0 then ⟨c, 0, List.replicate c.deals.length 0, [], List.replicate c.groups.length 0⟩ else ⟨⟨[], [], []⟩, 0, [], [], []⟩
theorem newB_bad {c : Ctr} (h : ctrF c ≠ 0) : newB c = ⟨⟨[], [], []⟩, 0, [], [], []⟩ := if_neg h
theorem newB_ok {c : Ctr} (h : ctrF c = 0) : newB c = ⟨c, 0, List.replicate c.deals.length 0, [], List.replicate c.groups.length 0⟩ := if_pos h
theorem rep_zero (n : Nat) : List.replicate n [D.v (.int .i64 0)] = (List.replicate n (0 : Int)).map intD := by rw [List.map_replicate]; rfl


set_option maxRecDepth 100000 in
set_option maxHeartbeats 1000000 in
theorem c_pNew (c : Ctr) (hc : okCtr c) : ACallT Tryd.prog MaxT 6 [.agg c.ds] (.tup [.agg (newB c).ds, .v (.int .i64 (ctrF c))]) := by
  refine acall_ofRT (n := 22) (ds' := [.agg (newB c).ds, .v (.int .i64 (ctrF c))]) Tryd.func6 rfl (by kernel_rfl) rfl [.cell 2 30, .tmp 3] rfl rfl ?_
  intro B w0 F0 hT
  refine AWP.seq ?_
  refine AWP.region ?_
  refine AOps.step rfl rfl rfl (AOp.box rfl rfl rfl) ?_
  refine AOps.alloc 101 rfl rfl rfl rfl zt_30 rfl rfl rfl ?_
  refine AOps.step rfl rfl rfl (AOp.assignD rfl rfl) ?_
  refine AOps.nil ?_
  refine AWP.seq ?_
  refine AWP.seq ?_
  refine AWP.region ?_
  refine AOps.step rfl rfl rfl (AOp.loadAgg rfl ag_26 rfl rfl) ?_
  -- wants the world
  refine AOps.callT rfl rfl rfl hT maxT_stays rfl (.cons (ArgOk.rfl' rfl) .nil) (c_pCtr c hc) ?_
  refine AOps.step rfl rfl rfl (AOp.assignD rfl rfl) ?_
  refine AOps.nil ?_
  refine AWP.seq ?_
  refine AWP.region ?_
  refine AOps.step rfl rfl rfl (AOp.moveD rfl rfl) ?_
  refine AOps.step rfl rfl rfl (AOp.neq rfl rfl rfl) ?_
  refine AOps.nil ?_
  refine AWP.cond rfl (fun h1 => ?_) (fun h1 => ?_)
  · replace h1 := of_decide_eq_true h1
    rw [newB_bad h1]
    refine AWP.seq ?_
    refine AWP.region ?_
    refine AOps.step rfl rfl rfl (AOp.build rfl bu_30 .nil rfl) ?_
    refine AOps.step rfl rfl rfl (AOp.moveD rfl rfl) ?_
    refine AOps.store rfl rfl rfl sz_30 rfl (.head _) rfl rfl rfl (Nat.le_of_ble_eq_true rfl) ?_
    refine AOps.step rfl rfl rfl (AOp.assignD rfl rfl) ?_
    refine AOps.nil ?_
    refine AWP.ret ?_
    refine ⟨RetR.agg rfl (.head _) ag_30 rfl (.cons (by first | exact CellD.nil | exact CellD.d | exact CellD.eq (by first | rfl | (rw [rep_zero])) | (refine CellD.own (by first | exact .head _ | exact .tail _ (.head _)) ?_; rfl)) (.cons (by first | exact CellD.nil | exact CellD.d | exact CellD.eq (by first | rfl | (rw [rep_zero])) | (refine CellD.own (by first | exact .head _ | exact .tail _ (.head _)) ?_; rfl)) (.cons (by first | exact CellD.nil | exact CellD.d | exact CellD.eq (by first | rfl | (rw [rep_zero])) | (refine CellD.own (by first | exact .head _ | exact .tail _ (.head _)) ?_; rfl)) (.cons (by first | exact CellD.nil | exact CellD.d | exact CellD.eq (by first | rfl | (rw [rep_zero])) | (refine CellD.own (by first | exact .head _ | exact .tail _ (.head _)) ?_; rfl)) (.cons (by first | exact CellD.nil | exact CellD.d | exact CellD.eq (by first | rfl | (rw [rep_zero])) | (refine CellD.own (by first | exact .head _ | exact .tail _ (.head _)) ?_; rfl)) (.cons (by first | exact CellD.nil | exact CellD.d | exact CellD.eq (by first | rfl | (rw [rep_zero])) | (refine CellD.own (by first | exact .head _ | exact .tail _ (.head _)) ?_; rfl)) (.cons (by first | exact CellD.nil | exact CellD.d | exact CellD.eq (by first | rfl | (rw [rep_zero])) | (refine CellD.own (by first | exact .head _ | exact .tail _ (.head _)) ?_; rfl)) .nil))))))), RetD.eq rfl ?_, trivial⟩
    all_goals (rfl)
  · replace h1 := of_decide_eq_false h1
    have ok0 : ctrF c = 0 := by omega
    have okl := ctr_ok ok0
    have okd := okl.deals
    have okg := okl.groups
    rw [newB_ok ok0, ok0]
    refine AWP.skip ?_
    refine AWP.seq ?_
    refine AWP.drawFresh 10 [⟨16, 102, .own 102, .row 3 1 (List.replicate c.deals.length [.v (.int .i64 0)])⟩, ⟨20, 103, .own 103, .row 3 1 (List.replicate c.groups.length [.v (.int .i64 0)])⟩] (FrOk.two rfl (by simp) rfl rfl rfl rfl (by simp) rfl rfl rfl (Nat.ne_of_beq_eq_false rfl) (Nat.ne_of_beq_eq_false rfl) rfl rfl rfl rfl) (by kernel_rfl) (by kernel_rfl) (by kernel_rfl) (by kernel_rfl) ?_
    refine XRun.step rfl rfl rfl (AOp.loadAgg rfl ag_26 rfl rfl) ?_
    refine XRun.step rfl rfl rfl (AOp.call rfl (.cons (ArgOk.rfl' rfl) .nil) (c_ownCtr c (ctr_ok ok0))) ?_
    refine XRun.step rfl rfl rfl (AOp.fieldAddr rfl fo_26_1 rfl) ?_
    refine XRun.step rfl rfl rfl (AOp.load rfl sc_23 rfl) ?_
    refine XRun.step rfl rfl rfl (AOp.lenSl rfl et_23.ht rfl) ?_
    refine XRun.make _ (.head _) c.deals.length rfl rfl rfl rfl rfl et_27 rfl rfl (by rw [List.length_map]) (by omega) (by omega) rfl rfl rfl ?_
    refine XRun.step rfl rfl rfl (AOp.fieldAddr rfl fo_26_2 rfl) ?_
    refine XRun.step rfl rfl rfl (AOp.load rfl sc_24 rfl) ?_
    refine XRun.step rfl rfl rfl (AOp.lenSl rfl et_24.ht rfl) ?_
    refine XRun.make _ (.tail _ (.head _)) c.groups.length rfl rfl rfl rfl rfl et_27 rfl rfl (by rw [List.length_map]) (by omega) (by omega) rfl rfl rfl ?_
    refine XRun.nil ⟨rfl, rfl, trivial⟩ ?_
    refine AOps.freeze 16 rfl (.head _) ?_
    refine AOps.freeze 20 rfl (.head _) ?_
    refine AOps.step rfl rfl rfl (AOp.build rfl bu_30 (.cons rfl rfl (.cons rfl rfl (.cons rfl rfl .nil))) rfl) ?_
    refine AOps.store rfl rfl rfl sz_30 rfl (.head _) rfl rfl rfl (Nat.le_of_ble_eq_true rfl) ?_
    refine AOps.step rfl rfl rfl (AOp.assignD rfl rfl) ?_
    refine AOps.nil ?_
    refine AWP.ret ?_
    refine ⟨RetR.agg rfl (.head _) ag_30 rfl (.cons (by first | exact CellD.nil | exact CellD.d | exact CellD.eq (by first | rfl | (rw [rep_zero])) | (refine CellD.own (by first | exact .head _ | exact .tail _ (.head _)) ?_; rfl)) (.cons (by first | exact CellD.nil | exact CellD.d | exact CellD.eq (by first | rfl | (rw [rep_zero])) | (refine CellD.own (by first | exact .head _ | exact .tail _ (.head _)) ?_; rfl)) (.cons (by first | exact CellD.nil | exact CellD.d | exact CellD.eq (by first | rfl | (rw [rep_zero])) | (refine CellD.own (by first | exact .head _ | exact .tail _ (.head _)) ?_; rfl)) (.cons (by first | exact CellD.nil | exact CellD.d | exact CellD.eq (by first | rfl | (rw [rep_zero])) | (refine CellD.own (by first | exact .head _ | exact .tail _ (.head _)) ?_; rfl)) (.cons (by first | exact CellD.nil | exact CellD.d | exact CellD.eq (by first | rfl | (rw [rep_zero])) | (refine CellD.own (by first | exact .head _ | exact .tail _ (.head _)) ?_; rfl)) (.cons (by first | exact CellD.nil | exact CellD.d | exact CellD.eq (by first | rfl | (rw [rep_zero])) | (refine CellD.own (by first | exact .head _ | exact .tail _ (.head _)) ?_; rfl)) (.cons (by first | exact CellD.nil | exact CellD.d | exact CellD.eq (by first | rfl | (rw [rep_zero])) | (refine CellD.own (by first | exact .head _ | exact .tail _ (.head _)) ?_; rfl)) .nil))))))), RetD.eq rfl ?_, trivial⟩
    all_goals (rfl)

set_option maxRecDepth 100000 in
set_option maxHeartbeats 1000000 in
theorem c_rNew (c : Ctr) (hc : okCtr c) : ACallT Tryd.prog MaxT 7 [.agg c.ds] (.tup [.agg (newB c).ds, .v (.int .i64 (ctrF c))]) := by
  refine acall_ofRT (n := 21) (ds' := [.agg (newB c).ds, .v (.int .i64 (ctrF c))]) Tryd.func7 rfl (by kernel_rfl) rfl [.cell 2 30, .tmp 3] rfl rfl ?_
  intro B w0 F0 hT
  refine AWP.seq ?_
  refine AWP.region ?_
  refine AOps.step rfl rfl rfl (AOp.box rfl rfl rfl) ?_
  refine AOps.alloc 101 rfl rfl rfl rfl zt_30 rfl rfl rfl ?_
  refine AOps.step rfl rfl rfl (AOp.assignD rfl rfl) ?_
  refine AOps.nil ?_
  refine AWP.seq ?_
  refine AWP.seq ?_
  refine AWP.region ?_
  refine AOps.step rfl rfl rfl (AOp.loadAgg rfl ag_26 rfl rfl) ?_
  -- wants the world
  refine AOps.callT rfl rfl rfl hT maxT_stays rfl (.cons (ArgOk.rfl' rfl) .nil) (c_rCtr c hc) ?_
  refine AOps.step rfl rfl rfl (AOp.assignD rfl rfl) ?_
  refine AOps.nil ?_
  refine AWP.seq ?_
  refine AWP.region ?_
  refine AOps.step rfl rfl rfl (AOp.moveD rfl rfl) ?_
  refine AOps.step rfl rfl rfl (AOp.neq rfl rfl rfl) ?_
  refine AOps.nil ?_
  refine AWP.cond rfl (fun h1 => ?_) (fun h1 => ?_)
  · replace h1 := of_decide_eq_true h1
    rw [newB_bad h1]
    refine AWP.seq ?_
    refine AWP.region ?_
    refine AOps.step rfl rfl rfl (AOp.build rfl bu_30 .nil rfl) ?_
    refine AOps.step rfl rfl rfl (AOp.moveD rfl rfl) ?_
    refine AOps.store rfl rfl rfl sz_30 rfl (.head _) rfl rfl rfl (Nat.le_of_ble_eq_true rfl) ?_
    refine AOps.step rfl rfl rfl (AOp.assignD rfl rfl) ?_
    refine AOps.nil ?_
    refine AWP.ret ?_
    refine ⟨RetR.agg rfl (.head _) ag_30 rfl (.cons (by first | exact CellD.nil | exact CellD.d | exact CellD.eq (by first | rfl | (rw [rep_zero])) | (refine CellD.own (by first | exact .head _ | exact .tail _ (.head _)) ?_; rfl)) (.cons (by first | exact CellD.nil | exact CellD.d | exact CellD.eq (by first | rfl | (rw [rep_zero])) | (refine CellD.own (by first | exact .head _ | exact .tail _ (.head _)) ?_; rfl)) (.cons (by first | exact CellD.nil | exact CellD.d | exact CellD.eq (by first | rfl | (rw [rep_zero])) | (refine CellD.own (by first | exact .head _ | exact .tail _ (.head _)) ?_; rfl)) (.cons (by first | exact CellD.nil | exact CellD.d | exact CellD.eq (by first | rfl | (rw [rep_zero])) | (refine CellD.own (by first | exact .head _ | exact .tail _ (.head _)) ?_; rfl)) (.cons (by first | exact CellD.nil | exact CellD.d | exact CellD.eq (by first | rfl | (rw [rep_zero])) | (refine CellD.own (by first | exact .head _ | exact .tail _ (.head _)) ?_; rfl)) (.cons (by first | exact CellD.nil | exact CellD.d | exact CellD.eq (by first | rfl | (rw [rep_zero])) | (refine CellD.own (by first | exact .head _ | exact .tail _ (.head _)) ?_; rfl)) (.cons (by first | exact CellD.nil | exact CellD.d | exact CellD.eq (by first | rfl | (rw [rep_zero])) | (refine CellD.own (by first | exact .head _ | exact .tail _ (.head _)) ?_; rfl)) .nil))))))), RetD.eq rfl ?_, trivial⟩
    all_goals (rfl)
  · replace h1 := of_decide_eq_false h1
    have ok0 : ctrF c = 0 := by omega
    have okl := ctr_ok ok0
    have okd := okl.deals
    have okg := okl.groups
    rw [newB_ok ok0, ok0]
    refine AWP.skip ?_
    refine AWP.seq ?_
    refine AWP.drawFresh 9 [⟨15, 102, .own 102, .row 3 1 (List.replicate c.deals.length [.v (.int .i64 0)])⟩, ⟨19, 103, .own 103, .row 3 1 (List.replicate c.groups.length [.v (.int .i64 0)])⟩] (FrOk.two rfl (by simp) rfl rfl rfl rfl (by simp) rfl rfl rfl (Nat.ne_of_beq_eq_false rfl) (Nat.ne_of_beq_eq_false rfl) rfl rfl rfl rfl) (by kernel_rfl) (by kernel_rfl) (by kernel_rfl) (by kernel_rfl) ?_
    refine XRun.step rfl rfl rfl (AOp.loadAgg rfl ag_26 rfl rfl) ?_
    refine XRun.step rfl rfl rfl (AOp.fieldAddr rfl fo_26_1 rfl) ?_
    refine XRun.step rfl rfl rfl (AOp.load rfl sc_23 rfl) ?_
    refine XRun.step rfl rfl rfl (AOp.lenSl rfl et_23.ht rfl) ?_
    refine XRun.make _ (.head _) c.deals.length rfl rfl rfl rfl rfl et_27 rfl rfl (by rw [List.length_map]) (by omega) (by omega) rfl rfl rfl ?_
    refine XRun.step rfl rfl rfl (AOp.fieldAddr rfl fo_26_2 rfl) ?_
    refine XRun.step rfl rfl rfl (AOp.load rfl sc_24 rfl) ?_
    refine XRun.step rfl rfl rfl (AOp.lenSl rfl et_24.ht rfl) ?_
    refine XRun.make _ (.tail _ (.head _)) c.groups.length rfl rfl rfl rfl rfl et_27 rfl rfl (by rw [List.length_map]) (by omega) (by omega) rfl rfl rfl ?_
    refine XRun.nil ⟨rfl, rfl, trivial⟩ ?_
    refine AOps.freeze 15 rfl (.head _) ?_
    refine AOps.freeze 19 rfl (.head _) ?_
    refine AOps.step rfl rfl rfl (AOp.build rfl bu_30 (.cons rfl rfl (.cons rfl rfl (.cons rfl rfl .nil))) rfl) ?_
    refine AOps.store rfl rfl rfl sz_30 rfl (.head _) rfl rfl rfl (Nat.le_of_ble_eq_true rfl) ?_
    refine AOps.step rfl rfl rfl (AOp.assignD rfl rfl) ?_
    refine AOps.nil ?_
    refine AWP.ret ?_
    refine ⟨RetR.agg rfl (.head _) ag_30 rfl (.cons (by first | exact CellD.nil | exact CellD.d | exact CellD.eq (by first | rfl | (rw [rep_zero])) | (refine CellD.own (by first | exact .head _ | exact .tail _ (.head _)) ?_; rfl)) (.cons (by first | exact CellD.nil | exact CellD.d | exact CellD.eq (by first | rfl | (rw [rep_zero])) | (refine CellD.own (by first | exact .head _ | exact .tail _ (.head _)) ?_; rfl)) (.cons (by first | exact CellD.nil | exact CellD.d | exact CellD.eq (by first | rfl | (rw [rep_zero])) | (refine CellD.own (by first | exact .head _ | exact .tail _ (.head _)) ?_; rfl)) (.cons (by first | exact CellD.nil | exact CellD.d | exact CellD.eq (by first | rfl | (rw [rep_zero])) | (refine CellD.own (by first | exact .head _ | exact .tail _ (.head _)) ?_; rfl)) (.cons (by first | exact CellD.nil | exact CellD.d | exact CellD.eq (by first | rfl | (rw [rep_zero])) | (refine CellD.own (by first | exact .head _ | exact .tail _ (.head _)) ?_; rfl)) (.cons (by first | exact CellD.nil | exact CellD.d | exact CellD.eq (by first | rfl | (rw [rep_zero])) | (refine CellD.own (by first | exact .head _ | exact .tail _ (.head _)) ?_; rfl)) (.cons (by first | exact CellD.nil | exact CellD.d | exact CellD.eq (by first | rfl | (rw [rep_zero])) | (refine CellD.own (by first | exact .head _ | exact .tail _ (.head _)) ?_; rfl)) .nil))))))), RetD.eq rfl ?_, trivial⟩
    all_goals (rfl)

end Go.Proofs.YtfajemnegkfigaaDoor


namespace Go.Proofs.YtfajemnegkfigaaDoor
open Go.RowKit
set_option linter.unusedVariables false

/-- One operation, from worlds that keep what was there at the beginning. -/
def AOpK (cx : Cx) (ops : Array Oper) (o : Oper) (e : Env) (σ : Obs) (s : S) : Prop :=
  ∀ (F : Nat → Prop) (ρ : Nat → Value) (w : World) (a : Act), Kept cx.fr cx.w0 w → (∀ b, F b → b < w.heap.size) → (∀ t, t ∈ o.looksAt ops → RepS F ρ w (a.tmps.getD t undef) (e t)) → ObsOk cx.B F ρ w σ →
    o.wp cx.P a w (fun a' w' => ∃ v F', a' = a.put o.dst v ∧ RepS F' ρ w' v s ∧ Ext F w F' w') (fun _ _ _ => False)
theorem AOp.toK {cx : Cx} {ops : Array Oper} {o : Oper} {e : Env} {σ : Obs} {s : S} (h : AOp cx.P cx.B ops o e σ s) : AOpK cx ops o e σ s := fun F ρ w a _ => h F ρ w a
theorem AOpK.callT {cx : Cx} {ops : Array Oper} {o : Oper} {e : Env} {σ : Obs} {T : World → Prop} {f : FuncId} {xs : List Operand} {ts : Array TypeId} {ds : List D} {d : D} (hst : Stays T) (hfr : cx.fr = fun b => cx.w0.heap.size ≤ b) (hT : T cx.w0)
    (ho : o.op = .call { callee := .value (.func f), args := xs.toArray, argTypes := ts }) (ha : ArgsOk e xs ds) (h : ACallT cx.P T f ds d) : AOpK cx ops o e σ (.d d) := by
  intro F ρ w a hK hF hr _
  have h1 : RepL F w (xs.map a.eval) ds := ha.rep (ρ := ρ) fun t ht => hr t (looks_op (by rw [ho]; simp [Op.operands, Call.operands, ht]))
  rw [hfr] at hK
  have h2 := h.2 F w _ (hst _ _ hK hT) hF h1
  have h3 := h.1 (xs.map a.eval).toArray w
  have hx : (execOp a.eval o).run cx.P w = .ok (.enter f (xs.map a.eval).toArray) w := by
    unfold execOp
    simp only [ho, resolve, Deferred.ofValue, Act.eval, invoke, Sem.run_bind, Sem.run_pure, Result.andThen_ok]
    simpa using h3
  unfold Oper.wp
  rw [hx]
  exact h2.mono fun _ w' ⟨v, F', he, hv, hE⟩ => by subst he; exact ⟨v, F', rfl, .d hv, hE⟩

def KRun (cx : Cx) (ops : Array Oper) (σ : Obs) : List Oper → Env → (Env → Prop) → Prop
  | [], e, Qe => Qe e
  | o :: l, e, Qe => DstOk cx.N o ∧ ((∃ s, GW ops o e true ∧ AOpK cx ops o e σ s ∧ KRun cx ops σ l (e.put o.dst s) Qe) ∨ (GW ops o e false ∧ KRun cx ops σ l (e.put o.dst (.d (.v undef))) Qe))

theorem KRun.nil {cx : Cx} {ops : Array Oper} {σ : Obs} {e : Env} {Qe : Env → Prop} (h : Qe e) : KRun cx ops σ [] e Qe := h
theorem KRun.cons {cx : Cx} {ops : Array Oper} {σ : Obs} {e : Env} {Qe : Env → Prop} {o : Oper} {l : List Oper} {s : S} (hg : GW ops o e true) (hd : DstOk cx.N o) (h : AOpK cx ops o e σ s)
    (k : KRun cx ops σ l (e.put o.dst s) Qe) : KRun cx ops σ (o :: l) e Qe := ⟨hd, .inl ⟨s, hg, h, k⟩⟩
theorem KRun.skip {cx : Cx} {ops : Array Oper} {σ : Obs} {e : Env} {Qe : Env → Prop} {o : Oper} {l : List Oper} (hg : GW ops o e false) (hd : DstOk cx.N o)
    (k : KRun cx ops σ l (e.put o.dst (.d (.v undef))) Qe) : KRun cx ops σ (o :: l) e Qe := ⟨hd, .inr ⟨hg, k⟩⟩

theorem KRun.step {cx : Cx} {ops : Array Oper} {σ : Obs} {e : Env} {Qe : Env → Prop} {o : Oper} {l : List Oper} {s : S} {t : Nat} (hg : GW ops o e true) (ht : o.dst = some t) (hd : Nat.blt t cx.N = true) (h : AOpK cx ops o e σ s)
    (k : KRun cx ops σ l (e.put (some t) s) Qe) : KRun cx ops σ (o :: l) e Qe := .cons hg (by unfold DstOk; rw [ht]; exact hd) h (by rw [ht]; exact k)
theorem KRun.pass {cx : Cx} {ops : Array Oper} {σ : Obs} {e : Env} {Qe : Env → Prop} {o : Oper} {l : List Oper} {t : Nat} (hg : GW ops o e false) (ht : o.dst = some t) (hd : Nat.blt t cx.N = true)
    (k : KRun cx ops σ l (e.put (some t) (.d (.v undef))) Qe) : KRun cx ops σ (o :: l) e Qe := .skip hg (by unfold DstOk; rw [ht]; exact hd) (by rw [ht]; exact k)

def KStep (cx : Cx) (ops : Array Oper) (σ : Obs) (o : Oper) (e : Env) (s : S) : Prop :=
  (GW ops o e true ∧ AOpK cx ops o e σ s) ∨ (GW ops o e false ∧ s = .d (.v undef))

theorem KStep.same {cx : Cx} {ops : Array Oper} {σ : Obs} {o : Oper} {e e' : Env} {s : S} (h : KStep cx ops σ o e s) (he : ∀ t, t ∈ o.looksAt ops → e' t = e t) : KStep cx ops σ o e' s := by
  rcases h with ⟨h1, h2⟩ | ⟨h1, h2⟩
  · exact .inl ⟨h1.same he, fun F ρ w a hK hF ha hσ => h2 F ρ w a hK hF (fun t ht => by rw [← he t ht]; exact ha t ht) hσ⟩
  · exact .inr ⟨h1.same he, h2⟩

def anyK (cx : Cx) (ops : Array Oper) (σ : Obs) (Qe : Env → Prop) : Nat → Array Bool → Env → Prop
  | 0, listed, e => Region.ready .any ops listed = [] ∧ Qe e
  | fuel + 1, listed, e => (Region.ready .any ops listed = [] → Qe e) ∧
      ∀ i ∈ Region.ready .any ops listed, ∀ o, ops[i]? = some o → ∃ s, KStep cx ops σ o e s ∧ anyK cx ops σ Qe fuel (listed.setIfInBounds i true) (e.put o.dst s)

theorem anyK_first {cx : Cx} {ops : Array Oper} {σ : Obs} {Qe : Env → Prop} {i : Nat} {oi : Oper} {s : S} (hi : ops[i]? = some oi) :
    ∀ (fuel : Nat) (listed : Array Bool) (e : Env),
      (∀ j oj, ops[j]? = some oj → j ≠ i → listed.getD j true = false → (∀ e ∈ oj.after, Region.binds .any e = true → e.on ≠ i) → oi.apart ops oj = true) →
      i ∈ Region.ready .any ops listed → KStep cx ops σ oi e s → anyK cx ops σ Qe fuel (listed.setIfInBounds i true) (e.put oi.dst s) → anyK cx ops σ Qe (fuel + 1) listed e := by
  intro fuel
  induction fuel with
  | zero =>
    intro listed e _ hr hy H
    refine ⟨fun h => (by rw [h] at hr; cases hr), fun j hj o ho => ?_⟩
    by_cases hji : j = i
    · subst hji
      rw [hi] at ho; cases ho
      exact ⟨s, hy, H⟩
    · have := ready_mono hj hji
      rw [H.1] at this
      cases this
  | succ fuel ih =>
    intro listed e hfree hr hy H
    refine ⟨fun h => (by rw [h] at hr; cases hr), fun j hj oj hoj => ?_⟩
    by_cases hji : j = i
    · subst hji
      rw [hi] at hoj; cases hoj
      exact ⟨s, hy, H⟩
    · obtain ⟨sj, h1, h2⟩ := H.2 j (ready_mono hj hji) oj hoj
      obtain ⟨hjun, oj', hoj', hall⟩ := mem_ready.1 hj
      rw [hoj] at hoj'; cases hoj'
      have hnot : ∀ e ∈ oj.after, Region.binds .any e = true → e.on ≠ i := fun e he hb heq => by
        have h1 := hall e he hb
        have h0 := (mem_ready.1 hr).1
        rw [heq] at h1
        rcases Nat.lt_or_ge i listed.size with h' | h'
        · simp [h'] at h0 h1; rw [h0] at h1; cases h1
        · simp [Array.getElem?_eq_none h'] at h1
      obtain ⟨a1, a2, a3⟩ := Oper.apart_spec (hfree j oj hoj hji hjun hnot)
      refine ⟨sj, h1.same (fun t ht => (put_looks a1 t ht).symm), ?_⟩
      refine ih (listed.setIfInBounds j true) (e.put oj.dst sj) (fun k ok hk hki hun hno => ?_) (ready_mono hr (Ne.symm hji)) (hy.same (put_looks a3)) ?_
      · refine hfree k ok hk hki ?_ hno
        by_cases hjk : j = k
        · subst hjk; exact hjun
        · rw [getD_set_ne true hjk] at hun; exact hun
      · rw [Array.setIfInBounds_comm _ _ hji, ← Env.put_comm e oi.dst oj.dst s sj a2]
        exact h2

theorem anyK_lex {cx : Cx} {ops : Array Oper} {σ : Obs} {Qe : Env → Prop} : ∀ (l : List Oper) (k : Nat) (listed : Array Bool) (e : Env), (∀ j, l[j]? = ops[k + j]?) →
    Region.lexFrom .any ops l.length k listed = true → KRun cx ops σ l e Qe → anyK cx ops σ Qe l.length listed e
  | [], _, _, _, _, hB, h => ⟨by simpa [Region.lexFrom] using hB, h⟩
  | o :: l, k, listed, e, hl, hB, h => by
    have h0 : ops[k]? = some o := by simpa using (hl 0).symm
    simp only [List.length_cons, Region.lexFrom, Bool.and_eq_true] at hB
    obtain ⟨⟨hr, hf⟩, hB'⟩ := hB
    have hl' : ∀ j, l[j]? = ops[k + 1 + j]? := fun j => by have := hl (j + 1); simpa [Nat.add_assoc, Nat.add_comm 1 j] using this
    obtain ⟨_, ⟨s, hg, ho, hK⟩ | ⟨hg, hK⟩⟩ := h
    · exact anyK_first h0 l.length listed e (Region.free_spec h0 hf) (by simpa using hr) (.inl ⟨hg, ho⟩) (anyK_lex l (k + 1) _ _ hl' hB' hK)
    · exact anyK_first h0 l.length listed e (Region.free_spec h0 hf) (by simpa using hr) (.inr ⟨hg, rfl⟩) (anyK_lex l (k + 1) _ _ hl' hB' hK)

theorem KRun.dsts {cx : Cx} {ops : Array Oper} {σ : Obs} {Qe : Env → Prop} : ∀ (l : List Oper) (e : Env), KRun cx ops σ l e Qe → ∀ o ∈ l, DstOk cx.N o
  | [], _, _, o, ho => by cases ho
  | x :: l, e, h, o, ho => by
    obtain ⟨h1, ⟨_, _, _, h2⟩ | ⟨_, h2⟩⟩ := h <;> (cases ho with
      | head => exact h1
      | tail _ ho => exact KRun.dsts l _ h2 o ho)

theorem wpAny_of_K {cx : Cx} {ops : Array Oper} {σ : Obs} {Q : Post} (hd : ∀ o ∈ ops.toList, DstOk cx.N o) : ∀ (fuel : Nat) (listed : Array Bool) (e : Env) (a : Act) (w : World), R cx e σ a w →
    anyK cx ops σ (fun e => Q .normal e σ) fuel listed e → wpAny cx.P .any ops (lift cx Q) fuel listed a w
  | 0, _, e, _, _, hr, h => ⟨h.1, e, σ, h.2, hr⟩
  | fuel + 1, listed, e, a, w, hr, h => by
    refine ⟨fun h0 => ⟨e, σ, h.1 h0, hr⟩, fun i hi => ?_⟩
    obtain ⟨_, o, ho, _⟩ := mem_ready.1 hi
    obtain ⟨s, hs, hk⟩ := h.2 i hi o ho
    have hdo : DstOk cx.N o := hd o (Array.mem_toList_iff.2 (Array.mem_of_getElem? ho))
    unfold wpOp
    simp only [ho]
    obtain ⟨F, ρ, hr⟩ := hr
    rcases hs with ⟨hg, hop⟩ | ⟨hg, rfl⟩
    · rw [if_pos (hg.wanted (fun t _ => hr.env t))]
      refine .inl (wp_to ?_ (fun _ _ _ => False.elim) (hop F ρ w a hr.below hr.lt (fun t _ => hr.env t) hr.obs))
      rintro a' w' ⟨v, F', rfl, hv, he⟩
      exact wpAny_of_K hd fuel _ _ _ _ ⟨F', ρ, hr.put he hv hdo⟩ hk
    · rw [if_neg (by rw [hg.wanted (fun t _ => hr.env t)]; simp)]
      exact wpAny_of_K hd fuel _ _ _ _ ⟨F, ρ, hr.put (Ext.refl hr.lt) repS_undef hdo⟩ hk

/-- A region that draws its order, walked once, in the order of the text. -/
theorem AWP.drawK {cx : Cx} {id : Nat} {l : List Oper} {e : Env} {σ : Obs} {Q : Post} (hm : cx.P.follows .mixedOrders = true) (hB : Region.lexB .any l.toArray = true)
    (h : KRun cx l.toArray σ l e (fun e => Q .normal e σ)) : AWP cx (.region id l.toArray true) e σ Q := by
  intro a w ⟨F, ρ, hr⟩
  simp only [Region.lexB, Bool.and_eq_true] at hB
  have h1 := anyK_lex l 0 (Array.replicate l.toArray.size false) e (by simp) (by simpa using hB.2) h
  exact wp_region_any hm (wpAny_of_K (by simpa using KRun.dsts l e h) _ _ e a _ ⟨F, ρ, hr.drew⟩ (by simpa using h1))


theorem KRun.split {cx : Cx} {ops : Array Oper} {rest : List Oper} {e : Env} {σ : Obs} {Q : Env → Prop} (t : Nat) {b : Bool} (ht : e t = .d (.v (.bool b))) (h1 : b = true → KRun cx ops σ rest (e.put (some t) (.d (.v (.bool true)))) Q)
    (h0 : b = false → KRun cx ops σ rest (e.put (some t) (.d (.v (.bool false)))) Q) : KRun cx ops σ rest e Q := by
  cases b with
  | true => have := h1 rfl; rwa [Env.put_id ht] at this
  | false => have := h0 rfl; rwa [Env.put_id ht] at this

end Go.Proofs.YtfajemnegkfigaaDoor


namespace Go.Proofs.YtfajemnegkfigaaDoor
open Go.RowKit
set_option linter.unusedVariables false

/-! Types. -/
namespace TyU10
theorem ag_26 : AggT Tryd.prog 26 3 := .of (by kernel_rfl)
theorem ag_30 : AggT Tryd.prog 30 7 := .of (by kernel_rfl)
theorem ag_55 : AggT Tryd.prog 55 3 := .of (by kernel_rfl)
theorem ag_59 : AggT Tryd.prog 59 9 := .of (by kernel_rfl)
theorem ag_66 : AggT Tryd.prog 66 3 := .of (by kernel_rfl)
theorem ag_76 : AggT Tryd.prog 76 3 := .of (by kernel_rfl)
theorem ag_79 : AggT Tryd.prog 79 2 := .of (by kernel_rfl)
theorem ag_82 : AggT Tryd.prog 82 2 := .of (by kernel_rfl)
theorem et_22 : ElemTy Tryd.prog 22 76 3 40 (.agg #[(.string ⟨#[]⟩), (.string ⟨#[]⟩), (.int .i64 0)]) := ⟨by kernel_rfl, by kernel_rfl, by kernel_rfl, by decide⟩
theorem et_23 : ElemTy Tryd.prog 23 59 9 120 (.agg #[(.string ⟨#[]⟩), (.string ⟨#[]⟩), (.int .i64 0), (.int .i64 0), (.slice none 0 0), (.slice none 0 0), (.int .i64 0), (.int .i64 0), (.int .i64 0)]) := ⟨by kernel_rfl, by kernel_rfl, by kernel_rfl, by decide⟩
theorem et_24 : ElemTy Tryd.prog 24 55 3 48 (.agg #[(.string ⟨#[]⟩), (.int .i64 0), (.slice none 0 0)]) := ⟨by kernel_rfl, by kernel_rfl, by kernel_rfl, by decide⟩
theorem et_28 : ElemTy Tryd.prog 28 66 3 32 (.agg #[(.string ⟨#[]⟩), (.int .i64 0), (.int .i64 0)]) := ⟨by kernel_rfl, by kernel_rfl, by kernel_rfl, by decide⟩
theorem et_53 : ElemTy Tryd.prog 53 82 2 24 (.agg #[(.string ⟨#[]⟩), (.int .i64 0)]) := ⟨by kernel_rfl, by kernel_rfl, by kernel_rfl, by decide⟩
theorem et_57 : ElemTy Tryd.prog 57 79 2 16 (.agg #[(.int .i64 0), (.int .i64 0)]) := ⟨by kernel_rfl, by kernel_rfl, by kernel_rfl, by decide⟩
theorem fo_26_0 : fieldOff Tryd.prog 26 0 = some 0 := by kernel_rfl
theorem fo_26_1 : fieldOff Tryd.prog 26 1 = some 1 := by kernel_rfl
theorem fo_26_2 : fieldOff Tryd.prog 26 2 = some 2 := by kernel_rfl
theorem fo_30_0 : fieldOff Tryd.prog 30 0 = some 0 := by kernel_rfl
theorem fo_30_1 : fieldOff Tryd.prog 30 1 = some 3 := by kernel_rfl
theorem fo_30_2 : fieldOff Tryd.prog 30 2 = some 4 := by kernel_rfl
theorem fo_30_3 : fieldOff Tryd.prog 30 3 = some 5 := by kernel_rfl
theorem fo_30_4 : fieldOff Tryd.prog 30 4 = some 6 := by kernel_rfl
theorem fo_55_0 : fieldOff Tryd.prog 55 0 = some 0 := by kernel_rfl
theorem fo_55_1 : fieldOff Tryd.prog 55 1 = some 1 := by kernel_rfl
theorem fo_55_2 : fieldOff Tryd.prog 55 2 = some 2 := by kernel_rfl
theorem fo_59_0 : fieldOff Tryd.prog 59 0 = some 0 := by kernel_rfl
theorem fo_59_1 : fieldOff Tryd.prog 59 1 = some 1 := by kernel_rfl
theorem fo_59_2 : fieldOff Tryd.prog 59 2 = some 2 := by kernel_rfl
theorem fo_59_3 : fieldOff Tryd.prog 59 3 = some 3 := by kernel_rfl
theorem fo_59_4 : fieldOff Tryd.prog 59 4 = some 4 := by kernel_rfl
theorem fo_59_5 : fieldOff Tryd.prog 59 5 = some 5 := by kernel_rfl
theorem fo_59_6 : fieldOff Tryd.prog 59 6 = some 6 := by kernel_rfl
theorem fo_59_7 : fieldOff Tryd.prog 59 7 = some 7 := by kernel_rfl
theorem fo_59_8 : fieldOff Tryd.prog 59 8 = some 8 := by kernel_rfl
theorem sc_22 : Scal Tryd.prog 22 := .of (by kernel_rfl)
theorem sc_23 : Scal Tryd.prog 23 := .of (by kernel_rfl)
theorem sc_24 : Scal Tryd.prog 24 := .of (by kernel_rfl)
theorem sc_27 : Scal Tryd.prog 27 := .of (by kernel_rfl)
theorem sc_28 : Scal Tryd.prog 28 := .of (by kernel_rfl)
theorem sc_3 : Scal Tryd.prog 3 := .of (by kernel_rfl)
theorem sc_53 : Scal Tryd.prog 53 := .of (by kernel_rfl)
theorem sc_57 : Scal Tryd.prog 57 := .of (by kernel_rfl)
theorem sc_9 : Scal Tryd.prog 9 := .of (by kernel_rfl)
theorem sz_30 : ∀ w, (sizeOf 30).run Tryd.prog w = .ok 7 w := SizeT.of (by kernel_rfl)
theorem sz_55 : ∀ w, (sizeOf 55).run Tryd.prog w = .ok 3 w := SizeT.of (by kernel_rfl)
theorem sz_59 : ∀ w, (sizeOf 59).run Tryd.prog w = .ok 9 w := SizeT.of (by kernel_rfl)
theorem zt_30 : (Tryd.prog.info? 30).bind (·.zero) = some (.agg #[(.slice none 0 0), (.slice none 0 0), (.slice none 0 0), (.int .i64 0), (.slice none 0 0), (.slice none 0 0), (.slice none 0 0)]) := by kernel_rfl
theorem zt_55 : (Tryd.prog.info? 55).bind (·.zero) = some (.agg #[(.string ⟨#[]⟩), (.int .i64 0), (.slice none 0 0)]) := by kernel_rfl
theorem zt_59 : (Tryd.prog.info? 59).bind (·.zero) = some (.agg #[(.string ⟨#[]⟩), (.string ⟨#[]⟩), (.int .i64 0), (.int .i64 0), (.slice none 0 0), (.slice none 0 0), (.int .i64 0), (.int .i64 0), (.int .i64 0)]) := by kernel_rfl
end TyU10
open TyU10

theorem eqT_Ali : EqT Tryd.prog 76 [.str, .str, .int .i64] := .of (by kernel_rfl)
theorem eq_Ali (x y : Ali) : EqD Tryd.prog 76 x.ds y.ds (decide (x = y)) := .of eqT_Ali [.string x.source, .string x.title, .int .i64 x.recd] [.string y.source, .string y.title, .int .i64 y.recd] rfl rfl rfl rfl (by
  cases x
  cases y
  simp [sameL, sameV])


set_option maxRecDepth 100000 in
set_option maxHeartbeats 1000000 in
theorem c_eqAli (l : List Ali) : ACall Tryd.prog 41 [.sl (l.map Ali.ds), .sl (l.map Ali.ds)] (.v (.bool true)) := by
  refine acall_of (n := 26) (ds' := [.v (.bool true)]) Tryd.func41 rfl (by kernel_rfl) rfl [4] rfl rfl ?_
  intro B w0 F0 fr
  refine AWP.bound 0 rfl (fun hbd0 => ?_)
  rw [List.length_map] at hbd0
  refine AWP.seq ?_
  refine AWP.region ?_
  refine AOps.step rfl rfl rfl (AOp.assignD rfl rfl) ?_
  refine AOps.nil ?_
  refine AWP.seq ?_
  refine AWP.seq ?_
  refine AWP.region ?_
  refine AOps.step rfl rfl rfl (AOp.moveD rfl rfl) ?_
  refine AOps.step rfl rfl rfl (AOp.lenSl rfl et_22.ht rfl) ?_
  refine AOps.step rfl rfl rfl (AOp.moveD rfl rfl) ?_
  refine AOps.step rfl rfl rfl (AOp.lenSl rfl et_22.ht rfl) ?_
  refine AOps.step rfl rfl rfl (AOp.neq rfl rfl rfl) ?_
  refine AOps.nil ?_
  refine AWP.cond rfl (fun h1 => ?_) (fun h1 => ?_)
  · replace h1 := of_decide_eq_true h1
    exact absurd rfl h1
  · replace h1 := of_decide_eq_false h1
    refine AWP.skip ?_
    refine AWP.seq ?_
    refine AWP.seq ?_
    refine AWP.region ?_
    refine AOps.step rfl rfl rfl (AOp.moveD rfl rfl) ?_
    refine AOps.step rfl rfl rfl (AOp.lenSl rfl et_22.ht rfl) ?_
    refine AOps.step rfl rfl rfl (AOp.moveD rfl rfl) ?_
    refine AOps.nil ?_
    refine AWP.block ?_
    refine AWP.loop (G := Nat) (fun k => Env.of [(13, .d (.v (.int .i64 (k : Int)))), (0, .d (.sl (l.map Ali.ds))), (1, .d (.sl (l.map Ali.ds))), (12, .d (.v (.int .i64 ((l.map Ali.ds).length : Int))))]) (fun k => []) (fun k => k ≤ l.length) (fun k => l.length - k) 0 (Nat.zero_le _) (Sub.less ⟨(SLe.of_eq rfl), SLe.refl _, SLe.refl _, SLe.refl _, trivial⟩ (fun _ h => h)) ?_
    intro k hk
    refine AWP.seq ?_
    refine AWP.region ?_
    refine AOps.step rfl rfl rfl (AOp.lss rfl rfl rfl) ?_
    refine AOps.nil ?_
    refine AWP.seq ?_
    refine AWP.cond rfl (fun h2 => ?_) (fun h2 => ?_)
    · replace h2 := of_decide_eq_true h2
      rw [List.length_map] at h2
      have hlt : k < l.length := by omega
      refine AWP.skip ?_
      refine AWP.seq ?_
      refine AWP.block ?_
      refine AWP.seq ?_
      refine AWP.region ?_
      refine AOps.step rfl rfl rfl (AOp.moveD rfl rfl) ?_
      refine AOps.step rfl rfl rfl (AOp.assignD rfl rfl) ?_
      refine AOps.nil ?_
      refine AWP.seq ?_
      refine AWP.draw (by kernel_rfl) (by kernel_rfl) ?_
      refine DRun.step rfl rfl rfl (AOp.moveD rfl rfl) ?_
      refine DRun.step rfl rfl rfl (AOp.moveD rfl rfl) ?_
      refine DRun.step rfl rfl rfl (AOp.indexAddr rfl et_22 rfl rfl k rfl (at_lst hlt) rfl) ?_
      refine DRun.step rfl rfl rfl (AOp.loadAgg rfl ag_76 rfl rfl) ?_
      refine DRun.step rfl rfl rfl (AOp.moveD rfl rfl) ?_
      refine DRun.step rfl rfl rfl (AOp.moveD rfl rfl) ?_
      refine DRun.step rfl rfl rfl (AOp.indexAddr rfl et_22 rfl rfl k rfl (at_lst hlt) rfl) ?_
      refine DRun.step rfl rfl rfl (AOp.loadAgg rfl ag_76 rfl rfl) ?_
      refine DRun.step rfl rfl rfl (AOp.aggNeq rfl rfl rfl (eq_Ali _ _)) ?_
      refine DRun.nil ?_
      refine AWP.cond rfl (fun h3 => ?_) (fun h3 => ?_)
      · replace h3 := bnot_t h3; replace h3 := of_decide_eq_false h3
        exact absurd rfl h3
      · replace h3 := bnot_f h3; replace h3 := of_decide_eq_true h3
        refine AWP.skip ?_
        refine AWP.region ?_
        refine AOps.step rfl rfl rfl (AOp.add64 rfl rfl rfl (by omega) (by omega)) ?_
        refine AOps.step rfl rfl rfl (AOp.moveD rfl rfl) ?_
        refine AOps.nil ?_
        refine ⟨k + 1, (by omega), (by dsimp only; omega), Sub.less ⟨(SLe.of_eq rfl), SLe.refl _, SLe.refl _, SLe.refl _, trivial⟩ (fun _ h => h)⟩
    · replace h2 := of_decide_eq_false h2
      refine AWP.exit ?_
      refine AWP.seq ?_
      refine AWP.region ?_
      refine AOps.step rfl rfl rfl (AOp.assignD rfl rfl) ?_
      refine AOps.nil ?_
      refine AWP.ret ?_
      refine ⟨RetD.eq rfl ?_, trivial⟩
      all_goals (rfl)

theorem eqT_Tr : EqT Tryd.prog 79 [.int .i64, .int .i64] := .of (by kernel_rfl)
theorem eq_Tr (x y : Tr) : EqD Tryd.prog 79 x.ds y.ds (decide (x = y)) := .of eqT_Tr [.int .i64 x.frm, .int .i64 x.rate] [.int .i64 y.frm, .int .i64 y.rate] rfl rfl rfl rfl (by
  cases x
  cases y
  simp [sameL, sameV])


set_option maxRecDepth 100000 in
set_option maxHeartbeats 1000000 in
theorem c_eqTr (l : List Tr) : ACall Tryd.prog 42 [.sl (l.map Tr.ds), .sl (l.map Tr.ds)] (.v (.bool true)) := by
  refine acall_of (n := 26) (ds' := [.v (.bool true)]) Tryd.func42 rfl (by kernel_rfl) rfl [4] rfl rfl ?_
  intro B w0 F0 fr
  refine AWP.bound 0 rfl (fun hbd0 => ?_)
  rw [List.length_map] at hbd0
  refine AWP.seq ?_
  refine AWP.region ?_
  refine AOps.step rfl rfl rfl (AOp.assignD rfl rfl) ?_
  refine AOps.nil ?_
  refine AWP.seq ?_
  refine AWP.seq ?_
  refine AWP.region ?_
  refine AOps.step rfl rfl rfl (AOp.moveD rfl rfl) ?_
  refine AOps.step rfl rfl rfl (AOp.lenSl rfl et_57.ht rfl) ?_
  refine AOps.step rfl rfl rfl (AOp.moveD rfl rfl) ?_
  refine AOps.step rfl rfl rfl (AOp.lenSl rfl et_57.ht rfl) ?_
  refine AOps.step rfl rfl rfl (AOp.neq rfl rfl rfl) ?_
  refine AOps.nil ?_
  refine AWP.cond rfl (fun h1 => ?_) (fun h1 => ?_)
  · replace h1 := of_decide_eq_true h1
    exact absurd rfl h1
  · replace h1 := of_decide_eq_false h1
    refine AWP.skip ?_
    refine AWP.seq ?_
    refine AWP.seq ?_
    refine AWP.region ?_
    refine AOps.step rfl rfl rfl (AOp.moveD rfl rfl) ?_
    refine AOps.step rfl rfl rfl (AOp.lenSl rfl et_57.ht rfl) ?_
    refine AOps.step rfl rfl rfl (AOp.moveD rfl rfl) ?_
    refine AOps.nil ?_
    refine AWP.block ?_
    refine AWP.loop (G := Nat) (fun k => Env.of [(13, .d (.v (.int .i64 (k : Int)))), (0, .d (.sl (l.map Tr.ds))), (1, .d (.sl (l.map Tr.ds))), (12, .d (.v (.int .i64 ((l.map Tr.ds).length : Int))))]) (fun k => []) (fun k => k ≤ l.length) (fun k => l.length - k) 0 (Nat.zero_le _) (Sub.less ⟨(SLe.of_eq rfl), SLe.refl _, SLe.refl _, SLe.refl _, trivial⟩ (fun _ h => h)) ?_
    intro k hk
    refine AWP.seq ?_
    refine AWP.region ?_
    refine AOps.step rfl rfl rfl (AOp.lss rfl rfl rfl) ?_
    refine AOps.nil ?_
    refine AWP.seq ?_
    refine AWP.cond rfl (fun h2 => ?_) (fun h2 => ?_)
    · replace h2 := of_decide_eq_true h2
      rw [List.length_map] at h2
      have hlt : k < l.length := by omega
      refine AWP.skip ?_
      refine AWP.seq ?_
      refine AWP.block ?_
      refine AWP.seq ?_
      refine AWP.region ?_
      refine AOps.step rfl rfl rfl (AOp.moveD rfl rfl) ?_
      refine AOps.step rfl rfl rfl (AOp.assignD rfl rfl) ?_
      refine AOps.nil ?_
      refine AWP.seq ?_
      refine AWP.draw (by kernel_rfl) (by kernel_rfl) ?_
      refine DRun.step rfl rfl rfl (AOp.moveD rfl rfl) ?_
      refine DRun.step rfl rfl rfl (AOp.moveD rfl rfl) ?_
      refine DRun.step rfl rfl rfl (AOp.indexAddr rfl et_57 rfl rfl k rfl (at_lst hlt) rfl) ?_
      refine DRun.step rfl rfl rfl (AOp.loadAgg rfl ag_79 rfl rfl) ?_
      refine DRun.step rfl rfl rfl (AOp.moveD rfl rfl) ?_
      refine DRun.step rfl rfl rfl (AOp.moveD rfl rfl) ?_
      refine DRun.step rfl rfl rfl (AOp.indexAddr rfl et_57 rfl rfl k rfl (at_lst hlt) rfl) ?_
      refine DRun.step rfl rfl rfl (AOp.loadAgg rfl ag_79 rfl rfl) ?_
      refine DRun.step rfl rfl rfl (AOp.aggNeq rfl rfl rfl (eq_Tr _ _)) ?_
      refine DRun.nil ?_
      refine AWP.cond rfl (fun h3 => ?_) (fun h3 => ?_)
      · replace h3 := bnot_t h3; replace h3 := of_decide_eq_false h3
        exact absurd rfl h3
      · replace h3 := bnot_f h3; replace h3 := of_decide_eq_true h3
        refine AWP.skip ?_
        refine AWP.region ?_
        refine AOps.step rfl rfl rfl (AOp.add64 rfl rfl rfl (by omega) (by omega)) ?_
        refine AOps.step rfl rfl rfl (AOp.moveD rfl rfl) ?_
        refine AOps.nil ?_
        refine ⟨k + 1, (by omega), (by dsimp only; omega), Sub.less ⟨(SLe.of_eq rfl), SLe.refl _, SLe.refl _, SLe.refl _, trivial⟩ (fun _ h => h)⟩
    · replace h2 := of_decide_eq_false h2
      refine AWP.exit ?_
      refine AWP.seq ?_
      refine AWP.region ?_
      refine AOps.step rfl rfl rfl (AOp.assignD rfl rfl) ?_
      refine AOps.nil ?_
      refine AWP.ret ?_
      refine ⟨RetD.eq rfl ?_, trivial⟩
      all_goals (rfl)

theorem eqT_Stk : EqT Tryd.prog 82 [.str, .int .i64] := .of (by kernel_rfl)
theorem eq_Stk (x y : Stk) : EqD Tryd.prog 82 x.ds y.ds (decide (x = y)) := .of eqT_Stk [.string x.party, .int .i64 x.weight] [.string y.party, .int .i64 y.weight] rfl rfl rfl rfl (by
  cases x
  cases y
  simp [sameL, sameV])


set_option maxRecDepth 100000 in
set_option maxHeartbeats 1000000 in
theorem c_eqStk (l : List Stk) : ACall Tryd.prog 43 [.sl (l.map Stk.ds), .sl (l.map Stk.ds)] (.v (.bool true)) := by
  refine acall_of (n := 26) (ds' := [.v (.bool true)]) Tryd.func43 rfl (by kernel_rfl) rfl [4] rfl rfl ?_
  intro B w0 F0 fr
  refine AWP.bound 0 rfl (fun hbd0 => ?_)
  rw [List.length_map] at hbd0
  refine AWP.seq ?_
  refine AWP.region ?_
  refine AOps.step rfl rfl rfl (AOp.assignD rfl rfl) ?_
  refine AOps.nil ?_
  refine AWP.seq ?_
  refine AWP.seq ?_
  refine AWP.region ?_
  refine AOps.step rfl rfl rfl (AOp.moveD rfl rfl) ?_
  refine AOps.step rfl rfl rfl (AOp.lenSl rfl et_53.ht rfl) ?_
  refine AOps.step rfl rfl rfl (AOp.moveD rfl rfl) ?_
  refine AOps.step rfl rfl rfl (AOp.lenSl rfl et_53.ht rfl) ?_
  refine AOps.step rfl rfl rfl (AOp.neq rfl rfl rfl) ?_
  refine AOps.nil ?_
  refine AWP.cond rfl (fun h1 => ?_) (fun h1 => ?_)
  · replace h1 := of_decide_eq_true h1
    exact absurd rfl h1
  · replace h1 := of_decide_eq_false h1
    refine AWP.skip ?_
    refine AWP.seq ?_
    refine AWP.seq ?_
    refine AWP.region ?_
    refine AOps.step rfl rfl rfl (AOp.moveD rfl rfl) ?_
    refine AOps.step rfl rfl rfl (AOp.lenSl rfl et_53.ht rfl) ?_
    refine AOps.step rfl rfl rfl (AOp.moveD rfl rfl) ?_
    refine AOps.nil ?_
    refine AWP.block ?_
    refine AWP.loop (G := Nat) (fun k => Env.of [(13, .d (.v (.int .i64 (k : Int)))), (0, .d (.sl (l.map Stk.ds))), (1, .d (.sl (l.map Stk.ds))), (12, .d (.v (.int .i64 ((l.map Stk.ds).length : Int))))]) (fun k => []) (fun k => k ≤ l.length) (fun k => l.length - k) 0 (Nat.zero_le _) (Sub.less ⟨(SLe.of_eq rfl), SLe.refl _, SLe.refl _, SLe.refl _, trivial⟩ (fun _ h => h)) ?_
    intro k hk
    refine AWP.seq ?_
    refine AWP.region ?_
    refine AOps.step rfl rfl rfl (AOp.lss rfl rfl rfl) ?_
    refine AOps.nil ?_
    refine AWP.seq ?_
    refine AWP.cond rfl (fun h2 => ?_) (fun h2 => ?_)
    · replace h2 := of_decide_eq_true h2
      rw [List.length_map] at h2
      have hlt : k < l.length := by omega
      refine AWP.skip ?_
      refine AWP.seq ?_
      refine AWP.block ?_
      refine AWP.seq ?_
      refine AWP.region ?_
      refine AOps.step rfl rfl rfl (AOp.moveD rfl rfl) ?_
      refine AOps.step rfl rfl rfl (AOp.assignD rfl rfl) ?_
      refine AOps.nil ?_
      refine AWP.seq ?_
      refine AWP.draw (by kernel_rfl) (by kernel_rfl) ?_
      refine DRun.step rfl rfl rfl (AOp.moveD rfl rfl) ?_
      refine DRun.step rfl rfl rfl (AOp.moveD rfl rfl) ?_
      refine DRun.step rfl rfl rfl (AOp.indexAddr rfl et_53 rfl rfl k rfl (at_lst hlt) rfl) ?_
      refine DRun.step rfl rfl rfl (AOp.loadAgg rfl ag_82 rfl rfl) ?_
      refine DRun.step rfl rfl rfl (AOp.moveD rfl rfl) ?_
      refine DRun.step rfl rfl rfl (AOp.moveD rfl rfl) ?_
      refine DRun.step rfl rfl rfl (AOp.indexAddr rfl et_53 rfl rfl k rfl (at_lst hlt) rfl) ?_
      refine DRun.step rfl rfl rfl (AOp.loadAgg rfl ag_82 rfl rfl) ?_
      refine DRun.step rfl rfl rfl (AOp.aggNeq rfl rfl rfl (eq_Stk _ _)) ?_
      refine DRun.nil ?_
      refine AWP.cond rfl (fun h3 => ?_) (fun h3 => ?_)
      · replace h3 := bnot_t h3; replace h3 := of_decide_eq_false h3
        exact absurd rfl h3
      · replace h3 := bnot_f h3; replace h3 := of_decide_eq_true h3
        refine AWP.skip ?_
        refine AWP.region ?_
        refine AOps.step rfl rfl rfl (AOp.add64 rfl rfl rfl (by omega) (by omega)) ?_
        refine AOps.step rfl rfl rfl (AOp.moveD rfl rfl) ?_
        refine AOps.nil ?_
        refine ⟨k + 1, (by omega), (by dsimp only; omega), Sub.less ⟨(SLe.of_eq rfl), SLe.refl _, SLe.refl _, SLe.refl _, trivial⟩ (fun _ h => h)⟩
    · replace h2 := of_decide_eq_false h2
      refine AWP.exit ?_
      refine AWP.seq ?_
      refine AWP.region ?_
      refine AOps.step rfl rfl rfl (AOp.assignD rfl rfl) ?_
      refine AOps.nil ?_
      refine AWP.ret ?_
      refine ⟨RetD.eq rfl ?_, trivial⟩
      all_goals (rfl)

theorem eqT_Hld : EqT Tryd.prog 66 [.str, .int .i64, .int .i64] := .of (by kernel_rfl)
theorem eq_Hld (x y : Hld) : EqD Tryd.prog 66 x.ds y.ds (decide (x = y)) := .of eqT_Hld [.string x.deal, .int .i64 x.period, .int .i64 x.cents] [.string y.deal, .int .i64 y.period, .int .i64 y.cents] rfl rfl rfl rfl (by
  cases x
  cases y
  simp [sameL, sameV])


set_option maxRecDepth 100000 in
set_option maxHeartbeats 1000000 in
theorem c_eqHld (l : List Hld) : ACall Tryd.prog 40 [.sl (l.map Hld.ds), .sl (l.map Hld.ds)] (.v (.bool true)) := by
  refine acall_of (n := 26) (ds' := [.v (.bool true)]) Tryd.func40 rfl (by kernel_rfl) rfl [4] rfl rfl ?_
  intro B w0 F0 fr
  refine AWP.bound 0 rfl (fun hbd0 => ?_)
  rw [List.length_map] at hbd0
  refine AWP.seq ?_
  refine AWP.region ?_
  refine AOps.step rfl rfl rfl (AOp.assignD rfl rfl) ?_
  refine AOps.nil ?_
  refine AWP.seq ?_
  refine AWP.seq ?_
  refine AWP.region ?_
  refine AOps.step rfl rfl rfl (AOp.moveD rfl rfl) ?_
  refine AOps.step rfl rfl rfl (AOp.lenSl rfl et_28.ht rfl) ?_
  refine AOps.step rfl rfl rfl (AOp.moveD rfl rfl) ?_
  refine AOps.step rfl rfl rfl (AOp.lenSl rfl et_28.ht rfl) ?_
  refine AOps.step rfl rfl rfl (AOp.neq rfl rfl rfl) ?_
  refine AOps.nil ?_
  refine AWP.cond rfl (fun h1 => ?_) (fun h1 => ?_)
  · replace h1 := of_decide_eq_true h1
    exact absurd rfl h1
  · replace h1 := of_decide_eq_false h1
    refine AWP.skip ?_
    refine AWP.seq ?_
    refine AWP.seq ?_
    refine AWP.region ?_
    refine AOps.step rfl rfl rfl (AOp.moveD rfl rfl) ?_
    refine AOps.step rfl rfl rfl (AOp.lenSl rfl et_28.ht rfl) ?_
    refine AOps.step rfl rfl rfl (AOp.moveD rfl rfl) ?_
    refine AOps.nil ?_
    refine AWP.block ?_
    refine AWP.loop (G := Nat) (fun k => Env.of [(13, .d (.v (.int .i64 (k : Int)))), (0, .d (.sl (l.map Hld.ds))), (1, .d (.sl (l.map Hld.ds))), (12, .d (.v (.int .i64 ((l.map Hld.ds).length : Int))))]) (fun k => []) (fun k => k ≤ l.length) (fun k => l.length - k) 0 (Nat.zero_le _) (Sub.less ⟨(SLe.of_eq rfl), SLe.refl _, SLe.refl _, SLe.refl _, trivial⟩ (fun _ h => h)) ?_
    intro k hk
    refine AWP.seq ?_
    refine AWP.region ?_
    refine AOps.step rfl rfl rfl (AOp.lss rfl rfl rfl) ?_
    refine AOps.nil ?_
    refine AWP.seq ?_
    refine AWP.cond rfl (fun h2 => ?_) (fun h2 => ?_)
    · replace h2 := of_decide_eq_true h2
      rw [List.length_map] at h2
      have hlt : k < l.length := by omega
      refine AWP.skip ?_
      refine AWP.seq ?_
      refine AWP.block ?_
      refine AWP.seq ?_
      refine AWP.region ?_
      refine AOps.step rfl rfl rfl (AOp.moveD rfl rfl) ?_
      refine AOps.step rfl rfl rfl (AOp.assignD rfl rfl) ?_
      refine AOps.nil ?_
      refine AWP.seq ?_
      refine AWP.draw (by kernel_rfl) (by kernel_rfl) ?_
      refine DRun.step rfl rfl rfl (AOp.moveD rfl rfl) ?_
      refine DRun.step rfl rfl rfl (AOp.moveD rfl rfl) ?_
      refine DRun.step rfl rfl rfl (AOp.indexAddr rfl et_28 rfl rfl k rfl (at_lst hlt) rfl) ?_
      refine DRun.step rfl rfl rfl (AOp.loadAgg rfl ag_66 rfl rfl) ?_
      refine DRun.step rfl rfl rfl (AOp.moveD rfl rfl) ?_
      refine DRun.step rfl rfl rfl (AOp.moveD rfl rfl) ?_
      refine DRun.step rfl rfl rfl (AOp.indexAddr rfl et_28 rfl rfl k rfl (at_lst hlt) rfl) ?_
      refine DRun.step rfl rfl rfl (AOp.loadAgg rfl ag_66 rfl rfl) ?_
      refine DRun.step rfl rfl rfl (AOp.aggNeq rfl rfl rfl (eq_Hld _ _)) ?_
      refine DRun.nil ?_
      refine AWP.cond rfl (fun h3 => ?_) (fun h3 => ?_)
      · replace h3 := bnot_t h3; replace h3 := of_decide_eq_false h3
        exact absurd rfl h3
      · replace h3 := bnot_f h3; replace h3 := of_decide_eq_true h3
        refine AWP.skip ?_
        refine AWP.region ?_
        refine AOps.step rfl rfl rfl (AOp.add64 rfl rfl rfl (by omega) (by omega)) ?_
        refine AOps.step rfl rfl rfl (AOp.moveD rfl rfl) ?_
        refine AOps.nil ?_
        refine ⟨k + 1, (by omega), (by dsimp only; omega), Sub.less ⟨(SLe.of_eq rfl), SLe.refl _, SLe.refl _, SLe.refl _, trivial⟩ (fun _ h => h)⟩
    · replace h2 := of_decide_eq_false h2
      refine AWP.exit ?_
      refine AWP.seq ?_
      refine AWP.region ?_
      refine AOps.step rfl rfl rfl (AOp.assignD rfl rfl) ?_
      refine AOps.nil ?_
      refine AWP.ret ?_
      refine ⟨RetD.eq rfl ?_, trivial⟩
      all_goals (rfl)


theorem c_eqI (l : List Int) : ACall Tryd.prog 39 [.sl (l.map intD), .sl (l.map intD)] (.v (.bool true)) := c_eqInt (l.map intD) (fun y hy => by obtain ⟨z, _, rfl⟩ := List.mem_map.1 hy; exact ⟨z, rfl⟩)


set_option maxRecDepth 100000 in
set_option maxHeartbeats 1000000 in
theorem c_sameB (b : Bks) : ACall Tryd.prog 12 [.agg b.ds, .agg b.ds] (.v (.bool true)) := by
  refine acall_of (n := 31) (ds' := [.v (.bool true)]) Tryd.func12 rfl (by kernel_rfl) rfl [4] rfl rfl ?_
  intro B w0 F0 fr
  refine AWP.seq ?_
  refine AWP.region ?_
  refine AOps.step rfl rfl rfl (AOp.box rfl rfl rfl) ?_
  refine AOps.step rfl rfl rfl (AOp.box rfl rfl rfl) ?_
  refine AOps.step rfl rfl rfl (AOp.assignD rfl rfl) ?_
  refine AOps.nil ?_
  refine AWP.seq ?_
  refine AWP.region ?_
  refine AOps.step rfl rfl rfl (AOp.fieldAddr rfl fo_30_1 rfl) ?_
  refine AOps.step rfl rfl rfl (AOp.load rfl sc_3 rfl) ?_
  refine AOps.step rfl rfl rfl (AOp.fieldAddr rfl fo_30_1 rfl) ?_
  refine AOps.step rfl rfl rfl (AOp.load rfl sc_3 rfl) ?_
  refine AOps.step rfl rfl rfl (AOp.eql rfl rfl rfl) ?_
  refine AOps.step rfl rfl rfl (AOp.moveD rfl rfl) ?_
  refine AOps.split 10 rfl (fun g1 => ?_) (fun g1 => ?_)
  · replace g1 := of_decide_eq_true g1
    refine AOps.step ⟨10, rfl, .inl ⟨_, rfl, rfl⟩⟩ rfl rfl (AOp.fieldAddr rfl fo_30_2 rfl) ?_
    refine AOps.step ⟨10, rfl, .inl ⟨_, rfl, rfl⟩⟩ rfl rfl (AOp.load rfl sc_27 rfl) ?_
    refine AOps.step ⟨10, rfl, .inl ⟨_, rfl, rfl⟩⟩ rfl rfl (AOp.fieldAddr rfl fo_30_2 rfl) ?_
    refine AOps.step ⟨10, rfl, .inl ⟨_, rfl, rfl⟩⟩ rfl rfl (AOp.load rfl sc_27 rfl) ?_
    refine AOps.step ⟨10, rfl, .inl ⟨_, rfl, rfl⟩⟩ rfl rfl (AOp.call rfl (.cons (ArgOk.rfl' rfl) (.cons (ArgOk.rfl' rfl) .nil)) (c_eqI _)) ?_
    refine AOps.step rfl rfl rfl (AOp.pickT rfl rfl rfl) ?_
    refine AOps.step rfl rfl rfl (AOp.moveD rfl rfl) ?_
    refine AOps.step ⟨17, rfl, .inl ⟨_, rfl, rfl⟩⟩ rfl rfl (AOp.fieldAddr rfl fo_30_3 rfl) ?_
    refine AOps.step ⟨17, rfl, .inl ⟨_, rfl, rfl⟩⟩ rfl rfl (AOp.load rfl sc_28 rfl) ?_
    refine AOps.step ⟨17, rfl, .inl ⟨_, rfl, rfl⟩⟩ rfl rfl (AOp.fieldAddr rfl fo_30_3 rfl) ?_
    refine AOps.step ⟨17, rfl, .inl ⟨_, rfl, rfl⟩⟩ rfl rfl (AOp.load rfl sc_28 rfl) ?_
    refine AOps.step ⟨17, rfl, .inl ⟨_, rfl, rfl⟩⟩ rfl rfl (AOp.call rfl (.cons (ArgOk.rfl' rfl) (.cons (ArgOk.rfl' rfl) .nil)) (c_eqHld _)) ?_
    refine AOps.step rfl rfl rfl (AOp.pickT rfl rfl rfl) ?_
    refine AOps.step rfl rfl rfl (AOp.moveD rfl rfl) ?_
    refine AOps.step ⟨24, rfl, .inl ⟨_, rfl, rfl⟩⟩ rfl rfl (AOp.fieldAddr rfl fo_30_4 rfl) ?_
    refine AOps.step ⟨24, rfl, .inl ⟨_, rfl, rfl⟩⟩ rfl rfl (AOp.load rfl sc_27 rfl) ?_
    refine AOps.step ⟨24, rfl, .inl ⟨_, rfl, rfl⟩⟩ rfl rfl (AOp.fieldAddr rfl fo_30_4 rfl) ?_
    refine AOps.step ⟨24, rfl, .inl ⟨_, rfl, rfl⟩⟩ rfl rfl (AOp.load rfl sc_27 rfl) ?_
    refine AOps.step ⟨24, rfl, .inl ⟨_, rfl, rfl⟩⟩ rfl rfl (AOp.call rfl (.cons (ArgOk.rfl' rfl) (.cons (ArgOk.rfl' rfl) .nil)) (c_eqI _)) ?_
    refine AOps.step rfl rfl rfl (AOp.pickT rfl rfl rfl) ?_
    refine AOps.step rfl rfl rfl (AOp.assignD rfl rfl) ?_
    refine AOps.nil ?_
    refine AWP.ret ?_
    refine ⟨RetD.eq rfl ?_, trivial⟩
    all_goals (rfl)
  · replace g1 := of_decide_eq_false g1
    exact absurd rfl g1

set_option maxRecDepth 100000 in
set_option maxHeartbeats 1000000 in
theorem c_sameC (c : Ctr) : ACall Tryd.prog 13 [.agg c.ds, .agg c.ds] (.v (.bool true)) := by
  refine acall_of (n := 146) (ds' := [.v (.bool true)]) Tryd.func13 rfl (by kernel_rfl) rfl [4] rfl rfl ?_
  intro B w0 F0 fr
  refine AWP.seq ?_
  refine AWP.region ?_
  refine AOps.step rfl rfl rfl (AOp.box rfl rfl rfl) ?_
  refine AOps.step rfl rfl rfl (AOp.box rfl rfl rfl) ?_
  refine AOps.step rfl rfl rfl (AOp.assignD rfl rfl) ?_
  refine AOps.nil ?_
  refine AWP.seq ?_
  refine AWP.seq ?_
  refine AWP.region ?_
  refine AOps.step rfl rfl rfl (AOp.fieldAddr rfl fo_26_0 rfl) ?_
  refine AOps.step rfl rfl rfl (AOp.load rfl sc_22 rfl) ?_
  refine AOps.step rfl rfl rfl (AOp.fieldAddr rfl fo_26_0 rfl) ?_
  refine AOps.step rfl rfl rfl (AOp.load rfl sc_22 rfl) ?_
  refine AOps.step rfl rfl rfl (AOp.call rfl (.cons (ArgOk.rfl' rfl) (.cons (ArgOk.rfl' rfl) .nil)) (c_eqAli _)) ?_
  refine AOps.step rfl rfl rfl (AOp.not rfl rfl) ?_
  refine AOps.step rfl rfl rfl (AOp.moveD rfl rfl) ?_
  refine AOps.step ⟨17, rfl, .inl ⟨_, rfl, rfl⟩⟩ rfl rfl (AOp.fieldAddr rfl fo_26_1 rfl) ?_
  refine AOps.step ⟨17, rfl, .inl ⟨_, rfl, rfl⟩⟩ rfl rfl (AOp.load rfl sc_23 rfl) ?_
  refine AOps.step ⟨17, rfl, .inl ⟨_, rfl, rfl⟩⟩ rfl rfl (AOp.lenSl rfl et_23.ht rfl) ?_
  refine AOps.step ⟨17, rfl, .inl ⟨_, rfl, rfl⟩⟩ rfl rfl (AOp.fieldAddr rfl fo_26_1 rfl) ?_
  refine AOps.step ⟨17, rfl, .inl ⟨_, rfl, rfl⟩⟩ rfl rfl (AOp.load rfl sc_23 rfl) ?_
  refine AOps.step ⟨17, rfl, .inl ⟨_, rfl, rfl⟩⟩ rfl rfl (AOp.lenSl rfl et_23.ht rfl) ?_
  refine AOps.step ⟨17, rfl, .inl ⟨_, rfl, rfl⟩⟩ rfl rfl (AOp.neq rfl rfl rfl) ?_
  refine AOps.step rfl rfl rfl (AOp.pickF rfl rfl rfl) ?_
  refine AOps.step rfl rfl rfl (AOp.moveD rfl rfl) ?_
  refine AOps.split 26 rfl (fun g1 => ?_) (fun g1 => ?_)
  · replace g1 := of_decide_eq_true g1
    exact absurd rfl g1
  · replace g1 := of_decide_eq_false g1
    refine AOps.step ⟨26, rfl, .inl ⟨_, rfl, rfl⟩⟩ rfl rfl (AOp.fieldAddr rfl fo_26_2 rfl) ?_
    refine AOps.step ⟨26, rfl, .inl ⟨_, rfl, rfl⟩⟩ rfl rfl (AOp.load rfl sc_24 rfl) ?_
    refine AOps.step ⟨26, rfl, .inl ⟨_, rfl, rfl⟩⟩ rfl rfl (AOp.lenSl rfl et_24.ht rfl) ?_
    refine AOps.step ⟨26, rfl, .inl ⟨_, rfl, rfl⟩⟩ rfl rfl (AOp.fieldAddr rfl fo_26_2 rfl) ?_
    refine AOps.step ⟨26, rfl, .inl ⟨_, rfl, rfl⟩⟩ rfl rfl (AOp.load rfl sc_24 rfl) ?_
    refine AOps.step ⟨26, rfl, .inl ⟨_, rfl, rfl⟩⟩ rfl rfl (AOp.lenSl rfl et_24.ht rfl) ?_
    refine AOps.step ⟨26, rfl, .inl ⟨_, rfl, rfl⟩⟩ rfl rfl (AOp.neq rfl rfl rfl) ?_
    refine AOps.step rfl rfl rfl (AOp.pickF rfl rfl rfl) ?_
    refine AOps.nil ?_
    refine AWP.cond rfl (fun h2 => ?_) (fun h2 => ?_)
    · replace h2 := of_decide_eq_true h2
      exact absurd rfl h2
    · replace h2 := of_decide_eq_false h2
      refine AWP.skip ?_
      refine AWP.seq ?_
      refine AWP.seq ?_
      refine AWP.region ?_
      refine AOps.step rfl rfl rfl (AOp.fieldAddr rfl fo_26_1 rfl) ?_
      refine AOps.step rfl rfl rfl (AOp.load rfl sc_23 rfl) ?_
      refine AOps.step rfl rfl rfl (AOp.lenSl rfl et_23.ht rfl) ?_
      refine AOps.step rfl rfl rfl (AOp.moveD rfl rfl) ?_
      refine AOps.nil ?_
      refine AWP.block ?_
      refine AWP.bound 36 rfl (fun hbd => ?_)
      rw [List.length_map] at hbd
      refine AWP.loop (G := Nat) (fun k => Env.of [(38, .d (.v (.int .i64 (k : Int)))), (36, .d (.sl (c.deals.map Deal.ds))), (37, .d (.v (.int .i64 ((c.deals.map Deal.ds).length : Int)))), (2, .d (.fp c.ds)), (3, .d (.fp c.ds))]) (fun k => []) (fun k => k ≤ c.deals.length) (fun k => c.deals.length - k) 0 (Nat.zero_le _) (Sub.less ⟨(SLe.of_eq rfl), SLe.refl _, SLe.refl _, SLe.refl _, SLe.refl _, trivial⟩ (fun _ h => h)) ?_
      intro k hk
      refine AWP.seq ?_
      refine AWP.region ?_
      refine AOps.step rfl rfl rfl (AOp.lss rfl rfl rfl) ?_
      refine AOps.nil ?_
      refine AWP.seq ?_
      refine AWP.cond rfl (fun h3 => ?_) (fun h3 => ?_)
      · replace h3 := of_decide_eq_true h3
        rw [List.length_map] at h3
        have hlt : k < c.deals.length := by omega
        refine AWP.skip ?_
        refine AWP.seq ?_
        refine AWP.block ?_
        refine AWP.seq ?_
        refine AWP.region ?_
        refine AOps.step rfl rfl rfl (AOp.moveD rfl rfl) ?_
        refine AOps.step rfl rfl rfl (AOp.indexAddr rfl et_23 rfl rfl k rfl (at_lst hlt) rfl) ?_
        refine AOps.step rfl rfl rfl (AOp.loadAgg rfl ag_59 rfl rfl) ?_
        refine AOps.alloc 101 rfl rfl rfl rfl zt_59 rfl rfl rfl ?_
        refine AOps.step rfl rfl rfl (AOp.assignD rfl rfl) ?_
        refine AOps.store rfl rfl rfl sz_59 rfl (.head _) rfl rfl rfl (Nat.le_of_ble_eq_true rfl) ?_
        refine AOps.freezeCells 6 (ds := c.deals[k].ds) rfl (.head _) ?_
        refine AOps.nil ?_
        refine AWP.seq ?_
        refine AWP.region ?_
        refine AOps.step rfl rfl rfl (AOp.fieldAddr rfl fo_26_1 rfl) ?_
        refine AOps.step rfl rfl rfl (AOp.load rfl sc_23 rfl) ?_
        refine AOps.step rfl rfl rfl (AOp.moveD rfl rfl) ?_
        refine AOps.step rfl rfl rfl (AOp.indexAddr rfl et_23 rfl rfl k rfl (at_lst hlt) rfl) ?_
        refine AOps.step rfl rfl rfl (AOp.loadAgg rfl ag_59 rfl rfl) ?_
        refine AOps.alloc 102 rfl rfl rfl rfl zt_59 rfl rfl rfl ?_
        refine AOps.store rfl rfl rfl sz_59 rfl (.head _) rfl rfl rfl (Nat.le_of_ble_eq_true rfl) ?_
        refine AOps.freezeCells 7 (ds := c.deals[k].ds) rfl (.head _) ?_
        refine AOps.nil ?_
        refine AWP.seq ?_
        refine AWP.region ?_
        refine AOps.step rfl rfl rfl (AOp.fieldAddr rfl fo_59_0 rfl) ?_
        refine AOps.step rfl rfl rfl (AOp.load rfl sc_9 rfl) ?_
        refine AOps.step rfl rfl rfl (AOp.fieldAddr rfl fo_59_0 rfl) ?_
        refine AOps.step rfl rfl rfl (AOp.load rfl sc_9 rfl) ?_
        refine AOps.step rfl rfl rfl (AOp.sneq rfl rfl rfl) ?_
        refine AOps.step rfl rfl rfl (AOp.moveD rfl rfl) ?_
        refine AOps.split 53 rfl (fun g4 => ?_) (fun g4 => ?_)
        · replace g4 := of_decide_eq_true g4
          exact absurd rfl g4
        · replace g4 := of_decide_eq_false g4
          refine AOps.step ⟨53, rfl, .inl ⟨_, rfl, rfl⟩⟩ rfl rfl (AOp.fieldAddr rfl fo_59_1 rfl) ?_
          refine AOps.step ⟨53, rfl, .inl ⟨_, rfl, rfl⟩⟩ rfl rfl (AOp.load rfl sc_9 rfl) ?_
          refine AOps.step ⟨53, rfl, .inl ⟨_, rfl, rfl⟩⟩ rfl rfl (AOp.fieldAddr rfl fo_59_1 rfl) ?_
          refine AOps.step ⟨53, rfl, .inl ⟨_, rfl, rfl⟩⟩ rfl rfl (AOp.load rfl sc_9 rfl) ?_
          refine AOps.step ⟨53, rfl, .inl ⟨_, rfl, rfl⟩⟩ rfl rfl (AOp.sneq rfl rfl rfl) ?_
          refine AOps.step rfl rfl rfl (AOp.pickF rfl rfl rfl) ?_
          refine AOps.step rfl rfl rfl (AOp.moveD rfl rfl) ?_
          refine AOps.split 60 rfl (fun g5 => ?_) (fun g5 => ?_)
          · replace g5 := of_decide_eq_true g5
            exact absurd rfl g5
          · replace g5 := of_decide_eq_false g5
            refine AOps.step ⟨60, rfl, .inl ⟨_, rfl, rfl⟩⟩ rfl rfl (AOp.fieldAddr rfl fo_59_2 rfl) ?_
            refine AOps.step ⟨60, rfl, .inl ⟨_, rfl, rfl⟩⟩ rfl rfl (AOp.load rfl sc_3 rfl) ?_
            refine AOps.step ⟨60, rfl, .inl ⟨_, rfl, rfl⟩⟩ rfl rfl (AOp.fieldAddr rfl fo_59_2 rfl) ?_
            refine AOps.step ⟨60, rfl, .inl ⟨_, rfl, rfl⟩⟩ rfl rfl (AOp.load rfl sc_3 rfl) ?_
            refine AOps.step ⟨60, rfl, .inl ⟨_, rfl, rfl⟩⟩ rfl rfl (AOp.neq rfl rfl rfl) ?_
            refine AOps.step rfl rfl rfl (AOp.pickF rfl rfl rfl) ?_
            refine AOps.step rfl rfl rfl (AOp.moveD rfl rfl) ?_
            refine AOps.split 67 rfl (fun g6 => ?_) (fun g6 => ?_)
            · replace g6 := of_decide_eq_true g6
              exact absurd rfl g6
            · replace g6 := of_decide_eq_false g6
              refine AOps.step ⟨67, rfl, .inl ⟨_, rfl, rfl⟩⟩ rfl rfl (AOp.fieldAddr rfl fo_59_3 rfl) ?_
              refine AOps.step ⟨67, rfl, .inl ⟨_, rfl, rfl⟩⟩ rfl rfl (AOp.load rfl sc_3 rfl) ?_
              refine AOps.step ⟨67, rfl, .inl ⟨_, rfl, rfl⟩⟩ rfl rfl (AOp.fieldAddr rfl fo_59_3 rfl) ?_
              refine AOps.step ⟨67, rfl, .inl ⟨_, rfl, rfl⟩⟩ rfl rfl (AOp.load rfl sc_3 rfl) ?_
              refine AOps.step ⟨67, rfl, .inl ⟨_, rfl, rfl⟩⟩ rfl rfl (AOp.neq rfl rfl rfl) ?_
              refine AOps.step rfl rfl rfl (AOp.pickF rfl rfl rfl) ?_
              refine AOps.step rfl rfl rfl (AOp.moveD rfl rfl) ?_
              refine AOps.split 74 rfl (fun g7 => ?_) (fun g7 => ?_)
              · replace g7 := of_decide_eq_true g7
                exact absurd rfl g7
              · replace g7 := of_decide_eq_false g7
                refine AOps.step ⟨74, rfl, .inl ⟨_, rfl, rfl⟩⟩ rfl rfl (AOp.fieldAddr rfl fo_59_4 rfl) ?_
                refine AOps.step ⟨74, rfl, .inl ⟨_, rfl, rfl⟩⟩ rfl rfl (AOp.load rfl sc_27 rfl) ?_
                refine AOps.step ⟨74, rfl, .inl ⟨_, rfl, rfl⟩⟩ rfl rfl (AOp.fieldAddr rfl fo_59_4 rfl) ?_
                refine AOps.step ⟨74, rfl, .inl ⟨_, rfl, rfl⟩⟩ rfl rfl (AOp.load rfl sc_27 rfl) ?_
                refine AOps.step ⟨74, rfl, .inl ⟨_, rfl, rfl⟩⟩ rfl rfl (AOp.call rfl (.cons (ArgOk.rfl' rfl) (.cons (ArgOk.rfl' rfl) .nil)) (c_eqI _)) ?_
                refine AOps.step ⟨74, rfl, .inl ⟨_, rfl, rfl⟩⟩ rfl rfl (AOp.not rfl rfl) ?_
                refine AOps.step rfl rfl rfl (AOp.pickF rfl rfl rfl) ?_
                refine AOps.step rfl rfl rfl (AOp.moveD rfl rfl) ?_
                refine AOps.step ⟨82, rfl, .inl ⟨_, rfl, rfl⟩⟩ rfl rfl (AOp.fieldAddr rfl fo_59_5 rfl) ?_
                refine AOps.step ⟨82, rfl, .inl ⟨_, rfl, rfl⟩⟩ rfl rfl (AOp.load rfl sc_57 rfl) ?_
                refine AOps.step ⟨82, rfl, .inl ⟨_, rfl, rfl⟩⟩ rfl rfl (AOp.fieldAddr rfl fo_59_5 rfl) ?_
                refine AOps.step ⟨82, rfl, .inl ⟨_, rfl, rfl⟩⟩ rfl rfl (AOp.load rfl sc_57 rfl) ?_
                refine AOps.step ⟨82, rfl, .inl ⟨_, rfl, rfl⟩⟩ rfl rfl (AOp.call rfl (.cons (ArgOk.rfl' rfl) (.cons (ArgOk.rfl' rfl) .nil)) (c_eqTr _)) ?_
                refine AOps.step ⟨82, rfl, .inl ⟨_, rfl, rfl⟩⟩ rfl rfl (AOp.not rfl rfl) ?_
                refine AOps.step rfl rfl rfl (AOp.pickF rfl rfl rfl) ?_
                refine AOps.step rfl rfl rfl (AOp.moveD rfl rfl) ?_
                refine AOps.step ⟨90, rfl, .inl ⟨_, rfl, rfl⟩⟩ rfl rfl (AOp.fieldAddr rfl fo_59_6 rfl) ?_
                refine AOps.step ⟨90, rfl, .inl ⟨_, rfl, rfl⟩⟩ rfl rfl (AOp.load rfl sc_3 rfl) ?_
                refine AOps.step ⟨90, rfl, .inl ⟨_, rfl, rfl⟩⟩ rfl rfl (AOp.fieldAddr rfl fo_59_6 rfl) ?_
                refine AOps.step ⟨90, rfl, .inl ⟨_, rfl, rfl⟩⟩ rfl rfl (AOp.load rfl sc_3 rfl) ?_
                refine AOps.step ⟨90, rfl, .inl ⟨_, rfl, rfl⟩⟩ rfl rfl (AOp.neq rfl rfl rfl) ?_
                refine AOps.step rfl rfl rfl (AOp.pickF rfl rfl rfl) ?_
                refine AOps.step rfl rfl rfl (AOp.moveD rfl rfl) ?_
                refine AOps.split 97 rfl (fun g8 => ?_) (fun g8 => ?_)
                · replace g8 := of_decide_eq_true g8
                  exact absurd rfl g8
                · replace g8 := of_decide_eq_false g8
                  refine AOps.step ⟨97, rfl, .inl ⟨_, rfl, rfl⟩⟩ rfl rfl (AOp.fieldAddr rfl fo_59_7 rfl) ?_
                  refine AOps.step ⟨97, rfl, .inl ⟨_, rfl, rfl⟩⟩ rfl rfl (AOp.load rfl sc_3 rfl) ?_
                  refine AOps.step ⟨97, rfl, .inl ⟨_, rfl, rfl⟩⟩ rfl rfl (AOp.fieldAddr rfl fo_59_7 rfl) ?_
                  refine AOps.step ⟨97, rfl, .inl ⟨_, rfl, rfl⟩⟩ rfl rfl (AOp.load rfl sc_3 rfl) ?_
                  refine AOps.step ⟨97, rfl, .inl ⟨_, rfl, rfl⟩⟩ rfl rfl (AOp.neq rfl rfl rfl) ?_
                  refine AOps.step rfl rfl rfl (AOp.pickF rfl rfl rfl) ?_
                  refine AOps.step rfl rfl rfl (AOp.moveD rfl rfl) ?_
                  refine AOps.split 104 rfl (fun g9 => ?_) (fun g9 => ?_)
                  · replace g9 := of_decide_eq_true g9
                    exact absurd rfl g9
                  · replace g9 := of_decide_eq_false g9
                    refine AOps.step ⟨104, rfl, .inl ⟨_, rfl, rfl⟩⟩ rfl rfl (AOp.fieldAddr rfl fo_59_8 rfl) ?_
                    refine AOps.step ⟨104, rfl, .inl ⟨_, rfl, rfl⟩⟩ rfl rfl (AOp.load rfl sc_3 rfl) ?_
                    refine AOps.step ⟨104, rfl, .inl ⟨_, rfl, rfl⟩⟩ rfl rfl (AOp.fieldAddr rfl fo_59_8 rfl) ?_
                    refine AOps.step ⟨104, rfl, .inl ⟨_, rfl, rfl⟩⟩ rfl rfl (AOp.load rfl sc_3 rfl) ?_
                    refine AOps.step ⟨104, rfl, .inl ⟨_, rfl, rfl⟩⟩ rfl rfl (AOp.neq rfl rfl rfl) ?_
                    refine AOps.step rfl rfl rfl (AOp.pickF rfl rfl rfl) ?_
                    refine AOps.nil ?_
                    refine AWP.cond rfl (fun h10 => ?_) (fun h10 => ?_)
                    · replace h10 := of_decide_eq_true h10
                      exact absurd rfl h10
                    · replace h10 := of_decide_eq_false h10
                      refine AWP.skip ?_
                      refine AWP.region ?_
                      refine AOps.step rfl rfl rfl (AOp.add64 rfl rfl rfl (by omega) (by omega)) ?_
                      refine AOps.step rfl rfl rfl (AOp.moveD rfl rfl) ?_
                      refine AOps.nil ?_
                      refine ⟨k + 1, (by omega), (by dsimp only; omega), Sub.less ⟨(SLe.of_eq rfl), SLe.refl _, SLe.refl _, SLe.refl _, SLe.refl _, trivial⟩ (fun _ h => h)⟩
      · replace h3 := of_decide_eq_false h3
        refine AWP.exit ?_
        refine AWP.seq ?_
        refine AWP.seq ?_
        refine AWP.region ?_
        refine AOps.step rfl rfl rfl (AOp.fieldAddr rfl fo_26_2 rfl) ?_
        refine AOps.step rfl rfl rfl (AOp.load rfl sc_24 rfl) ?_
        refine AOps.step rfl rfl rfl (AOp.lenSl rfl et_24.ht rfl) ?_
        refine AOps.step rfl rfl rfl (AOp.moveD rfl rfl) ?_
        refine AOps.nil ?_
        refine AWP.block ?_
        refine AWP.bound 113 rfl (fun hbd => ?_)
        rw [List.length_map] at hbd
        refine AWP.loop (G := Nat) (fun k => Env.of [(115, .d (.v (.int .i64 (k : Int)))), (113, .d (.sl (c.groups.map Grp.ds))), (114, .d (.v (.int .i64 ((c.groups.map Grp.ds).length : Int)))), (2, .d (.fp c.ds)), (3, .d (.fp c.ds))]) (fun k => []) (fun k => k ≤ c.groups.length) (fun k => c.groups.length - k) 0 (Nat.zero_le _) (Sub.less ⟨(SLe.of_eq rfl), SLe.refl _, SLe.refl _, SLe.refl _, SLe.refl _, trivial⟩ (fun _ h => h)) ?_
        intro k hk
        refine AWP.seq ?_
        refine AWP.region ?_
        refine AOps.step rfl rfl rfl (AOp.lss rfl rfl rfl) ?_
        refine AOps.nil ?_
        refine AWP.seq ?_
        refine AWP.cond rfl (fun h11 => ?_) (fun h11 => ?_)
        · replace h11 := of_decide_eq_true h11
          rw [List.length_map] at h11
          have hlt : k < c.groups.length := by omega
          refine AWP.skip ?_
          refine AWP.seq ?_
          refine AWP.block ?_
          refine AWP.seq ?_
          refine AWP.region ?_
          refine AOps.step rfl rfl rfl (AOp.moveD rfl rfl) ?_
          refine AOps.step rfl rfl rfl (AOp.indexAddr rfl et_24 rfl rfl k rfl (at_lst hlt) rfl) ?_
          refine AOps.step rfl rfl rfl (AOp.loadAgg rfl ag_55 rfl rfl) ?_
          refine AOps.alloc 103 rfl rfl rfl rfl zt_55 rfl rfl rfl ?_
          refine AOps.step rfl rfl rfl (AOp.assignD rfl rfl) ?_
          refine AOps.store rfl rfl rfl sz_55 rfl (.head _) rfl rfl rfl (Nat.le_of_ble_eq_true rfl) ?_
          refine AOps.freezeCells 9 (ds := c.groups[k].ds) rfl (.head _) ?_
          refine AOps.nil ?_
          refine AWP.seq ?_
          refine AWP.region ?_
          refine AOps.step rfl rfl rfl (AOp.fieldAddr rfl fo_26_2 rfl) ?_
          refine AOps.step rfl rfl rfl (AOp.load rfl sc_24 rfl) ?_
          refine AOps.step rfl rfl rfl (AOp.moveD rfl rfl) ?_
          refine AOps.step rfl rfl rfl (AOp.indexAddr rfl et_24 rfl rfl k rfl (at_lst hlt) rfl) ?_
          refine AOps.step rfl rfl rfl (AOp.loadAgg rfl ag_55 rfl rfl) ?_
          refine AOps.alloc 104 rfl rfl rfl rfl zt_55 rfl rfl rfl ?_
          refine AOps.store rfl rfl rfl sz_55 rfl (.head _) rfl rfl rfl (Nat.le_of_ble_eq_true rfl) ?_
          refine AOps.freezeCells 10 (ds := c.groups[k].ds) rfl (.head _) ?_
          refine AOps.nil ?_
          refine AWP.seq ?_
          refine AWP.region ?_
          refine AOps.step rfl rfl rfl (AOp.fieldAddr rfl fo_55_0 rfl) ?_
          refine AOps.step rfl rfl rfl (AOp.load rfl sc_9 rfl) ?_
          refine AOps.step rfl rfl rfl (AOp.fieldAddr rfl fo_55_0 rfl) ?_
          refine AOps.step rfl rfl rfl (AOp.load rfl sc_9 rfl) ?_
          refine AOps.step rfl rfl rfl (AOp.sneq rfl rfl rfl) ?_
          refine AOps.step rfl rfl rfl (AOp.moveD rfl rfl) ?_
          refine AOps.split 130 rfl (fun g12 => ?_) (fun g12 => ?_)
          · replace g12 := of_decide_eq_true g12
            exact absurd rfl g12
          · replace g12 := of_decide_eq_false g12
            refine AOps.step ⟨130, rfl, .inl ⟨_, rfl, rfl⟩⟩ rfl rfl (AOp.fieldAddr rfl fo_55_1 rfl) ?_
            refine AOps.step ⟨130, rfl, .inl ⟨_, rfl, rfl⟩⟩ rfl rfl (AOp.load rfl sc_3 rfl) ?_
            refine AOps.step ⟨130, rfl, .inl ⟨_, rfl, rfl⟩⟩ rfl rfl (AOp.fieldAddr rfl fo_55_1 rfl) ?_
            refine AOps.step ⟨130, rfl, .inl ⟨_, rfl, rfl⟩⟩ rfl rfl (AOp.load rfl sc_3 rfl) ?_
            refine AOps.step ⟨130, rfl, .inl ⟨_, rfl, rfl⟩⟩ rfl rfl (AOp.neq rfl rfl rfl) ?_
            refine AOps.step rfl rfl rfl (AOp.pickF rfl rfl rfl) ?_
            refine AOps.step rfl rfl rfl (AOp.moveD rfl rfl) ?_
            refine AOps.split 137 rfl (fun g13 => ?_) (fun g13 => ?_)
            · replace g13 := of_decide_eq_true g13
              exact absurd rfl g13
            · replace g13 := of_decide_eq_false g13
              refine AOps.step ⟨137, rfl, .inl ⟨_, rfl, rfl⟩⟩ rfl rfl (AOp.fieldAddr rfl fo_55_2 rfl) ?_
              refine AOps.step ⟨137, rfl, .inl ⟨_, rfl, rfl⟩⟩ rfl rfl (AOp.load rfl sc_53 rfl) ?_
              refine AOps.step ⟨137, rfl, .inl ⟨_, rfl, rfl⟩⟩ rfl rfl (AOp.fieldAddr rfl fo_55_2 rfl) ?_
              refine AOps.step ⟨137, rfl, .inl ⟨_, rfl, rfl⟩⟩ rfl rfl (AOp.load rfl sc_53 rfl) ?_
              refine AOps.step ⟨137, rfl, .inl ⟨_, rfl, rfl⟩⟩ rfl rfl (AOp.call rfl (.cons (ArgOk.rfl' rfl) (.cons (ArgOk.rfl' rfl) .nil)) (c_eqStk _)) ?_
              refine AOps.step ⟨137, rfl, .inl ⟨_, rfl, rfl⟩⟩ rfl rfl (AOp.not rfl rfl) ?_
              refine AOps.step rfl rfl rfl (AOp.pickF rfl rfl rfl) ?_
              refine AOps.nil ?_
              refine AWP.cond rfl (fun h => nomatch h) (fun _ => ?_)
              refine AWP.skip ?_
              refine AWP.region ?_
              refine AOps.step rfl rfl rfl (AOp.add64 rfl rfl rfl (by omega) (by omega)) ?_
              refine AOps.step rfl rfl rfl (AOp.moveD rfl rfl) ?_
              refine AOps.nil ?_
              refine ⟨k + 1, (by omega), (by dsimp only; omega), Sub.less ⟨(SLe.of_eq rfl), SLe.refl _, SLe.refl _, SLe.refl _, SLe.refl _, trivial⟩ (fun _ h => h)⟩
        · replace h11 := of_decide_eq_false h11
          refine AWP.exit ?_
          refine AWP.seq ?_
          refine AWP.region ?_
          refine AOps.step rfl rfl rfl (AOp.assignD rfl rfl) ?_
          refine AOps.nil ?_
          refine AWP.ret ?_
          refine ⟨RetD.eq rfl ?_, trivial⟩
          all_goals (rfl)

set_option maxRecDepth 100000 in
set_option maxHeartbeats 1000000 in
theorem lawCtr (c : Ctr) (b : Bks) (hc : okCtr c) (hb : okBks b) : ACallT Tryd.prog MaxT 3 [.agg c.ds, .agg b.ds] (.v (.bool true)) := by
  refine acall_ofT (n := 51) (ds' := [.v (.bool true)]) Tryd.func3 rfl (by kernel_rfl) rfl [4] rfl rfl ?_
  intro B w0 F0 hT
  refine AWP.seq ?_
  refine AWP.region ?_
  refine AOps.step rfl rfl rfl (AOp.box rfl rfl rfl) ?_
  refine AOps.step rfl rfl rfl (AOp.box rfl rfl rfl) ?_
  refine AOps.step rfl rfl rfl (AOp.assignD rfl rfl) ?_
  refine AOps.nil ?_
  refine AWP.seq ?_
  refine AWP.region ?_
  refine AOps.step rfl rfl rfl (AOp.loadAgg rfl ag_26 rfl rfl) ?_
  -- wants the world
  refine AOps.callT rfl rfl rfl hT maxT_stays rfl (.cons (ArgOk.rfl' rfl) .nil) (c_pNew c hc) ?_
  refine AOps.step rfl rfl rfl (AOp.moveD rfl rfl) ?_
  refine AOps.step rfl rfl rfl (AOp.extract rfl rfl rfl) ?_
  refine AOps.step rfl rfl rfl (AOp.extract rfl rfl rfl) ?_
  refine AOps.alloc 101 rfl rfl rfl rfl zt_30 rfl rfl rfl ?_
  refine AOps.store rfl rfl rfl sz_30 rfl (.head _) rfl rfl rfl (Nat.le_of_ble_eq_true rfl) ?_
  refine AOps.freezeCells 5 (ds := (newB c).ds) rfl (.head _) ?_
  refine AOps.step rfl rfl rfl (AOp.assignD rfl rfl) ?_
  refine AOps.nil ?_
  refine AWP.seq ?_
  refine AWP.region ?_
  refine AOps.step rfl rfl rfl (AOp.loadAgg rfl ag_26 rfl rfl) ?_
  -- wants the world
  refine AOps.callT rfl rfl rfl hT maxT_stays rfl (.cons (ArgOk.rfl' rfl) .nil) (c_rNew c hc) ?_
  refine AOps.step rfl rfl rfl (AOp.moveD rfl rfl) ?_
  refine AOps.step rfl rfl rfl (AOp.extract rfl rfl rfl) ?_
  refine AOps.step rfl rfl rfl (AOp.extract rfl rfl rfl) ?_
  refine AOps.alloc 102 rfl rfl rfl rfl zt_30 rfl rfl rfl ?_
  refine AOps.store rfl rfl rfl sz_30 rfl (.head _) rfl rfl rfl (Nat.le_of_ble_eq_true rfl) ?_
  refine AOps.freezeCells 7 (ds := (newB c).ds) rfl (.head _) ?_
  refine AOps.step rfl rfl rfl (AOp.assignD rfl rfl) ?_
  refine AOps.nil ?_
  refine AWP.seq ?_
  refine AWP.drawK (by kernel_rfl) (by kernel_rfl) ?_
  refine KRun.step rfl rfl rfl (AOp.toK (AOp.loadAgg rfl ag_26 rfl rfl)) ?_
  refine KRun.step rfl rfl rfl (AOpK.callT maxT_stays rfl hT rfl (.cons (ArgOk.rfl' rfl) .nil) (c_pCtr c hc)) ?_
  refine KRun.step rfl rfl rfl (AOp.toK (AOp.loadAgg rfl ag_26 rfl rfl)) ?_
  refine KRun.step rfl rfl rfl (AOpK.callT maxT_stays rfl hT rfl (.cons (ArgOk.rfl' rfl) .nil) (c_rCtr c hc)) ?_
  refine KRun.step rfl rfl rfl (AOp.toK (AOp.eql rfl rfl rfl)) ?_
  refine KRun.step rfl rfl rfl (AOp.toK (AOp.moveD rfl rfl)) ?_
  refine KRun.split 24 rfl (fun g1 => ?_) (fun g1 => ?_)
  · replace g1 := of_decide_eq_true g1
    refine KRun.step ⟨24, rfl, .inl ⟨_, rfl, rfl⟩⟩ rfl rfl (AOp.toK (AOp.loadAgg rfl ag_30 rfl rfl)) ?_
    refine KRun.step ⟨24, rfl, .inl ⟨_, rfl, rfl⟩⟩ rfl rfl (AOpK.callT maxT_stays rfl hT rfl (.cons (ArgOk.rfl' rfl) .nil) (c_pBks b hb)) ?_
    refine KRun.step ⟨24, rfl, .inl ⟨_, rfl, rfl⟩⟩ rfl rfl (AOp.toK (AOp.loadAgg rfl ag_30 rfl rfl)) ?_
    refine KRun.step ⟨24, rfl, .inl ⟨_, rfl, rfl⟩⟩ rfl rfl (AOpK.callT maxT_stays rfl hT rfl (.cons (ArgOk.rfl' rfl) .nil) (c_rBks b hb)) ?_
    refine KRun.step ⟨24, rfl, .inl ⟨_, rfl, rfl⟩⟩ rfl rfl (AOp.toK (AOp.eql rfl rfl rfl)) ?_
    refine KRun.step rfl rfl rfl (AOp.toK (AOp.pickT rfl rfl rfl)) ?_
    refine KRun.step rfl rfl rfl (AOp.toK (AOp.moveD rfl rfl)) ?_
    refine KRun.split 31 rfl (fun g2 => ?_) (fun g2 => ?_)
    · replace g2 := of_decide_eq_true g2
      refine KRun.step ⟨31, rfl, .inl ⟨_, rfl, rfl⟩⟩ rfl rfl (AOp.toK (AOp.moveD rfl rfl)) ?_
      refine KRun.step ⟨31, rfl, .inl ⟨_, rfl, rfl⟩⟩ rfl rfl (AOp.toK (AOp.moveD rfl rfl)) ?_
      refine KRun.step ⟨31, rfl, .inl ⟨_, rfl, rfl⟩⟩ rfl rfl (AOp.toK (AOp.eql rfl rfl rfl)) ?_
      refine KRun.step rfl rfl rfl (AOp.toK (AOp.pickT rfl rfl rfl)) ?_
      refine KRun.step rfl rfl rfl (AOp.toK (AOp.moveD rfl rfl)) ?_
      refine KRun.split 36 rfl (fun g3 => ?_) (fun g3 => ?_)
      · replace g3 := of_decide_eq_true g3
        refine KRun.step ⟨36, rfl, .inl ⟨_, rfl, rfl⟩⟩ rfl rfl (AOp.toK (AOp.loadAgg rfl ag_30 rfl rfl)) ?_
        refine KRun.step ⟨36, rfl, .inl ⟨_, rfl, rfl⟩⟩ rfl rfl (AOp.toK (AOp.loadAgg rfl ag_30 rfl rfl)) ?_
        refine KRun.step ⟨36, rfl, .inl ⟨_, rfl, rfl⟩⟩ rfl rfl (AOp.toK (AOp.call rfl (.cons (ArgOk.rfl' rfl) (.cons (ArgOk.rfl' rfl) .nil)) (c_sameB (newB c)))) ?_
        refine KRun.step rfl rfl rfl (AOp.toK (AOp.pickT rfl rfl rfl)) ?_
        refine KRun.step rfl rfl rfl (AOp.toK (AOp.moveD rfl rfl)) ?_
        refine KRun.step ⟨41, rfl, .inl ⟨_, rfl, rfl⟩⟩ rfl rfl (AOp.toK (AOp.fieldAddr rfl fo_30_0 rfl)) ?_
        refine KRun.step ⟨41, rfl, .inl ⟨_, rfl, rfl⟩⟩ rfl rfl (AOp.toK (AOp.loadAggT rfl ag_26 rfl (Nat.le_of_ble_eq_true rfl))) ?_
        refine KRun.step ⟨41, rfl, .inl ⟨_, rfl, rfl⟩⟩ rfl rfl (AOp.toK (AOp.fieldAddr rfl fo_30_0 rfl)) ?_
        refine KRun.step ⟨41, rfl, .inl ⟨_, rfl, rfl⟩⟩ rfl rfl (AOp.toK (AOp.loadAggT rfl ag_26 rfl (Nat.le_of_ble_eq_true rfl))) ?_
        refine KRun.step ⟨41, rfl, .inl ⟨_, rfl, rfl⟩⟩ rfl rfl (AOp.toK (AOp.call rfl (.cons (ArgOk.rfl' rfl) (.cons (ArgOk.rfl' rfl) .nil)) (c_sameC (newB c).ctr))) ?_
        refine KRun.step rfl rfl rfl (AOp.toK (AOp.pickT rfl rfl rfl)) ?_
        refine KRun.step rfl rfl rfl (AOp.toK (AOp.moveD rfl rfl)) ?_
        refine KRun.step ⟨48, rfl, .inl ⟨_, rfl, rfl⟩⟩ rfl rfl (AOp.toK (AOp.call rfl .nil c_awake)) ?_
        refine KRun.step rfl rfl rfl (AOp.toK (AOp.pickT rfl rfl rfl)) ?_
        refine KRun.step rfl rfl rfl (AOp.toK (AOp.assignD rfl rfl)) ?_
        refine KRun.nil ?_
        refine AWP.ret ?_
        refine ⟨RetD.eq rfl ?_, trivial⟩
        all_goals (rfl)
      · replace g3 := of_decide_eq_false g3
        exact absurd rfl g3
    · replace g2 := of_decide_eq_false g2
      exact absurd rfl g2
  · replace g1 := of_decide_eq_false g1
    exact absurd rfl g1

end Go.Proofs.YtfajemnegkfigaaDoor
