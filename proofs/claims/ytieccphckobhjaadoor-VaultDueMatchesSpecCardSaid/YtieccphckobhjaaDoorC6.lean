/- Walks over abstract values. Printed by tools/gen.py. No statement of the seat. -/
import Derived.Test.YtieccphckobhjaaDoorC5
namespace Go.Proofs.YtieccphckobhjaaDoor
open Go.RowKit
set_option linter.unusedVariables false

/-! Types. -/
namespace TyC6
theorem ag_26 : AggT Tryd.prog 26 3 := .of (by kernel_rfl)
theorem ag_28 : AggT Tryd.prog 28 6 := .of (by kernel_rfl)
theorem et_135 : ElemTy Tryd.prog 135 5 1 1 (.int .u8 0) := ⟨by kernel_rfl, by kernel_rfl, by kernel_rfl, by decide⟩
end TyC6
open TyC6

set_option maxRecDepth 100000 in
set_option maxHeartbeats 1000000 in
theorem c_sumNil  : ACall Tryd.prog 41 [.sl []] (.v (.int .u32 2166136261)) := by
  refine acall_of (n := 19) (ds' := [.v (.int .u32 2166136261)]) Tryd.func41 rfl (by kernel_rfl) rfl [2] rfl rfl ?_
  intro B w0 F0 fr
  refine AWP.seq ?_
  refine AWP.region ?_
  refine AOps.step rfl rfl rfl (AOp.assignD rfl rfl) ?_
  refine AOps.nil ?_
  refine AWP.seq ?_
  refine AWP.region ?_
  refine AOps.step rfl rfl rfl (AOp.assignD rfl rfl) ?_
  refine AOps.nil ?_
  refine AWP.seq ?_
  refine AWP.seq ?_
  refine AWP.region ?_
  refine AOps.step rfl rfl rfl (AOp.moveD rfl rfl) ?_
  refine AOps.step rfl rfl rfl (AOp.lenSl rfl et_135.ht rfl) ?_
  refine AOps.step rfl rfl rfl (AOp.moveD rfl rfl) ?_
  refine AOps.nil ?_
  refine AWP.block ?_
  refine AWP.loop (G := Unit) (fun _ => Env.of [(8, .d (.v (.int .i64 0))), (7, .d (.v (.int .i64 (([] : List (List D)).length : Int)))), (3, .d (.v (.int .u32 2166136261)))]) (fun _ => []) (fun _ => True) (fun _ => 0) () trivial (Sub.less ⟨SLe.refl _, SLe.refl _, SLe.refl _, trivial⟩ (fun _ h => h)) ?_
  intro _ _
  refine AWP.seq ?_
  refine AWP.region ?_
  refine AOps.step rfl rfl rfl (AOp.lss rfl rfl rfl) ?_
  refine AOps.nil ?_
  refine AWP.seq ?_
  refine AWP.cond rfl (fun h1 => ?_) (fun h1 => ?_)
  · replace h1 := of_decide_eq_true h1
    simp at h1
  · replace h1 := of_decide_eq_false h1
    refine AWP.exit ?_
    refine AWP.seq ?_
    refine AWP.region ?_
    refine AOps.step rfl rfl rfl (AOp.moveD rfl rfl) ?_
    refine AOps.step rfl rfl rfl (AOp.assignD rfl rfl) ?_
    refine AOps.nil ?_
    refine AWP.ret ?_
    refine ⟨RetD.eq rfl ?_, trivial⟩
    all_goals (rfl)

set_option maxRecDepth 100000 in
set_option maxHeartbeats 1000000 in
theorem c_awake  : ACall Tryd.prog 13 [] (.v (.bool true)) := by
  refine acall_of (n := 3) (ds' := [.v (.bool true)]) Tryd.func13 rfl (by kernel_rfl) rfl [0] rfl rfl ?_
  intro B w0 F0 fr
  refine AWP.seq ?_
  refine AWP.region ?_
  refine AOps.step rfl rfl rfl (AOp.assignD rfl rfl) ?_
  refine AOps.nil ?_
  refine AWP.seq ?_
  refine AWP.region ?_
  refine AOps.step rfl rfl rfl (AOp.call rfl (.cons (ArgOk.nil rfl) .nil) c_sumNil) ?_
  refine AOps.step rfl rfl rfl (AOp.eql rfl rfl rfl) ?_
  refine AOps.step rfl rfl rfl (AOp.assignD rfl rfl) ?_
  refine AOps.nil ?_
  refine AWP.ret ?_
  refine ⟨RetD.eq rfl ?_, trivial⟩
  all_goals (simp)

set_option maxRecDepth 100000 in
set_option maxHeartbeats 1000000 in
theorem lawChecks (v : Vlt) (p : Pol) (hs : smallV v) : ACall Tryd.prog 3 [.agg v.ds, .agg p.ds] (.v (.bool true)) := by
  refine acall_of (n := 20) (ds' := [.v (.bool true)]) Tryd.func3 rfl (by kernel_rfl) rfl [4] rfl rfl ?_
  intro B w0 F0 fr
  refine AWP.seq ?_
  refine AWP.region ?_
  refine AOps.step rfl rfl rfl (AOp.box rfl rfl rfl) ?_
  refine AOps.step rfl rfl rfl (AOp.box rfl rfl rfl) ?_
  refine AOps.step rfl rfl rfl (AOp.assignD rfl rfl) ?_
  refine AOps.nil ?_
  refine AWP.seq ?_
  refine AWP.draw (by kernel_rfl) (by kernel_rfl) ?_
  refine DRun.step rfl rfl rfl (AOp.loadAgg rfl ag_26 rfl rfl) ?_
  refine DRun.step rfl rfl rfl (AOp.call rfl (.cons (ArgOk.rfl' rfl) .nil) (c_pCheck v hs)) ?_
  refine DRun.step rfl rfl rfl (AOp.loadAgg rfl ag_26 rfl rfl) ?_
  refine DRun.step rfl rfl rfl (AOp.call rfl (.cons (ArgOk.rfl' rfl) .nil) (c_rCheck v hs)) ?_
  refine DRun.step rfl rfl rfl (AOp.eql rfl rfl rfl) ?_
  refine DRun.step rfl rfl rfl (AOp.moveD rfl rfl) ?_
  refine DRun.split 10 rfl (fun g1 => ?_) (fun g1 => ?_)
  · replace g1 := of_decide_eq_true g1
    refine DRun.step ⟨10, rfl, .inl ⟨_, rfl, rfl⟩⟩ rfl rfl (AOp.loadAgg rfl ag_28 rfl rfl) ?_
    refine DRun.step ⟨10, rfl, .inl ⟨_, rfl, rfl⟩⟩ rfl rfl (AOp.call rfl (.cons (ArgOk.rfl' rfl) .nil) (c_pPol p)) ?_
    refine DRun.step ⟨10, rfl, .inl ⟨_, rfl, rfl⟩⟩ rfl rfl (AOp.loadAgg rfl ag_28 rfl rfl) ?_
    refine DRun.step ⟨10, rfl, .inl ⟨_, rfl, rfl⟩⟩ rfl rfl (AOp.call rfl (.cons (ArgOk.rfl' rfl) .nil) (c_rPol p)) ?_
    refine DRun.step ⟨10, rfl, .inl ⟨_, rfl, rfl⟩⟩ rfl rfl (AOp.eql rfl rfl rfl) ?_
    refine DRun.step rfl rfl rfl (AOp.pickT rfl rfl rfl) ?_
    refine DRun.step rfl rfl rfl (AOp.moveD rfl rfl) ?_
    refine DRun.split 17 rfl (fun g2 => ?_) (fun g2 => ?_)
    · replace g2 := of_decide_eq_true g2
      refine DRun.step ⟨17, rfl, .inl ⟨_, rfl, rfl⟩⟩ rfl rfl (AOp.call rfl .nil c_awake) ?_
      refine DRun.step rfl rfl rfl (AOp.pickT rfl rfl rfl) ?_
      refine DRun.step rfl rfl rfl (AOp.assignD rfl rfl) ?_
      refine DRun.nil ?_
      refine AWP.ret ?_
      refine ⟨RetD.eq rfl ?_, trivial⟩
      all_goals (simp)
    · replace g2 := of_decide_eq_false g2
      exact absurd rfl g2
  · replace g1 := of_decide_eq_false g1
    exact absurd rfl g1

end Go.Proofs.YtieccphckobhjaaDoor
