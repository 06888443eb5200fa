/- Walks over abstract values. Printed by tools/gen.py. No statement of the seat. -/
import Derived.Test.YtajghehicmlajaaDoorH4
namespace Go.Proofs.YtajghehicmlajaaDoor
open Go.RowKit
set_option linter.unusedVariables false

/-! Types. -/
namespace TyH5

end TyH5
open TyH5


theorem rain_fold : foldS [84, 104, 101, 32, 82, 97, 105, 110, 44, 32, 80, 97, 114, 116, 32, 50] = [114, 97, 105, 110, 32, 112, 97, 114, 116, 32, 50] := by decide +kernel
theorem c_rain : ACall Tryd.prog 6 [.v (.string ⟨#[84, 104, 101, 32, 82, 97, 105, 110, 44, 32, 80, 97, 114, 116, 32, 50]⟩)] (.v (.string ⟨#[114, 97, 105, 110, 32, 112, 97, 114, 116, 32, 50]⟩)) := by
  have h := c_pFold ⟨#[84, 104, 101, 32, 82, 97, 105, 110, 44, 32, 80, 97, 114, 116, 32, 50]⟩ (by decide)
  have e : bStr (foldS (⟨#[84, 104, 101, 32, 82, 97, 105, 110, 44, 32, 80, 97, 114, 116, 32, 50]⟩ : ByteArray).data.toList) = ⟨#[114, 97, 105, 110, 32, 112, 97, 114, 116, 32, 50]⟩ := by
    show bStr (foldS [84, 104, 101, 32, 82, 97, 105, 110, 44, 32, 80, 97, 114, 116, 32, 50]) = _
    rw [rain_fold]
    rfl
  rw [e] at h
  exact h


set_option maxRecDepth 100000 in
set_option maxHeartbeats 1000000 in
theorem c_awake  : ACall Tryd.prog 8 [] (.v (.bool true)) := by
  refine acall_of (n := 3) (ds' := [.v (.bool true)]) Tryd.func8 rfl (by kernel_rfl) rfl [0] rfl rfl ?_
  intro B w0 F0 fr
  refine AWP.seq ?_
  refine AWP.region ?_
  refine AOps.step rfl rfl rfl (AOp.assignD rfl rfl) ?_
  refine AOps.nil ?_
  refine AWP.seq ?_
  refine AWP.region ?_
  refine AOps.step rfl rfl rfl (AOp.call rfl (.cons (ArgOk.rfl' rfl) .nil) c_rain) ?_
  refine AOps.step rfl rfl rfl (AOp.seql rfl rfl rfl) ?_
  refine AOps.step rfl rfl rfl (AOp.assignD rfl rfl) ?_
  refine AOps.nil ?_
  refine AWP.ret ?_
  refine ⟨RetD.eq rfl ?_, trivial⟩
  all_goals (simp)

set_option maxRecDepth 100000 in
set_option maxHeartbeats 1000000 in
theorem lawFold (s : ByteArray) (hs : s.size ≤ 1048576) : ACallT Tryd.prog TabT 3 [.v (.string s)] (.v (.bool true)) := by
  refine acall_ofT (n := 13) (ds' := [.v (.bool true)]) Tryd.func3 rfl (by kernel_rfl) rfl [2] rfl rfl ?_
  intro B w0 F0 hT
  refine AWP.seq ?_
  refine AWP.region ?_
  refine AOps.step rfl rfl rfl (AOp.assignD rfl rfl) ?_
  refine AOps.nil ?_
  refine AWP.seq ?_
  refine AWP.region ?_
  refine AOps.step rfl rfl rfl (AOp.moveD rfl rfl) ?_
  refine AOps.step rfl rfl rfl (AOp.call rfl (.cons (ArgOk.rfl' rfl) .nil) (c_pFold s hs)) ?_
  refine AOps.step rfl rfl rfl (AOp.assignD rfl rfl) ?_
  refine AOps.nil ?_
  refine AWP.seq ?_
  refine AWP.region ?_
  refine AOps.step rfl rfl rfl (AOp.moveD rfl rfl) ?_
  refine AOps.step rfl rfl rfl (AOp.moveD rfl rfl) ?_
  -- wants the world
  refine AOps.callT rfl rfl rfl hT tabT_stays rfl (.cons (ArgOk.rfl' rfl) .nil) (c_rFold s hs) ?_
  refine AOps.step rfl rfl rfl (AOp.seql rfl rfl rfl) ?_
  refine AOps.step rfl rfl rfl (AOp.moveD rfl rfl) ?_
  refine AOps.split 10 rfl (fun g1 => ?_) (fun g1 => ?_)
  · replace g1 := of_decide_eq_true g1
    refine AOps.step ⟨10, rfl, .inl ⟨_, rfl, rfl⟩⟩ rfl rfl (AOp.call rfl .nil c_awake) ?_
    refine AOps.step rfl rfl rfl (AOp.pickT rfl rfl rfl) ?_
    refine AOps.step rfl rfl rfl (AOp.assignD rfl rfl) ?_
    refine AOps.nil ?_
    refine AWP.ret ?_
    refine ⟨RetD.eq rfl ?_, trivial⟩
    all_goals (simp)
  · replace g1 := of_decide_eq_false g1
    exact absurd rfl g1

end Go.Proofs.YtajghehicmlajaaDoor
