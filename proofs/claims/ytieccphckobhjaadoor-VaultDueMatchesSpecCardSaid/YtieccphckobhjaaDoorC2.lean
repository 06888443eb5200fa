/- Walks over abstract values. Printed by tools/gen.py. No statement of the seat. -/
import Derived.Test.YtieccphckobhjaaDoorC1
namespace Go.Proofs.YtieccphckobhjaaDoor
open Go.RowKit
set_option linter.unusedVariables false

/-! Types. -/
namespace TyC2
theorem ag_69 : AggT Tryd.prog 69 2 := .of (by kernel_rfl)
theorem ag_73 : AggT Tryd.prog 73 5 := .of (by kernel_rfl)
theorem et_22 : ElemTy Tryd.prog 22 69 2 24 (.agg #[(.string ⟨#[]⟩), (.int .i64 0)]) := ⟨by kernel_rfl, by kernel_rfl, by kernel_rfl, by decide⟩
theorem et_23 : ElemTy Tryd.prog 23 73 5 64 (.agg #[(.string ⟨#[]⟩), (.string ⟨#[]⟩), (.string ⟨#[]⟩), (.int .i64 0), (.int .i64 0)]) := ⟨by kernel_rfl, by kernel_rfl, by kernel_rfl, by decide⟩
theorem fo_26_0 : fieldOff Tryd.prog 26 0 = some 0 := by kernel_rfl
theorem fo_26_1 : fieldOff Tryd.prog 26 1 = some 1 := by kernel_rfl
theorem fo_28_0 : fieldOff Tryd.prog 28 0 = some 0 := by kernel_rfl
theorem fo_28_1 : fieldOff Tryd.prog 28 1 = some 1 := by kernel_rfl
theorem fo_28_2 : fieldOff Tryd.prog 28 2 = some 2 := by kernel_rfl
theorem fo_28_3 : fieldOff Tryd.prog 28 3 = some 3 := by kernel_rfl
theorem fo_28_4 : fieldOff Tryd.prog 28 4 = some 4 := by kernel_rfl
theorem fo_28_5 : fieldOff Tryd.prog 28 5 = some 5 := by kernel_rfl
theorem fo_69_0 : fieldOff Tryd.prog 69 0 = some 0 := by kernel_rfl
theorem fo_73_0 : fieldOff Tryd.prog 73 0 = some 0 := by kernel_rfl
theorem sc_22 : Scal Tryd.prog 22 := .of (by kernel_rfl)
theorem sc_23 : Scal Tryd.prog 23 := .of (by kernel_rfl)
theorem sc_3 : Scal Tryd.prog 3 := .of (by kernel_rfl)
theorem sc_9 : Scal Tryd.prog 9 := .of (by kernel_rfl)
theorem sz_69 : ∀ w, (sizeOf 69).run Tryd.prog w = .ok 2 w := SizeT.of (by kernel_rfl)
theorem sz_73 : ∀ w, (sizeOf 73).run Tryd.prog w = .ok 5 w := SizeT.of (by kernel_rfl)
theorem zt_69 : (Tryd.prog.info? 69).bind (·.zero) = some (.agg #[(.string ⟨#[]⟩), (.int .i64 0)]) := by kernel_rfl
theorem zt_73 : (Tryd.prog.info? 73).bind (·.zero) = some (.agg #[(.string ⟨#[]⟩), (.string ⟨#[]⟩), (.string ⟨#[]⟩), (.int .i64 0), (.int .i64 0)]) := by kernel_rfl
end TyC2
open TyC2

set_option maxRecDepth 100000 in
set_option maxHeartbeats 1000000 in
theorem c_rWithin (n a b : Int) : ACall Tryd.prog 40 [.v (.int .i64 n), .v (.int .i64 a), .v (.int .i64 b)] (.v (.bool (decide (a ≤ n ∧ n ≤ b)))) := by
  refine acall_of (n := 15) (ds' := [.v (.bool (decide (a ≤ n ∧ n ≤ b)))]) Tryd.func40 rfl (by kernel_rfl) rfl [6] rfl rfl ?_
  intro B w0 F0 fr
  refine AWP.seq ?_
  refine AWP.region ?_
  refine AOps.step rfl rfl rfl (AOp.assignD rfl rfl) ?_
  refine AOps.nil ?_
  refine AWP.seq ?_
  refine AWP.region ?_
  refine AOps.step rfl rfl rfl (AOp.moveD rfl rfl) ?_
  refine AOps.step rfl rfl rfl (AOp.moveD rfl rfl) ?_
  refine AOps.step rfl rfl rfl (AOp.leq rfl rfl rfl) ?_
  refine AOps.step rfl rfl rfl (AOp.moveD rfl rfl) ?_
  refine AOps.split 10 rfl (fun g1 => ?_) (fun g1 => ?_)
  · replace g1 := of_decide_eq_true g1
    refine AOps.step ⟨10, rfl, .inl ⟨_, rfl, rfl⟩⟩ rfl rfl (AOp.moveD rfl rfl) ?_
    refine AOps.step ⟨10, rfl, .inl ⟨_, rfl, rfl⟩⟩ rfl rfl (AOp.moveD rfl rfl) ?_
    refine AOps.step ⟨10, rfl, .inl ⟨_, rfl, rfl⟩⟩ rfl rfl (AOp.leq rfl rfl rfl) ?_
    refine AOps.step rfl rfl rfl (AOp.pickT rfl rfl rfl) ?_
    refine AOps.step rfl rfl rfl (AOp.assignD rfl rfl) ?_
    refine AOps.nil ?_
    refine AWP.ret ?_
    refine ⟨RetD.eq rfl ?_, trivial⟩
    all_goals (simp; omega)
  · replace g1 := of_decide_eq_false g1
    refine AOps.pass ⟨10, rfl, .inl ⟨_, rfl, rfl⟩⟩ rfl rfl ?_
    refine AOps.pass ⟨10, rfl, .inl ⟨_, rfl, rfl⟩⟩ rfl rfl ?_
    refine AOps.pass ⟨10, rfl, .inl ⟨_, rfl, rfl⟩⟩ rfl rfl ?_
    refine AOps.step rfl rfl rfl (AOp.pickF rfl rfl rfl) ?_
    refine AOps.step rfl rfl rfl (AOp.assignD rfl rfl) ?_
    refine AOps.nil ?_
    refine AWP.ret ?_
    refine ⟨RetD.eq rfl ?_, trivial⟩
    all_goals (simp; omega)

set_option maxRecDepth 100000 in
set_option maxHeartbeats 1000000 in
theorem c_pWithin (n a b : Int) : ACall Tryd.prog 29 [.v (.int .i64 n), .v (.int .i64 a), .v (.int .i64 b)] (.v (.bool (decide (a ≤ n ∧ n ≤ b)))) := by
  refine acall_of (n := 15) (ds' := [.v (.bool (decide (a ≤ n ∧ n ≤ b)))]) Tryd.func29 rfl (by kernel_rfl) rfl [6] rfl rfl ?_
  intro B w0 F0 fr
  refine AWP.seq ?_
  refine AWP.region ?_
  refine AOps.step rfl rfl rfl (AOp.assignD rfl rfl) ?_
  refine AOps.nil ?_
  refine AWP.seq ?_
  refine AWP.region ?_
  refine AOps.step rfl rfl rfl (AOp.moveD rfl rfl) ?_
  refine AOps.step rfl rfl rfl (AOp.moveD rfl rfl) ?_
  refine AOps.step rfl rfl rfl (AOp.geq rfl rfl rfl) ?_
  refine AOps.step rfl rfl rfl (AOp.moveD rfl rfl) ?_
  refine AOps.split 10 rfl (fun g1 => ?_) (fun g1 => ?_)
  · replace g1 := of_decide_eq_true g1
    refine AOps.step ⟨10, rfl, .inl ⟨_, rfl, rfl⟩⟩ rfl rfl (AOp.moveD rfl rfl) ?_
    refine AOps.step ⟨10, rfl, .inl ⟨_, rfl, rfl⟩⟩ rfl rfl (AOp.moveD rfl rfl) ?_
    refine AOps.step ⟨10, rfl, .inl ⟨_, rfl, rfl⟩⟩ rfl rfl (AOp.leq rfl rfl rfl) ?_
    refine AOps.step rfl rfl rfl (AOp.pickT rfl rfl rfl) ?_
    refine AOps.step rfl rfl rfl (AOp.assignD rfl rfl) ?_
    refine AOps.nil ?_
    refine AWP.ret ?_
    refine ⟨RetD.eq rfl ?_, trivial⟩
    all_goals (simp; omega)
  · replace g1 := of_decide_eq_false g1
    refine AOps.pass ⟨10, rfl, .inl ⟨_, rfl, rfl⟩⟩ rfl rfl ?_
    refine AOps.pass ⟨10, rfl, .inl ⟨_, rfl, rfl⟩⟩ rfl rfl ?_
    refine AOps.pass ⟨10, rfl, .inl ⟨_, rfl, rfl⟩⟩ rfl rfl ?_
    refine AOps.step rfl rfl rfl (AOp.pickF rfl rfl rfl) ?_
    refine AOps.step rfl rfl rfl (AOp.assignD rfl rfl) ?_
    refine AOps.nil ?_
    refine AWP.ret ?_
    refine ⟨RetD.eq rfl ?_, trivial⟩
    all_goals (simp; omega)

set_option maxRecDepth 100000 in
set_option maxHeartbeats 1000000 in
theorem c_pDay (n : Int) : ACall Tryd.prog 30 [.v (.int .i64 n)] (.v (.bool (decide (0 ≤ n ∧ n ≤ 200000)))) := by
  refine acall_of (n := 5) (ds' := [.v (.bool (decide (0 ≤ n ∧ n ≤ 200000)))]) Tryd.func30 rfl (by kernel_rfl) rfl [2] rfl rfl ?_
  intro B w0 F0 fr
  refine AWP.seq ?_
  refine AWP.region ?_
  refine AOps.step rfl rfl rfl (AOp.assignD rfl rfl) ?_
  refine AOps.nil ?_
  refine AWP.seq ?_
  refine AWP.region ?_
  refine AOps.step rfl rfl rfl (AOp.moveD rfl rfl) ?_
  refine AOps.step rfl rfl rfl (AOp.call rfl (.cons (ArgOk.rfl' rfl) (.cons (ArgOk.rfl' rfl) (.cons (ArgOk.rfl' rfl) .nil))) (c_pWithin _ _ _)) ?_
  refine AOps.step rfl rfl rfl (AOp.assignD rfl rfl) ?_
  refine AOps.nil ?_
  refine AWP.ret ?_
  refine ⟨RetD.eq rfl ?_, trivial⟩
  all_goals (rfl)

set_option maxRecDepth 100000 in
set_option maxHeartbeats 1000000 in
theorem c_rDay (n : Int) : ACall Tryd.prog 81 [.v (.int .i64 n)] (.v (.bool (decide (0 ≤ n ∧ n ≤ 200000)))) := by
  refine acall_of (n := 5) (ds' := [.v (.bool (decide (0 ≤ n ∧ n ≤ 200000)))]) Tryd.func81 rfl (by kernel_rfl) rfl [2] rfl rfl ?_
  intro B w0 F0 fr
  refine AWP.seq ?_
  refine AWP.region ?_
  refine AOps.step rfl rfl rfl (AOp.assignD rfl rfl) ?_
  refine AOps.nil ?_
  refine AWP.seq ?_
  refine AWP.region ?_
  refine AOps.step rfl rfl rfl (AOp.moveD rfl rfl) ?_
  refine AOps.step rfl rfl rfl (AOp.call rfl (.cons (ArgOk.rfl' rfl) (.cons (ArgOk.rfl' rfl) (.cons (ArgOk.rfl' rfl) .nil))) (c_rWithin _ _ _)) ?_
  refine AOps.step rfl rfl rfl (AOp.assignD rfl rfl) ?_
  refine AOps.nil ?_
  refine AWP.ret ?_
  refine ⟨RetD.eq rfl ?_, trivial⟩
  all_goals (rfl)

set_option maxRecDepth 100000 in
set_option maxHeartbeats 1000000 in
theorem c_pPol (p : Pol) : ACall Tryd.prog 11 [.agg p.ds] (.v (.int .i64 (polFault p))) := by
  refine acall_of (n := 41) (ds' := [.v (.int .i64 (polFault p))]) Tryd.func11 rfl (by kernel_rfl) rfl [2] rfl rfl ?_
  intro B w0 F0 fr
  refine AWP.seq ?_
  refine AWP.region ?_
  refine AOps.step rfl rfl rfl (AOp.box rfl rfl rfl) ?_
  refine AOps.step rfl rfl rfl (AOp.assignD rfl rfl) ?_
  refine AOps.nil ?_
  refine AWP.seq ?_
  refine AWP.seq ?_
  refine AWP.region ?_
  refine AOps.step rfl rfl rfl (AOp.fieldAddr rfl fo_28_0 rfl) ?_
  refine AOps.step rfl rfl rfl (AOp.load rfl sc_3 rfl) ?_
  refine AOps.step rfl rfl rfl (AOp.call rfl (.cons (ArgOk.rfl' rfl) (.cons (ArgOk.rfl' rfl) (.cons (ArgOk.rfl' rfl) .nil))) (c_pWithin _ _ _)) ?_
  refine AOps.step rfl rfl rfl (AOp.not rfl rfl) ?_
  refine AOps.step rfl rfl rfl (AOp.moveD rfl rfl) ?_
  refine AOps.split 7 rfl (fun g1 => ?_) (fun g1 => ?_)
  · replace g1 := bnot_t g1; replace g1 := of_decide_eq_false g1
    refine AOps.pass ⟨7, rfl, .inl ⟨_, rfl, rfl⟩⟩ rfl rfl ?_
    refine AOps.pass ⟨7, rfl, .inl ⟨_, rfl, rfl⟩⟩ rfl rfl ?_
    refine AOps.pass ⟨7, rfl, .inl ⟨_, rfl, rfl⟩⟩ rfl rfl ?_
    refine AOps.pass ⟨7, rfl, .inl ⟨_, rfl, rfl⟩⟩ rfl rfl ?_
    refine AOps.pass ⟨7, rfl, .inl ⟨_, rfl, rfl⟩⟩ rfl rfl ?_
    refine AOps.pass ⟨7, rfl, .inl ⟨_, rfl, rfl⟩⟩ rfl rfl ?_
    refine AOps.step rfl rfl rfl (AOp.pickT rfl rfl rfl) ?_
    refine AOps.step rfl rfl rfl (AOp.moveD rfl rfl) ?_
    refine AOps.pass ⟨15, rfl, .inl ⟨_, rfl, rfl⟩⟩ rfl rfl ?_
    refine AOps.pass ⟨15, rfl, .inl ⟨_, rfl, rfl⟩⟩ rfl rfl ?_
    refine AOps.pass ⟨15, rfl, .inl ⟨_, rfl, rfl⟩⟩ rfl rfl ?_
    refine AOps.pass ⟨15, rfl, .inl ⟨_, rfl, rfl⟩⟩ rfl rfl ?_
    refine AOps.pass ⟨15, rfl, .inl ⟨_, rfl, rfl⟩⟩ rfl rfl ?_
    refine AOps.pass ⟨15, rfl, .inl ⟨_, rfl, rfl⟩⟩ rfl rfl ?_
    refine AOps.step rfl rfl rfl (AOp.pickT rfl rfl rfl) ?_
    refine AOps.step rfl rfl rfl (AOp.moveD rfl rfl) ?_
    refine AOps.pass ⟨23, rfl, .inl ⟨_, rfl, rfl⟩⟩ rfl rfl ?_
    refine AOps.pass ⟨23, rfl, .inl ⟨_, rfl, rfl⟩⟩ rfl rfl ?_
    refine AOps.pass ⟨23, rfl, .inl ⟨_, rfl, rfl⟩⟩ rfl rfl ?_
    refine AOps.pass ⟨23, rfl, .inl ⟨_, rfl, rfl⟩⟩ rfl rfl ?_
    refine AOps.step rfl rfl rfl (AOp.pickT rfl rfl rfl) ?_
    refine AOps.step rfl rfl rfl (AOp.moveD rfl rfl) ?_
    refine AOps.pass ⟨29, rfl, .inl ⟨_, rfl, rfl⟩⟩ rfl rfl ?_
    refine AOps.pass ⟨29, rfl, .inl ⟨_, rfl, rfl⟩⟩ rfl rfl ?_
    refine AOps.pass ⟨29, rfl, .inl ⟨_, rfl, rfl⟩⟩ rfl rfl ?_
    refine AOps.pass ⟨29, rfl, .inl ⟨_, rfl, rfl⟩⟩ rfl rfl ?_
    refine AOps.step rfl rfl rfl (AOp.pickT rfl rfl rfl) ?_
    refine AOps.step rfl rfl rfl (AOp.moveD rfl rfl) ?_
    refine AOps.pass ⟨35, rfl, .inl ⟨_, rfl, rfl⟩⟩ rfl rfl ?_
    refine AOps.pass ⟨35, rfl, .inl ⟨_, rfl, rfl⟩⟩ rfl rfl ?_
    refine AOps.pass ⟨35, rfl, .inl ⟨_, rfl, rfl⟩⟩ rfl rfl ?_
    refine AOps.pass ⟨35, rfl, .inl ⟨_, rfl, rfl⟩⟩ rfl rfl ?_
    refine AOps.step rfl rfl rfl (AOp.pickT rfl rfl rfl) ?_
    refine AOps.nil ?_
    refine AWP.cond rfl (fun _ => ?_) (fun h => nomatch h)
    refine AWP.seq ?_
    refine AWP.region ?_
    refine AOps.step rfl rfl rfl (AOp.assignD rfl rfl) ?_
    refine AOps.nil ?_
    refine AWP.ret ?_
    refine ⟨RetD.eq rfl ?_, trivial⟩
    all_goals (unfold polFault; first | (rw [if_pos (by omega)]) | (rw [if_neg (by omega)]))
  · replace g1 := bnot_f g1; replace g1 := of_decide_eq_true g1
    refine AOps.step ⟨7, rfl, .inl ⟨_, rfl, rfl⟩⟩ rfl rfl (AOp.fieldAddr rfl fo_28_1 rfl) ?_
    refine AOps.step ⟨7, rfl, .inl ⟨_, rfl, rfl⟩⟩ rfl rfl (AOp.load rfl sc_3 rfl) ?_
    refine AOps.step ⟨7, rfl, .inl ⟨_, rfl, rfl⟩⟩ rfl rfl (AOp.fieldAddr rfl fo_28_0 rfl) ?_
    refine AOps.step ⟨7, rfl, .inl ⟨_, rfl, rfl⟩⟩ rfl rfl (AOp.load rfl sc_3 rfl) ?_
    refine AOps.step ⟨7, rfl, .inl ⟨_, rfl, rfl⟩⟩ rfl rfl (AOp.call rfl (.cons (ArgOk.rfl' rfl) (.cons (ArgOk.rfl' rfl) (.cons (ArgOk.rfl' rfl) .nil))) (c_pWithin _ _ _)) ?_
    refine AOps.step ⟨7, rfl, .inl ⟨_, rfl, rfl⟩⟩ rfl rfl (AOp.not rfl rfl) ?_
    refine AOps.step rfl rfl rfl (AOp.pickF rfl rfl rfl) ?_
    refine AOps.step rfl rfl rfl (AOp.moveD rfl rfl) ?_
    refine AOps.split 15 rfl (fun g2 => ?_) (fun g2 => ?_)
    · replace g2 := bnot_t g2; replace g2 := of_decide_eq_false g2
      refine AOps.pass ⟨15, rfl, .inl ⟨_, rfl, rfl⟩⟩ rfl rfl ?_
      refine AOps.pass ⟨15, rfl, .inl ⟨_, rfl, rfl⟩⟩ rfl rfl ?_
      refine AOps.pass ⟨15, rfl, .inl ⟨_, rfl, rfl⟩⟩ rfl rfl ?_
      refine AOps.pass ⟨15, rfl, .inl ⟨_, rfl, rfl⟩⟩ rfl rfl ?_
      refine AOps.pass ⟨15, rfl, .inl ⟨_, rfl, rfl⟩⟩ rfl rfl ?_
      refine AOps.pass ⟨15, rfl, .inl ⟨_, rfl, rfl⟩⟩ rfl rfl ?_
      refine AOps.step rfl rfl rfl (AOp.pickT rfl rfl rfl) ?_
      refine AOps.step rfl rfl rfl (AOp.moveD rfl rfl) ?_
      refine AOps.pass ⟨23, rfl, .inl ⟨_, rfl, rfl⟩⟩ rfl rfl ?_
      refine AOps.pass ⟨23, rfl, .inl ⟨_, rfl, rfl⟩⟩ rfl rfl ?_
      refine AOps.pass ⟨23, rfl, .inl ⟨_, rfl, rfl⟩⟩ rfl rfl ?_
      refine AOps.pass ⟨23, rfl, .inl ⟨_, rfl, rfl⟩⟩ rfl rfl ?_
      refine AOps.step rfl rfl rfl (AOp.pickT rfl rfl rfl) ?_
      refine AOps.step rfl rfl rfl (AOp.moveD rfl rfl) ?_
      refine AOps.pass ⟨29, rfl, .inl ⟨_, rfl, rfl⟩⟩ rfl rfl ?_
      refine AOps.pass ⟨29, rfl, .inl ⟨_, rfl, rfl⟩⟩ rfl rfl ?_
      refine AOps.pass ⟨29, rfl, .inl ⟨_, rfl, rfl⟩⟩ rfl rfl ?_
      refine AOps.pass ⟨29, rfl, .inl ⟨_, rfl, rfl⟩⟩ rfl rfl ?_
      refine AOps.step rfl rfl rfl (AOp.pickT rfl rfl rfl) ?_
      refine AOps.step rfl rfl rfl (AOp.moveD rfl rfl) ?_
      refine AOps.pass ⟨35, rfl, .inl ⟨_, rfl, rfl⟩⟩ rfl rfl ?_
      refine AOps.pass ⟨35, rfl, .inl ⟨_, rfl, rfl⟩⟩ rfl rfl ?_
      refine AOps.pass ⟨35, rfl, .inl ⟨_, rfl, rfl⟩⟩ rfl rfl ?_
      refine AOps.pass ⟨35, rfl, .inl ⟨_, rfl, rfl⟩⟩ rfl rfl ?_
      refine AOps.step rfl rfl rfl (AOp.pickT rfl rfl rfl) ?_
      refine AOps.nil ?_
      refine AWP.cond rfl (fun _ => ?_) (fun h => nomatch h)
      refine AWP.seq ?_
      refine AWP.region ?_
      refine AOps.step rfl rfl rfl (AOp.assignD rfl rfl) ?_
      refine AOps.nil ?_
      refine AWP.ret ?_
      refine ⟨RetD.eq rfl ?_, trivial⟩
      all_goals (unfold polFault; first | (rw [if_pos (by omega)]) | (rw [if_neg (by omega)]))
    · replace g2 := bnot_f g2; replace g2 := of_decide_eq_true g2
      refine AOps.step ⟨15, rfl, .inl ⟨_, rfl, rfl⟩⟩ rfl rfl (AOp.fieldAddr rfl fo_28_2 rfl) ?_
      refine AOps.step ⟨15, rfl, .inl ⟨_, rfl, rfl⟩⟩ rfl rfl (AOp.load rfl sc_3 rfl) ?_
      refine AOps.step ⟨15, rfl, .inl ⟨_, rfl, rfl⟩⟩ rfl rfl (AOp.fieldAddr rfl fo_28_0 rfl) ?_
      refine AOps.step ⟨15, rfl, .inl ⟨_, rfl, rfl⟩⟩ rfl rfl (AOp.load rfl sc_3 rfl) ?_
      refine AOps.step ⟨15, rfl, .inl ⟨_, rfl, rfl⟩⟩ rfl rfl (AOp.call rfl (.cons (ArgOk.rfl' rfl) (.cons (ArgOk.rfl' rfl) (.cons (ArgOk.rfl' rfl) .nil))) (c_pWithin _ _ _)) ?_
      refine AOps.step ⟨15, rfl, .inl ⟨_, rfl, rfl⟩⟩ rfl rfl (AOp.not rfl rfl) ?_
      refine AOps.step rfl rfl rfl (AOp.pickF rfl rfl rfl) ?_
      refine AOps.step rfl rfl rfl (AOp.moveD rfl rfl) ?_
      refine AOps.split 23 rfl (fun g3 => ?_) (fun g3 => ?_)
      · replace g3 := bnot_t g3; replace g3 := of_decide_eq_false g3
        refine AOps.pass ⟨23, rfl, .inl ⟨_, rfl, rfl⟩⟩ rfl rfl ?_
        refine AOps.pass ⟨23, rfl, .inl ⟨_, rfl, rfl⟩⟩ rfl rfl ?_
        refine AOps.pass ⟨23, rfl, .inl ⟨_, rfl, rfl⟩⟩ rfl rfl ?_
        refine AOps.pass ⟨23, rfl, .inl ⟨_, rfl, rfl⟩⟩ rfl rfl ?_
        refine AOps.step rfl rfl rfl (AOp.pickT rfl rfl rfl) ?_
        refine AOps.step rfl rfl rfl (AOp.moveD rfl rfl) ?_
        refine AOps.pass ⟨29, rfl, .inl ⟨_, rfl, rfl⟩⟩ rfl rfl ?_
        refine AOps.pass ⟨29, rfl, .inl ⟨_, rfl, rfl⟩⟩ rfl rfl ?_
        refine AOps.pass ⟨29, rfl, .inl ⟨_, rfl, rfl⟩⟩ rfl rfl ?_
        refine AOps.pass ⟨29, rfl, .inl ⟨_, rfl, rfl⟩⟩ rfl rfl ?_
        refine AOps.step rfl rfl rfl (AOp.pickT rfl rfl rfl) ?_
        refine AOps.step rfl rfl rfl (AOp.moveD rfl rfl) ?_
        refine AOps.pass ⟨35, rfl, .inl ⟨_, rfl, rfl⟩⟩ rfl rfl ?_
        refine AOps.pass ⟨35, rfl, .inl ⟨_, rfl, rfl⟩⟩ rfl rfl ?_
        refine AOps.pass ⟨35, rfl, .inl ⟨_, rfl, rfl⟩⟩ rfl rfl ?_
        refine AOps.pass ⟨35, rfl, .inl ⟨_, rfl, rfl⟩⟩ rfl rfl ?_
        refine AOps.step rfl rfl rfl (AOp.pickT rfl rfl rfl) ?_
        refine AOps.nil ?_
        refine AWP.cond rfl (fun _ => ?_) (fun h => nomatch h)
        refine AWP.seq ?_
        refine AWP.region ?_
        refine AOps.step rfl rfl rfl (AOp.assignD rfl rfl) ?_
        refine AOps.nil ?_
        refine AWP.ret ?_
        refine ⟨RetD.eq rfl ?_, trivial⟩
        all_goals (unfold polFault; first | (rw [if_pos (by omega)]) | (rw [if_neg (by omega)]))
      · replace g3 := bnot_f g3; replace g3 := of_decide_eq_true g3
        refine AOps.step ⟨23, rfl, .inl ⟨_, rfl, rfl⟩⟩ rfl rfl (AOp.fieldAddr rfl fo_28_3 rfl) ?_
        refine AOps.step ⟨23, rfl, .inl ⟨_, rfl, rfl⟩⟩ rfl rfl (AOp.load rfl sc_3 rfl) ?_
        refine AOps.step ⟨23, rfl, .inl ⟨_, rfl, rfl⟩⟩ rfl rfl (AOp.call rfl (.cons (ArgOk.rfl' rfl) (.cons (ArgOk.rfl' rfl) (.cons (ArgOk.rfl' rfl) .nil))) (c_pWithin _ _ _)) ?_
        refine AOps.step ⟨23, rfl, .inl ⟨_, rfl, rfl⟩⟩ rfl rfl (AOp.not rfl rfl) ?_
        refine AOps.step rfl rfl rfl (AOp.pickF rfl rfl rfl) ?_
        refine AOps.step rfl rfl rfl (AOp.moveD rfl rfl) ?_
        refine AOps.split 29 rfl (fun g4 => ?_) (fun g4 => ?_)
        · replace g4 := bnot_t g4; replace g4 := of_decide_eq_false g4
          refine AOps.pass ⟨29, rfl, .inl ⟨_, rfl, rfl⟩⟩ rfl rfl ?_
          refine AOps.pass ⟨29, rfl, .inl ⟨_, rfl, rfl⟩⟩ rfl rfl ?_
          refine AOps.pass ⟨29, rfl, .inl ⟨_, rfl, rfl⟩⟩ rfl rfl ?_
          refine AOps.pass ⟨29, rfl, .inl ⟨_, rfl, rfl⟩⟩ rfl rfl ?_
          refine AOps.step rfl rfl rfl (AOp.pickT rfl rfl rfl) ?_
          refine AOps.step rfl rfl rfl (AOp.moveD rfl rfl) ?_
          refine AOps.pass ⟨35, rfl, .inl ⟨_, rfl, rfl⟩⟩ rfl rfl ?_
          refine AOps.pass ⟨35, rfl, .inl ⟨_, rfl, rfl⟩⟩ rfl rfl ?_
          refine AOps.pass ⟨35, rfl, .inl ⟨_, rfl, rfl⟩⟩ rfl rfl ?_
          refine AOps.pass ⟨35, rfl, .inl ⟨_, rfl, rfl⟩⟩ rfl rfl ?_
          refine AOps.step rfl rfl rfl (AOp.pickT rfl rfl rfl) ?_
          refine AOps.nil ?_
          refine AWP.cond rfl (fun _ => ?_) (fun h => nomatch h)
          refine AWP.seq ?_
          refine AWP.region ?_
          refine AOps.step rfl rfl rfl (AOp.assignD rfl rfl) ?_
          refine AOps.nil ?_
          refine AWP.ret ?_
          refine ⟨RetD.eq rfl ?_, trivial⟩
          all_goals (unfold polFault; first | (rw [if_pos (by omega)]) | (rw [if_neg (by omega)]))
        · replace g4 := bnot_f g4; replace g4 := of_decide_eq_true g4
          refine AOps.step ⟨29, rfl, .inl ⟨_, rfl, rfl⟩⟩ rfl rfl (AOp.fieldAddr rfl fo_28_4 rfl) ?_
          refine AOps.step ⟨29, rfl, .inl ⟨_, rfl, rfl⟩⟩ rfl rfl (AOp.load rfl sc_3 rfl) ?_
          refine AOps.step ⟨29, rfl, .inl ⟨_, rfl, rfl⟩⟩ rfl rfl (AOp.call rfl (.cons (ArgOk.rfl' rfl) (.cons (ArgOk.rfl' rfl) (.cons (ArgOk.rfl' rfl) .nil))) (c_pWithin _ _ _)) ?_
          refine AOps.step ⟨29, rfl, .inl ⟨_, rfl, rfl⟩⟩ rfl rfl (AOp.not rfl rfl) ?_
          refine AOps.step rfl rfl rfl (AOp.pickF rfl rfl rfl) ?_
          refine AOps.step rfl rfl rfl (AOp.moveD rfl rfl) ?_
          refine AOps.split 35 rfl (fun g5 => ?_) (fun g5 => ?_)
          · replace g5 := bnot_t g5; replace g5 := of_decide_eq_false g5
            refine AOps.pass ⟨35, rfl, .inl ⟨_, rfl, rfl⟩⟩ rfl rfl ?_
            refine AOps.pass ⟨35, rfl, .inl ⟨_, rfl, rfl⟩⟩ rfl rfl ?_
            refine AOps.pass ⟨35, rfl, .inl ⟨_, rfl, rfl⟩⟩ rfl rfl ?_
            refine AOps.pass ⟨35, rfl, .inl ⟨_, rfl, rfl⟩⟩ rfl rfl ?_
            refine AOps.step rfl rfl rfl (AOp.pickT rfl rfl rfl) ?_
            refine AOps.nil ?_
            refine AWP.cond rfl (fun _ => ?_) (fun h => nomatch h)
            refine AWP.seq ?_
            refine AWP.region ?_
            refine AOps.step rfl rfl rfl (AOp.assignD rfl rfl) ?_
            refine AOps.nil ?_
            refine AWP.ret ?_
            refine ⟨RetD.eq rfl ?_, trivial⟩
            all_goals (unfold polFault; first | (rw [if_pos (by omega)]) | (rw [if_neg (by omega)]))
          · replace g5 := bnot_f g5; replace g5 := of_decide_eq_true g5
            refine AOps.step ⟨35, rfl, .inl ⟨_, rfl, rfl⟩⟩ rfl rfl (AOp.fieldAddr rfl fo_28_5 rfl) ?_
            refine AOps.step ⟨35, rfl, .inl ⟨_, rfl, rfl⟩⟩ rfl rfl (AOp.load rfl sc_3 rfl) ?_
            refine AOps.step ⟨35, rfl, .inl ⟨_, rfl, rfl⟩⟩ rfl rfl (AOp.call rfl (.cons (ArgOk.rfl' rfl) (.cons (ArgOk.rfl' rfl) (.cons (ArgOk.rfl' rfl) .nil))) (c_pWithin _ _ _)) ?_
            refine AOps.step ⟨35, rfl, .inl ⟨_, rfl, rfl⟩⟩ rfl rfl (AOp.not rfl rfl) ?_
            refine AOps.step rfl rfl rfl (AOp.pickF rfl rfl rfl) ?_
            refine AOps.nil ?_
            refine AWP.cond rfl (fun h6 => ?_) (fun h6 => ?_)
            · replace h6 := bnot_t h6; replace h6 := of_decide_eq_false h6
              refine AWP.seq ?_
              refine AWP.region ?_
              refine AOps.step rfl rfl rfl (AOp.assignD rfl rfl) ?_
              refine AOps.nil ?_
              refine AWP.ret ?_
              refine ⟨RetD.eq rfl ?_, trivial⟩
              all_goals (unfold polFault; first | (rw [if_pos (by omega)]) | (rw [if_neg (by omega)]))
            · replace h6 := bnot_f h6; replace h6 := of_decide_eq_true h6
              refine AWP.skip ?_
              refine AWP.seq ?_
              refine AWP.region ?_
              refine AOps.step rfl rfl rfl (AOp.assignD rfl rfl) ?_
              refine AOps.nil ?_
              refine AWP.ret ?_
              refine ⟨RetD.eq rfl ?_, trivial⟩
              all_goals (unfold polFault; first | (rw [if_pos (by omega)]) | (rw [if_neg (by omega)]))

set_option maxRecDepth 100000 in
set_option maxHeartbeats 1000000 in
theorem c_rPol (p : Pol) : ACall Tryd.prog 12 [.agg p.ds] (.v (.int .i64 (polFault p))) := by
  refine acall_of (n := 41) (ds' := [.v (.int .i64 (polFault p))]) Tryd.func12 rfl (by kernel_rfl) rfl [2] rfl rfl ?_
  intro B w0 F0 fr
  refine AWP.seq ?_
  refine AWP.region ?_
  refine AOps.step rfl rfl rfl (AOp.box rfl rfl rfl) ?_
  refine AOps.step rfl rfl rfl (AOp.assignD rfl rfl) ?_
  refine AOps.nil ?_
  refine AWP.seq ?_
  refine AWP.seq ?_
  refine AWP.region ?_
  refine AOps.step rfl rfl rfl (AOp.fieldAddr rfl fo_28_0 rfl) ?_
  refine AOps.step rfl rfl rfl (AOp.load rfl sc_3 rfl) ?_
  refine AOps.step rfl rfl rfl (AOp.call rfl (.cons (ArgOk.rfl' rfl) (.cons (ArgOk.rfl' rfl) (.cons (ArgOk.rfl' rfl) .nil))) (c_rWithin _ _ _)) ?_
  refine AOps.step rfl rfl rfl (AOp.not rfl rfl) ?_
  refine AOps.step rfl rfl rfl (AOp.moveD rfl rfl) ?_
  refine AOps.split 7 rfl (fun g1 => ?_) (fun g1 => ?_)
  · replace g1 := bnot_t g1; replace g1 := of_decide_eq_false g1
    refine AOps.pass ⟨7, rfl, .inl ⟨_, rfl, rfl⟩⟩ rfl rfl ?_
    refine AOps.pass ⟨7, rfl, .inl ⟨_, rfl, rfl⟩⟩ rfl rfl ?_
    refine AOps.pass ⟨7, rfl, .inl ⟨_, rfl, rfl⟩⟩ rfl rfl ?_
    refine AOps.pass ⟨7, rfl, .inl ⟨_, rfl, rfl⟩⟩ rfl rfl ?_
    refine AOps.pass ⟨7, rfl, .inl ⟨_, rfl, rfl⟩⟩ rfl rfl ?_
    refine AOps.pass ⟨7, rfl, .inl ⟨_, rfl, rfl⟩⟩ rfl rfl ?_
    refine AOps.step rfl rfl rfl (AOp.pickT rfl rfl rfl) ?_
    refine AOps.step rfl rfl rfl (AOp.moveD rfl rfl) ?_
    refine AOps.pass ⟨15, rfl, .inl ⟨_, rfl, rfl⟩⟩ rfl rfl ?_
    refine AOps.pass ⟨15, rfl, .inl ⟨_, rfl, rfl⟩⟩ rfl rfl ?_
    refine AOps.pass ⟨15, rfl, .inl ⟨_, rfl, rfl⟩⟩ rfl rfl ?_
    refine AOps.pass ⟨15, rfl, .inl ⟨_, rfl, rfl⟩⟩ rfl rfl ?_
    refine AOps.pass ⟨15, rfl, .inl ⟨_, rfl, rfl⟩⟩ rfl rfl ?_
    refine AOps.pass ⟨15, rfl, .inl ⟨_, rfl, rfl⟩⟩ rfl rfl ?_
    refine AOps.step rfl rfl rfl (AOp.pickT rfl rfl rfl) ?_
    refine AOps.step rfl rfl rfl (AOp.moveD rfl rfl) ?_
    refine AOps.pass ⟨23, rfl, .inl ⟨_, rfl, rfl⟩⟩ rfl rfl ?_
    refine AOps.pass ⟨23, rfl, .inl ⟨_, rfl, rfl⟩⟩ rfl rfl ?_
    refine AOps.pass ⟨23, rfl, .inl ⟨_, rfl, rfl⟩⟩ rfl rfl ?_
    refine AOps.pass ⟨23, rfl, .inl ⟨_, rfl, rfl⟩⟩ rfl rfl ?_
    refine AOps.step rfl rfl rfl (AOp.pickT rfl rfl rfl) ?_
    refine AOps.step rfl rfl rfl (AOp.moveD rfl rfl) ?_
    refine AOps.pass ⟨29, rfl, .inl ⟨_, rfl, rfl⟩⟩ rfl rfl ?_
    refine AOps.pass ⟨29, rfl, .inl ⟨_, rfl, rfl⟩⟩ rfl rfl ?_
    refine AOps.pass ⟨29, rfl, .inl ⟨_, rfl, rfl⟩⟩ rfl rfl ?_
    refine AOps.pass ⟨29, rfl, .inl ⟨_, rfl, rfl⟩⟩ rfl rfl ?_
    refine AOps.step rfl rfl rfl (AOp.pickT rfl rfl rfl) ?_
    refine AOps.step rfl rfl rfl (AOp.moveD rfl rfl) ?_
    refine AOps.pass ⟨35, rfl, .inl ⟨_, rfl, rfl⟩⟩ rfl rfl ?_
    refine AOps.pass ⟨35, rfl, .inl ⟨_, rfl, rfl⟩⟩ rfl rfl ?_
    refine AOps.pass ⟨35, rfl, .inl ⟨_, rfl, rfl⟩⟩ rfl rfl ?_
    refine AOps.pass ⟨35, rfl, .inl ⟨_, rfl, rfl⟩⟩ rfl rfl ?_
    refine AOps.step rfl rfl rfl (AOp.pickT rfl rfl rfl) ?_
    refine AOps.nil ?_
    refine AWP.cond rfl (fun _ => ?_) (fun h => nomatch h)
    refine AWP.seq ?_
    refine AWP.region ?_
    refine AOps.step rfl rfl rfl (AOp.assignD rfl rfl) ?_
    refine AOps.nil ?_
    refine AWP.ret ?_
    refine ⟨RetD.eq rfl ?_, trivial⟩
    all_goals (unfold polFault; first | (rw [if_pos (by omega)]) | (rw [if_neg (by omega)]))
  · replace g1 := bnot_f g1; replace g1 := of_decide_eq_true g1
    refine AOps.step ⟨7, rfl, .inl ⟨_, rfl, rfl⟩⟩ rfl rfl (AOp.fieldAddr rfl fo_28_1 rfl) ?_
    refine AOps.step ⟨7, rfl, .inl ⟨_, rfl, rfl⟩⟩ rfl rfl (AOp.load rfl sc_3 rfl) ?_
    refine AOps.step ⟨7, rfl, .inl ⟨_, rfl, rfl⟩⟩ rfl rfl (AOp.fieldAddr rfl fo_28_0 rfl) ?_
    refine AOps.step ⟨7, rfl, .inl ⟨_, rfl, rfl⟩⟩ rfl rfl (AOp.load rfl sc_3 rfl) ?_
    refine AOps.step ⟨7, rfl, .inl ⟨_, rfl, rfl⟩⟩ rfl rfl (AOp.call rfl (.cons (ArgOk.rfl' rfl) (.cons (ArgOk.rfl' rfl) (.cons (ArgOk.rfl' rfl) .nil))) (c_rWithin _ _ _)) ?_
    refine AOps.step ⟨7, rfl, .inl ⟨_, rfl, rfl⟩⟩ rfl rfl (AOp.not rfl rfl) ?_
    refine AOps.step rfl rfl rfl (AOp.pickF rfl rfl rfl) ?_
    refine AOps.step rfl rfl rfl (AOp.moveD rfl rfl) ?_
    refine AOps.split 15 rfl (fun g2 => ?_) (fun g2 => ?_)
    · replace g2 := bnot_t g2; replace g2 := of_decide_eq_false g2
      refine AOps.pass ⟨15, rfl, .inl ⟨_, rfl, rfl⟩⟩ rfl rfl ?_
      refine AOps.pass ⟨15, rfl, .inl ⟨_, rfl, rfl⟩⟩ rfl rfl ?_
      refine AOps.pass ⟨15, rfl, .inl ⟨_, rfl, rfl⟩⟩ rfl rfl ?_
      refine AOps.pass ⟨15, rfl, .inl ⟨_, rfl, rfl⟩⟩ rfl rfl ?_
      refine AOps.pass ⟨15, rfl, .inl ⟨_, rfl, rfl⟩⟩ rfl rfl ?_
      refine AOps.pass ⟨15, rfl, .inl ⟨_, rfl, rfl⟩⟩ rfl rfl ?_
      refine AOps.step rfl rfl rfl (AOp.pickT rfl rfl rfl) ?_
      refine AOps.step rfl rfl rfl (AOp.moveD rfl rfl) ?_
      refine AOps.pass ⟨23, rfl, .inl ⟨_, rfl, rfl⟩⟩ rfl rfl ?_
      refine AOps.pass ⟨23, rfl, .inl ⟨_, rfl, rfl⟩⟩ rfl rfl ?_
      refine AOps.pass ⟨23, rfl, .inl ⟨_, rfl, rfl⟩⟩ rfl rfl ?_
      refine AOps.pass ⟨23, rfl, .inl ⟨_, rfl, rfl⟩⟩ rfl rfl ?_
      refine AOps.step rfl rfl rfl (AOp.pickT rfl rfl rfl) ?_
      refine AOps.step rfl rfl rfl (AOp.moveD rfl rfl) ?_
      refine AOps.pass ⟨29, rfl, .inl ⟨_, rfl, rfl⟩⟩ rfl rfl ?_
      refine AOps.pass ⟨29, rfl, .inl ⟨_, rfl, rfl⟩⟩ rfl rfl ?_
      refine AOps.pass ⟨29, rfl, .inl ⟨_, rfl, rfl⟩⟩ rfl rfl ?_
      refine AOps.pass ⟨29, rfl, .inl ⟨_, rfl, rfl⟩⟩ rfl rfl ?_
      refine AOps.step rfl rfl rfl (AOp.pickT rfl rfl rfl) ?_
      refine AOps.step rfl rfl rfl (AOp.moveD rfl rfl) ?_
      refine AOps.pass ⟨35, rfl, .inl ⟨_, rfl, rfl⟩⟩ rfl rfl ?_
      refine AOps.pass ⟨35, rfl, .inl ⟨_, rfl, rfl⟩⟩ rfl rfl ?_
      refine AOps.pass ⟨35, rfl, .inl ⟨_, rfl, rfl⟩⟩ rfl rfl ?_
      refine AOps.pass ⟨35, rfl, .inl ⟨_, rfl, rfl⟩⟩ rfl rfl ?_
      refine AOps.step rfl rfl rfl (AOp.pickT rfl rfl rfl) ?_
      refine AOps.nil ?_
      refine AWP.cond rfl (fun _ => ?_) (fun h => nomatch h)
      refine AWP.seq ?_
      refine AWP.region ?_
      refine AOps.step rfl rfl rfl (AOp.assignD rfl rfl) ?_
      refine AOps.nil ?_
      refine AWP.ret ?_
      refine ⟨RetD.eq rfl ?_, trivial⟩
      all_goals (unfold polFault; first | (rw [if_pos (by omega)]) | (rw [if_neg (by omega)]))
    · replace g2 := bnot_f g2; replace g2 := of_decide_eq_true g2
      refine AOps.step ⟨15, rfl, .inl ⟨_, rfl, rfl⟩⟩ rfl rfl (AOp.fieldAddr rfl fo_28_2 rfl) ?_
      refine AOps.step ⟨15, rfl, .inl ⟨_, rfl, rfl⟩⟩ rfl rfl (AOp.load rfl sc_3 rfl) ?_
      refine AOps.step ⟨15, rfl, .inl ⟨_, rfl, rfl⟩⟩ rfl rfl (AOp.fieldAddr rfl fo_28_0 rfl) ?_
      refine AOps.step ⟨15, rfl, .inl ⟨_, rfl, rfl⟩⟩ rfl rfl (AOp.load rfl sc_3 rfl) ?_
      refine AOps.step ⟨15, rfl, .inl ⟨_, rfl, rfl⟩⟩ rfl rfl (AOp.call rfl (.cons (ArgOk.rfl' rfl) (.cons (ArgOk.rfl' rfl) (.cons (ArgOk.rfl' rfl) .nil))) (c_rWithin _ _ _)) ?_
      refine AOps.step ⟨15, rfl, .inl ⟨_, rfl, rfl⟩⟩ rfl rfl (AOp.not rfl rfl) ?_
      refine AOps.step rfl rfl rfl (AOp.pickF rfl rfl rfl) ?_
      refine AOps.step rfl rfl rfl (AOp.moveD rfl rfl) ?_
      refine AOps.split 23 rfl (fun g3 => ?_) (fun g3 => ?_)
      · replace g3 := bnot_t g3; replace g3 := of_decide_eq_false g3
        refine AOps.pass ⟨23, rfl, .inl ⟨_, rfl, rfl⟩⟩ rfl rfl ?_
        refine AOps.pass ⟨23, rfl, .inl ⟨_, rfl, rfl⟩⟩ rfl rfl ?_
        refine AOps.pass ⟨23, rfl, .inl ⟨_, rfl, rfl⟩⟩ rfl rfl ?_
        refine AOps.pass ⟨23, rfl, .inl ⟨_, rfl, rfl⟩⟩ rfl rfl ?_
        refine AOps.step rfl rfl rfl (AOp.pickT rfl rfl rfl) ?_
        refine AOps.step rfl rfl rfl (AOp.moveD rfl rfl) ?_
        refine AOps.pass ⟨29, rfl, .inl ⟨_, rfl, rfl⟩⟩ rfl rfl ?_
        refine AOps.pass ⟨29, rfl, .inl ⟨_, rfl, rfl⟩⟩ rfl rfl ?_
        refine AOps.pass ⟨29, rfl, .inl ⟨_, rfl, rfl⟩⟩ rfl rfl ?_
        refine AOps.pass ⟨29, rfl, .inl ⟨_, rfl, rfl⟩⟩ rfl rfl ?_
        refine AOps.step rfl rfl rfl (AOp.pickT rfl rfl rfl) ?_
        refine AOps.step rfl rfl rfl (AOp.moveD rfl rfl) ?_
        refine AOps.pass ⟨35, rfl, .inl ⟨_, rfl, rfl⟩⟩ rfl rfl ?_
        refine AOps.pass ⟨35, rfl, .inl ⟨_, rfl, rfl⟩⟩ rfl rfl ?_
        refine AOps.pass ⟨35, rfl, .inl ⟨_, rfl, rfl⟩⟩ rfl rfl ?_
        refine AOps.pass ⟨35, rfl, .inl ⟨_, rfl, rfl⟩⟩ rfl rfl ?_
        refine AOps.step rfl rfl rfl (AOp.pickT rfl rfl rfl) ?_
        refine AOps.nil ?_
        refine AWP.cond rfl (fun _ => ?_) (fun h => nomatch h)
        refine AWP.seq ?_
        refine AWP.region ?_
        refine AOps.step rfl rfl rfl (AOp.assignD rfl rfl) ?_
        refine AOps.nil ?_
        refine AWP.ret ?_
        refine ⟨RetD.eq rfl ?_, trivial⟩
        all_goals (unfold polFault; first | (rw [if_pos (by omega)]) | (rw [if_neg (by omega)]))
      · replace g3 := bnot_f g3; replace g3 := of_decide_eq_true g3
        refine AOps.step ⟨23, rfl, .inl ⟨_, rfl, rfl⟩⟩ rfl rfl (AOp.fieldAddr rfl fo_28_3 rfl) ?_
        refine AOps.step ⟨23, rfl, .inl ⟨_, rfl, rfl⟩⟩ rfl rfl (AOp.load rfl sc_3 rfl) ?_
        refine AOps.step ⟨23, rfl, .inl ⟨_, rfl, rfl⟩⟩ rfl rfl (AOp.call rfl (.cons (ArgOk.rfl' rfl) (.cons (ArgOk.rfl' rfl) (.cons (ArgOk.rfl' rfl) .nil))) (c_rWithin _ _ _)) ?_
        refine AOps.step ⟨23, rfl, .inl ⟨_, rfl, rfl⟩⟩ rfl rfl (AOp.not rfl rfl) ?_
        refine AOps.step rfl rfl rfl (AOp.pickF rfl rfl rfl) ?_
        refine AOps.step rfl rfl rfl (AOp.moveD rfl rfl) ?_
        refine AOps.split 29 rfl (fun g4 => ?_) (fun g4 => ?_)
        · replace g4 := bnot_t g4; replace g4 := of_decide_eq_false g4
          refine AOps.pass ⟨29, rfl, .inl ⟨_, rfl, rfl⟩⟩ rfl rfl ?_
          refine AOps.pass ⟨29, rfl, .inl ⟨_, rfl, rfl⟩⟩ rfl rfl ?_
          refine AOps.pass ⟨29, rfl, .inl ⟨_, rfl, rfl⟩⟩ rfl rfl ?_
          refine AOps.pass ⟨29, rfl, .inl ⟨_, rfl, rfl⟩⟩ rfl rfl ?_
          refine AOps.step rfl rfl rfl (AOp.pickT rfl rfl rfl) ?_
          refine AOps.step rfl rfl rfl (AOp.moveD rfl rfl) ?_
          refine AOps.pass ⟨35, rfl, .inl ⟨_, rfl, rfl⟩⟩ rfl rfl ?_
          refine AOps.pass ⟨35, rfl, .inl ⟨_, rfl, rfl⟩⟩ rfl rfl ?_
          refine AOps.pass ⟨35, rfl, .inl ⟨_, rfl, rfl⟩⟩ rfl rfl ?_
          refine AOps.pass ⟨35, rfl, .inl ⟨_, rfl, rfl⟩⟩ rfl rfl ?_
          refine AOps.step rfl rfl rfl (AOp.pickT rfl rfl rfl) ?_
          refine AOps.nil ?_
          refine AWP.cond rfl (fun _ => ?_) (fun h => nomatch h)
          refine AWP.seq ?_
          refine AWP.region ?_
          refine AOps.step rfl rfl rfl (AOp.assignD rfl rfl) ?_
          refine AOps.nil ?_
          refine AWP.ret ?_
          refine ⟨RetD.eq rfl ?_, trivial⟩
          all_goals (unfold polFault; first | (rw [if_pos (by omega)]) | (rw [if_neg (by omega)]))
        · replace g4 := bnot_f g4; replace g4 := of_decide_eq_true g4
          refine AOps.step ⟨29, rfl, .inl ⟨_, rfl, rfl⟩⟩ rfl rfl (AOp.fieldAddr rfl fo_28_4 rfl) ?_
          refine AOps.step ⟨29, rfl, .inl ⟨_, rfl, rfl⟩⟩ rfl rfl (AOp.load rfl sc_3 rfl) ?_
          refine AOps.step ⟨29, rfl, .inl ⟨_, rfl, rfl⟩⟩ rfl rfl (AOp.call rfl (.cons (ArgOk.rfl' rfl) (.cons (ArgOk.rfl' rfl) (.cons (ArgOk.rfl' rfl) .nil))) (c_rWithin _ _ _)) ?_
          refine AOps.step ⟨29, rfl, .inl ⟨_, rfl, rfl⟩⟩ rfl rfl (AOp.not rfl rfl) ?_
          refine AOps.step rfl rfl rfl (AOp.pickF rfl rfl rfl) ?_
          refine AOps.step rfl rfl rfl (AOp.moveD rfl rfl) ?_
          refine AOps.split 35 rfl (fun g5 => ?_) (fun g5 => ?_)
          · replace g5 := bnot_t g5; replace g5 := of_decide_eq_false g5
            refine AOps.pass ⟨35, rfl, .inl ⟨_, rfl, rfl⟩⟩ rfl rfl ?_
            refine AOps.pass ⟨35, rfl, .inl ⟨_, rfl, rfl⟩⟩ rfl rfl ?_
            refine AOps.pass ⟨35, rfl, .inl ⟨_, rfl, rfl⟩⟩ rfl rfl ?_
            refine AOps.pass ⟨35, rfl, .inl ⟨_, rfl, rfl⟩⟩ rfl rfl ?_
            refine AOps.step rfl rfl rfl (AOp.pickT rfl rfl rfl) ?_
            refine AOps.nil ?_
            refine AWP.cond rfl (fun _ => ?_) (fun h => nomatch h)
            refine AWP.seq ?_
            refine AWP.region ?_
            refine AOps.step rfl rfl rfl (AOp.assignD rfl rfl) ?_
            refine AOps.nil ?_
            refine AWP.ret ?_
            refine ⟨RetD.eq rfl ?_, trivial⟩
            all_goals (unfold polFault; first | (rw [if_pos (by omega)]) | (rw [if_neg (by omega)]))
          · replace g5 := bnot_f g5; replace g5 := of_decide_eq_true g5
            refine AOps.step ⟨35, rfl, .inl ⟨_, rfl, rfl⟩⟩ rfl rfl (AOp.fieldAddr rfl fo_28_5 rfl) ?_
            refine AOps.step ⟨35, rfl, .inl ⟨_, rfl, rfl⟩⟩ rfl rfl (AOp.load rfl sc_3 rfl) ?_
            refine AOps.step ⟨35, rfl, .inl ⟨_, rfl, rfl⟩⟩ rfl rfl (AOp.call rfl (.cons (ArgOk.rfl' rfl) (.cons (ArgOk.rfl' rfl) (.cons (ArgOk.rfl' rfl) .nil))) (c_rWithin _ _ _)) ?_
            refine AOps.step ⟨35, rfl, .inl ⟨_, rfl, rfl⟩⟩ rfl rfl (AOp.not rfl rfl) ?_
            refine AOps.step rfl rfl rfl (AOp.pickF rfl rfl rfl) ?_
            refine AOps.nil ?_
            refine AWP.cond rfl (fun h6 => ?_) (fun h6 => ?_)
            · replace h6 := bnot_t h6; replace h6 := of_decide_eq_false h6
              refine AWP.seq ?_
              refine AWP.region ?_
              refine AOps.step rfl rfl rfl (AOp.assignD rfl rfl) ?_
              refine AOps.nil ?_
              refine AWP.ret ?_
              refine ⟨RetD.eq rfl ?_, trivial⟩
              all_goals (unfold polFault; first | (rw [if_pos (by omega)]) | (rw [if_neg (by omega)]))
            · replace h6 := bnot_f h6; replace h6 := of_decide_eq_true h6
              refine AWP.skip ?_
              refine AWP.seq ?_
              refine AWP.region ?_
              refine AOps.step rfl rfl rfl (AOp.assignD rfl rfl) ?_
              refine AOps.nil ?_
              refine AWP.ret ?_
              refine ⟨RetD.eq rfl ?_, trivial⟩
              all_goals (unfold polFault; first | (rw [if_pos (by omega)]) | (rw [if_neg (by omega)]))

set_option maxRecDepth 100000 in
set_option maxHeartbeats 1000000 in
theorem c_ixItem (l : List Item) (p : Item → Bool) (f : Nat) (caps : List D) (hp : ∀ x : Item, ACall Tryd.prog f (.agg x.ds :: caps) (.v (.bool (p x)))) : ACall Tryd.prog 106 [.sl (l.map Item.ds), .clo (.func f) caps] (.v (.int .i64 (idxBy p l))) := by
  refine acall_of (n := 19) (ds' := [.v (.int .i64 (idxBy p l))]) Tryd.func106 rfl (by kernel_rfl) rfl [4] rfl rfl ?_
  intro B w0 F0 fr
  refine AWP.bound 0 rfl (fun hbd0 => ?_)
  rw [List.length_map] at hbd0
  refine AWP.seq ?_
  refine AWP.region ?_
  refine AOps.step rfl rfl rfl (AOp.assignD rfl rfl) ?_
  refine AOps.nil ?_
  refine AWP.seq ?_
  refine AWP.seq ?_
  refine AWP.region ?_
  refine AOps.step rfl rfl rfl (AOp.moveD rfl rfl) ?_
  refine AOps.step rfl rfl rfl (AOp.lenSl rfl et_22.ht rfl) ?_
  refine AOps.step rfl rfl rfl (AOp.moveD rfl rfl) ?_
  refine AOps.nil ?_
  refine AWP.block ?_
  refine AWP.loop (G := Nat) (fun k => Env.of [(8, .d (.v (.int .i64 (k : Int)))), (6, .d (.sl (l.map Item.ds))), (7, .d (.v (.int .i64 ((l.map Item.ds).length : Int)))), (0, .d (.sl (l.map Item.ds))), (1, .d (.clo (.func f) caps))]) (fun k => []) (fun k => k ≤ l.length ∧ ∀ c ∈ l.take k, p c = false) (fun k => l.length - k) 0 ⟨Nat.zero_le _, fun c h => by simp at h⟩ (Sub.less ⟨(SLe.of_eq rfl), SLe.refl _, SLe.refl _, SLe.refl _, SLe.refl _, trivial⟩ (fun _ h => h)) ?_
  intro k hk
  refine AWP.seq ?_
  refine AWP.region ?_
  refine AOps.step rfl rfl rfl (AOp.lss rfl rfl rfl) ?_
  refine AOps.nil ?_
  refine AWP.seq ?_
  refine AWP.cond rfl (fun h1 => ?_) (fun h1 => ?_)
  · replace h1 := of_decide_eq_true h1
    rw [List.length_map] at h1
    have hlt : k < l.length := by omega
    refine AWP.skip ?_
    refine AWP.seq ?_
    refine AWP.block ?_
    refine AWP.seq ?_
    refine AWP.region ?_
    refine AOps.step rfl rfl rfl (AOp.moveD rfl rfl) ?_
    refine AOps.step rfl rfl rfl (AOp.assignD rfl rfl) ?_
    refine AOps.nil ?_
    refine AWP.seq ?_
    refine AWP.region ?_
    refine AOps.step rfl rfl rfl (AOp.moveD rfl rfl) ?_
    refine AOps.step rfl rfl rfl (AOp.moveD rfl rfl) ?_
    refine AOps.step rfl rfl rfl (AOp.moveD rfl rfl) ?_
    refine AOps.step rfl rfl rfl (AOp.indexAddr rfl et_22 rfl rfl k rfl (at_list hlt) rfl) ?_
    refine AOps.step rfl rfl rfl (AOp.loadAgg rfl ag_69 rfl rfl) ?_
    refine AOps.step rfl rfl rfl (AOp.callClo rfl rfl (.cons (ArgOk.rfl' rfl) .nil) (hp l[k])) ?_
    refine AOps.nil ?_
    refine AWP.cond rfl (fun h2 => ?_) (fun h2 => ?_)
    · skip
      rw [idxBy_yes hlt hk.2 h2]
      refine AWP.seq ?_
      refine AWP.region ?_
      refine AOps.step rfl rfl rfl (AOp.moveD rfl rfl) ?_
      refine AOps.step rfl rfl rfl (AOp.assignD rfl rfl) ?_
      refine AOps.nil ?_
      refine AWP.ret ?_
      refine ⟨RetD.eq rfl ?_, trivial⟩
      all_goals (rfl)
    · skip
      have hT := take_false' hlt hk.2 h2
      refine AWP.skip ?_
      refine AWP.region ?_
      refine AOps.step rfl rfl rfl (AOp.add64 rfl rfl rfl (by omega) (by omega)) ?_
      refine AOps.step rfl rfl rfl (AOp.moveD rfl rfl) ?_
      refine AOps.nil ?_
      refine ⟨k + 1, ⟨by omega, hT⟩, (by dsimp only; omega), Sub.less ⟨(SLe.of_eq rfl), SLe.refl _, SLe.refl _, SLe.refl _, SLe.refl _, trivial⟩ (fun _ h => h)⟩
  · replace h1 := of_decide_eq_false h1
    rw [List.length_map] at h1
    rw [idxBy_no (fun c hc => hk.2 c (by rw [show k = l.length by omega]; exact hc))]
    refine AWP.exit ?_
    refine AWP.seq ?_
    refine AWP.region ?_
    refine AOps.step rfl rfl rfl (AOp.assignD rfl rfl) ?_
    refine AOps.nil ?_
    refine AWP.ret ?_
    refine ⟨RetD.eq rfl ?_, trivial⟩
    all_goals (rfl)

set_option maxRecDepth 100000 in
set_option maxHeartbeats 1000000 in
theorem c_itemAt1 (x : Item) (nm : ByteArray) : ACall Tryd.prog 107 [.agg x.ds, .fp [.v (.string nm)]] (.v (.bool (decide (x.name = nm)))) := by
  refine acall_of (n := 8) (ds' := [.v (.bool (decide (x.name = nm)))]) Tryd.func107 rfl (by kernel_rfl) rfl [3] rfl rfl ?_
  intro B w0 F0 fr
  refine AWP.seq ?_
  refine AWP.region ?_
  refine AOps.step rfl rfl rfl (AOp.box rfl rfl rfl) ?_
  refine AOps.step rfl rfl rfl (AOp.assignD rfl rfl) ?_
  refine AOps.nil ?_
  refine AWP.seq ?_
  refine AWP.region ?_
  refine AOps.step rfl rfl rfl (AOp.fieldAddr rfl fo_69_0 rfl) ?_
  refine AOps.step rfl rfl rfl (AOp.load rfl sc_9 rfl) ?_
  refine AOps.step rfl rfl rfl (AOp.load rfl sc_9 rfl) ?_
  refine AOps.step rfl rfl rfl (AOp.seql rfl rfl rfl) ?_
  refine AOps.step rfl rfl rfl (AOp.assignD rfl rfl) ?_
  refine AOps.nil ?_
  refine AWP.ret ?_
  refine ⟨RetD.eq rfl ?_, trivial⟩
  all_goals (rfl)

set_option maxRecDepth 100000 in
set_option maxHeartbeats 1000000 in
theorem c_itemAt (v : Vlt) (nm : ByteArray) : ACall Tryd.prog 77 [.agg v.ds, .v (.string nm)] (.v (.int .i64 (itemIdx v nm))) := by
  refine acall_of (n := 9) (ds' := [.v (.int .i64 (itemIdx v nm))]) Tryd.func77 rfl (by kernel_rfl) rfl [4] rfl rfl ?_
  intro B w0 F0 fr
  refine AWP.seq ?_
  refine AWP.region ?_
  refine AOps.step rfl rfl rfl (AOp.box rfl rfl rfl) ?_
  refine AOps.step rfl rfl rfl (AOp.box rfl rfl rfl) ?_
  refine AOps.step rfl rfl rfl (AOp.assignD rfl rfl) ?_
  refine AOps.nil ?_
  refine AWP.seq ?_
  refine AWP.region ?_
  refine AOps.step rfl rfl rfl (AOp.fieldAddr rfl fo_26_0 rfl) ?_
  refine AOps.step rfl rfl rfl (AOp.load rfl sc_22 rfl) ?_
  refine AOps.step rfl rfl rfl (AOp.makeFunc rfl (.cons (ArgOk.rfl' rfl) .nil)) ?_
  refine AOps.step rfl rfl rfl (AOp.call rfl (.cons (ArgOk.rfl' rfl) (.cons (ArgOk.rfl' rfl) .nil)) (c_ixItem v.items (fun x => decide (x.name = nm)) 107 _ (fun x => c_itemAt1 x nm))) ?_
  refine AOps.step rfl rfl rfl (AOp.assignD rfl rfl) ?_
  refine AOps.nil ?_
  refine AWP.ret ?_
  refine ⟨RetD.eq rfl ?_, trivial⟩
  all_goals (rfl)

set_option maxRecDepth 100000 in
set_option maxHeartbeats 1000000 in
theorem c_itemOf (v : Vlt) (nm : ByteArray) : ACall Tryd.prog 35 [.agg v.ds, .v (.string nm)] (.v (.int .i64 (itemIdx v nm))) := by
  refine acall_of (n := 21) (ds' := [.v (.int .i64 (itemIdx v nm))]) Tryd.func35 rfl (by kernel_rfl) rfl [4] rfl rfl ?_
  intro B w0 F0 fr
  unfold itemIdx
  refine AWP.seq ?_
  refine AWP.region ?_
  refine AOps.step rfl rfl rfl (AOp.box rfl rfl rfl) ?_
  refine AOps.step rfl rfl rfl (AOp.assignD rfl rfl) ?_
  refine AOps.nil ?_
  refine AWP.seq ?_
  refine AWP.seq ?_
  refine AWP.region ?_
  refine AOps.step rfl rfl rfl (AOp.fieldAddr rfl fo_26_0 rfl) ?_
  refine AOps.step rfl rfl rfl (AOp.load rfl sc_22 rfl) ?_
  refine AOps.step rfl rfl rfl (AOp.lenSl rfl et_22.ht rfl) ?_
  refine AOps.step rfl rfl rfl (AOp.moveD rfl rfl) ?_
  refine AOps.nil ?_
  refine AWP.block ?_
  refine AWP.bound 8 rfl (fun hbd8 => ?_)
  rw [List.length_map] at hbd8
  refine AWP.loop (G := Nat) (fun k => Env.of [(10, .d (.v (.int .i64 (k : Int)))), (8, .d (.sl (v.items.map Item.ds))), (9, .d (.v (.int .i64 ((v.items.map Item.ds).length : Int)))), (1, .d (.v (.string nm)))]) (fun k => []) (fun k => k ≤ v.items.length ∧ ∀ c ∈ v.items.take k, decide (c.name = nm) = false) (fun k => v.items.length - k) 0 ⟨Nat.zero_le _, fun c h => by simp at h⟩ (Sub.less ⟨(SLe.of_eq rfl), SLe.refl _, SLe.refl _, SLe.refl _, trivial⟩ (fun _ h => h)) ?_
  intro k hk
  refine AWP.seq ?_
  refine AWP.region ?_
  refine AOps.step rfl rfl rfl (AOp.lss rfl rfl rfl) ?_
  refine AOps.nil ?_
  refine AWP.seq ?_
  refine AWP.cond rfl (fun h1 => ?_) (fun h1 => ?_)
  · replace h1 := of_decide_eq_true h1
    rw [List.length_map] at h1
    have hlt : k < v.items.length := by omega
    refine AWP.skip ?_
    refine AWP.seq ?_
    refine AWP.block ?_
    refine AWP.seq ?_
    refine AWP.region ?_
    refine AOps.step rfl rfl rfl (AOp.moveD rfl rfl) ?_
    refine AOps.step rfl rfl rfl (AOp.indexAddr rfl et_22 rfl rfl k rfl (at_list hlt) rfl) ?_
    refine AOps.step rfl rfl rfl (AOp.loadAgg rfl ag_69 rfl rfl) ?_
    refine AOps.alloc 101 rfl rfl rfl rfl zt_69 rfl rfl rfl ?_
    refine AOps.step rfl rfl rfl (AOp.assignD rfl rfl) ?_
    refine AOps.store rfl rfl rfl sz_69 rfl (.head _) rfl rfl rfl (Nat.le_of_ble_eq_true rfl) ?_
    refine AOps.nil ?_
    refine AWP.seq ?_
    refine AWP.region ?_
    refine AOps.step rfl rfl rfl (AOp.fieldAddrP rfl fo_69_0 rfl) ?_
    refine AOps.step rfl rfl rfl (AOp.loadP rfl sc_9 rfl (.head _) rfl) ?_
    refine AOps.step rfl rfl rfl (AOp.moveD rfl rfl) ?_
    refine AOps.step rfl rfl rfl (AOp.seql rfl rfl rfl) ?_
    refine AOps.nil ?_
    refine AWP.cond rfl (fun h2 => ?_) (fun h2 => ?_)
    · replace h2 := of_decide_eq_true h2
      rw [idxBy_yes hlt hk.2 (decide_eq_true h2)]
      refine AWP.seq ?_
      refine AWP.region ?_
      refine AOps.step rfl rfl rfl (AOp.moveD rfl rfl) ?_
      refine AOps.step rfl rfl rfl (AOp.assignD rfl rfl) ?_
      refine AOps.nil ?_
      refine AWP.ret ?_
      refine ⟨RetD.eq rfl ?_, trivial⟩
      all_goals (rfl)
    · replace h2 := of_decide_eq_false h2
      have hT := take_false' (p := fun x : Item => decide (x.name = nm)) hlt hk.2 (decide_eq_false h2)
      refine AWP.skip ?_
      refine AWP.region ?_
      refine AOps.step rfl rfl rfl (AOp.add64 rfl rfl rfl (by omega) (by omega)) ?_
      refine AOps.step rfl rfl rfl (AOp.moveD rfl rfl) ?_
      refine AOps.nil ?_
      refine ⟨k + 1, ⟨by omega, hT⟩, (by dsimp only; omega), Sub.less ⟨(SLe.of_eq rfl), SLe.refl _, SLe.refl _, SLe.refl _, trivial⟩ (fun _ h => by cases h)⟩
  · replace h1 := of_decide_eq_false h1
    rw [List.length_map] at h1
    rw [idxBy_no (fun c hc => hk.2 c (by rw [show k = v.items.length by omega]; exact hc))]
    refine AWP.exit ?_
    refine AWP.seq ?_
    refine AWP.region ?_
    refine AOps.step rfl rfl rfl (AOp.assignD rfl rfl) ?_
    refine AOps.nil ?_
    refine AWP.ret ?_
    refine ⟨RetD.eq rfl ?_, trivial⟩
    all_goals (rfl)

set_option maxRecDepth 100000 in
set_option maxHeartbeats 1000000 in
theorem c_ixCarr (l : List Carr) (p : Carr → Bool) (f : Nat) (caps : List D) (hp : ∀ x : Carr, ACall Tryd.prog f (.agg x.ds :: caps) (.v (.bool (p x)))) : ACall Tryd.prog 108 [.sl (l.map Carr.ds), .clo (.func f) caps] (.v (.int .i64 (idxBy p l))) := by
  refine acall_of (n := 19) (ds' := [.v (.int .i64 (idxBy p l))]) Tryd.func108 rfl (by kernel_rfl) rfl [4] rfl rfl ?_
  intro B w0 F0 fr
  refine AWP.bound 0 rfl (fun hbd0 => ?_)
  rw [List.length_map] at hbd0
  refine AWP.seq ?_
  refine AWP.region ?_
  refine AOps.step rfl rfl rfl (AOp.assignD rfl rfl) ?_
  refine AOps.nil ?_
  refine AWP.seq ?_
  refine AWP.seq ?_
  refine AWP.region ?_
  refine AOps.step rfl rfl rfl (AOp.moveD rfl rfl) ?_
  refine AOps.step rfl rfl rfl (AOp.lenSl rfl et_23.ht rfl) ?_
  refine AOps.step rfl rfl rfl (AOp.moveD rfl rfl) ?_
  refine AOps.nil ?_
  refine AWP.block ?_
  refine AWP.loop (G := Nat) (fun k => Env.of [(8, .d (.v (.int .i64 (k : Int)))), (6, .d (.sl (l.map Carr.ds))), (7, .d (.v (.int .i64 ((l.map Carr.ds).length : Int)))), (0, .d (.sl (l.map Carr.ds))), (1, .d (.clo (.func f) caps))]) (fun k => []) (fun k => k ≤ l.length ∧ ∀ c ∈ l.take k, p c = false) (fun k => l.length - k) 0 ⟨Nat.zero_le _, fun c h => by simp at h⟩ (Sub.less ⟨(SLe.of_eq rfl), SLe.refl _, SLe.refl _, SLe.refl _, SLe.refl _, trivial⟩ (fun _ h => h)) ?_
  intro k hk
  refine AWP.seq ?_
  refine AWP.region ?_
  refine AOps.step rfl rfl rfl (AOp.lss rfl rfl rfl) ?_
  refine AOps.nil ?_
  refine AWP.seq ?_
  refine AWP.cond rfl (fun h1 => ?_) (fun h1 => ?_)
  · replace h1 := of_decide_eq_true h1
    rw [List.length_map] at h1
    have hlt : k < l.length := by omega
    refine AWP.skip ?_
    refine AWP.seq ?_
    refine AWP.block ?_
    refine AWP.seq ?_
    refine AWP.region ?_
    refine AOps.step rfl rfl rfl (AOp.moveD rfl rfl) ?_
    refine AOps.step rfl rfl rfl (AOp.assignD rfl rfl) ?_
    refine AOps.nil ?_
    refine AWP.seq ?_
    refine AWP.region ?_
    refine AOps.step rfl rfl rfl (AOp.moveD rfl rfl) ?_
    refine AOps.step rfl rfl rfl (AOp.moveD rfl rfl) ?_
    refine AOps.step rfl rfl rfl (AOp.moveD rfl rfl) ?_
    refine AOps.step rfl rfl rfl (AOp.indexAddr rfl et_23 rfl rfl k rfl (at_list hlt) rfl) ?_
    refine AOps.step rfl rfl rfl (AOp.loadAgg rfl ag_73 rfl rfl) ?_
    refine AOps.step rfl rfl rfl (AOp.callClo rfl rfl (.cons (ArgOk.rfl' rfl) .nil) (hp l[k])) ?_
    refine AOps.nil ?_
    refine AWP.cond rfl (fun h2 => ?_) (fun h2 => ?_)
    · skip
      rw [idxBy_yes hlt hk.2 h2]
      refine AWP.seq ?_
      refine AWP.region ?_
      refine AOps.step rfl rfl rfl (AOp.moveD rfl rfl) ?_
      refine AOps.step rfl rfl rfl (AOp.assignD rfl rfl) ?_
      refine AOps.nil ?_
      refine AWP.ret ?_
      refine ⟨RetD.eq rfl ?_, trivial⟩
      all_goals (rfl)
    · skip
      have hT := take_false' hlt hk.2 h2
      refine AWP.skip ?_
      refine AWP.region ?_
      refine AOps.step rfl rfl rfl (AOp.add64 rfl rfl rfl (by omega) (by omega)) ?_
      refine AOps.step rfl rfl rfl (AOp.moveD rfl rfl) ?_
      refine AOps.nil ?_
      refine ⟨k + 1, ⟨by omega, hT⟩, (by dsimp only; omega), Sub.less ⟨(SLe.of_eq rfl), SLe.refl _, SLe.refl _, SLe.refl _, SLe.refl _, trivial⟩ (fun _ h => h)⟩
  · replace h1 := of_decide_eq_false h1
    rw [List.length_map] at h1
    rw [idxBy_no (fun c hc => hk.2 c (by rw [show k = l.length by omega]; exact hc))]
    refine AWP.exit ?_
    refine AWP.seq ?_
    refine AWP.region ?_
    refine AOps.step rfl rfl rfl (AOp.assignD rfl rfl) ?_
    refine AOps.nil ?_
    refine AWP.ret ?_
    refine ⟨RetD.eq rfl ?_, trivial⟩
    all_goals (rfl)

set_option maxRecDepth 100000 in
set_option maxHeartbeats 1000000 in
theorem c_carrAt1 (x : Carr) (nm : ByteArray) : ACall Tryd.prog 109 [.agg x.ds, .fp [.v (.string nm)]] (.v (.bool (decide (x.name = nm)))) := by
  refine acall_of (n := 8) (ds' := [.v (.bool (decide (x.name = nm)))]) Tryd.func109 rfl (by kernel_rfl) rfl [3] rfl rfl ?_
  intro B w0 F0 fr
  refine AWP.seq ?_
  refine AWP.region ?_
  refine AOps.step rfl rfl rfl (AOp.box rfl rfl rfl) ?_
  refine AOps.step rfl rfl rfl (AOp.assignD rfl rfl) ?_
  refine AOps.nil ?_
  refine AWP.seq ?_
  refine AWP.region ?_
  refine AOps.step rfl rfl rfl (AOp.fieldAddr rfl fo_73_0 rfl) ?_
  refine AOps.step rfl rfl rfl (AOp.load rfl sc_9 rfl) ?_
  refine AOps.step rfl rfl rfl (AOp.load rfl sc_9 rfl) ?_
  refine AOps.step rfl rfl rfl (AOp.seql rfl rfl rfl) ?_
  refine AOps.step rfl rfl rfl (AOp.assignD rfl rfl) ?_
  refine AOps.nil ?_
  refine AWP.ret ?_
  refine ⟨RetD.eq rfl ?_, trivial⟩
  all_goals (rfl)

set_option maxRecDepth 100000 in
set_option maxHeartbeats 1000000 in
theorem c_carrAt (v : Vlt) (nm : ByteArray) : ACall Tryd.prog 78 [.agg v.ds, .v (.string nm)] (.v (.int .i64 (carrIdx v nm))) := by
  refine acall_of (n := 9) (ds' := [.v (.int .i64 (carrIdx v nm))]) Tryd.func78 rfl (by kernel_rfl) rfl [4] rfl rfl ?_
  intro B w0 F0 fr
  refine AWP.seq ?_
  refine AWP.region ?_
  refine AOps.step rfl rfl rfl (AOp.box rfl rfl rfl) ?_
  refine AOps.step rfl rfl rfl (AOp.box rfl rfl rfl) ?_
  refine AOps.step rfl rfl rfl (AOp.assignD rfl rfl) ?_
  refine AOps.nil ?_
  refine AWP.seq ?_
  refine AWP.region ?_
  refine AOps.step rfl rfl rfl (AOp.fieldAddr rfl fo_26_1 rfl) ?_
  refine AOps.step rfl rfl rfl (AOp.load rfl sc_23 rfl) ?_
  refine AOps.step rfl rfl rfl (AOp.makeFunc rfl (.cons (ArgOk.rfl' rfl) .nil)) ?_
  refine AOps.step rfl rfl rfl (AOp.call rfl (.cons (ArgOk.rfl' rfl) (.cons (ArgOk.rfl' rfl) .nil)) (c_ixCarr v.carrs (fun x => decide (x.name = nm)) 109 _ (fun x => c_carrAt1 x nm))) ?_
  refine AOps.step rfl rfl rfl (AOp.assignD rfl rfl) ?_
  refine AOps.nil ?_
  refine AWP.ret ?_
  refine ⟨RetD.eq rfl ?_, trivial⟩
  all_goals (rfl)

set_option maxRecDepth 100000 in
set_option maxHeartbeats 1000000 in
theorem c_carrierOf (v : Vlt) (nm : ByteArray) : ACall Tryd.prog 36 [.agg v.ds, .v (.string nm)] (.v (.int .i64 (carrIdx v nm))) := by
  refine acall_of (n := 21) (ds' := [.v (.int .i64 (carrIdx v nm))]) Tryd.func36 rfl (by kernel_rfl) rfl [4] rfl rfl ?_
  intro B w0 F0 fr
  unfold carrIdx
  refine AWP.seq ?_
  refine AWP.region ?_
  refine AOps.step rfl rfl rfl (AOp.box rfl rfl rfl) ?_
  refine AOps.step rfl rfl rfl (AOp.assignD rfl rfl) ?_
  refine AOps.nil ?_
  refine AWP.seq ?_
  refine AWP.seq ?_
  refine AWP.region ?_
  refine AOps.step rfl rfl rfl (AOp.fieldAddr rfl fo_26_1 rfl) ?_
  refine AOps.step rfl rfl rfl (AOp.load rfl sc_23 rfl) ?_
  refine AOps.step rfl rfl rfl (AOp.lenSl rfl et_23.ht rfl) ?_
  refine AOps.step rfl rfl rfl (AOp.moveD rfl rfl) ?_
  refine AOps.nil ?_
  refine AWP.block ?_
  refine AWP.bound 8 rfl (fun hbd8 => ?_)
  rw [List.length_map] at hbd8
  refine AWP.loop (G := Nat) (fun k => Env.of [(10, .d (.v (.int .i64 (k : Int)))), (8, .d (.sl (v.carrs.map Carr.ds))), (9, .d (.v (.int .i64 ((v.carrs.map Carr.ds).length : Int)))), (1, .d (.v (.string nm)))]) (fun k => []) (fun k => k ≤ v.carrs.length ∧ ∀ c ∈ v.carrs.take k, decide (c.name = nm) = false) (fun k => v.carrs.length - k) 0 ⟨Nat.zero_le _, fun c h => by simp at h⟩ (Sub.less ⟨(SLe.of_eq rfl), SLe.refl _, SLe.refl _, SLe.refl _, trivial⟩ (fun _ h => h)) ?_
  intro k hk
  refine AWP.seq ?_
  refine AWP.region ?_
  refine AOps.step rfl rfl rfl (AOp.lss rfl rfl rfl) ?_
  refine AOps.nil ?_
  refine AWP.seq ?_
  refine AWP.cond rfl (fun h1 => ?_) (fun h1 => ?_)
  · replace h1 := of_decide_eq_true h1
    rw [List.length_map] at h1
    have hlt : k < v.carrs.length := by omega
    refine AWP.skip ?_
    refine AWP.seq ?_
    refine AWP.block ?_
    refine AWP.seq ?_
    refine AWP.region ?_
    refine AOps.step rfl rfl rfl (AOp.moveD rfl rfl) ?_
    refine AOps.step rfl rfl rfl (AOp.indexAddr rfl et_23 rfl rfl k rfl (at_list hlt) rfl) ?_
    refine AOps.step rfl rfl rfl (AOp.loadAgg rfl ag_73 rfl rfl) ?_
    refine AOps.alloc 101 rfl rfl rfl rfl zt_73 rfl rfl rfl ?_
    refine AOps.step rfl rfl rfl (AOp.assignD rfl rfl) ?_
    refine AOps.store rfl rfl rfl sz_73 rfl (.head _) rfl rfl rfl (Nat.le_of_ble_eq_true rfl) ?_
    refine AOps.nil ?_
    refine AWP.seq ?_
    refine AWP.region ?_
    refine AOps.step rfl rfl rfl (AOp.fieldAddrP rfl fo_73_0 rfl) ?_
    refine AOps.step rfl rfl rfl (AOp.loadP rfl sc_9 rfl (.head _) rfl) ?_
    refine AOps.step rfl rfl rfl (AOp.moveD rfl rfl) ?_
    refine AOps.step rfl rfl rfl (AOp.seql rfl rfl rfl) ?_
    refine AOps.nil ?_
    refine AWP.cond rfl (fun h2 => ?_) (fun h2 => ?_)
    · replace h2 := of_decide_eq_true h2
      rw [idxBy_yes hlt hk.2 (decide_eq_true h2)]
      refine AWP.seq ?_
      refine AWP.region ?_
      refine AOps.step rfl rfl rfl (AOp.moveD rfl rfl) ?_
      refine AOps.step rfl rfl rfl (AOp.assignD rfl rfl) ?_
      refine AOps.nil ?_
      refine AWP.ret ?_
      refine ⟨RetD.eq rfl ?_, trivial⟩
      all_goals (rfl)
    · replace h2 := of_decide_eq_false h2
      have hT := take_false' (p := fun x : Carr => decide (x.name = nm)) hlt hk.2 (decide_eq_false h2)
      refine AWP.skip ?_
      refine AWP.region ?_
      refine AOps.step rfl rfl rfl (AOp.add64 rfl rfl rfl (by omega) (by omega)) ?_
      refine AOps.step rfl rfl rfl (AOp.moveD rfl rfl) ?_
      refine AOps.nil ?_
      refine ⟨k + 1, ⟨by omega, hT⟩, (by dsimp only; omega), Sub.less ⟨(SLe.of_eq rfl), SLe.refl _, SLe.refl _, SLe.refl _, trivial⟩ (fun _ h => by cases h)⟩
  · replace h1 := of_decide_eq_false h1
    rw [List.length_map] at h1
    rw [idxBy_no (fun c hc => hk.2 c (by rw [show k = v.carrs.length by omega]; exact hc))]
    refine AWP.exit ?_
    refine AWP.seq ?_
    refine AWP.region ?_
    refine AOps.step rfl rfl rfl (AOp.assignD rfl rfl) ?_
    refine AOps.nil ?_
    refine AWP.ret ?_
    refine ⟨RetD.eq rfl ?_, trivial⟩
    all_goals (rfl)

end Go.Proofs.YtieccphckobhjaaDoor
