/- Walks and laws over abstract values, merged by tools/merge.py. No statement of the seat. -/
import Derived.Lib.EndianBits
import Derived.ChangeKeysEq
import Derived.Laws.StructEq
import Derived.Test.YtieccphckobhjaaGreatDoorXK3

namespace Go.Proofs.YtieccphckobhjaaGreatDoor
open Go.RowKit
set_option linter.unusedVariables false

/-! Types. -/
namespace TyC5
theorem ag_26 : AggT Tryz.prog 26 3 := .of (by kernel_rfl)
theorem ag_59 : AggT Tryz.prog 59 5 := .of (by kernel_rfl)
theorem ag_62 : AggT Tryz.prog 62 2 := .of (by kernel_rfl)
theorem ag_65 : AggT Tryz.prog 65 7 := .of (by kernel_rfl)
theorem bt_4 : Tryz.prog.underlying 4 = some .bool := by kernel_rfl
theorem et_22 : ElemTy Tryz.prog 22 62 2 24 (.agg #[(.string ⟨#[]⟩), (.int .i64 0)]) := ⟨by kernel_rfl, by kernel_rfl, by kernel_rfl, by decide⟩
theorem et_23 : ElemTy Tryz.prog 23 59 5 64 (.agg #[(.string ⟨#[]⟩), (.string ⟨#[]⟩), (.string ⟨#[]⟩), (.int .i64 0), (.int .i64 0)]) := ⟨by kernel_rfl, by kernel_rfl, by kernel_rfl, by decide⟩
theorem et_24 : ElemTy Tryz.prog 24 65 7 96 (.agg #[(.string ⟨#[]⟩), (.string ⟨#[]⟩), (.string ⟨#[]⟩), (.int .i64 0), (.int .i64 0), (.int .i64 0), (.slice none 0 0)]) := ⟨by kernel_rfl, by kernel_rfl, by kernel_rfl, by decide⟩
theorem et_63 : ElemTy Tryz.prog 63 3 1 8 (.int .i64 0) := ⟨by kernel_rfl, by kernel_rfl, by kernel_rfl, by decide⟩
theorem fo_26_0 : fieldOff Tryz.prog 26 0 = some 0 := by kernel_rfl
theorem fo_26_1 : fieldOff Tryz.prog 26 1 = some 1 := by kernel_rfl
theorem fo_26_2 : fieldOff Tryz.prog 26 2 = some 2 := by kernel_rfl
theorem fo_59_0 : fieldOff Tryz.prog 59 0 = some 0 := by kernel_rfl
theorem fo_59_1 : fieldOff Tryz.prog 59 1 = some 1 := by kernel_rfl
theorem fo_59_2 : fieldOff Tryz.prog 59 2 = some 2 := by kernel_rfl
theorem fo_59_3 : fieldOff Tryz.prog 59 3 = some 3 := by kernel_rfl
theorem fo_59_4 : fieldOff Tryz.prog 59 4 = some 4 := by kernel_rfl
theorem fo_62_0 : fieldOff Tryz.prog 62 0 = some 0 := by kernel_rfl
theorem fo_62_1 : fieldOff Tryz.prog 62 1 = some 1 := by kernel_rfl
theorem fo_65_0 : fieldOff Tryz.prog 65 0 = some 0 := by kernel_rfl
theorem fo_65_1 : fieldOff Tryz.prog 65 1 = some 1 := by kernel_rfl
theorem fo_65_2 : fieldOff Tryz.prog 65 2 = some 2 := by kernel_rfl
theorem fo_65_3 : fieldOff Tryz.prog 65 3 = some 3 := by kernel_rfl
theorem fo_65_4 : fieldOff Tryz.prog 65 4 = some 4 := by kernel_rfl
theorem fo_65_5 : fieldOff Tryz.prog 65 5 = some 5 := by kernel_rfl
theorem fo_65_6 : fieldOff Tryz.prog 65 6 = some 6 := by kernel_rfl
theorem sc_22 : Scal Tryz.prog 22 := .of (by kernel_rfl)
theorem sc_23 : Scal Tryz.prog 23 := .of (by kernel_rfl)
theorem sc_24 : Scal Tryz.prog 24 := .of (by kernel_rfl)
theorem sc_3 : Scal Tryz.prog 3 := .of (by kernel_rfl)
theorem sc_63 : Scal Tryz.prog 63 := .of (by kernel_rfl)
theorem sc_9 : Scal Tryz.prog 9 := .of (by kernel_rfl)
theorem sz_59 : ∀ w, (sizeOf 59).run Tryz.prog w = .ok 5 w := SizeT.of (by kernel_rfl)
theorem sz_62 : ∀ w, (sizeOf 62).run Tryz.prog w = .ok 2 w := SizeT.of (by kernel_rfl)
theorem sz_65 : ∀ w, (sizeOf 65).run Tryz.prog w = .ok 7 w := SizeT.of (by kernel_rfl)
theorem zt_59 : (Tryz.prog.info? 59).bind (·.zero) = some (.agg #[(.string ⟨#[]⟩), (.string ⟨#[]⟩), (.string ⟨#[]⟩), (.int .i64 0), (.int .i64 0)]) := by kernel_rfl
theorem zt_62 : (Tryz.prog.info? 62).bind (·.zero) = some (.agg #[(.string ⟨#[]⟩), (.int .i64 0)]) := by kernel_rfl
theorem zt_65 : (Tryz.prog.info? 65).bind (·.zero) = some (.agg #[(.string ⟨#[]⟩), (.string ⟨#[]⟩), (.string ⟨#[]⟩), (.int .i64 0), (.int .i64 0), (.int .i64 0), (.slice none 0 0)]) := by kernel_rfl
end TyC5
open TyC5

set_option maxRecDepth 100000 in
set_option maxHeartbeats 1000000 in
theorem c_rCopy (v : Vlt) (c : Cpy) (b : Option Cpy) (hv : okItems v) (hA : ¬ (itemIdx v c.item < 0 ∨ carrIdx v c.carrier < 0)) (hB : ¬ (∃ b', b = some b' ∧ 0 ≤ cpyCmp b' c)) (hne : c.carrier ≠ ⟨#[]⟩) : ACall Tryz.prog 94 [.agg v.ds, .agg c.ds] (.v (.int .i64 (cpyFault v c b))) := by
  refine acall_of (n := 90) (ds' := [.v (.int .i64 (cpyFault v c b))]) Tryz.func94 rfl (by kernel_rfl) rfl [4] rfl rfl ?_
  intro B w0 F0 fr
  obtain ⟨ki, hki, eki, _⟩ := idxBy_some (show 0 ≤ itemIdx v c.item by omega)
  have hbi := hv _ (List.getElem_mem hki)
  have hib := itemBlocks_at hki eki
  refine AWP.seq (AWP.region ?_)
  refine AOps.step rfl rfl rfl (AOp.box rfl rfl rfl) ?_
  refine AOps.step rfl rfl rfl (AOp.box rfl rfl rfl) ?_
  refine AOps.aD rfl rfl rfl rfl rfl (.nil ?_)
  refine AWP.seq ?_
  refine AWP.block ?_
  refine AWP.seq (AWP.region ?_)
  refine AOps.step rfl rfl rfl (AOp.fieldAddr rfl fo_65_2 rfl) ?_
  refine AOps.step rfl rfl rfl (AOp.load rfl sc_9 rfl) ?_
  refine AOps.step rfl rfl rfl (AOp.sneq rfl rfl rfl) ?_
  refine AOps.mD rfl rfl rfl rfl rfl ?_
  refine AOps.split 11 rfl (fun g1 => ?_) (fun g1 => ?_)
  · replace g1 := of_decide_eq_true g1
    refine AOps.step ⟨11, rfl, .inl ⟨_, rfl, rfl⟩⟩ rfl rfl (AOp.loadAgg rfl ag_26 rfl rfl) ?_
    refine AOps.step ⟨11, rfl, .inl ⟨_, rfl, rfl⟩⟩ rfl rfl (AOp.fieldAddr rfl fo_65_2 rfl) ?_
    refine AOps.step ⟨11, rfl, .inl ⟨_, rfl, rfl⟩⟩ rfl rfl (AOp.load rfl sc_9 rfl) ?_
    refine AOps.step ⟨11, rfl, .inl ⟨_, rfl, rfl⟩⟩ rfl rfl (AOp.call rfl (.cons (ArgOk.rfl' rfl) (.cons (ArgOk.rfl' rfl) .nil)) (c_carrierOf _ _)) ?_
    refine AOps.step ⟨11, rfl, .inl ⟨_, rfl, rfl⟩⟩ rfl rfl (AOp.lss rfl rfl rfl) ?_
    refine AOps.step rfl rfl rfl (AOp.pickT rfl rfl rfl) ?_
    refine AOps.aD rfl rfl rfl rfl rfl (.nil ?_)
    refine AWP.cond rfl (fun h2 => ?_) (fun h2 => ?_)
    · replace h2 := of_decide_eq_true h2
      have HF : cpyFault v c b = 9 := ((if_neg hA).trans ((if_neg hB).trans (if_pos ⟨by assumption, h2⟩)))
      refine AWP.seq (AWP.region ?_)
      refine AOps.aD rfl rfl rfl rfl rfl (.nil ?_)
      refine AWP.ret ?_
      refine ⟨RetD.eq rfl ?_, trivial⟩
      all_goals (rw [HF])
    replace h2 := of_decide_eq_false h2
    have hC : ¬ (c.frm ≠ ⟨#[]⟩ ∧ carrIdx v c.frm < 0) := fun hh => h2 hh.2
    refine AWP.seq (AWP.region ?_)
    refine AOps.step rfl rfl rfl (AOp.fieldAddr rfl fo_65_2 rfl) ?_
    refine AOps.step rfl rfl rfl (AOp.load rfl sc_9 rfl) ?_
    refine AOps.step rfl rfl rfl (AOp.sneq rfl rfl rfl) ?_
    refine AOps.mD rfl rfl rfl rfl rfl ?_
    refine AOps.split 22 rfl (fun g3 => ?_) (fun g3 => ?_)
    · replace g3 := of_decide_eq_true g3
      refine AOps.step ⟨22, rfl, .inl ⟨_, rfl, rfl⟩⟩ rfl rfl (AOp.fieldAddr rfl fo_65_2 rfl) ?_
      refine AOps.step ⟨22, rfl, .inl ⟨_, rfl, rfl⟩⟩ rfl rfl (AOp.load rfl sc_9 rfl) ?_
      refine AOps.step ⟨22, rfl, .inl ⟨_, rfl, rfl⟩⟩ rfl rfl (AOp.fieldAddr rfl fo_65_1 rfl) ?_
      refine AOps.step ⟨22, rfl, .inl ⟨_, rfl, rfl⟩⟩ rfl rfl (AOp.load rfl sc_9 rfl) ?_
      refine AOps.step ⟨22, rfl, .inl ⟨_, rfl, rfl⟩⟩ rfl rfl (AOp.seql rfl rfl rfl) ?_
      refine AOps.step rfl rfl rfl (AOp.pickT rfl rfl rfl) ?_
      refine AOps.aD rfl rfl rfl rfl rfl (.nil ?_)
      refine AWP.cond rfl (fun h4 => ?_) (fun h4 => ?_)
      · replace h4 := of_decide_eq_true h4
        have HF : cpyFault v c b = 12 := ((if_neg hA).trans ((if_neg hB).trans ((if_neg hC).trans (if_pos h4))))
        refine AWP.seq (AWP.region ?_)
        refine AOps.aD rfl rfl rfl rfl rfl (.nil ?_)
        refine AWP.ret ?_
        refine ⟨RetD.eq rfl ?_, trivial⟩
        all_goals (rw [HF])
      replace h4 := of_decide_eq_false h4
      have hDD := h4
      refine AWP.seq (AWP.region ?_)
      refine AOps.step rfl rfl rfl (AOp.fieldAddr rfl fo_65_3 rfl) ?_
      refine AOps.step rfl rfl rfl (AOp.load rfl sc_3 rfl) ?_
      refine AOps.step rfl rfl rfl (AOp.call rfl (.cons (ArgOk.rfl' rfl) .nil) (c_rDay _)) ?_
      refine AOps.step rfl rfl rfl (AOp.not rfl rfl) ?_
      refine AOps.mD rfl rfl rfl rfl rfl ?_
      refine AOps.split 34 rfl (fun g5 => ?_) (fun g5 => ?_)
      · replace g5 := bnot_t g5; replace g5 := of_decide_eq_false g5
        have HF : cpyFault v c b = 1 := ((if_neg hA).trans ((if_neg hB).trans ((if_neg hC).trans ((if_neg hDD).trans (if_pos (.inl g5))))))
        refine AOps.pass ⟨34, rfl, .inl ⟨_, rfl, rfl⟩⟩ rfl rfl ?_
        refine AOps.pass ⟨34, rfl, .inl ⟨_, rfl, rfl⟩⟩ rfl rfl ?_
        refine AOps.pass ⟨34, rfl, .inl ⟨_, rfl, rfl⟩⟩ rfl rfl ?_
        refine AOps.pass ⟨34, rfl, .inl ⟨_, rfl, rfl⟩⟩ rfl rfl ?_
        refine AOps.pass ⟨34, rfl, .inl ⟨_, rfl, rfl⟩⟩ rfl rfl ?_
        refine AOps.pass ⟨34, rfl, .inl ⟨_, rfl, rfl⟩⟩ rfl rfl ?_
        refine AOps.step rfl rfl rfl (AOp.pickT rfl rfl rfl) ?_
        refine AOps.mD rfl rfl rfl rfl rfl ?_
        refine AOps.pass ⟨42, rfl, .inl ⟨_, rfl, rfl⟩⟩ rfl rfl ?_
        refine AOps.pass ⟨42, rfl, .inl ⟨_, rfl, rfl⟩⟩ rfl rfl ?_
        refine AOps.pass ⟨42, rfl, .inl ⟨_, rfl, rfl⟩⟩ rfl rfl ?_
        refine AOps.pass ⟨42, rfl, .inl ⟨_, rfl, rfl⟩⟩ rfl rfl ?_
        refine AOps.step rfl rfl rfl (AOp.pickT rfl rfl rfl) ?_
        refine AOps.aD rfl rfl rfl rfl rfl (.nil ?_)
        refine AWP.cond rfl (fun _ => ?_) (fun h => nomatch h)
        refine AWP.seq (AWP.region ?_)
        refine AOps.aD rfl rfl rfl rfl rfl (.nil ?_)
        refine AWP.ret ?_
        refine ⟨RetD.eq rfl ?_, trivial⟩
        all_goals (rw [HF])
      replace g5 := bnot_f g5; replace g5 := of_decide_eq_true g5
      have he1 := g5
      refine AOps.step ⟨34, rfl, .inl ⟨_, rfl, rfl⟩⟩ rfl rfl (AOp.fieldAddr rfl fo_65_4 rfl) ?_
      refine AOps.step ⟨34, rfl, .inl ⟨_, rfl, rfl⟩⟩ rfl rfl (AOp.load rfl sc_3 rfl) ?_
      refine AOps.step ⟨34, rfl, .inl ⟨_, rfl, rfl⟩⟩ rfl rfl (AOp.fieldAddr rfl fo_65_3 rfl) ?_
      refine AOps.step ⟨34, rfl, .inl ⟨_, rfl, rfl⟩⟩ rfl rfl (AOp.load rfl sc_3 rfl) ?_
      refine AOps.step ⟨34, rfl, .inl ⟨_, rfl, rfl⟩⟩ rfl rfl (AOp.call rfl (.cons (ArgOk.rfl' rfl) (.cons (ArgOk.rfl' rfl) (.cons (ArgOk.rfl' rfl) .nil))) (c_rWithin _ _ _)) ?_
      refine AOps.step ⟨34, rfl, .inl ⟨_, rfl, rfl⟩⟩ rfl rfl (AOp.not rfl rfl) ?_
      refine AOps.step rfl rfl rfl (AOp.pickF rfl rfl rfl) ?_
      refine AOps.mD rfl rfl rfl rfl rfl ?_
      refine AOps.split 42 rfl (fun g6 => ?_) (fun g6 => ?_)
      · replace g6 := bnot_t g6; replace g6 := of_decide_eq_false g6
        have HF : cpyFault v c b = 1 := ((if_neg hA).trans ((if_neg hB).trans ((if_neg hC).trans ((if_neg hDD).trans (if_pos (.inr (.inl g6)))))))
        refine AOps.pass ⟨42, rfl, .inl ⟨_, rfl, rfl⟩⟩ rfl rfl ?_
        refine AOps.pass ⟨42, rfl, .inl ⟨_, rfl, rfl⟩⟩ rfl rfl ?_
        refine AOps.pass ⟨42, rfl, .inl ⟨_, rfl, rfl⟩⟩ rfl rfl ?_
        refine AOps.pass ⟨42, rfl, .inl ⟨_, rfl, rfl⟩⟩ rfl rfl ?_
        refine AOps.step rfl rfl rfl (AOp.pickT rfl rfl rfl) ?_
        refine AOps.aD rfl rfl rfl rfl rfl (.nil ?_)
        refine AWP.cond rfl (fun _ => ?_) (fun h => nomatch h)
        refine AWP.seq (AWP.region ?_)
        refine AOps.aD rfl rfl rfl rfl rfl (.nil ?_)
        refine AWP.ret ?_
        refine ⟨RetD.eq rfl ?_, trivial⟩
        all_goals (rw [HF])
      replace g6 := bnot_f g6; replace g6 := of_decide_eq_true g6
      have he2 := g6
      refine AOps.step ⟨42, rfl, .inl ⟨_, rfl, rfl⟩⟩ rfl rfl (AOp.fieldAddr rfl fo_65_5 rfl) ?_
      refine AOps.step ⟨42, rfl, .inl ⟨_, rfl, rfl⟩⟩ rfl rfl (AOp.load rfl sc_3 rfl) ?_
      refine AOps.step ⟨42, rfl, .inl ⟨_, rfl, rfl⟩⟩ rfl rfl (AOp.call rfl (.cons (ArgOk.rfl' rfl) (.cons (ArgOk.rfl' rfl) (.cons (ArgOk.rfl' rfl) .nil))) (c_rWithin _ _ _)) ?_
      refine AOps.step ⟨42, rfl, .inl ⟨_, rfl, rfl⟩⟩ rfl rfl (AOp.not rfl rfl) ?_
      refine AOps.step rfl rfl rfl (AOp.pickF rfl rfl rfl) ?_
      refine AOps.aD rfl rfl rfl rfl rfl (.nil ?_)
      refine AWP.cond rfl (fun h7 => ?_) (fun h7 => ?_)
      · replace h7 := bnot_t h7; replace h7 := of_decide_eq_false h7
        have HF : cpyFault v c b = 1 := ((if_neg hA).trans ((if_neg hB).trans ((if_neg hC).trans ((if_neg hDD).trans (if_pos (.inr (.inr h7)))))))
        refine AWP.seq (AWP.region ?_)
        refine AOps.aD rfl rfl rfl rfl rfl (.nil ?_)
        refine AWP.ret ?_
        refine ⟨RetD.eq rfl ?_, trivial⟩
        all_goals (rw [HF])
      replace h7 := bnot_f h7; replace h7 := of_decide_eq_true h7
      have hE : ¬ (¬ (0 ≤ c.day ∧ c.day ≤ 200000) ∨ ¬ (c.day ≤ c.last ∧ c.last ≤ 200000) ∨ ¬ (1 ≤ c.gen ∧ c.gen ≤ 100)) := by omega
      refine AWP.seq (AWP.region ?_)
      refine AOps.step rfl rfl rfl (AOp.fieldAddr rfl fo_65_5 rfl) ?_
      refine AOps.step rfl rfl rfl (AOp.load rfl sc_3 rfl) ?_
      refine AOps.step rfl rfl rfl (AOp.eql rfl rfl rfl) ?_
      refine AOps.step rfl rfl rfl (AOp.fieldAddr rfl fo_65_2 rfl) ?_
      refine AOps.step rfl rfl rfl (AOp.load rfl sc_9 rfl) ?_
      refine AOps.step rfl rfl rfl (AOp.seql rfl rfl rfl) ?_
      refine AOps.step rfl rfl rfl (AOp.bneq rfl bt_4 rfl rfl) ?_
      refine AOps.aD rfl rfl rfl rfl rfl (.nil ?_)
      refine AWP.cond rfl (fun h8 => ?_) (fun h8 => ?_)
      · replace h8 := of_decide_eq_true h8
        have HF : cpyFault v c b = 3 := ((if_neg hA).trans ((if_neg hB).trans ((if_neg hC).trans ((if_neg hDD).trans ((if_neg hE).trans (if_pos h8))))))
        refine AWP.seq (AWP.region ?_)
        refine AOps.aD rfl rfl rfl rfl rfl (.nil ?_)
        refine AWP.ret ?_
        refine ⟨RetD.eq rfl ?_, trivial⟩
        all_goals (rw [HF])
      replace h8 := of_decide_eq_false h8
      have hG := h8
      have HX : cpyFault v c b = ffst (badFault (itemBlocks v c.item) c.bad) c.bad.length := ((if_neg hA).trans ((if_neg hB).trans ((if_neg hC).trans ((if_neg hDD).trans ((if_neg hE).trans (if_neg hG))))))
      refine AWP.skip ?_
      refine AWP.seq ?_
      refine AWP.seq (AWP.region ?_)
      refine AOps.step rfl rfl rfl (AOp.fieldAddr rfl fo_65_6 rfl) ?_
      refine AOps.step rfl rfl rfl (AOp.load rfl sc_63 rfl) ?_
      refine AOps.step rfl rfl rfl (AOp.lenSl rfl et_63.ht rfl) ?_
      refine AOps.mD rfl rfl rfl rfl rfl (.nil ?_)
      refine AWP.block ?_
      refine AWP.bound 57 rfl (fun hbd => ?_)
      rw [List.length_map] at hbd
      refine AWP.loop (G := Nat) (fun q => Env.of [(59, .d (.v (.int .i64 (q : Int)))), (57, .d (.sl (c.bad.map intD))), (58, .d (.v (.int .i64 ((c.bad.map intD).length : Int)))), (2, .d (.fp v.ds)), (3, .d (.fp c.ds))]) (fun q => []) (fun q => q ≤ c.bad.length ∧ ffst (badFault (itemBlocks v c.item) c.bad) q = 0) (fun q => c.bad.length - q) 0 ⟨Nat.zero_le _, rfl⟩ (Sub.less ⟨(SLe.of_eq rfl), SLe.refl _, SLe.refl _, SLe.refl _, SLe.refl _, trivial⟩ (fun _ h => h)) ?_
      intro q hq
      refine AWP.seq (AWP.region ?_)
      refine AOps.step rfl rfl rfl (AOp.lss rfl rfl rfl) (.nil ?_)
      refine AWP.seq ?_
      refine AWP.cond rfl (fun h9 => ?_) (fun h9 => ?_)
      · replace h9 := of_decide_eq_true h9
        rw [List.length_map] at h9
        have hlt : q < c.bad.length := by omega
        refine AWP.skip ?_
        refine AWP.seq ?_
        refine AWP.block ?_
        refine AWP.seq (AWP.region ?_)
        refine AOps.mD rfl rfl rfl rfl rfl ?_
        refine AOps.step rfl rfl rfl (AOp.indexAddr rfl et_63 rfl rfl q rfl (at_list hlt) rfl) ?_
        refine AOps.step rfl rfl rfl (AOp.load rfl sc_3 rfl) ?_
        refine AOps.aD rfl rfl rfl rfl rfl ?_
        refine AOps.aD rfl rfl rfl rfl rfl (.nil ?_)
        refine AWP.seq ?_
        refine AWP.seq ?_
        refine AWP.draw (by kernel_rfl) (by kernel_rfl) ?_
        refine DRun.step rfl rfl rfl (AOp.moveD rfl rfl) ?_
        refine DRun.step rfl rfl rfl (AOp.fieldAddr rfl fo_26_0 rfl) ?_
        refine DRun.step rfl rfl rfl (AOp.load rfl sc_22 rfl) ?_
        refine DRun.step rfl rfl rfl (AOp.loadAgg rfl ag_26 rfl rfl) ?_
        refine DRun.step rfl rfl rfl (AOp.fieldAddr rfl fo_65_0 rfl) ?_
        refine DRun.step rfl rfl rfl (AOp.load rfl sc_9 rfl) ?_
        refine DRun.step rfl rfl rfl (AOp.call rfl (.cons (ArgOk.rfl' rfl) (.cons (ArgOk.rfl' rfl) .nil)) (c_itemOf _ _)) ?_
        refine DRun.step rfl rfl rfl (AOp.indexAddr rfl et_22 rfl rfl ki eki (at_list hki) rfl) ?_
        refine DRun.step rfl rfl rfl (AOp.fieldAddr rfl fo_62_1 rfl) ?_
        refine DRun.step rfl rfl rfl (AOp.load rfl sc_3 rfl) ?_
        refine DRun.step rfl rfl rfl (AOp.sub64 rfl rfl rfl (by omega) (by omega)) ?_
        refine DRun.step rfl rfl rfl (AOp.call rfl (.cons (ArgOk.rfl' rfl) (.cons (ArgOk.rfl' rfl) (.cons (ArgOk.rfl' rfl) .nil))) (c_rWithin _ _ _)) ?_
        refine DRun.step rfl rfl rfl (AOp.not rfl rfl) ?_
        refine DRun.nil ?_
        refine AWP.cond rfl (fun h10 => ?_) (fun h10 => ?_)
        · replace h10 := bnot_t h10; replace h10 := of_decide_eq_false h10
          have H1 := badFault_1 (n := itemBlocks v c.item) hlt (by rw [hib]; exact h10)
          have HF : cpyFault v c b = 1 := by rw [HX, ffst_hit hq.2 (by rw [H1]; decide) _ hlt, H1]
          refine AWP.seq (AWP.region ?_)
          refine AOps.aD rfl rfl rfl rfl rfl (.nil ?_)
          refine AWP.ret ?_
          refine ⟨RetD.eq rfl ?_, trivial⟩
          all_goals (rw [HF])
        replace h10 := bnot_f h10; replace h10 := of_decide_eq_true h10
        have h7 : 0 ≤ c.bad[q] ∧ c.bad[q] ≤ itemBlocks v c.item - 1 := by rw [hib]; omega
        refine AWP.skip ?_
        refine AWP.seq (AWP.region ?_)
        refine AOps.mD rfl rfl rfl rfl rfl ?_
        refine AOps.step rfl rfl rfl (AOp.gtr rfl rfl rfl) ?_
        refine AOps.mD rfl rfl rfl rfl rfl ?_
        refine AOps.split 79 rfl (fun g11 => ?_) (fun g11 => ?_)
        · replace g11 := of_decide_eq_true g11
          refine AOps.step ⟨79, rfl, .inl ⟨_, rfl, rfl⟩⟩ rfl rfl (AOp.moveD rfl rfl) ?_
          refine AOps.step ⟨79, rfl, .inl ⟨_, rfl, rfl⟩⟩ rfl rfl (AOp.fieldAddr rfl fo_65_6 rfl) ?_
          refine AOps.step ⟨79, rfl, .inl ⟨_, rfl, rfl⟩⟩ rfl rfl (AOp.load rfl sc_63 rfl) ?_
          refine AOps.step ⟨79, rfl, .inl ⟨_, rfl, rfl⟩⟩ rfl rfl (AOp.moveD rfl rfl) ?_
          refine AOps.step ⟨79, rfl, .inl ⟨_, rfl, rfl⟩⟩ rfl rfl (AOp.sub64 rfl rfl rfl (by omega) (by omega)) ?_
          refine AOps.step ⟨79, rfl, .inl ⟨_, rfl, rfl⟩⟩ rfl rfl (AOp.indexAddr rfl et_63 rfl rfl (q - 1) (by omega) (at_list (by omega)) rfl) ?_
          refine AOps.step ⟨79, rfl, .inl ⟨_, rfl, rfl⟩⟩ rfl rfl (AOp.load rfl sc_3 rfl) ?_
          refine AOps.step ⟨79, rfl, .inl ⟨_, rfl, rfl⟩⟩ rfl rfl (AOp.leq rfl rfl rfl) ?_
          refine AOps.step rfl rfl rfl (AOp.pickT rfl rfl rfl) (.nil ?_)
          refine AWP.cond rfl (fun h12 => ?_) (fun h12 => ?_)
          · replace h12 := of_decide_eq_true h12
            have H8 := badFault_8 hlt h7 (by omega) h12
            have HF : cpyFault v c b = 8 := by rw [HX, ffst_hit hq.2 (by rw [H8]; decide) _ hlt, H8]
            refine AWP.seq (AWP.region ?_)
            refine AOps.aD rfl rfl rfl rfl rfl (.nil ?_)
            refine AWP.ret ?_
            refine ⟨RetD.eq rfl ?_, trivial⟩
            all_goals (rw [HF])
          replace h12 := of_decide_eq_false h12
          have h8 : 0 < q → ¬ c.bad[q] ≤ c.bad[q-1] := fun _ => h12
          refine AWP.skip ?_
          refine AWP.region ?_
          refine AOps.step rfl rfl rfl (AOp.add64 rfl rfl rfl (by omega) (by omega)) ?_
          refine AOps.mD rfl rfl rfl rfl rfl (.nil ?_)
          refine ⟨q + 1, ⟨by omega, ffst_next hq.2 (badFault_0 hlt h7 h8)⟩, (by dsimp only; omega), Sub.less ⟨(SLe.of_eq rfl), SLe.refl _, SLe.refl _, SLe.refl _, SLe.refl _, trivial⟩ (fun _ h => h)⟩
        replace g11 := of_decide_eq_false g11
        have h8 : 0 < q → ¬ c.bad[q] ≤ c.bad[q-1] := fun hh => absurd hh (by omega)
        refine AOps.pass ⟨79, rfl, .inl ⟨_, rfl, rfl⟩⟩ rfl rfl ?_
        refine AOps.pass ⟨79, rfl, .inl ⟨_, rfl, rfl⟩⟩ rfl rfl ?_
        refine AOps.pass ⟨79, rfl, .inl ⟨_, rfl, rfl⟩⟩ rfl rfl ?_
        refine AOps.pass ⟨79, rfl, .inl ⟨_, rfl, rfl⟩⟩ rfl rfl ?_
        refine AOps.pass ⟨79, rfl, .inl ⟨_, rfl, rfl⟩⟩ rfl rfl ?_
        refine AOps.pass ⟨79, rfl, .inl ⟨_, rfl, rfl⟩⟩ rfl rfl ?_
        refine AOps.pass ⟨79, rfl, .inl ⟨_, rfl, rfl⟩⟩ rfl rfl ?_
        refine AOps.pass ⟨79, rfl, .inl ⟨_, rfl, rfl⟩⟩ rfl rfl ?_
        refine AOps.step rfl rfl rfl (AOp.pickF rfl rfl rfl) (.nil ?_)
        refine AWP.cond rfl (fun h => nomatch h) (fun _ => ?_)
        refine AWP.skip ?_
        refine AWP.region ?_
        refine AOps.step rfl rfl rfl (AOp.add64 rfl rfl rfl (by omega) (by omega)) ?_
        refine AOps.mD rfl rfl rfl rfl rfl (.nil ?_)
        refine ⟨q + 1, ⟨by omega, ffst_next hq.2 (badFault_0 hlt h7 h8)⟩, (by dsimp only; omega), Sub.less ⟨(SLe.of_eq rfl), SLe.refl _, SLe.refl _, SLe.refl _, SLe.refl _, trivial⟩ (fun _ h => h)⟩
      replace h9 := of_decide_eq_false h9
      rw [List.length_map] at h9
      have HF : cpyFault v c b = 0 := by rw [HX, ← show q = c.bad.length by omega]; exact hq.2
      refine AWP.exit ?_
      refine AWP.seq (AWP.region ?_)
      refine AOps.aD rfl rfl rfl rfl rfl (.nil ?_)
      refine AWP.ret ?_
      refine ⟨RetD.eq rfl ?_, trivial⟩
      all_goals (rw [HF])
    replace g3 := of_decide_eq_false g3
    have hDD : ¬ c.frm = c.carrier := fun hh => g3 (fun h5 => hne (hh.symm.trans h5))
    refine AOps.pass ⟨22, rfl, .inl ⟨_, rfl, rfl⟩⟩ rfl rfl ?_
    refine AOps.pass ⟨22, rfl, .inl ⟨_, rfl, rfl⟩⟩ rfl rfl ?_
    refine AOps.pass ⟨22, rfl, .inl ⟨_, rfl, rfl⟩⟩ rfl rfl ?_
    refine AOps.pass ⟨22, rfl, .inl ⟨_, rfl, rfl⟩⟩ rfl rfl ?_
    refine AOps.pass ⟨22, rfl, .inl ⟨_, rfl, rfl⟩⟩ rfl rfl ?_
    refine AOps.step rfl rfl rfl (AOp.pickF rfl rfl rfl) ?_
    refine AOps.aD rfl rfl rfl rfl rfl (.nil ?_)
    refine AWP.cond rfl (fun h => nomatch h) (fun _ => ?_)
    refine AWP.seq (AWP.region ?_)
    refine AOps.step rfl rfl rfl (AOp.fieldAddr rfl fo_65_3 rfl) ?_
    refine AOps.step rfl rfl rfl (AOp.load rfl sc_3 rfl) ?_
    refine AOps.step rfl rfl rfl (AOp.call rfl (.cons (ArgOk.rfl' rfl) .nil) (c_rDay _)) ?_
    refine AOps.step rfl rfl rfl (AOp.not rfl rfl) ?_
    refine AOps.mD rfl rfl rfl rfl rfl ?_
    refine AOps.split 34 rfl (fun g13 => ?_) (fun g13 => ?_)
    · replace g13 := bnot_t g13; replace g13 := of_decide_eq_false g13
      have HF : cpyFault v c b = 1 := ((if_neg hA).trans ((if_neg hB).trans ((if_neg hC).trans ((if_neg hDD).trans (if_pos (.inl g13))))))
      refine AOps.pass ⟨34, rfl, .inl ⟨_, rfl, rfl⟩⟩ rfl rfl ?_
      refine AOps.pass ⟨34, rfl, .inl ⟨_, rfl, rfl⟩⟩ rfl rfl ?_
      refine AOps.pass ⟨34, rfl, .inl ⟨_, rfl, rfl⟩⟩ rfl rfl ?_
      refine AOps.pass ⟨34, rfl, .inl ⟨_, rfl, rfl⟩⟩ rfl rfl ?_
      refine AOps.pass ⟨34, rfl, .inl ⟨_, rfl, rfl⟩⟩ rfl rfl ?_
      refine AOps.pass ⟨34, rfl, .inl ⟨_, rfl, rfl⟩⟩ rfl rfl ?_
      refine AOps.step rfl rfl rfl (AOp.pickT rfl rfl rfl) ?_
      refine AOps.mD rfl rfl rfl rfl rfl ?_
      refine AOps.pass ⟨42, rfl, .inl ⟨_, rfl, rfl⟩⟩ rfl rfl ?_
      refine AOps.pass ⟨42, rfl, .inl ⟨_, rfl, rfl⟩⟩ rfl rfl ?_
      refine AOps.pass ⟨42, rfl, .inl ⟨_, rfl, rfl⟩⟩ rfl rfl ?_
      refine AOps.pass ⟨42, rfl, .inl ⟨_, rfl, rfl⟩⟩ rfl rfl ?_
      refine AOps.step rfl rfl rfl (AOp.pickT rfl rfl rfl) ?_
      refine AOps.aD rfl rfl rfl rfl rfl (.nil ?_)
      refine AWP.cond rfl (fun _ => ?_) (fun h => nomatch h)
      refine AWP.seq (AWP.region ?_)
      refine AOps.aD rfl rfl rfl rfl rfl (.nil ?_)
      refine AWP.ret ?_
      refine ⟨RetD.eq rfl ?_, trivial⟩
      all_goals (rw [HF])
    replace g13 := bnot_f g13; replace g13 := of_decide_eq_true g13
    have he1 := g13
    refine AOps.step ⟨34, rfl, .inl ⟨_, rfl, rfl⟩⟩ rfl rfl (AOp.fieldAddr rfl fo_65_4 rfl) ?_
    refine AOps.step ⟨34, rfl, .inl ⟨_, rfl, rfl⟩⟩ rfl rfl (AOp.load rfl sc_3 rfl) ?_
    refine AOps.step ⟨34, rfl, .inl ⟨_, rfl, rfl⟩⟩ rfl rfl (AOp.fieldAddr rfl fo_65_3 rfl) ?_
    refine AOps.step ⟨34, rfl, .inl ⟨_, rfl, rfl⟩⟩ rfl rfl (AOp.load rfl sc_3 rfl) ?_
    refine AOps.step ⟨34, rfl, .inl ⟨_, rfl, rfl⟩⟩ rfl rfl (AOp.call rfl (.cons (ArgOk.rfl' rfl) (.cons (ArgOk.rfl' rfl) (.cons (ArgOk.rfl' rfl) .nil))) (c_rWithin _ _ _)) ?_
    refine AOps.step ⟨34, rfl, .inl ⟨_, rfl, rfl⟩⟩ rfl rfl (AOp.not rfl rfl) ?_
    refine AOps.step rfl rfl rfl (AOp.pickF rfl rfl rfl) ?_
    refine AOps.mD rfl rfl rfl rfl rfl ?_
    refine AOps.split 42 rfl (fun g14 => ?_) (fun g14 => ?_)
    · replace g14 := bnot_t g14; replace g14 := of_decide_eq_false g14
      have HF : cpyFault v c b = 1 := ((if_neg hA).trans ((if_neg hB).trans ((if_neg hC).trans ((if_neg hDD).trans (if_pos (.inr (.inl g14)))))))
      refine AOps.pass ⟨42, rfl, .inl ⟨_, rfl, rfl⟩⟩ rfl rfl ?_
      refine AOps.pass ⟨42, rfl, .inl ⟨_, rfl, rfl⟩⟩ rfl rfl ?_
      refine AOps.pass ⟨42, rfl, .inl ⟨_, rfl, rfl⟩⟩ rfl rfl ?_
      refine AOps.pass ⟨42, rfl, .inl ⟨_, rfl, rfl⟩⟩ rfl rfl ?_
      refine AOps.step rfl rfl rfl (AOp.pickT rfl rfl rfl) ?_
      refine AOps.aD rfl rfl rfl rfl rfl (.nil ?_)
      refine AWP.cond rfl (fun _ => ?_) (fun h => nomatch h)
      refine AWP.seq (AWP.region ?_)
      refine AOps.aD rfl rfl rfl rfl rfl (.nil ?_)
      refine AWP.ret ?_
      refine ⟨RetD.eq rfl ?_, trivial⟩
      all_goals (rw [HF])
    replace g14 := bnot_f g14; replace g14 := of_decide_eq_true g14
    have he2 := g14
    refine AOps.step ⟨42, rfl, .inl ⟨_, rfl, rfl⟩⟩ rfl rfl (AOp.fieldAddr rfl fo_65_5 rfl) ?_
    refine AOps.step ⟨42, rfl, .inl ⟨_, rfl, rfl⟩⟩ rfl rfl (AOp.load rfl sc_3 rfl) ?_
    refine AOps.step ⟨42, rfl, .inl ⟨_, rfl, rfl⟩⟩ rfl rfl (AOp.call rfl (.cons (ArgOk.rfl' rfl) (.cons (ArgOk.rfl' rfl) (.cons (ArgOk.rfl' rfl) .nil))) (c_rWithin _ _ _)) ?_
    refine AOps.step ⟨42, rfl, .inl ⟨_, rfl, rfl⟩⟩ rfl rfl (AOp.not rfl rfl) ?_
    refine AOps.step rfl rfl rfl (AOp.pickF rfl rfl rfl) ?_
    refine AOps.aD rfl rfl rfl rfl rfl (.nil ?_)
    refine AWP.cond rfl (fun h15 => ?_) (fun h15 => ?_)
    · replace h15 := bnot_t h15; replace h15 := of_decide_eq_false h15
      have HF : cpyFault v c b = 1 := ((if_neg hA).trans ((if_neg hB).trans ((if_neg hC).trans ((if_neg hDD).trans (if_pos (.inr (.inr h15)))))))
      refine AWP.seq (AWP.region ?_)
      refine AOps.aD rfl rfl rfl rfl rfl (.nil ?_)
      refine AWP.ret ?_
      refine ⟨RetD.eq rfl ?_, trivial⟩
      all_goals (rw [HF])
    replace h15 := bnot_f h15; replace h15 := of_decide_eq_true h15
    have hE : ¬ (¬ (0 ≤ c.day ∧ c.day ≤ 200000) ∨ ¬ (c.day ≤ c.last ∧ c.last ≤ 200000) ∨ ¬ (1 ≤ c.gen ∧ c.gen ≤ 100)) := by omega
    refine AWP.seq (AWP.region ?_)
    refine AOps.step rfl rfl rfl (AOp.fieldAddr rfl fo_65_5 rfl) ?_
    refine AOps.step rfl rfl rfl (AOp.load rfl sc_3 rfl) ?_
    refine AOps.step rfl rfl rfl (AOp.eql rfl rfl rfl) ?_
    refine AOps.step rfl rfl rfl (AOp.fieldAddr rfl fo_65_2 rfl) ?_
    refine AOps.step rfl rfl rfl (AOp.load rfl sc_9 rfl) ?_
    refine AOps.step rfl rfl rfl (AOp.seql rfl rfl rfl) ?_
    refine AOps.step rfl rfl rfl (AOp.bneq rfl bt_4 rfl rfl) ?_
    refine AOps.aD rfl rfl rfl rfl rfl (.nil ?_)
    refine AWP.cond rfl (fun h16 => ?_) (fun h16 => ?_)
    · replace h16 := of_decide_eq_true h16
      have HF : cpyFault v c b = 3 := ((if_neg hA).trans ((if_neg hB).trans ((if_neg hC).trans ((if_neg hDD).trans ((if_neg hE).trans (if_pos h16))))))
      refine AWP.seq (AWP.region ?_)
      refine AOps.aD rfl rfl rfl rfl rfl (.nil ?_)
      refine AWP.ret ?_
      refine ⟨RetD.eq rfl ?_, trivial⟩
      all_goals (rw [HF])
    replace h16 := of_decide_eq_false h16
    have hG := h16
    have HX : cpyFault v c b = ffst (badFault (itemBlocks v c.item) c.bad) c.bad.length := ((if_neg hA).trans ((if_neg hB).trans ((if_neg hC).trans ((if_neg hDD).trans ((if_neg hE).trans (if_neg hG))))))
    refine AWP.skip ?_
    refine AWP.seq ?_
    refine AWP.seq (AWP.region ?_)
    refine AOps.step rfl rfl rfl (AOp.fieldAddr rfl fo_65_6 rfl) ?_
    refine AOps.step rfl rfl rfl (AOp.load rfl sc_63 rfl) ?_
    refine AOps.step rfl rfl rfl (AOp.lenSl rfl et_63.ht rfl) ?_
    refine AOps.mD rfl rfl rfl rfl rfl (.nil ?_)
    refine AWP.block ?_
    refine AWP.bound 57 rfl (fun hbd => ?_)
    rw [List.length_map] at hbd
    refine AWP.loop (G := Nat) (fun q => Env.of [(59, .d (.v (.int .i64 (q : Int)))), (57, .d (.sl (c.bad.map intD))), (58, .d (.v (.int .i64 ((c.bad.map intD).length : Int)))), (2, .d (.fp v.ds)), (3, .d (.fp c.ds))]) (fun q => []) (fun q => q ≤ c.bad.length ∧ ffst (badFault (itemBlocks v c.item) c.bad) q = 0) (fun q => c.bad.length - q) 0 ⟨Nat.zero_le _, rfl⟩ (Sub.less ⟨(SLe.of_eq rfl), SLe.refl _, SLe.refl _, SLe.refl _, SLe.refl _, trivial⟩ (fun _ h => h)) ?_
    intro q hq
    refine AWP.seq (AWP.region ?_)
    refine AOps.step rfl rfl rfl (AOp.lss rfl rfl rfl) (.nil ?_)
    refine AWP.seq ?_
    refine AWP.cond rfl (fun h17 => ?_) (fun h17 => ?_)
    · replace h17 := of_decide_eq_true h17
      rw [List.length_map] at h17
      have hlt : q < c.bad.length := by omega
      refine AWP.skip ?_
      refine AWP.seq ?_
      refine AWP.block ?_
      refine AWP.seq (AWP.region ?_)
      refine AOps.mD rfl rfl rfl rfl rfl ?_
      refine AOps.step rfl rfl rfl (AOp.indexAddr rfl et_63 rfl rfl q rfl (at_list hlt) rfl) ?_
      refine AOps.step rfl rfl rfl (AOp.load rfl sc_3 rfl) ?_
      refine AOps.aD rfl rfl rfl rfl rfl ?_
      refine AOps.aD rfl rfl rfl rfl rfl (.nil ?_)
      refine AWP.seq ?_
      refine AWP.seq ?_
      refine AWP.draw (by kernel_rfl) (by kernel_rfl) ?_
      refine DRun.step rfl rfl rfl (AOp.moveD rfl rfl) ?_
      refine DRun.step rfl rfl rfl (AOp.fieldAddr rfl fo_26_0 rfl) ?_
      refine DRun.step rfl rfl rfl (AOp.load rfl sc_22 rfl) ?_
      refine DRun.step rfl rfl rfl (AOp.loadAgg rfl ag_26 rfl rfl) ?_
      refine DRun.step rfl rfl rfl (AOp.fieldAddr rfl fo_65_0 rfl) ?_
      refine DRun.step rfl rfl rfl (AOp.load rfl sc_9 rfl) ?_
      refine DRun.step rfl rfl rfl (AOp.call rfl (.cons (ArgOk.rfl' rfl) (.cons (ArgOk.rfl' rfl) .nil)) (c_itemOf _ _)) ?_
      refine DRun.step rfl rfl rfl (AOp.indexAddr rfl et_22 rfl rfl ki eki (at_list hki) rfl) ?_
      refine DRun.step rfl rfl rfl (AOp.fieldAddr rfl fo_62_1 rfl) ?_
      refine DRun.step rfl rfl rfl (AOp.load rfl sc_3 rfl) ?_
      refine DRun.step rfl rfl rfl (AOp.sub64 rfl rfl rfl (by omega) (by omega)) ?_
      refine DRun.step rfl rfl rfl (AOp.call rfl (.cons (ArgOk.rfl' rfl) (.cons (ArgOk.rfl' rfl) (.cons (ArgOk.rfl' rfl) .nil))) (c_rWithin _ _ _)) ?_
      refine DRun.step rfl rfl rfl (AOp.not rfl rfl) ?_
      refine DRun.nil ?_
      refine AWP.cond rfl (fun h18 => ?_) (fun h18 => ?_)
      · replace h18 := bnot_t h18; replace h18 := of_decide_eq_false h18
        have H1 := badFault_1 (n := itemBlocks v c.item) hlt (by rw [hib]; exact h18)
        have HF : cpyFault v c b = 1 := by rw [HX, ffst_hit hq.2 (by rw [H1]; decide) _ hlt, H1]
        refine AWP.seq (AWP.region ?_)
        refine AOps.aD rfl rfl rfl rfl rfl (.nil ?_)
        refine AWP.ret ?_
        refine ⟨RetD.eq rfl ?_, trivial⟩
        all_goals (rw [HF])
      replace h18 := bnot_f h18; replace h18 := of_decide_eq_true h18
      have h7 : 0 ≤ c.bad[q] ∧ c.bad[q] ≤ itemBlocks v c.item - 1 := by rw [hib]; omega
      refine AWP.skip ?_
      refine AWP.seq (AWP.region ?_)
      refine AOps.mD rfl rfl rfl rfl rfl ?_
      refine AOps.step rfl rfl rfl (AOp.gtr rfl rfl rfl) ?_
      refine AOps.mD rfl rfl rfl rfl rfl ?_
      refine AOps.split 79 rfl (fun g19 => ?_) (fun g19 => ?_)
      · replace g19 := of_decide_eq_true g19
        refine AOps.step ⟨79, rfl, .inl ⟨_, rfl, rfl⟩⟩ rfl rfl (AOp.moveD rfl rfl) ?_
        refine AOps.step ⟨79, rfl, .inl ⟨_, rfl, rfl⟩⟩ rfl rfl (AOp.fieldAddr rfl fo_65_6 rfl) ?_
        refine AOps.step ⟨79, rfl, .inl ⟨_, rfl, rfl⟩⟩ rfl rfl (AOp.load rfl sc_63 rfl) ?_
        refine AOps.step ⟨79, rfl, .inl ⟨_, rfl, rfl⟩⟩ rfl rfl (AOp.moveD rfl rfl) ?_
        refine AOps.step ⟨79, rfl, .inl ⟨_, rfl, rfl⟩⟩ rfl rfl (AOp.sub64 rfl rfl rfl (by omega) (by omega)) ?_
        refine AOps.step ⟨79, rfl, .inl ⟨_, rfl, rfl⟩⟩ rfl rfl (AOp.indexAddr rfl et_63 rfl rfl (q - 1) (by omega) (at_list (by omega)) rfl) ?_
        refine AOps.step ⟨79, rfl, .inl ⟨_, rfl, rfl⟩⟩ rfl rfl (AOp.load rfl sc_3 rfl) ?_
        refine AOps.step ⟨79, rfl, .inl ⟨_, rfl, rfl⟩⟩ rfl rfl (AOp.leq rfl rfl rfl) ?_
        refine AOps.step rfl rfl rfl (AOp.pickT rfl rfl rfl) (.nil ?_)
        refine AWP.cond rfl (fun h20 => ?_) (fun h20 => ?_)
        · replace h20 := of_decide_eq_true h20
          have H8 := badFault_8 hlt h7 (by omega) h20
          have HF : cpyFault v c b = 8 := by rw [HX, ffst_hit hq.2 (by rw [H8]; decide) _ hlt, H8]
          refine AWP.seq (AWP.region ?_)
          refine AOps.aD rfl rfl rfl rfl rfl (.nil ?_)
          refine AWP.ret ?_
          refine ⟨RetD.eq rfl ?_, trivial⟩
          all_goals (rw [HF])
        replace h20 := of_decide_eq_false h20
        have h8 : 0 < q → ¬ c.bad[q] ≤ c.bad[q-1] := fun _ => h20
        refine AWP.skip ?_
        refine AWP.region ?_
        refine AOps.step rfl rfl rfl (AOp.add64 rfl rfl rfl (by omega) (by omega)) ?_
        refine AOps.mD rfl rfl rfl rfl rfl (.nil ?_)
        refine ⟨q + 1, ⟨by omega, ffst_next hq.2 (badFault_0 hlt h7 h8)⟩, (by dsimp only; omega), Sub.less ⟨(SLe.of_eq rfl), SLe.refl _, SLe.refl _, SLe.refl _, SLe.refl _, trivial⟩ (fun _ h => h)⟩
      replace g19 := of_decide_eq_false g19
      have h8 : 0 < q → ¬ c.bad[q] ≤ c.bad[q-1] := fun hh => absurd hh (by omega)
      refine AOps.pass ⟨79, rfl, .inl ⟨_, rfl, rfl⟩⟩ rfl rfl ?_
      refine AOps.pass ⟨79, rfl, .inl ⟨_, rfl, rfl⟩⟩ rfl rfl ?_
      refine AOps.pass ⟨79, rfl, .inl ⟨_, rfl, rfl⟩⟩ rfl rfl ?_
      refine AOps.pass ⟨79, rfl, .inl ⟨_, rfl, rfl⟩⟩ rfl rfl ?_
      refine AOps.pass ⟨79, rfl, .inl ⟨_, rfl, rfl⟩⟩ rfl rfl ?_
      refine AOps.pass ⟨79, rfl, .inl ⟨_, rfl, rfl⟩⟩ rfl rfl ?_
      refine AOps.pass ⟨79, rfl, .inl ⟨_, rfl, rfl⟩⟩ rfl rfl ?_
      refine AOps.pass ⟨79, rfl, .inl ⟨_, rfl, rfl⟩⟩ rfl rfl ?_
      refine AOps.step rfl rfl rfl (AOp.pickF rfl rfl rfl) (.nil ?_)
      refine AWP.cond rfl (fun h => nomatch h) (fun _ => ?_)
      refine AWP.skip ?_
      refine AWP.region ?_
      refine AOps.step rfl rfl rfl (AOp.add64 rfl rfl rfl (by omega) (by omega)) ?_
      refine AOps.mD rfl rfl rfl rfl rfl (.nil ?_)
      refine ⟨q + 1, ⟨by omega, ffst_next hq.2 (badFault_0 hlt h7 h8)⟩, (by dsimp only; omega), Sub.less ⟨(SLe.of_eq rfl), SLe.refl _, SLe.refl _, SLe.refl _, SLe.refl _, trivial⟩ (fun _ h => h)⟩
    replace h17 := of_decide_eq_false h17
    rw [List.length_map] at h17
    have HF : cpyFault v c b = 0 := by rw [HX, ← show q = c.bad.length by omega]; exact hq.2
    refine AWP.exit ?_
    refine AWP.seq (AWP.region ?_)
    refine AOps.aD rfl rfl rfl rfl rfl (.nil ?_)
    refine AWP.ret ?_
    refine ⟨RetD.eq rfl ?_, trivial⟩
    all_goals (rw [HF])
  replace g1 := of_decide_eq_false g1
  have hC : ¬ (c.frm ≠ ⟨#[]⟩ ∧ carrIdx v c.frm < 0) := fun hh => g1 hh.1
  refine AOps.pass ⟨11, rfl, .inl ⟨_, rfl, rfl⟩⟩ rfl rfl ?_
  refine AOps.pass ⟨11, rfl, .inl ⟨_, rfl, rfl⟩⟩ rfl rfl ?_
  refine AOps.pass ⟨11, rfl, .inl ⟨_, rfl, rfl⟩⟩ rfl rfl ?_
  refine AOps.pass ⟨11, rfl, .inl ⟨_, rfl, rfl⟩⟩ rfl rfl ?_
  refine AOps.pass ⟨11, rfl, .inl ⟨_, rfl, rfl⟩⟩ rfl rfl ?_
  refine AOps.step rfl rfl rfl (AOp.pickF rfl rfl rfl) ?_
  refine AOps.aD rfl rfl rfl rfl rfl (.nil ?_)
  refine AWP.cond rfl (fun h => nomatch h) (fun _ => ?_)
  refine AWP.seq (AWP.region ?_)
  refine AOps.step rfl rfl rfl (AOp.fieldAddr rfl fo_65_2 rfl) ?_
  refine AOps.step rfl rfl rfl (AOp.load rfl sc_9 rfl) ?_
  refine AOps.step rfl rfl rfl (AOp.sneq rfl rfl rfl) ?_
  refine AOps.mD rfl rfl rfl rfl rfl ?_
  refine AOps.split 22 rfl (fun g21 => ?_) (fun g21 => ?_)
  · replace g21 := of_decide_eq_true g21
    refine AOps.step ⟨22, rfl, .inl ⟨_, rfl, rfl⟩⟩ rfl rfl (AOp.fieldAddr rfl fo_65_2 rfl) ?_
    refine AOps.step ⟨22, rfl, .inl ⟨_, rfl, rfl⟩⟩ rfl rfl (AOp.load rfl sc_9 rfl) ?_
    refine AOps.step ⟨22, rfl, .inl ⟨_, rfl, rfl⟩⟩ rfl rfl (AOp.fieldAddr rfl fo_65_1 rfl) ?_
    refine AOps.step ⟨22, rfl, .inl ⟨_, rfl, rfl⟩⟩ rfl rfl (AOp.load rfl sc_9 rfl) ?_
    refine AOps.step ⟨22, rfl, .inl ⟨_, rfl, rfl⟩⟩ rfl rfl (AOp.seql rfl rfl rfl) ?_
    refine AOps.step rfl rfl rfl (AOp.pickT rfl rfl rfl) ?_
    refine AOps.aD rfl rfl rfl rfl rfl (.nil ?_)
    refine AWP.cond rfl (fun h22 => ?_) (fun h22 => ?_)
    · replace h22 := of_decide_eq_true h22
      have HF : cpyFault v c b = 12 := ((if_neg hA).trans ((if_neg hB).trans ((if_neg hC).trans (if_pos h22))))
      refine AWP.seq (AWP.region ?_)
      refine AOps.aD rfl rfl rfl rfl rfl (.nil ?_)
      refine AWP.ret ?_
      refine ⟨RetD.eq rfl ?_, trivial⟩
      all_goals (rw [HF])
    replace h22 := of_decide_eq_false h22
    have hDD := h22
    refine AWP.seq (AWP.region ?_)
    refine AOps.step rfl rfl rfl (AOp.fieldAddr rfl fo_65_3 rfl) ?_
    refine AOps.step rfl rfl rfl (AOp.load rfl sc_3 rfl) ?_
    refine AOps.step rfl rfl rfl (AOp.call rfl (.cons (ArgOk.rfl' rfl) .nil) (c_rDay _)) ?_
    refine AOps.step rfl rfl rfl (AOp.not rfl rfl) ?_
    refine AOps.mD rfl rfl rfl rfl rfl ?_
    refine AOps.split 34 rfl (fun g23 => ?_) (fun g23 => ?_)
    · replace g23 := bnot_t g23; replace g23 := of_decide_eq_false g23
      have HF : cpyFault v c b = 1 := ((if_neg hA).trans ((if_neg hB).trans ((if_neg hC).trans ((if_neg hDD).trans (if_pos (.inl g23))))))
      refine AOps.pass ⟨34, rfl, .inl ⟨_, rfl, rfl⟩⟩ rfl rfl ?_
      refine AOps.pass ⟨34, rfl, .inl ⟨_, rfl, rfl⟩⟩ rfl rfl ?_
      refine AOps.pass ⟨34, rfl, .inl ⟨_, rfl, rfl⟩⟩ rfl rfl ?_
      refine AOps.pass ⟨34, rfl, .inl ⟨_, rfl, rfl⟩⟩ rfl rfl ?_
      refine AOps.pass ⟨34, rfl, .inl ⟨_, rfl, rfl⟩⟩ rfl rfl ?_
      refine AOps.pass ⟨34, rfl, .inl ⟨_, rfl, rfl⟩⟩ rfl rfl ?_
      refine AOps.step rfl rfl rfl (AOp.pickT rfl rfl rfl) ?_
      refine AOps.mD rfl rfl rfl rfl rfl ?_
      refine AOps.pass ⟨42, rfl, .inl ⟨_, rfl, rfl⟩⟩ rfl rfl ?_
      refine AOps.pass ⟨42, rfl, .inl ⟨_, rfl, rfl⟩⟩ rfl rfl ?_
      refine AOps.pass ⟨42, rfl, .inl ⟨_, rfl, rfl⟩⟩ rfl rfl ?_
      refine AOps.pass ⟨42, rfl, .inl ⟨_, rfl, rfl⟩⟩ rfl rfl ?_
      refine AOps.step rfl rfl rfl (AOp.pickT rfl rfl rfl) ?_
      refine AOps.aD rfl rfl rfl rfl rfl (.nil ?_)
      refine AWP.cond rfl (fun _ => ?_) (fun h => nomatch h)
      refine AWP.seq (AWP.region ?_)
      refine AOps.aD rfl rfl rfl rfl rfl (.nil ?_)
      refine AWP.ret ?_
      refine ⟨RetD.eq rfl ?_, trivial⟩
      all_goals (rw [HF])
    replace g23 := bnot_f g23; replace g23 := of_decide_eq_true g23
    have he1 := g23
    refine AOps.step ⟨34, rfl, .inl ⟨_, rfl, rfl⟩⟩ rfl rfl (AOp.fieldAddr rfl fo_65_4 rfl) ?_
    refine AOps.step ⟨34, rfl, .inl ⟨_, rfl, rfl⟩⟩ rfl rfl (AOp.load rfl sc_3 rfl) ?_
    refine AOps.step ⟨34, rfl, .inl ⟨_, rfl, rfl⟩⟩ rfl rfl (AOp.fieldAddr rfl fo_65_3 rfl) ?_
    refine AOps.step ⟨34, rfl, .inl ⟨_, rfl, rfl⟩⟩ rfl rfl (AOp.load rfl sc_3 rfl) ?_
    refine AOps.step ⟨34, rfl, .inl ⟨_, rfl, rfl⟩⟩ rfl rfl (AOp.call rfl (.cons (ArgOk.rfl' rfl) (.cons (ArgOk.rfl' rfl) (.cons (ArgOk.rfl' rfl) .nil))) (c_rWithin _ _ _)) ?_
    refine AOps.step ⟨34, rfl, .inl ⟨_, rfl, rfl⟩⟩ rfl rfl (AOp.not rfl rfl) ?_
    refine AOps.step rfl rfl rfl (AOp.pickF rfl rfl rfl) ?_
    refine AOps.mD rfl rfl rfl rfl rfl ?_
    refine AOps.split 42 rfl (fun g24 => ?_) (fun g24 => ?_)
    · replace g24 := bnot_t g24; replace g24 := of_decide_eq_false g24
      have HF : cpyFault v c b = 1 := ((if_neg hA).trans ((if_neg hB).trans ((if_neg hC).trans ((if_neg hDD).trans (if_pos (.inr (.inl g24)))))))
      refine AOps.pass ⟨42, rfl, .inl ⟨_, rfl, rfl⟩⟩ rfl rfl ?_
      refine AOps.pass ⟨42, rfl, .inl ⟨_, rfl, rfl⟩⟩ rfl rfl ?_
      refine AOps.pass ⟨42, rfl, .inl ⟨_, rfl, rfl⟩⟩ rfl rfl ?_
      refine AOps.pass ⟨42, rfl, .inl ⟨_, rfl, rfl⟩⟩ rfl rfl ?_
      refine AOps.step rfl rfl rfl (AOp.pickT rfl rfl rfl) ?_
      refine AOps.aD rfl rfl rfl rfl rfl (.nil ?_)
      refine AWP.cond rfl (fun _ => ?_) (fun h => nomatch h)
      refine AWP.seq (AWP.region ?_)
      refine AOps.aD rfl rfl rfl rfl rfl (.nil ?_)
      refine AWP.ret ?_
      refine ⟨RetD.eq rfl ?_, trivial⟩
      all_goals (rw [HF])
    replace g24 := bnot_f g24; replace g24 := of_decide_eq_true g24
    have he2 := g24
    refine AOps.step ⟨42, rfl, .inl ⟨_, rfl, rfl⟩⟩ rfl rfl (AOp.fieldAddr rfl fo_65_5 rfl) ?_
    refine AOps.step ⟨42, rfl, .inl ⟨_, rfl, rfl⟩⟩ rfl rfl (AOp.load rfl sc_3 rfl) ?_
    refine AOps.step ⟨42, rfl, .inl ⟨_, rfl, rfl⟩⟩ rfl rfl (AOp.call rfl (.cons (ArgOk.rfl' rfl) (.cons (ArgOk.rfl' rfl) (.cons (ArgOk.rfl' rfl) .nil))) (c_rWithin _ _ _)) ?_
    refine AOps.step ⟨42, rfl, .inl ⟨_, rfl, rfl⟩⟩ rfl rfl (AOp.not rfl rfl) ?_
    refine AOps.step rfl rfl rfl (AOp.pickF rfl rfl rfl) ?_
    refine AOps.aD rfl rfl rfl rfl rfl (.nil ?_)
    refine AWP.cond rfl (fun h25 => ?_) (fun h25 => ?_)
    · replace h25 := bnot_t h25; replace h25 := of_decide_eq_false h25
      have HF : cpyFault v c b = 1 := ((if_neg hA).trans ((if_neg hB).trans ((if_neg hC).trans ((if_neg hDD).trans (if_pos (.inr (.inr h25)))))))
      refine AWP.seq (AWP.region ?_)
      refine AOps.aD rfl rfl rfl rfl rfl (.nil ?_)
      refine AWP.ret ?_
      refine ⟨RetD.eq rfl ?_, trivial⟩
      all_goals (rw [HF])
    replace h25 := bnot_f h25; replace h25 := of_decide_eq_true h25
    have hE : ¬ (¬ (0 ≤ c.day ∧ c.day ≤ 200000) ∨ ¬ (c.day ≤ c.last ∧ c.last ≤ 200000) ∨ ¬ (1 ≤ c.gen ∧ c.gen ≤ 100)) := by omega
    refine AWP.seq (AWP.region ?_)
    refine AOps.step rfl rfl rfl (AOp.fieldAddr rfl fo_65_5 rfl) ?_
    refine AOps.step rfl rfl rfl (AOp.load rfl sc_3 rfl) ?_
    refine AOps.step rfl rfl rfl (AOp.eql rfl rfl rfl) ?_
    refine AOps.step rfl rfl rfl (AOp.fieldAddr rfl fo_65_2 rfl) ?_
    refine AOps.step rfl rfl rfl (AOp.load rfl sc_9 rfl) ?_
    refine AOps.step rfl rfl rfl (AOp.seql rfl rfl rfl) ?_
    refine AOps.step rfl rfl rfl (AOp.bneq rfl bt_4 rfl rfl) ?_
    refine AOps.aD rfl rfl rfl rfl rfl (.nil ?_)
    refine AWP.cond rfl (fun h26 => ?_) (fun h26 => ?_)
    · replace h26 := of_decide_eq_true h26
      have HF : cpyFault v c b = 3 := ((if_neg hA).trans ((if_neg hB).trans ((if_neg hC).trans ((if_neg hDD).trans ((if_neg hE).trans (if_pos h26))))))
      refine AWP.seq (AWP.region ?_)
      refine AOps.aD rfl rfl rfl rfl rfl (.nil ?_)
      refine AWP.ret ?_
      refine ⟨RetD.eq rfl ?_, trivial⟩
      all_goals (rw [HF])
    replace h26 := of_decide_eq_false h26
    have hG := h26
    have HX : cpyFault v c b = ffst (badFault (itemBlocks v c.item) c.bad) c.bad.length := ((if_neg hA).trans ((if_neg hB).trans ((if_neg hC).trans ((if_neg hDD).trans ((if_neg hE).trans (if_neg hG))))))
    refine AWP.skip ?_
    refine AWP.seq ?_
    refine AWP.seq (AWP.region ?_)
    refine AOps.step rfl rfl rfl (AOp.fieldAddr rfl fo_65_6 rfl) ?_
    refine AOps.step rfl rfl rfl (AOp.load rfl sc_63 rfl) ?_
    refine AOps.step rfl rfl rfl (AOp.lenSl rfl et_63.ht rfl) ?_
    refine AOps.mD rfl rfl rfl rfl rfl (.nil ?_)
    refine AWP.block ?_
    refine AWP.bound 57 rfl (fun hbd => ?_)
    rw [List.length_map] at hbd
    refine AWP.loop (G := Nat) (fun q => Env.of [(59, .d (.v (.int .i64 (q : Int)))), (57, .d (.sl (c.bad.map intD))), (58, .d (.v (.int .i64 ((c.bad.map intD).length : Int)))), (2, .d (.fp v.ds)), (3, .d (.fp c.ds))]) (fun q => []) (fun q => q ≤ c.bad.length ∧ ffst (badFault (itemBlocks v c.item) c.bad) q = 0) (fun q => c.bad.length - q) 0 ⟨Nat.zero_le _, rfl⟩ (Sub.less ⟨(SLe.of_eq rfl), SLe.refl _, SLe.refl _, SLe.refl _, SLe.refl _, trivial⟩ (fun _ h => h)) ?_
    intro q hq
    refine AWP.seq (AWP.region ?_)
    refine AOps.step rfl rfl rfl (AOp.lss rfl rfl rfl) (.nil ?_)
    refine AWP.seq ?_
    refine AWP.cond rfl (fun h27 => ?_) (fun h27 => ?_)
    · replace h27 := of_decide_eq_true h27
      rw [List.length_map] at h27
      have hlt : q < c.bad.length := by omega
      refine AWP.skip ?_
      refine AWP.seq ?_
      refine AWP.block ?_
      refine AWP.seq (AWP.region ?_)
      refine AOps.mD rfl rfl rfl rfl rfl ?_
      refine AOps.step rfl rfl rfl (AOp.indexAddr rfl et_63 rfl rfl q rfl (at_list hlt) rfl) ?_
      refine AOps.step rfl rfl rfl (AOp.load rfl sc_3 rfl) ?_
      refine AOps.aD rfl rfl rfl rfl rfl ?_
      refine AOps.aD rfl rfl rfl rfl rfl (.nil ?_)
      refine AWP.seq ?_
      refine AWP.seq ?_
      refine AWP.draw (by kernel_rfl) (by kernel_rfl) ?_
      refine DRun.step rfl rfl rfl (AOp.moveD rfl rfl) ?_
      refine DRun.step rfl rfl rfl (AOp.fieldAddr rfl fo_26_0 rfl) ?_
      refine DRun.step rfl rfl rfl (AOp.load rfl sc_22 rfl) ?_
      refine DRun.step rfl rfl rfl (AOp.loadAgg rfl ag_26 rfl rfl) ?_
      refine DRun.step rfl rfl rfl (AOp.fieldAddr rfl fo_65_0 rfl) ?_
      refine DRun.step rfl rfl rfl (AOp.load rfl sc_9 rfl) ?_
      refine DRun.step rfl rfl rfl (AOp.call rfl (.cons (ArgOk.rfl' rfl) (.cons (ArgOk.rfl' rfl) .nil)) (c_itemOf _ _)) ?_
      refine DRun.step rfl rfl rfl (AOp.indexAddr rfl et_22 rfl rfl ki eki (at_list hki) rfl) ?_
      refine DRun.step rfl rfl rfl (AOp.fieldAddr rfl fo_62_1 rfl) ?_
      refine DRun.step rfl rfl rfl (AOp.load rfl sc_3 rfl) ?_
      refine DRun.step rfl rfl rfl (AOp.sub64 rfl rfl rfl (by omega) (by omega)) ?_
      refine DRun.step rfl rfl rfl (AOp.call rfl (.cons (ArgOk.rfl' rfl) (.cons (ArgOk.rfl' rfl) (.cons (ArgOk.rfl' rfl) .nil))) (c_rWithin _ _ _)) ?_
      refine DRun.step rfl rfl rfl (AOp.not rfl rfl) ?_
      refine DRun.nil ?_
      refine AWP.cond rfl (fun h28 => ?_) (fun h28 => ?_)
      · replace h28 := bnot_t h28; replace h28 := of_decide_eq_false h28
        have H1 := badFault_1 (n := itemBlocks v c.item) hlt (by rw [hib]; exact h28)
        have HF : cpyFault v c b = 1 := by rw [HX, ffst_hit hq.2 (by rw [H1]; decide) _ hlt, H1]
        refine AWP.seq (AWP.region ?_)
        refine AOps.aD rfl rfl rfl rfl rfl (.nil ?_)
        refine AWP.ret ?_
        refine ⟨RetD.eq rfl ?_, trivial⟩
        all_goals (rw [HF])
      replace h28 := bnot_f h28; replace h28 := of_decide_eq_true h28
      have h7 : 0 ≤ c.bad[q] ∧ c.bad[q] ≤ itemBlocks v c.item - 1 := by rw [hib]; omega
      refine AWP.skip ?_
      refine AWP.seq (AWP.region ?_)
      refine AOps.mD rfl rfl rfl rfl rfl ?_
      refine AOps.step rfl rfl rfl (AOp.gtr rfl rfl rfl) ?_
      refine AOps.mD rfl rfl rfl rfl rfl ?_
      refine AOps.split 79 rfl (fun g29 => ?_) (fun g29 => ?_)
      · replace g29 := of_decide_eq_true g29
        refine AOps.step ⟨79, rfl, .inl ⟨_, rfl, rfl⟩⟩ rfl rfl (AOp.moveD rfl rfl) ?_
        refine AOps.step ⟨79, rfl, .inl ⟨_, rfl, rfl⟩⟩ rfl rfl (AOp.fieldAddr rfl fo_65_6 rfl) ?_
        refine AOps.step ⟨79, rfl, .inl ⟨_, rfl, rfl⟩⟩ rfl rfl (AOp.load rfl sc_63 rfl) ?_
        refine AOps.step ⟨79, rfl, .inl ⟨_, rfl, rfl⟩⟩ rfl rfl (AOp.moveD rfl rfl) ?_
        refine AOps.step ⟨79, rfl, .inl ⟨_, rfl, rfl⟩⟩ rfl rfl (AOp.sub64 rfl rfl rfl (by omega) (by omega)) ?_
        refine AOps.step ⟨79, rfl, .inl ⟨_, rfl, rfl⟩⟩ rfl rfl (AOp.indexAddr rfl et_63 rfl rfl (q - 1) (by omega) (at_list (by omega)) rfl) ?_
        refine AOps.step ⟨79, rfl, .inl ⟨_, rfl, rfl⟩⟩ rfl rfl (AOp.load rfl sc_3 rfl) ?_
        refine AOps.step ⟨79, rfl, .inl ⟨_, rfl, rfl⟩⟩ rfl rfl (AOp.leq rfl rfl rfl) ?_
        refine AOps.step rfl rfl rfl (AOp.pickT rfl rfl rfl) (.nil ?_)
        refine AWP.cond rfl (fun h30 => ?_) (fun h30 => ?_)
        · replace h30 := of_decide_eq_true h30
          have H8 := badFault_8 hlt h7 (by omega) h30
          have HF : cpyFault v c b = 8 := by rw [HX, ffst_hit hq.2 (by rw [H8]; decide) _ hlt, H8]
          refine AWP.seq (AWP.region ?_)
          refine AOps.aD rfl rfl rfl rfl rfl (.nil ?_)
          refine AWP.ret ?_
          refine ⟨RetD.eq rfl ?_, trivial⟩
          all_goals (rw [HF])
        replace h30 := of_decide_eq_false h30
        have h8 : 0 < q → ¬ c.bad[q] ≤ c.bad[q-1] := fun _ => h30
        refine AWP.skip ?_
        refine AWP.region ?_
        refine AOps.step rfl rfl rfl (AOp.add64 rfl rfl rfl (by omega) (by omega)) ?_
        refine AOps.mD rfl rfl rfl rfl rfl (.nil ?_)
        refine ⟨q + 1, ⟨by omega, ffst_next hq.2 (badFault_0 hlt h7 h8)⟩, (by dsimp only; omega), Sub.less ⟨(SLe.of_eq rfl), SLe.refl _, SLe.refl _, SLe.refl _, SLe.refl _, trivial⟩ (fun _ h => h)⟩
      replace g29 := of_decide_eq_false g29
      have h8 : 0 < q → ¬ c.bad[q] ≤ c.bad[q-1] := fun hh => absurd hh (by omega)
      refine AOps.pass ⟨79, rfl, .inl ⟨_, rfl, rfl⟩⟩ rfl rfl ?_
      refine AOps.pass ⟨79, rfl, .inl ⟨_, rfl, rfl⟩⟩ rfl rfl ?_
      refine AOps.pass ⟨79, rfl, .inl ⟨_, rfl, rfl⟩⟩ rfl rfl ?_
      refine AOps.pass ⟨79, rfl, .inl ⟨_, rfl, rfl⟩⟩ rfl rfl ?_
      refine AOps.pass ⟨79, rfl, .inl ⟨_, rfl, rfl⟩⟩ rfl rfl ?_
      refine AOps.pass ⟨79, rfl, .inl ⟨_, rfl, rfl⟩⟩ rfl rfl ?_
      refine AOps.pass ⟨79, rfl, .inl ⟨_, rfl, rfl⟩⟩ rfl rfl ?_
      refine AOps.pass ⟨79, rfl, .inl ⟨_, rfl, rfl⟩⟩ rfl rfl ?_
      refine AOps.step rfl rfl rfl (AOp.pickF rfl rfl rfl) (.nil ?_)
      refine AWP.cond rfl (fun h => nomatch h) (fun _ => ?_)
      refine AWP.skip ?_
      refine AWP.region ?_
      refine AOps.step rfl rfl rfl (AOp.add64 rfl rfl rfl (by omega) (by omega)) ?_
      refine AOps.mD rfl rfl rfl rfl rfl (.nil ?_)
      refine ⟨q + 1, ⟨by omega, ffst_next hq.2 (badFault_0 hlt h7 h8)⟩, (by dsimp only; omega), Sub.less ⟨(SLe.of_eq rfl), SLe.refl _, SLe.refl _, SLe.refl _, SLe.refl _, trivial⟩ (fun _ h => h)⟩
    replace h27 := of_decide_eq_false h27
    rw [List.length_map] at h27
    have HF : cpyFault v c b = 0 := by rw [HX, ← show q = c.bad.length by omega]; exact hq.2
    refine AWP.exit ?_
    refine AWP.seq (AWP.region ?_)
    refine AOps.aD rfl rfl rfl rfl rfl (.nil ?_)
    refine AWP.ret ?_
    refine ⟨RetD.eq rfl ?_, trivial⟩
    all_goals (rw [HF])
  replace g21 := of_decide_eq_false g21
  have hDD : ¬ c.frm = c.carrier := fun hh => g21 (fun h5 => hne (hh.symm.trans h5))
  refine AOps.pass ⟨22, rfl, .inl ⟨_, rfl, rfl⟩⟩ rfl rfl ?_
  refine AOps.pass ⟨22, rfl, .inl ⟨_, rfl, rfl⟩⟩ rfl rfl ?_
  refine AOps.pass ⟨22, rfl, .inl ⟨_, rfl, rfl⟩⟩ rfl rfl ?_
  refine AOps.pass ⟨22, rfl, .inl ⟨_, rfl, rfl⟩⟩ rfl rfl ?_
  refine AOps.pass ⟨22, rfl, .inl ⟨_, rfl, rfl⟩⟩ rfl rfl ?_
  refine AOps.step rfl rfl rfl (AOp.pickF rfl rfl rfl) ?_
  refine AOps.aD rfl rfl rfl rfl rfl (.nil ?_)
  refine AWP.cond rfl (fun h => nomatch h) (fun _ => ?_)
  refine AWP.seq (AWP.region ?_)
  refine AOps.step rfl rfl rfl (AOp.fieldAddr rfl fo_65_3 rfl) ?_
  refine AOps.step rfl rfl rfl (AOp.load rfl sc_3 rfl) ?_
  refine AOps.step rfl rfl rfl (AOp.call rfl (.cons (ArgOk.rfl' rfl) .nil) (c_rDay _)) ?_
  refine AOps.step rfl rfl rfl (AOp.not rfl rfl) ?_
  refine AOps.mD rfl rfl rfl rfl rfl ?_
  refine AOps.split 34 rfl (fun g31 => ?_) (fun g31 => ?_)
  · replace g31 := bnot_t g31; replace g31 := of_decide_eq_false g31
    have HF : cpyFault v c b = 1 := ((if_neg hA).trans ((if_neg hB).trans ((if_neg hC).trans ((if_neg hDD).trans (if_pos (.inl g31))))))
    refine AOps.pass ⟨34, rfl, .inl ⟨_, rfl, rfl⟩⟩ rfl rfl ?_
    refine AOps.pass ⟨34, rfl, .inl ⟨_, rfl, rfl⟩⟩ rfl rfl ?_
    refine AOps.pass ⟨34, rfl, .inl ⟨_, rfl, rfl⟩⟩ rfl rfl ?_
    refine AOps.pass ⟨34, rfl, .inl ⟨_, rfl, rfl⟩⟩ rfl rfl ?_
    refine AOps.pass ⟨34, rfl, .inl ⟨_, rfl, rfl⟩⟩ rfl rfl ?_
    refine AOps.pass ⟨34, rfl, .inl ⟨_, rfl, rfl⟩⟩ rfl rfl ?_
    refine AOps.step rfl rfl rfl (AOp.pickT rfl rfl rfl) ?_
    refine AOps.mD rfl rfl rfl rfl rfl ?_
    refine AOps.pass ⟨42, rfl, .inl ⟨_, rfl, rfl⟩⟩ rfl rfl ?_
    refine AOps.pass ⟨42, rfl, .inl ⟨_, rfl, rfl⟩⟩ rfl rfl ?_
    refine AOps.pass ⟨42, rfl, .inl ⟨_, rfl, rfl⟩⟩ rfl rfl ?_
    refine AOps.pass ⟨42, rfl, .inl ⟨_, rfl, rfl⟩⟩ rfl rfl ?_
    refine AOps.step rfl rfl rfl (AOp.pickT rfl rfl rfl) ?_
    refine AOps.aD rfl rfl rfl rfl rfl (.nil ?_)
    refine AWP.cond rfl (fun _ => ?_) (fun h => nomatch h)
    refine AWP.seq (AWP.region ?_)
    refine AOps.aD rfl rfl rfl rfl rfl (.nil ?_)
    refine AWP.ret ?_
    refine ⟨RetD.eq rfl ?_, trivial⟩
    all_goals (rw [HF])
  replace g31 := bnot_f g31; replace g31 := of_decide_eq_true g31
  have he1 := g31
  refine AOps.step ⟨34, rfl, .inl ⟨_, rfl, rfl⟩⟩ rfl rfl (AOp.fieldAddr rfl fo_65_4 rfl) ?_
  refine AOps.step ⟨34, rfl, .inl ⟨_, rfl, rfl⟩⟩ rfl rfl (AOp.load rfl sc_3 rfl) ?_
  refine AOps.step ⟨34, rfl, .inl ⟨_, rfl, rfl⟩⟩ rfl rfl (AOp.fieldAddr rfl fo_65_3 rfl) ?_
  refine AOps.step ⟨34, rfl, .inl ⟨_, rfl, rfl⟩⟩ rfl rfl (AOp.load rfl sc_3 rfl) ?_
  refine AOps.step ⟨34, rfl, .inl ⟨_, rfl, rfl⟩⟩ rfl rfl (AOp.call rfl (.cons (ArgOk.rfl' rfl) (.cons (ArgOk.rfl' rfl) (.cons (ArgOk.rfl' rfl) .nil))) (c_rWithin _ _ _)) ?_
  refine AOps.step ⟨34, rfl, .inl ⟨_, rfl, rfl⟩⟩ rfl rfl (AOp.not rfl rfl) ?_
  refine AOps.step rfl rfl rfl (AOp.pickF rfl rfl rfl) ?_
  refine AOps.mD rfl rfl rfl rfl rfl ?_
  refine AOps.split 42 rfl (fun g32 => ?_) (fun g32 => ?_)
  · replace g32 := bnot_t g32; replace g32 := of_decide_eq_false g32
    have HF : cpyFault v c b = 1 := ((if_neg hA).trans ((if_neg hB).trans ((if_neg hC).trans ((if_neg hDD).trans (if_pos (.inr (.inl g32)))))))
    refine AOps.pass ⟨42, rfl, .inl ⟨_, rfl, rfl⟩⟩ rfl rfl ?_
    refine AOps.pass ⟨42, rfl, .inl ⟨_, rfl, rfl⟩⟩ rfl rfl ?_
    refine AOps.pass ⟨42, rfl, .inl ⟨_, rfl, rfl⟩⟩ rfl rfl ?_
    refine AOps.pass ⟨42, rfl, .inl ⟨_, rfl, rfl⟩⟩ rfl rfl ?_
    refine AOps.step rfl rfl rfl (AOp.pickT rfl rfl rfl) ?_
    refine AOps.aD rfl rfl rfl rfl rfl (.nil ?_)
    refine AWP.cond rfl (fun _ => ?_) (fun h => nomatch h)
    refine AWP.seq (AWP.region ?_)
    refine AOps.aD rfl rfl rfl rfl rfl (.nil ?_)
    refine AWP.ret ?_
    refine ⟨RetD.eq rfl ?_, trivial⟩
    all_goals (rw [HF])
  replace g32 := bnot_f g32; replace g32 := of_decide_eq_true g32
  have he2 := g32
  refine AOps.step ⟨42, rfl, .inl ⟨_, rfl, rfl⟩⟩ rfl rfl (AOp.fieldAddr rfl fo_65_5 rfl) ?_
  refine AOps.step ⟨42, rfl, .inl ⟨_, rfl, rfl⟩⟩ rfl rfl (AOp.load rfl sc_3 rfl) ?_
  refine AOps.step ⟨42, rfl, .inl ⟨_, rfl, rfl⟩⟩ rfl rfl (AOp.call rfl (.cons (ArgOk.rfl' rfl) (.cons (ArgOk.rfl' rfl) (.cons (ArgOk.rfl' rfl) .nil))) (c_rWithin _ _ _)) ?_
  refine AOps.step ⟨42, rfl, .inl ⟨_, rfl, rfl⟩⟩ rfl rfl (AOp.not rfl rfl) ?_
  refine AOps.step rfl rfl rfl (AOp.pickF rfl rfl rfl) ?_
  refine AOps.aD rfl rfl rfl rfl rfl (.nil ?_)
  refine AWP.cond rfl (fun h33 => ?_) (fun h33 => ?_)
  · replace h33 := bnot_t h33; replace h33 := of_decide_eq_false h33
    have HF : cpyFault v c b = 1 := ((if_neg hA).trans ((if_neg hB).trans ((if_neg hC).trans ((if_neg hDD).trans (if_pos (.inr (.inr h33)))))))
    refine AWP.seq (AWP.region ?_)
    refine AOps.aD rfl rfl rfl rfl rfl (.nil ?_)
    refine AWP.ret ?_
    refine ⟨RetD.eq rfl ?_, trivial⟩
    all_goals (rw [HF])
  replace h33 := bnot_f h33; replace h33 := of_decide_eq_true h33
  have hE : ¬ (¬ (0 ≤ c.day ∧ c.day ≤ 200000) ∨ ¬ (c.day ≤ c.last ∧ c.last ≤ 200000) ∨ ¬ (1 ≤ c.gen ∧ c.gen ≤ 100)) := by omega
  refine AWP.seq (AWP.region ?_)
  refine AOps.step rfl rfl rfl (AOp.fieldAddr rfl fo_65_5 rfl) ?_
  refine AOps.step rfl rfl rfl (AOp.load rfl sc_3 rfl) ?_
  refine AOps.step rfl rfl rfl (AOp.eql rfl rfl rfl) ?_
  refine AOps.step rfl rfl rfl (AOp.fieldAddr rfl fo_65_2 rfl) ?_
  refine AOps.step rfl rfl rfl (AOp.load rfl sc_9 rfl) ?_
  refine AOps.step rfl rfl rfl (AOp.seql rfl rfl rfl) ?_
  refine AOps.step rfl rfl rfl (AOp.bneq rfl bt_4 rfl rfl) ?_
  refine AOps.aD rfl rfl rfl rfl rfl (.nil ?_)
  refine AWP.cond rfl (fun h34 => ?_) (fun h34 => ?_)
  · replace h34 := of_decide_eq_true h34
    have HF : cpyFault v c b = 3 := ((if_neg hA).trans ((if_neg hB).trans ((if_neg hC).trans ((if_neg hDD).trans ((if_neg hE).trans (if_pos h34))))))
    refine AWP.seq (AWP.region ?_)
    refine AOps.aD rfl rfl rfl rfl rfl (.nil ?_)
    refine AWP.ret ?_
    refine ⟨RetD.eq rfl ?_, trivial⟩
    all_goals (rw [HF])
  replace h34 := of_decide_eq_false h34
  have hG := h34
  have HX : cpyFault v c b = ffst (badFault (itemBlocks v c.item) c.bad) c.bad.length := ((if_neg hA).trans ((if_neg hB).trans ((if_neg hC).trans ((if_neg hDD).trans ((if_neg hE).trans (if_neg hG))))))
  refine AWP.skip ?_
  refine AWP.seq ?_
  refine AWP.seq (AWP.region ?_)
  refine AOps.step rfl rfl rfl (AOp.fieldAddr rfl fo_65_6 rfl) ?_
  refine AOps.step rfl rfl rfl (AOp.load rfl sc_63 rfl) ?_
  refine AOps.step rfl rfl rfl (AOp.lenSl rfl et_63.ht rfl) ?_
  refine AOps.mD rfl rfl rfl rfl rfl (.nil ?_)
  refine AWP.block ?_
  refine AWP.bound 57 rfl (fun hbd => ?_)
  rw [List.length_map] at hbd
  refine AWP.loop (G := Nat) (fun q => Env.of [(59, .d (.v (.int .i64 (q : Int)))), (57, .d (.sl (c.bad.map intD))), (58, .d (.v (.int .i64 ((c.bad.map intD).length : Int)))), (2, .d (.fp v.ds)), (3, .d (.fp c.ds))]) (fun q => []) (fun q => q ≤ c.bad.length ∧ ffst (badFault (itemBlocks v c.item) c.bad) q = 0) (fun q => c.bad.length - q) 0 ⟨Nat.zero_le _, rfl⟩ (Sub.less ⟨(SLe.of_eq rfl), SLe.refl _, SLe.refl _, SLe.refl _, SLe.refl _, trivial⟩ (fun _ h => h)) ?_
  intro q hq
  refine AWP.seq (AWP.region ?_)
  refine AOps.step rfl rfl rfl (AOp.lss rfl rfl rfl) (.nil ?_)
  refine AWP.seq ?_
  refine AWP.cond rfl (fun h35 => ?_) (fun h35 => ?_)
  · replace h35 := of_decide_eq_true h35
    rw [List.length_map] at h35
    have hlt : q < c.bad.length := by omega
    refine AWP.skip ?_
    refine AWP.seq ?_
    refine AWP.block ?_
    refine AWP.seq (AWP.region ?_)
    refine AOps.mD rfl rfl rfl rfl rfl ?_
    refine AOps.step rfl rfl rfl (AOp.indexAddr rfl et_63 rfl rfl q rfl (at_list hlt) rfl) ?_
    refine AOps.step rfl rfl rfl (AOp.load rfl sc_3 rfl) ?_
    refine AOps.aD rfl rfl rfl rfl rfl ?_
    refine AOps.aD rfl rfl rfl rfl rfl (.nil ?_)
    refine AWP.seq ?_
    refine AWP.seq ?_
    refine AWP.draw (by kernel_rfl) (by kernel_rfl) ?_
    refine DRun.step rfl rfl rfl (AOp.moveD rfl rfl) ?_
    refine DRun.step rfl rfl rfl (AOp.fieldAddr rfl fo_26_0 rfl) ?_
    refine DRun.step rfl rfl rfl (AOp.load rfl sc_22 rfl) ?_
    refine DRun.step rfl rfl rfl (AOp.loadAgg rfl ag_26 rfl rfl) ?_
    refine DRun.step rfl rfl rfl (AOp.fieldAddr rfl fo_65_0 rfl) ?_
    refine DRun.step rfl rfl rfl (AOp.load rfl sc_9 rfl) ?_
    refine DRun.step rfl rfl rfl (AOp.call rfl (.cons (ArgOk.rfl' rfl) (.cons (ArgOk.rfl' rfl) .nil)) (c_itemOf _ _)) ?_
    refine DRun.step rfl rfl rfl (AOp.indexAddr rfl et_22 rfl rfl ki eki (at_list hki) rfl) ?_
    refine DRun.step rfl rfl rfl (AOp.fieldAddr rfl fo_62_1 rfl) ?_
    refine DRun.step rfl rfl rfl (AOp.load rfl sc_3 rfl) ?_
    refine DRun.step rfl rfl rfl (AOp.sub64 rfl rfl rfl (by omega) (by omega)) ?_
    refine DRun.step rfl rfl rfl (AOp.call rfl (.cons (ArgOk.rfl' rfl) (.cons (ArgOk.rfl' rfl) (.cons (ArgOk.rfl' rfl) .nil))) (c_rWithin _ _ _)) ?_
    refine DRun.step rfl rfl rfl (AOp.not rfl rfl) ?_
    refine DRun.nil ?_
    refine AWP.cond rfl (fun h36 => ?_) (fun h36 => ?_)
    · replace h36 := bnot_t h36; replace h36 := of_decide_eq_false h36
      have H1 := badFault_1 (n := itemBlocks v c.item) hlt (by rw [hib]; exact h36)
      have HF : cpyFault v c b = 1 := by rw [HX, ffst_hit hq.2 (by rw [H1]; decide) _ hlt, H1]
      refine AWP.seq (AWP.region ?_)
      refine AOps.aD rfl rfl rfl rfl rfl (.nil ?_)
      refine AWP.ret ?_
      refine ⟨RetD.eq rfl ?_, trivial⟩
      all_goals (rw [HF])
    replace h36 := bnot_f h36; replace h36 := of_decide_eq_true h36
    have h7 : 0 ≤ c.bad[q] ∧ c.bad[q] ≤ itemBlocks v c.item - 1 := by rw [hib]; omega
    refine AWP.skip ?_
    refine AWP.seq (AWP.region ?_)
    refine AOps.mD rfl rfl rfl rfl rfl ?_
    refine AOps.step rfl rfl rfl (AOp.gtr rfl rfl rfl) ?_
    refine AOps.mD rfl rfl rfl rfl rfl ?_
    refine AOps.split 79 rfl (fun g37 => ?_) (fun g37 => ?_)
    · replace g37 := of_decide_eq_true g37
      refine AOps.step ⟨79, rfl, .inl ⟨_, rfl, rfl⟩⟩ rfl rfl (AOp.moveD rfl rfl) ?_
      refine AOps.step ⟨79, rfl, .inl ⟨_, rfl, rfl⟩⟩ rfl rfl (AOp.fieldAddr rfl fo_65_6 rfl) ?_
      refine AOps.step ⟨79, rfl, .inl ⟨_, rfl, rfl⟩⟩ rfl rfl (AOp.load rfl sc_63 rfl) ?_
      refine AOps.step ⟨79, rfl, .inl ⟨_, rfl, rfl⟩⟩ rfl rfl (AOp.moveD rfl rfl) ?_
      refine AOps.step ⟨79, rfl, .inl ⟨_, rfl, rfl⟩⟩ rfl rfl (AOp.sub64 rfl rfl rfl (by omega) (by omega)) ?_
      refine AOps.step ⟨79, rfl, .inl ⟨_, rfl, rfl⟩⟩ rfl rfl (AOp.indexAddr rfl et_63 rfl rfl (q - 1) (by omega) (at_list (by omega)) rfl) ?_
      refine AOps.step ⟨79, rfl, .inl ⟨_, rfl, rfl⟩⟩ rfl rfl (AOp.load rfl sc_3 rfl) ?_
      refine AOps.step ⟨79, rfl, .inl ⟨_, rfl, rfl⟩⟩ rfl rfl (AOp.leq rfl rfl rfl) ?_
      refine AOps.step rfl rfl rfl (AOp.pickT rfl rfl rfl) (.nil ?_)
      refine AWP.cond rfl (fun h38 => ?_) (fun h38 => ?_)
      · replace h38 := of_decide_eq_true h38
        have H8 := badFault_8 hlt h7 (by omega) h38
        have HF : cpyFault v c b = 8 := by rw [HX, ffst_hit hq.2 (by rw [H8]; decide) _ hlt, H8]
        refine AWP.seq (AWP.region ?_)
        refine AOps.aD rfl rfl rfl rfl rfl (.nil ?_)
        refine AWP.ret ?_
        refine ⟨RetD.eq rfl ?_, trivial⟩
        all_goals (rw [HF])
      replace h38 := of_decide_eq_false h38
      have h8 : 0 < q → ¬ c.bad[q] ≤ c.bad[q-1] := fun _ => h38
      refine AWP.skip ?_
      refine AWP.region ?_
      refine AOps.step rfl rfl rfl (AOp.add64 rfl rfl rfl (by omega) (by omega)) ?_
      refine AOps.mD rfl rfl rfl rfl rfl (.nil ?_)
      refine ⟨q + 1, ⟨by omega, ffst_next hq.2 (badFault_0 hlt h7 h8)⟩, (by dsimp only; omega), Sub.less ⟨(SLe.of_eq rfl), SLe.refl _, SLe.refl _, SLe.refl _, SLe.refl _, trivial⟩ (fun _ h => h)⟩
    replace g37 := of_decide_eq_false g37
    have h8 : 0 < q → ¬ c.bad[q] ≤ c.bad[q-1] := fun hh => absurd hh (by omega)
    refine AOps.pass ⟨79, rfl, .inl ⟨_, rfl, rfl⟩⟩ rfl rfl ?_
    refine AOps.pass ⟨79, rfl, .inl ⟨_, rfl, rfl⟩⟩ rfl rfl ?_
    refine AOps.pass ⟨79, rfl, .inl ⟨_, rfl, rfl⟩⟩ rfl rfl ?_
    refine AOps.pass ⟨79, rfl, .inl ⟨_, rfl, rfl⟩⟩ rfl rfl ?_
    refine AOps.pass ⟨79, rfl, .inl ⟨_, rfl, rfl⟩⟩ rfl rfl ?_
    refine AOps.pass ⟨79, rfl, .inl ⟨_, rfl, rfl⟩⟩ rfl rfl ?_
    refine AOps.pass ⟨79, rfl, .inl ⟨_, rfl, rfl⟩⟩ rfl rfl ?_
    refine AOps.pass ⟨79, rfl, .inl ⟨_, rfl, rfl⟩⟩ rfl rfl ?_
    refine AOps.step rfl rfl rfl (AOp.pickF rfl rfl rfl) (.nil ?_)
    refine AWP.cond rfl (fun h => nomatch h) (fun _ => ?_)
    refine AWP.skip ?_
    refine AWP.region ?_
    refine AOps.step rfl rfl rfl (AOp.add64 rfl rfl rfl (by omega) (by omega)) ?_
    refine AOps.mD rfl rfl rfl rfl rfl (.nil ?_)
    refine ⟨q + 1, ⟨by omega, ffst_next hq.2 (badFault_0 hlt h7 h8)⟩, (by dsimp only; omega), Sub.less ⟨(SLe.of_eq rfl), SLe.refl _, SLe.refl _, SLe.refl _, SLe.refl _, trivial⟩ (fun _ h => h)⟩
  replace h35 := of_decide_eq_false h35
  rw [List.length_map] at h35
  have HF : cpyFault v c b = 0 := by rw [HX, ← show q = c.bad.length by omega]; exact hq.2
  refine AWP.exit ?_
  refine AWP.seq (AWP.region ?_)
  refine AOps.aD rfl rfl rfl rfl rfl (.nil ?_)
  refine AWP.ret ?_
  refine ⟨RetD.eq rfl ?_, trivial⟩
  all_goals (rw [HF])

set_option maxRecDepth 100000 in
set_option maxHeartbeats 1000000 in
theorem c_pCheck (v : Vlt) (hs : smallV v) : ACall Tryz.prog 34 [.agg v.ds] (.v (.int .i64 (checkV v))) := by
  refine acall_of (n := 150) (ds' := [.v (.int .i64 (checkV v))]) Tryz.func34 rfl (by kernel_rfl) rfl [2] rfl rfl ?_
  intro B w0 F0 fr
  refine AWP.seq (AWP.region ?_)
  refine AOps.step rfl rfl rfl (AOp.box rfl rfl rfl) ?_
  refine AOps.aD rfl rfl rfl rfl rfl (.nil ?_)
  refine AWP.seq ?_
  refine AWP.seq (AWP.region ?_)
  refine AOps.step rfl rfl rfl (AOp.fieldAddr rfl fo_26_0 rfl) ?_
  refine AOps.step rfl rfl rfl (AOp.load rfl sc_22 rfl) ?_
  refine AOps.step rfl rfl rfl (AOp.lenSl rfl et_22.ht rfl) ?_
  refine AOps.step rfl rfl rfl (AOp.gtr rfl rfl rfl) ?_
  refine AOps.mD rfl rfl rfl rfl rfl ?_
  refine AOps.split 17 rfl (fun g1 => ?_) (fun g1 => ?_)
  · replace g1 := of_decide_eq_true g1
    refine AOps.pass ⟨17, rfl, .inl ⟨_, rfl, rfl⟩⟩ rfl rfl ?_
    refine AOps.pass ⟨17, rfl, .inl ⟨_, rfl, rfl⟩⟩ rfl rfl ?_
    refine AOps.pass ⟨17, rfl, .inl ⟨_, rfl, rfl⟩⟩ rfl rfl ?_
    refine AOps.pass ⟨17, rfl, .inl ⟨_, rfl, rfl⟩⟩ rfl rfl ?_
    refine AOps.step rfl rfl rfl (AOp.pickT rfl rfl rfl) ?_
    refine AOps.mD rfl rfl rfl rfl rfl ?_
    refine AOps.pass ⟨23, rfl, .inl ⟨_, rfl, rfl⟩⟩ rfl rfl ?_
    refine AOps.pass ⟨23, rfl, .inl ⟨_, rfl, rfl⟩⟩ rfl rfl ?_
    refine AOps.pass ⟨23, rfl, .inl ⟨_, rfl, rfl⟩⟩ rfl rfl ?_
    refine AOps.pass ⟨23, rfl, .inl ⟨_, rfl, rfl⟩⟩ rfl rfl ?_
    refine AOps.step rfl rfl rfl (AOp.pickT rfl rfl rfl) (.nil ?_)
    refine AWP.cond rfl (fun _ => ?_) (fun h => nomatch h)
    refine AWP.seq (AWP.region ?_)
    refine AOps.aD rfl rfl rfl rfl rfl (.nil ?_)
    refine AWP.ret ?_
    refine ⟨RetD.eq rfl ?_, trivial⟩
    all_goals (first | rw [HF] | rw [show checkV v = 2 from if_pos (by unfold largeV; simp only [List.length_map] at *; omega)])
  replace g1 := of_decide_eq_false g1
  refine AOps.step ⟨17, rfl, .inl ⟨_, rfl, rfl⟩⟩ rfl rfl (AOp.fieldAddr rfl fo_26_1 rfl) ?_
  refine AOps.step ⟨17, rfl, .inl ⟨_, rfl, rfl⟩⟩ rfl rfl (AOp.load rfl sc_23 rfl) ?_
  refine AOps.step ⟨17, rfl, .inl ⟨_, rfl, rfl⟩⟩ rfl rfl (AOp.lenSl rfl et_23.ht rfl) ?_
  refine AOps.step ⟨17, rfl, .inl ⟨_, rfl, rfl⟩⟩ rfl rfl (AOp.gtr rfl rfl rfl) ?_
  refine AOps.step rfl rfl rfl (AOp.pickF rfl rfl rfl) ?_
  refine AOps.mD rfl rfl rfl rfl rfl ?_
  refine AOps.split 23 rfl (fun g2 => ?_) (fun g2 => ?_)
  · replace g2 := of_decide_eq_true g2
    refine AOps.pass ⟨23, rfl, .inl ⟨_, rfl, rfl⟩⟩ rfl rfl ?_
    refine AOps.pass ⟨23, rfl, .inl ⟨_, rfl, rfl⟩⟩ rfl rfl ?_
    refine AOps.pass ⟨23, rfl, .inl ⟨_, rfl, rfl⟩⟩ rfl rfl ?_
    refine AOps.pass ⟨23, rfl, .inl ⟨_, rfl, rfl⟩⟩ rfl rfl ?_
    refine AOps.step rfl rfl rfl (AOp.pickT rfl rfl rfl) (.nil ?_)
    refine AWP.cond rfl (fun _ => ?_) (fun h => nomatch h)
    refine AWP.seq (AWP.region ?_)
    refine AOps.aD rfl rfl rfl rfl rfl (.nil ?_)
    refine AWP.ret ?_
    refine ⟨RetD.eq rfl ?_, trivial⟩
    all_goals (first | rw [HF] | rw [show checkV v = 2 from if_pos (by unfold largeV; simp only [List.length_map] at *; omega)])
  replace g2 := of_decide_eq_false g2
  refine AOps.step ⟨23, rfl, .inl ⟨_, rfl, rfl⟩⟩ rfl rfl (AOp.fieldAddr rfl fo_26_2 rfl) ?_
  refine AOps.step ⟨23, rfl, .inl ⟨_, rfl, rfl⟩⟩ rfl rfl (AOp.load rfl sc_24 rfl) ?_
  refine AOps.step ⟨23, rfl, .inl ⟨_, rfl, rfl⟩⟩ rfl rfl (AOp.lenSl rfl et_24.ht rfl) ?_
  refine AOps.step ⟨23, rfl, .inl ⟨_, rfl, rfl⟩⟩ rfl rfl (AOp.gtr rfl rfl rfl) ?_
  refine AOps.step rfl rfl rfl (AOp.pickF rfl rfl rfl) (.nil ?_)
  refine AWP.cond rfl (fun h3 => ?_) (fun h3 => ?_)
  · replace h3 := of_decide_eq_true h3
    refine AWP.seq (AWP.region ?_)
    refine AOps.aD rfl rfl rfl rfl rfl (.nil ?_)
    refine AWP.ret ?_
    refine ⟨RetD.eq rfl ?_, trivial⟩
    all_goals (first | rw [HF] | rw [show checkV v = 2 from if_pos (by unfold largeV; simp only [List.length_map] at *; omega)])
  replace h3 := of_decide_eq_false h3
  have hlg : ¬ largeV v := by unfold largeV; simp only [List.length_map] at *; omega
  refine AWP.skip ?_
  refine AWP.seq ?_
  refine AWP.seq (AWP.region ?_)
  refine AOps.step rfl rfl rfl (AOp.fieldAddr rfl fo_26_0 rfl) ?_
  refine AOps.step rfl rfl rfl (AOp.load rfl sc_22 rfl) ?_
  refine AOps.step rfl rfl rfl (AOp.lenSl rfl et_22.ht rfl) ?_
  refine AOps.mD rfl rfl rfl rfl rfl (.nil ?_)
  refine AWP.block ?_
  have hb30 : v.items.length ≤ 30 := by unfold largeV at hlg; omega
  refine AWP.loop (G := Nat) (fun k => Env.of [(32, .d (.v (.int .i64 (k : Int)))), (30, .d (.sl (v.items.map Item.ds))), (31, .d (.v (.int .i64 ((v.items.map Item.ds).length : Int)))), (1, .d (.fp v.ds))]) (fun k => []) (fun k => k ≤ v.items.length ∧ ffst (itemFault v.items) k = 0) (fun k => v.items.length - k) 0 ⟨Nat.zero_le _, rfl⟩ (Sub.less ⟨(SLe.of_eq rfl), SLe.refl _, SLe.refl _, SLe.refl _, trivial⟩ (fun _ h => h)) ?_
  intro k hk
  refine AWP.seq (AWP.region ?_)
  refine AOps.step rfl rfl rfl (AOp.lss rfl rfl rfl) (.nil ?_)
  refine AWP.seq ?_
  refine AWP.cond rfl (fun h4 => ?_) (fun h4 => ?_)
  · replace h4 := of_decide_eq_true h4
    rw [List.length_map] at h4
    have hlt : k < v.items.length := by omega
    have hsz := hs.1 _ (List.getElem_mem hlt)
    refine AWP.skip ?_
    refine AWP.seq ?_
    refine AWP.block ?_
    refine AWP.seq (AWP.region ?_)
    refine AOps.mD rfl rfl rfl rfl rfl ?_
    refine AOps.step rfl rfl rfl (AOp.indexAddr rfl et_22 rfl rfl k rfl (at_list hlt) rfl) ?_
    refine AOps.step rfl rfl rfl (AOp.loadAgg rfl ag_62 rfl rfl) ?_
    refine AOps.alloc 101 rfl rfl rfl rfl zt_62 rfl rfl rfl ?_
    refine AOps.aD rfl rfl rfl rfl rfl ?_
    refine AOps.store rfl rfl rfl sz_62 rfl (.head _) rfl rfl rfl (Nat.le_of_ble_eq_true rfl) (.nil ?_)
    refine AWP.block ?_
    refine AWP.seq (AWP.region ?_)
    refine AOps.step rfl rfl rfl (AOp.fieldAddrP rfl fo_62_0 rfl) ?_
    refine AOps.step rfl rfl rfl (AOp.loadP rfl sc_9 rfl (.head _) rfl) ?_
    refine AOps.step rfl rfl rfl (AOp.call rfl (.cons (ArgOk.rfl' rfl) .nil) (c_pName _ (by assumption))) ?_
    refine AOps.step rfl rfl rfl (AOp.not rfl rfl) ?_
    refine AOps.aD rfl rfl rfl rfl rfl (.nil ?_)
    refine AWP.cond rfl (fun h5 => ?_) (fun h5 => ?_)
    · replace h5 := bnot_t h5
      have HF := check_items hlg hlt hk.2 (itemFault_5 hlt h5) (by decide)
      refine AWP.seq (AWP.region ?_)
      refine AOps.aD rfl rfl rfl rfl rfl (.nil ?_)
      refine AWP.ret ?_
      refine ⟨RetD.eq rfl ?_, trivial⟩
      all_goals (first | rw [HF] | rw [show checkV v = 2 from if_pos (by unfold largeV; simp only [List.length_map] at *; omega)])
    replace h5 := bnot_f h5
    have hnm : nameOk v.items[k].name = true := h5
    refine AWP.seq ?_
    refine AWP.draw (by kernel_rfl) (by kernel_rfl) ?_
    refine DRun.step rfl rfl rfl (AOp.moveD rfl rfl) ?_
    refine DRun.step rfl rfl rfl (AOp.gtr rfl rfl rfl) ?_
    refine DRun.step rfl rfl rfl (AOp.moveD rfl rfl) ?_
    refine DRun.split 45 rfl (fun g6 => ?_) (fun g6 => ?_)
    · replace g6 := of_decide_eq_true g6
      refine DRun.step ⟨45, rfl, .inl ⟨_, rfl, rfl⟩⟩ rfl rfl (AOp.fieldAddrP rfl fo_62_0 rfl) ?_
      refine DRun.step ⟨45, rfl, .inl ⟨_, rfl, rfl⟩⟩ rfl rfl (AOp.loadP rfl sc_9 rfl (.head _) rfl) ?_
      refine DRun.step ⟨45, rfl, .inl ⟨_, rfl, rfl⟩⟩ rfl rfl (AOp.fieldAddr rfl fo_26_0 rfl) ?_
      refine DRun.step ⟨45, rfl, .inl ⟨_, rfl, rfl⟩⟩ rfl rfl (AOp.load rfl sc_22 rfl) ?_
      refine DRun.step ⟨45, rfl, .inl ⟨_, rfl, rfl⟩⟩ rfl rfl (AOp.moveD rfl rfl) ?_
      refine DRun.step ⟨45, rfl, .inl ⟨_, rfl, rfl⟩⟩ rfl rfl (AOp.sub64 rfl rfl rfl (by omega) (by omega)) ?_
      refine DRun.step ⟨45, rfl, .inl ⟨_, rfl, rfl⟩⟩ rfl rfl (AOp.indexAddr rfl et_22 rfl rfl (k - 1) (by omega) (at_list (by omega)) rfl) ?_
      refine DRun.step ⟨45, rfl, .inl ⟨_, rfl, rfl⟩⟩ rfl rfl (AOp.fieldAddr rfl fo_62_0 rfl) ?_
      refine DRun.step ⟨45, rfl, .inl ⟨_, rfl, rfl⟩⟩ rfl rfl (AOp.load rfl sc_9 rfl) ?_
      refine DRun.step ⟨45, rfl, .inl ⟨_, rfl, rfl⟩⟩ rfl rfl (AOp.sleq rfl rfl rfl) ?_
      refine DRun.step rfl rfl rfl (AOp.pickT rfl rfl rfl) ?_
      refine DRun.step rfl rfl rfl (AOp.assignD rfl rfl) ?_
      refine DRun.nil ?_
      refine AWP.cond rfl (fun h7 => ?_) (fun h7 => ?_)
      · skip
        have HF := check_items hlg hlt hk.2 (itemFault_8 hlt hnm (by omega) h7) (by decide)
        refine AWP.seq (AWP.region ?_)
        refine AOps.aD rfl rfl rfl rfl rfl (.nil ?_)
        refine AWP.ret ?_
        refine ⟨RetD.eq rfl ?_, trivial⟩
        all_goals (first | rw [HF] | rw [show checkV v = 2 from if_pos (by unfold largeV; simp only [List.length_map] at *; omega)])
      have hs := h7
      refine AWP.seq (AWP.region ?_)
      refine AOps.step rfl rfl rfl (AOp.fieldAddrP rfl fo_62_1 rfl) ?_
      refine AOps.step rfl rfl rfl (AOp.loadP rfl sc_3 rfl (.head _) rfl) ?_
      refine AOps.step rfl rfl rfl (AOp.call rfl (.cons (ArgOk.rfl' rfl) (.cons (ArgOk.rfl' rfl) (.cons (ArgOk.rfl' rfl) .nil))) (c_pWithin _ _ _)) ?_
      refine AOps.step rfl rfl rfl (AOp.not rfl rfl) ?_
      refine AOps.aD rfl rfl rfl rfl rfl (.nil ?_)
      refine AWP.cond rfl (fun h8 => ?_) (fun h8 => ?_)
      · replace h8 := bnot_t h8; replace h8 := of_decide_eq_false h8
        have HF := check_items hlg hlt hk.2 (itemFault_1 hlt hnm (by first | exact fun _ => hs | exact fun h => absurd h (by omega)) h8) (by decide)
        refine AWP.seq (AWP.region ?_)
        refine AOps.aD rfl rfl rfl rfl rfl (.nil ?_)
        refine AWP.ret ?_
        refine ⟨RetD.eq rfl ?_, trivial⟩
        all_goals (first | rw [HF] | rw [show checkV v = 2 from if_pos (by unfold largeV; simp only [List.length_map] at *; omega)])
      replace h8 := bnot_f h8; replace h8 := of_decide_eq_true h8
      have H0 := itemFault_0 hlt hnm (by first | exact fun _ => hs | exact fun h => absurd h (by omega)) h8
      refine AWP.skip ?_
      refine AWP.region ?_
      refine AOps.step rfl rfl rfl (AOp.add64 rfl rfl rfl (by omega) (by omega)) ?_
      refine AOps.mD rfl rfl rfl rfl rfl (.nil ?_)
      refine ⟨k + 1, ⟨by omega, ffst_next hk.2 H0⟩, (by dsimp only; omega), Sub.less ⟨(SLe.of_eq rfl), SLe.refl _, SLe.refl _, SLe.refl _, trivial⟩ (fun _ h => by cases h)⟩
    replace g6 := of_decide_eq_false g6
    refine DRun.pass ⟨45, rfl, .inl ⟨_, rfl, rfl⟩⟩ rfl rfl ?_
    refine DRun.pass ⟨45, rfl, .inl ⟨_, rfl, rfl⟩⟩ rfl rfl ?_
    refine DRun.pass ⟨45, rfl, .inl ⟨_, rfl, rfl⟩⟩ rfl rfl ?_
    refine DRun.pass ⟨45, rfl, .inl ⟨_, rfl, rfl⟩⟩ rfl rfl ?_
    refine DRun.pass ⟨45, rfl, .inl ⟨_, rfl, rfl⟩⟩ rfl rfl ?_
    refine DRun.pass ⟨45, rfl, .inl ⟨_, rfl, rfl⟩⟩ rfl rfl ?_
    refine DRun.pass ⟨45, rfl, .inl ⟨_, rfl, rfl⟩⟩ rfl rfl ?_
    refine DRun.pass ⟨45, rfl, .inl ⟨_, rfl, rfl⟩⟩ rfl rfl ?_
    refine DRun.pass ⟨45, rfl, .inl ⟨_, rfl, rfl⟩⟩ rfl rfl ?_
    refine DRun.pass ⟨45, rfl, .inl ⟨_, rfl, rfl⟩⟩ rfl rfl ?_
    refine DRun.step rfl rfl rfl (AOp.pickF rfl rfl rfl) ?_
    refine DRun.step rfl rfl rfl (AOp.assignD rfl rfl) ?_
    refine DRun.nil ?_
    refine AWP.cond rfl (fun h => nomatch h) (fun _ => ?_)
    refine AWP.seq (AWP.region ?_)
    refine AOps.step rfl rfl rfl (AOp.fieldAddrP rfl fo_62_1 rfl) ?_
    refine AOps.step rfl rfl rfl (AOp.loadP rfl sc_3 rfl (.head _) rfl) ?_
    refine AOps.step rfl rfl rfl (AOp.call rfl (.cons (ArgOk.rfl' rfl) (.cons (ArgOk.rfl' rfl) (.cons (ArgOk.rfl' rfl) .nil))) (c_pWithin _ _ _)) ?_
    refine AOps.step rfl rfl rfl (AOp.not rfl rfl) ?_
    refine AOps.aD rfl rfl rfl rfl rfl (.nil ?_)
    refine AWP.cond rfl (fun h9 => ?_) (fun h9 => ?_)
    · replace h9 := bnot_t h9; replace h9 := of_decide_eq_false h9
      have HF := check_items hlg hlt hk.2 (itemFault_1 hlt hnm (by first | exact fun _ => hs | exact fun h => absurd h (by omega)) h9) (by decide)
      refine AWP.seq (AWP.region ?_)
      refine AOps.aD rfl rfl rfl rfl rfl (.nil ?_)
      refine AWP.ret ?_
      refine ⟨RetD.eq rfl ?_, trivial⟩
      all_goals (first | rw [HF] | rw [show checkV v = 2 from if_pos (by unfold largeV; simp only [List.length_map] at *; omega)])
    replace h9 := bnot_f h9; replace h9 := of_decide_eq_true h9
    have H0 := itemFault_0 hlt hnm (by first | exact fun _ => hs | exact fun h => absurd h (by omega)) h9
    refine AWP.skip ?_
    refine AWP.region ?_
    refine AOps.step rfl rfl rfl (AOp.add64 rfl rfl rfl (by omega) (by omega)) ?_
    refine AOps.mD rfl rfl rfl rfl rfl (.nil ?_)
    refine ⟨k + 1, ⟨by omega, ffst_next hk.2 H0⟩, (by dsimp only; omega), Sub.less ⟨(SLe.of_eq rfl), SLe.refl _, SLe.refl _, SLe.refl _, trivial⟩ (fun _ h => by cases h)⟩
  replace h4 := of_decide_eq_false h4
  rw [List.length_map] at h4
  have hI : ffst (itemFault v.items) v.items.length = 0 := by rw [← show k = v.items.length by omega]; exact hk.2
  refine AWP.exit ?_
  refine AWP.seq ?_
  refine AWP.seq (AWP.region ?_)
  refine AOps.step rfl rfl rfl (AOp.fieldAddr rfl fo_26_1 rfl) ?_
  refine AOps.step rfl rfl rfl (AOp.load rfl sc_23 rfl) ?_
  refine AOps.step rfl rfl rfl (AOp.lenSl rfl et_23.ht rfl) ?_
  refine AOps.mD rfl rfl rfl rfl rfl (.nil ?_)
  refine AWP.block ?_
  have hb16 : v.carrs.length ≤ 16 := by unfold largeV at hlg; omega
  refine AWP.loop (G := Nat) (fun j => Env.of [(66, .d (.v (.int .i64 (j : Int)))), (64, .d (.sl (v.carrs.map Carr.ds))), (65, .d (.v (.int .i64 ((v.carrs.map Carr.ds).length : Int)))), (1, .d (.fp v.ds))]) (fun j => []) (fun j => j ≤ v.carrs.length ∧ ffst (carrFault v.carrs) j = 0) (fun j => v.carrs.length - j) 0 ⟨Nat.zero_le _, rfl⟩ (Sub.less ⟨(SLe.of_eq rfl), SLe.refl _, SLe.refl _, SLe.refl _, trivial⟩ (fun _ h => h)) ?_
  intro j hj
  refine AWP.seq (AWP.region ?_)
  refine AOps.step rfl rfl rfl (AOp.lss rfl rfl rfl) (.nil ?_)
  refine AWP.seq ?_
  refine AWP.cond rfl (fun h10 => ?_) (fun h10 => ?_)
  · replace h10 := of_decide_eq_true h10
    rw [List.length_map] at h10
    have hlt : j < v.carrs.length := by omega
    obtain ⟨hsz1, hsz2, hsz3⟩ := hs.2 _ (List.getElem_mem hlt)
    refine AWP.skip ?_
    refine AWP.seq ?_
    refine AWP.block ?_
    refine AWP.seq (AWP.region ?_)
    refine AOps.mD rfl rfl rfl rfl rfl ?_
    refine AOps.step rfl rfl rfl (AOp.indexAddr rfl et_23 rfl rfl j rfl (at_list hlt) rfl) ?_
    refine AOps.step rfl rfl rfl (AOp.loadAgg rfl ag_59 rfl rfl) ?_
    refine AOps.alloc 102 rfl rfl rfl rfl zt_59 rfl rfl rfl ?_
    refine AOps.aD rfl rfl rfl rfl rfl ?_
    refine AOps.store rfl rfl rfl sz_59 rfl (.head _) rfl rfl rfl (Nat.le_of_ble_eq_true rfl) (.nil ?_)
    refine AWP.block ?_
    refine AWP.seq (AWP.region ?_)
    refine AOps.step rfl rfl rfl (AOp.fieldAddrP rfl fo_59_0 rfl) ?_
    refine AOps.step rfl rfl rfl (AOp.loadP rfl sc_9 rfl (.head _) rfl) ?_
    refine AOps.step rfl rfl rfl (AOp.call rfl (.cons (ArgOk.rfl' rfl) .nil) (c_pName _ (by assumption))) ?_
    refine AOps.step rfl rfl rfl (AOp.not rfl rfl) ?_
    refine AOps.mD rfl rfl rfl rfl rfl ?_
    refine AOps.split 76 rfl (fun g11 => ?_) (fun g11 => ?_)
    · replace g11 := bnot_t g11
      have HF := check_carrs hlg hI hlt hj.2 (carrFault_5 hlt (.inl g11)) (by decide)
      refine AOps.pass ⟨76, rfl, .inl ⟨_, rfl, rfl⟩⟩ rfl rfl ?_
      refine AOps.pass ⟨76, rfl, .inl ⟨_, rfl, rfl⟩⟩ rfl rfl ?_
      refine AOps.pass ⟨76, rfl, .inl ⟨_, rfl, rfl⟩⟩ rfl rfl ?_
      refine AOps.pass ⟨76, rfl, .inl ⟨_, rfl, rfl⟩⟩ rfl rfl ?_
      refine AOps.step rfl rfl rfl (AOp.pickT rfl rfl rfl) ?_
      refine AOps.mD rfl rfl rfl rfl rfl ?_
      refine AOps.pass ⟨82, rfl, .inl ⟨_, rfl, rfl⟩⟩ rfl rfl ?_
      refine AOps.pass ⟨82, rfl, .inl ⟨_, rfl, rfl⟩⟩ rfl rfl ?_
      refine AOps.pass ⟨82, rfl, .inl ⟨_, rfl, rfl⟩⟩ rfl rfl ?_
      refine AOps.pass ⟨82, rfl, .inl ⟨_, rfl, rfl⟩⟩ rfl rfl ?_
      refine AOps.step rfl rfl rfl (AOp.pickT rfl rfl rfl) ?_
      refine AOps.aD rfl rfl rfl rfl rfl (.nil ?_)
      refine AWP.cond rfl (fun _ => ?_) (fun h => nomatch h)
      refine AWP.seq (AWP.region ?_)
      refine AOps.aD rfl rfl rfl rfl rfl (.nil ?_)
      refine AWP.ret ?_
      refine ⟨RetD.eq rfl ?_, trivial⟩
      all_goals (first | rw [HF] | rw [show checkV v = 2 from if_pos (by unfold largeV; simp only [List.length_map] at *; omega)])
    replace g11 := bnot_f g11
    have hn1 := g11
    refine AOps.step ⟨76, rfl, .inl ⟨_, rfl, rfl⟩⟩ rfl rfl (AOp.fieldAddrP rfl fo_59_1 rfl) ?_
    refine AOps.step ⟨76, rfl, .inl ⟨_, rfl, rfl⟩⟩ rfl rfl (AOp.loadP rfl sc_9 rfl (.head _) rfl) ?_
    refine AOps.step ⟨76, rfl, .inl ⟨_, rfl, rfl⟩⟩ rfl rfl (AOp.call rfl (.cons (ArgOk.rfl' rfl) .nil) (c_pName _ (by assumption))) ?_
    refine AOps.step ⟨76, rfl, .inl ⟨_, rfl, rfl⟩⟩ rfl rfl (AOp.not rfl rfl) ?_
    refine AOps.step rfl rfl rfl (AOp.pickF rfl rfl rfl) ?_
    refine AOps.mD rfl rfl rfl rfl rfl ?_
    refine AOps.split 82 rfl (fun g12 => ?_) (fun g12 => ?_)
    · replace g12 := bnot_t g12
      have HF := check_carrs hlg hI hlt hj.2 (carrFault_5 hlt (.inr (.inl g12))) (by decide)
      refine AOps.pass ⟨82, rfl, .inl ⟨_, rfl, rfl⟩⟩ rfl rfl ?_
      refine AOps.pass ⟨82, rfl, .inl ⟨_, rfl, rfl⟩⟩ rfl rfl ?_
      refine AOps.pass ⟨82, rfl, .inl ⟨_, rfl, rfl⟩⟩ rfl rfl ?_
      refine AOps.pass ⟨82, rfl, .inl ⟨_, rfl, rfl⟩⟩ rfl rfl ?_
      refine AOps.step rfl rfl rfl (AOp.pickT rfl rfl rfl) ?_
      refine AOps.aD rfl rfl rfl rfl rfl (.nil ?_)
      refine AWP.cond rfl (fun _ => ?_) (fun h => nomatch h)
      refine AWP.seq (AWP.region ?_)
      refine AOps.aD rfl rfl rfl rfl rfl (.nil ?_)
      refine AWP.ret ?_
      refine ⟨RetD.eq rfl ?_, trivial⟩
      all_goals (first | rw [HF] | rw [show checkV v = 2 from if_pos (by unfold largeV; simp only [List.length_map] at *; omega)])
    replace g12 := bnot_f g12
    have hn2 := g12
    refine AOps.step ⟨82, rfl, .inl ⟨_, rfl, rfl⟩⟩ rfl rfl (AOp.fieldAddrP rfl fo_59_2 rfl) ?_
    refine AOps.step ⟨82, rfl, .inl ⟨_, rfl, rfl⟩⟩ rfl rfl (AOp.loadP rfl sc_9 rfl (.head _) rfl) ?_
    refine AOps.step ⟨82, rfl, .inl ⟨_, rfl, rfl⟩⟩ rfl rfl (AOp.call rfl (.cons (ArgOk.rfl' rfl) .nil) (c_pName _ (by assumption))) ?_
    refine AOps.step ⟨82, rfl, .inl ⟨_, rfl, rfl⟩⟩ rfl rfl (AOp.not rfl rfl) ?_
    refine AOps.step rfl rfl rfl (AOp.pickF rfl rfl rfl) ?_
    refine AOps.aD rfl rfl rfl rfl rfl (.nil ?_)
    refine AWP.cond rfl (fun h13 => ?_) (fun h13 => ?_)
    · replace h13 := bnot_t h13
      have HF := check_carrs hlg hI hlt hj.2 (carrFault_5 hlt (.inr (.inr h13))) (by decide)
      refine AWP.seq (AWP.region ?_)
      refine AOps.aD rfl rfl rfl rfl rfl (.nil ?_)
      refine AWP.ret ?_
      refine ⟨RetD.eq rfl ?_, trivial⟩
      all_goals (first | rw [HF] | rw [show checkV v = 2 from if_pos (by unfold largeV; simp only [List.length_map] at *; omega)])
    replace h13 := bnot_f h13
    have hnm : nameOk v.carrs[j].name = true ∧ nameOk v.carrs[j].place = true ∧ nameOk v.carrs[j].kind = true := ⟨hn1, hn2, h13⟩
    refine AWP.seq ?_
    refine AWP.draw (by kernel_rfl) (by kernel_rfl) ?_
    refine DRun.step rfl rfl rfl (AOp.moveD rfl rfl) ?_
    refine DRun.step rfl rfl rfl (AOp.gtr rfl rfl rfl) ?_
    refine DRun.step rfl rfl rfl (AOp.moveD rfl rfl) ?_
    refine DRun.split 91 rfl (fun g14 => ?_) (fun g14 => ?_)
    · replace g14 := of_decide_eq_true g14
      refine DRun.step ⟨91, rfl, .inl ⟨_, rfl, rfl⟩⟩ rfl rfl (AOp.fieldAddrP rfl fo_59_0 rfl) ?_
      refine DRun.step ⟨91, rfl, .inl ⟨_, rfl, rfl⟩⟩ rfl rfl (AOp.loadP rfl sc_9 rfl (.head _) rfl) ?_
      refine DRun.step ⟨91, rfl, .inl ⟨_, rfl, rfl⟩⟩ rfl rfl (AOp.fieldAddr rfl fo_26_1 rfl) ?_
      refine DRun.step ⟨91, rfl, .inl ⟨_, rfl, rfl⟩⟩ rfl rfl (AOp.load rfl sc_23 rfl) ?_
      refine DRun.step ⟨91, rfl, .inl ⟨_, rfl, rfl⟩⟩ rfl rfl (AOp.moveD rfl rfl) ?_
      refine DRun.step ⟨91, rfl, .inl ⟨_, rfl, rfl⟩⟩ rfl rfl (AOp.sub64 rfl rfl rfl (by omega) (by omega)) ?_
      refine DRun.step ⟨91, rfl, .inl ⟨_, rfl, rfl⟩⟩ rfl rfl (AOp.indexAddr rfl et_23 rfl rfl (j - 1) (by omega) (at_list (by omega)) rfl) ?_
      refine DRun.step ⟨91, rfl, .inl ⟨_, rfl, rfl⟩⟩ rfl rfl (AOp.fieldAddr rfl fo_59_0 rfl) ?_
      refine DRun.step ⟨91, rfl, .inl ⟨_, rfl, rfl⟩⟩ rfl rfl (AOp.load rfl sc_9 rfl) ?_
      refine DRun.step ⟨91, rfl, .inl ⟨_, rfl, rfl⟩⟩ rfl rfl (AOp.sleq rfl rfl rfl) ?_
      refine DRun.step rfl rfl rfl (AOp.pickT rfl rfl rfl) ?_
      refine DRun.step rfl rfl rfl (AOp.assignD rfl rfl) ?_
      refine DRun.nil ?_
      refine AWP.cond rfl (fun h15 => ?_) (fun h15 => ?_)
      · skip
        have HF := check_carrs hlg hI hlt hj.2 (carrFault_8 hlt hnm (by omega) h15) (by decide)
        refine AWP.seq (AWP.region ?_)
        refine AOps.aD rfl rfl rfl rfl rfl (.nil ?_)
        refine AWP.ret ?_
        refine ⟨RetD.eq rfl ?_, trivial⟩
        all_goals (first | rw [HF] | rw [show checkV v = 2 from if_pos (by unfold largeV; simp only [List.length_map] at *; omega)])
      have hs := h15
      refine AWP.seq (AWP.region ?_)
      refine AOps.step rfl rfl rfl (AOp.fieldAddrP rfl fo_59_3 rfl) ?_
      refine AOps.step rfl rfl rfl (AOp.loadP rfl sc_3 rfl (.head _) rfl) ?_
      refine AOps.step rfl rfl rfl (AOp.call rfl (.cons (ArgOk.rfl' rfl) .nil) (c_pDay _)) ?_
      refine AOps.step rfl rfl rfl (AOp.not rfl rfl) ?_
      refine AOps.mD rfl rfl rfl rfl rfl ?_
      refine AOps.split 108 rfl (fun g16 => ?_) (fun g16 => ?_)
      · replace g16 := bnot_t g16; replace g16 := of_decide_eq_false g16
        have HF := check_carrs hlg hI hlt hj.2 (carrFault_1 hlt hnm (by first | exact fun _ => hs | exact fun h => absurd h (by omega)) (.inl g16)) (by decide)
        refine AOps.pass ⟨108, rfl, .inl ⟨_, rfl, rfl⟩⟩ rfl rfl ?_
        refine AOps.pass ⟨108, rfl, .inl ⟨_, rfl, rfl⟩⟩ rfl rfl ?_
        refine AOps.pass ⟨108, rfl, .inl ⟨_, rfl, rfl⟩⟩ rfl rfl ?_
        refine AOps.pass ⟨108, rfl, .inl ⟨_, rfl, rfl⟩⟩ rfl rfl ?_
        refine AOps.step rfl rfl rfl (AOp.pickT rfl rfl rfl) ?_
        refine AOps.aD rfl rfl rfl rfl rfl (.nil ?_)
        refine AWP.cond rfl (fun _ => ?_) (fun h => nomatch h)
        refine AWP.seq (AWP.region ?_)
        refine AOps.aD rfl rfl rfl rfl rfl (.nil ?_)
        refine AWP.ret ?_
        refine ⟨RetD.eq rfl ?_, trivial⟩
        all_goals (first | rw [HF] | rw [show checkV v = 2 from if_pos (by unfold largeV; simp only [List.length_map] at *; omega)])
      replace g16 := bnot_f g16; replace g16 := of_decide_eq_true g16
      have hd := g16
      refine AOps.step ⟨108, rfl, .inl ⟨_, rfl, rfl⟩⟩ rfl rfl (AOp.fieldAddrP rfl fo_59_4 rfl) ?_
      refine AOps.step ⟨108, rfl, .inl ⟨_, rfl, rfl⟩⟩ rfl rfl (AOp.loadP rfl sc_3 rfl (.head _) rfl) ?_
      refine AOps.step ⟨108, rfl, .inl ⟨_, rfl, rfl⟩⟩ rfl rfl (AOp.call rfl (.cons (ArgOk.rfl' rfl) (.cons (ArgOk.rfl' rfl) (.cons (ArgOk.rfl' rfl) .nil))) (c_pWithin _ _ _)) ?_
      refine AOps.step ⟨108, rfl, .inl ⟨_, rfl, rfl⟩⟩ rfl rfl (AOp.not rfl rfl) ?_
      refine AOps.step rfl rfl rfl (AOp.pickF rfl rfl rfl) ?_
      refine AOps.aD rfl rfl rfl rfl rfl (.nil ?_)
      refine AWP.cond rfl (fun h17 => ?_) (fun h17 => ?_)
      · replace h17 := bnot_t h17; replace h17 := of_decide_eq_false h17
        have HF := check_carrs hlg hI hlt hj.2 (carrFault_1 hlt hnm (by first | exact fun _ => hs | exact fun h => absurd h (by omega)) (.inr h17)) (by decide)
        refine AWP.seq (AWP.region ?_)
        refine AOps.aD rfl rfl rfl rfl rfl (.nil ?_)
        refine AWP.ret ?_
        refine ⟨RetD.eq rfl ?_, trivial⟩
        all_goals (first | rw [HF] | rw [show checkV v = 2 from if_pos (by unfold largeV; simp only [List.length_map] at *; omega)])
      replace h17 := bnot_f h17; replace h17 := of_decide_eq_true h17
      have H0 := carrFault_0 hlt hnm (by first | exact fun _ => hs | exact fun h => absurd h (by omega)) hd h17
      refine AWP.skip ?_
      refine AWP.region ?_
      refine AOps.step rfl rfl rfl (AOp.add64 rfl rfl rfl (by omega) (by omega)) ?_
      refine AOps.mD rfl rfl rfl rfl rfl (.nil ?_)
      refine ⟨j + 1, ⟨by omega, ffst_next hj.2 H0⟩, (by dsimp only; omega), Sub.less ⟨(SLe.of_eq rfl), SLe.refl _, SLe.refl _, SLe.refl _, trivial⟩ (fun _ h => by cases h)⟩
    replace g14 := of_decide_eq_false g14
    refine DRun.pass ⟨91, rfl, .inl ⟨_, rfl, rfl⟩⟩ rfl rfl ?_
    refine DRun.pass ⟨91, rfl, .inl ⟨_, rfl, rfl⟩⟩ rfl rfl ?_
    refine DRun.pass ⟨91, rfl, .inl ⟨_, rfl, rfl⟩⟩ rfl rfl ?_
    refine DRun.pass ⟨91, rfl, .inl ⟨_, rfl, rfl⟩⟩ rfl rfl ?_
    refine DRun.pass ⟨91, rfl, .inl ⟨_, rfl, rfl⟩⟩ rfl rfl ?_
    refine DRun.pass ⟨91, rfl, .inl ⟨_, rfl, rfl⟩⟩ rfl rfl ?_
    refine DRun.pass ⟨91, rfl, .inl ⟨_, rfl, rfl⟩⟩ rfl rfl ?_
    refine DRun.pass ⟨91, rfl, .inl ⟨_, rfl, rfl⟩⟩ rfl rfl ?_
    refine DRun.pass ⟨91, rfl, .inl ⟨_, rfl, rfl⟩⟩ rfl rfl ?_
    refine DRun.pass ⟨91, rfl, .inl ⟨_, rfl, rfl⟩⟩ rfl rfl ?_
    refine DRun.step rfl rfl rfl (AOp.pickF rfl rfl rfl) ?_
    refine DRun.step rfl rfl rfl (AOp.assignD rfl rfl) ?_
    refine DRun.nil ?_
    refine AWP.cond rfl (fun h => nomatch h) (fun _ => ?_)
    refine AWP.seq (AWP.region ?_)
    refine AOps.step rfl rfl rfl (AOp.fieldAddrP rfl fo_59_3 rfl) ?_
    refine AOps.step rfl rfl rfl (AOp.loadP rfl sc_3 rfl (.head _) rfl) ?_
    refine AOps.step rfl rfl rfl (AOp.call rfl (.cons (ArgOk.rfl' rfl) .nil) (c_pDay _)) ?_
    refine AOps.step rfl rfl rfl (AOp.not rfl rfl) ?_
    refine AOps.mD rfl rfl rfl rfl rfl ?_
    refine AOps.split 108 rfl (fun g18 => ?_) (fun g18 => ?_)
    · replace g18 := bnot_t g18; replace g18 := of_decide_eq_false g18
      have HF := check_carrs hlg hI hlt hj.2 (carrFault_1 hlt hnm (by first | exact fun _ => hs | exact fun h => absurd h (by omega)) (.inl g18)) (by decide)
      refine AOps.pass ⟨108, rfl, .inl ⟨_, rfl, rfl⟩⟩ rfl rfl ?_
      refine AOps.pass ⟨108, rfl, .inl ⟨_, rfl, rfl⟩⟩ rfl rfl ?_
      refine AOps.pass ⟨108, rfl, .inl ⟨_, rfl, rfl⟩⟩ rfl rfl ?_
      refine AOps.pass ⟨108, rfl, .inl ⟨_, rfl, rfl⟩⟩ rfl rfl ?_
      refine AOps.step rfl rfl rfl (AOp.pickT rfl rfl rfl) ?_
      refine AOps.aD rfl rfl rfl rfl rfl (.nil ?_)
      refine AWP.cond rfl (fun _ => ?_) (fun h => nomatch h)
      refine AWP.seq (AWP.region ?_)
      refine AOps.aD rfl rfl rfl rfl rfl (.nil ?_)
      refine AWP.ret ?_
      refine ⟨RetD.eq rfl ?_, trivial⟩
      all_goals (first | rw [HF] | rw [show checkV v = 2 from if_pos (by unfold largeV; simp only [List.length_map] at *; omega)])
    replace g18 := bnot_f g18; replace g18 := of_decide_eq_true g18
    have hd := g18
    refine AOps.step ⟨108, rfl, .inl ⟨_, rfl, rfl⟩⟩ rfl rfl (AOp.fieldAddrP rfl fo_59_4 rfl) ?_
    refine AOps.step ⟨108, rfl, .inl ⟨_, rfl, rfl⟩⟩ rfl rfl (AOp.loadP rfl sc_3 rfl (.head _) rfl) ?_
    refine AOps.step ⟨108, rfl, .inl ⟨_, rfl, rfl⟩⟩ rfl rfl (AOp.call rfl (.cons (ArgOk.rfl' rfl) (.cons (ArgOk.rfl' rfl) (.cons (ArgOk.rfl' rfl) .nil))) (c_pWithin _ _ _)) ?_
    refine AOps.step ⟨108, rfl, .inl ⟨_, rfl, rfl⟩⟩ rfl rfl (AOp.not rfl rfl) ?_
    refine AOps.step rfl rfl rfl (AOp.pickF rfl rfl rfl) ?_
    refine AOps.aD rfl rfl rfl rfl rfl (.nil ?_)
    refine AWP.cond rfl (fun h19 => ?_) (fun h19 => ?_)
    · replace h19 := bnot_t h19; replace h19 := of_decide_eq_false h19
      have HF := check_carrs hlg hI hlt hj.2 (carrFault_1 hlt hnm (by first | exact fun _ => hs | exact fun h => absurd h (by omega)) (.inr h19)) (by decide)
      refine AWP.seq (AWP.region ?_)
      refine AOps.aD rfl rfl rfl rfl rfl (.nil ?_)
      refine AWP.ret ?_
      refine ⟨RetD.eq rfl ?_, trivial⟩
      all_goals (first | rw [HF] | rw [show checkV v = 2 from if_pos (by unfold largeV; simp only [List.length_map] at *; omega)])
    replace h19 := bnot_f h19; replace h19 := of_decide_eq_true h19
    have H0 := carrFault_0 hlt hnm (by first | exact fun _ => hs | exact fun h => absurd h (by omega)) hd h19
    refine AWP.skip ?_
    refine AWP.region ?_
    refine AOps.step rfl rfl rfl (AOp.add64 rfl rfl rfl (by omega) (by omega)) ?_
    refine AOps.mD rfl rfl rfl rfl rfl (.nil ?_)
    refine ⟨j + 1, ⟨by omega, ffst_next hj.2 H0⟩, (by dsimp only; omega), Sub.less ⟨(SLe.of_eq rfl), SLe.refl _, SLe.refl _, SLe.refl _, trivial⟩ (fun _ h => by cases h)⟩
  replace h10 := of_decide_eq_false h10
  rw [List.length_map] at h10
  have hC : ffst (carrFault v.carrs) v.carrs.length = 0 := by rw [← show j = v.carrs.length by omega]; exact hj.2
  refine AWP.exit ?_
  refine AWP.seq ?_
  refine AWP.seq (AWP.region ?_)
  refine AOps.step rfl rfl rfl (AOp.fieldAddr rfl fo_26_2 rfl) ?_
  refine AOps.step rfl rfl rfl (AOp.load rfl sc_24 rfl) ?_
  refine AOps.step rfl rfl rfl (AOp.lenSl rfl et_24.ht rfl) ?_
  refine AOps.mD rfl rfl rfl rfl rfl (.nil ?_)
  refine AWP.block ?_
  have hb200 : v.copies.length ≤ 200 := by unfold largeV at hlg; omega
  refine AWP.loop (G := Nat) (fun i => Env.of [(118, .d (.v (.int .i64 (i : Int)))), (116, .d (.sl (v.copies.map Cpy.ds))), (117, .d (.v (.int .i64 ((v.copies.map Cpy.ds).length : Int)))), (1, .d (.fp v.ds))]) (fun i => []) (fun i => i ≤ v.copies.length ∧ ffst (cpyFaultAt v) i = 0) (fun i => v.copies.length - i) 0 ⟨Nat.zero_le _, rfl⟩ (Sub.less ⟨(SLe.of_eq rfl), SLe.refl _, SLe.refl _, SLe.refl _, trivial⟩ (fun _ h => h)) ?_
  intro i hi
  refine AWP.seq (AWP.region ?_)
  refine AOps.step rfl rfl rfl (AOp.lss rfl rfl rfl) (.nil ?_)
  refine AWP.seq ?_
  refine AWP.cond rfl (fun h20 => ?_) (fun h20 => ?_)
  · replace h20 := of_decide_eq_true h20
    rw [List.length_map] at h20
    have hlt : i < v.copies.length := by omega
    refine AWP.skip ?_
    refine AWP.seq ?_
    refine AWP.block ?_
    refine AWP.seq (AWP.region ?_)
    refine AOps.mD rfl rfl rfl rfl rfl ?_
    refine AOps.step rfl rfl rfl (AOp.indexAddr rfl et_24 rfl rfl i rfl (at_list hlt) rfl) ?_
    refine AOps.step rfl rfl rfl (AOp.loadAgg rfl ag_65 rfl rfl) ?_
    refine AOps.alloc 103 rfl rfl rfl rfl zt_65 rfl rfl rfl ?_
    refine AOps.aD rfl rfl rfl rfl rfl ?_
    refine AOps.store rfl rfl rfl sz_65 rfl (.head _) rfl rfl rfl (Nat.le_of_ble_eq_true rfl) (.nil ?_)
    refine AWP.seq (AWP.region ?_)
    refine AOps.aD rfl rfl rfl rfl rfl (.nil ?_)
    refine AWP.seq ?_
    refine AWP.seq (AWP.region ?_)
    refine AOps.mD rfl rfl rfl rfl rfl ?_
    refine AOps.step rfl rfl rfl (AOp.gtr rfl rfl rfl) (.nil ?_)
    refine AWP.cond rfl (fun h21 => ?_) (fun h21 => ?_)
    · replace h21 := of_decide_eq_true h21
      have ha := cpyFaultAt_some hlt (show 0 < i by omega)
      refine AWP.region ?_
      refine AOps.step rfl rfl rfl (AOp.fieldAddr rfl fo_26_2 rfl) ?_
      refine AOps.step rfl rfl rfl (AOp.load rfl sc_24 rfl) ?_
      refine AOps.mD rfl rfl rfl rfl rfl ?_
      refine AOps.step rfl rfl rfl (AOp.sub64 rfl rfl rfl (by omega) (by omega)) ?_
      refine AOps.step rfl rfl rfl (AOp.indexAddr rfl et_24 rfl rfl (i - 1) (by omega) (at_list (by omega)) rfl) ?_
      refine AOps.aD rfl rfl rfl rfl rfl (.nil ?_)
      refine AWP.seq (AWP.region ?_)
      refine AOps.step rfl rfl rfl (AOp.loadAgg rfl ag_26 rfl rfl) ?_
      refine AOps.step rfl rfl rfl (AOp.loadPU rfl ag_65 rfl (.head _) rfl rfl) ?_
      refine AOps.mD rfl rfl rfl rfl rfl ?_
      refine AOps.step rfl rfl rfl (AOp.call rfl (.cons (ArgOk.rfl' rfl) (.cons (ArgOk.rfl' rfl) (.cons (ArgOk.rfl' rfl) .nil))) (c_pCopyS v v.copies[i] v.copies[i-1] (okItems_of hI))) ?_
      refine AOps.aD rfl rfl rfl rfl rfl (.nil ?_)
      refine AWP.seq (AWP.region ?_)
      refine AOps.mD rfl rfl rfl rfl rfl ?_
      refine AOps.step rfl rfl rfl (AOp.neq rfl rfl rfl) (.nil ?_)
      refine AWP.cond rfl (fun h22 => ?_) (fun h22 => ?_)
      · replace h22 := of_decide_eq_true h22
        have HF := check_copies hlg hI hC hlt hi.2 ha h22
        refine AWP.seq (AWP.region ?_)
        refine AOps.mD rfl rfl rfl rfl rfl ?_
        refine AOps.aD rfl rfl rfl rfl rfl (.nil ?_)
        refine AWP.ret ?_
        refine ⟨RetD.eq rfl ?_, trivial⟩
        all_goals (first | rw [HF] | rw [show checkV v = 2 from if_pos (by unfold largeV; simp only [List.length_map] at *; omega)])
      replace h22 := of_decide_eq_false h22
      have H0 := ha.trans (Decidable.not_not.1 h22)
      refine AWP.skip ?_
      refine AWP.region ?_
      refine AOps.step rfl rfl rfl (AOp.add64 rfl rfl rfl (by omega) (by omega)) ?_
      refine AOps.mD rfl rfl rfl rfl rfl (.nil ?_)
      refine ⟨i + 1, ⟨by omega, ffst_next hi.2 H0⟩, (by dsimp only; omega), Sub.less ⟨(SLe.of_eq rfl), SLe.refl _, SLe.refl _, SLe.refl _, trivial⟩ (fun _ h => by cases h)⟩
    replace h21 := of_decide_eq_false h21
    have ha := cpyFaultAt_none hlt (show ¬ 0 < i by omega)
    refine AWP.skip ?_
    refine AWP.seq (AWP.region ?_)
    refine AOps.step rfl rfl rfl (AOp.loadAgg rfl ag_26 rfl rfl) ?_
    refine AOps.step rfl rfl rfl (AOp.loadPU rfl ag_65 rfl (.head _) rfl rfl) ?_
    refine AOps.mD rfl rfl rfl rfl rfl ?_
    refine AOps.step rfl rfl rfl (AOp.call rfl (.cons (ArgOk.rfl' rfl) (.cons (ArgOk.rfl' rfl) (.cons (ArgOk.rfl' rfl) .nil))) (c_pCopyN v v.copies[i] (okItems_of hI))) ?_
    refine AOps.aD rfl rfl rfl rfl rfl (.nil ?_)
    refine AWP.seq (AWP.region ?_)
    refine AOps.mD rfl rfl rfl rfl rfl ?_
    refine AOps.step rfl rfl rfl (AOp.neq rfl rfl rfl) (.nil ?_)
    refine AWP.cond rfl (fun h23 => ?_) (fun h23 => ?_)
    · replace h23 := of_decide_eq_true h23
      have HF := check_copies hlg hI hC hlt hi.2 ha h23
      refine AWP.seq (AWP.region ?_)
      refine AOps.mD rfl rfl rfl rfl rfl ?_
      refine AOps.aD rfl rfl rfl rfl rfl (.nil ?_)
      refine AWP.ret ?_
      refine ⟨RetD.eq rfl ?_, trivial⟩
      all_goals (first | rw [HF] | rw [show checkV v = 2 from if_pos (by unfold largeV; simp only [List.length_map] at *; omega)])
    replace h23 := of_decide_eq_false h23
    have H0 := ha.trans (Decidable.not_not.1 h23)
    refine AWP.skip ?_
    refine AWP.region ?_
    refine AOps.step rfl rfl rfl (AOp.add64 rfl rfl rfl (by omega) (by omega)) ?_
    refine AOps.mD rfl rfl rfl rfl rfl (.nil ?_)
    refine ⟨i + 1, ⟨by omega, ffst_next hi.2 H0⟩, (by dsimp only; omega), Sub.less ⟨(SLe.of_eq rfl), SLe.refl _, SLe.refl _, SLe.refl _, trivial⟩ (fun _ h => by cases h)⟩
  replace h20 := of_decide_eq_false h20
  rw [List.length_map] at h20
  have hP : ffst (cpyFaultAt v) v.copies.length = 0 := by rw [← show i = v.copies.length by omega]; exact hi.2
  refine AWP.exit ?_
  refine AWP.seq ?_
  refine AWP.seq (AWP.region ?_)
  refine AOps.step rfl rfl rfl (AOp.fieldAddr rfl fo_26_1 rfl) ?_
  refine AOps.step rfl rfl rfl (AOp.load rfl sc_23 rfl) ?_
  refine AOps.step rfl rfl rfl (AOp.lenSl rfl et_23.ht rfl) ?_
  refine AOps.mD rfl rfl rfl rfl rfl (.nil ?_)
  refine AWP.block ?_
  refine AWP.loop (G := Nat) (fun n => Env.of [(141, .d (.v (.int .i64 (n : Int)))), (139, .d (.sl (v.carrs.map Carr.ds))), (140, .d (.v (.int .i64 ((v.carrs.map Carr.ds).length : Int)))), (1, .d (.fp v.ds))]) (fun n => []) (fun n => n ≤ v.carrs.length ∧ ∀ c ∈ v.carrs.take n, decide (c.room < usedOn v c.name) = false) (fun n => v.carrs.length - n) 0 ⟨Nat.zero_le _, fun c h => by simp at h⟩ (Sub.less ⟨(SLe.of_eq rfl), SLe.refl _, SLe.refl _, SLe.refl _, trivial⟩ (fun _ h => h)) ?_
  intro n hn
  refine AWP.seq (AWP.region ?_)
  refine AOps.step rfl rfl rfl (AOp.lss rfl rfl rfl) (.nil ?_)
  refine AWP.seq ?_
  refine AWP.cond rfl (fun h24 => ?_) (fun h24 => ?_)
  · replace h24 := of_decide_eq_true h24
    rw [List.length_map] at h24
    have hlt : n < v.carrs.length := by omega
    refine AWP.skip ?_
    refine AWP.seq ?_
    refine AWP.block ?_
    refine AWP.seq (AWP.region ?_)
    refine AOps.step rfl rfl rfl (AOp.indexAddr rfl et_23 rfl rfl n rfl (at_list hlt) rfl) ?_
    refine AOps.step rfl rfl rfl (AOp.loadAgg rfl ag_59 rfl rfl) ?_
    refine AOps.alloc 104 rfl rfl rfl rfl zt_59 rfl rfl rfl ?_
    refine AOps.store rfl rfl rfl sz_59 rfl (.head _) rfl rfl rfl (Nat.le_of_ble_eq_true rfl) (.nil ?_)
    refine AWP.seq (AWP.region ?_)
    refine AOps.step rfl rfl rfl (AOp.loadAgg rfl ag_26 rfl rfl) ?_
    refine AOps.step rfl rfl rfl (AOp.loadPU rfl ag_59 rfl (.head _) rfl rfl) ?_
    refine AOps.step rfl rfl rfl (AOp.call rfl (.cons (ArgOk.rfl' rfl) (.cons (ArgOk.rfl' rfl) .nil)) (c_left v v.carrs[n] (okItems_of hI) (okCopies_of hP) (by unfold largeV at hlg; omega) (carrFault_ok hlt (ffst_all _ hC n hlt)).2.2)) ?_
    refine AOps.step rfl rfl rfl (AOp.lss rfl rfl rfl) (.nil ?_)
    refine AWP.cond rfl (fun h25 => ?_) (fun h25 => ?_)
    · replace h25 := of_decide_eq_true h25
      have HF : checkV v = 2 := by rw [check_over hlg hI hC hP, if_pos (overFull_yes hlt (by omega))]
      refine AWP.seq (AWP.region ?_)
      refine AOps.aD rfl rfl rfl rfl rfl (.nil ?_)
      refine AWP.ret ?_
      refine ⟨RetD.eq rfl ?_, trivial⟩
      all_goals (first | rw [HF] | rw [show checkV v = 2 from if_pos (by unfold largeV; simp only [List.length_map] at *; omega)])
    replace h25 := of_decide_eq_false h25
    have hT := take_false' (p := fun x : Carr => decide (x.room < usedOn v x.name)) hlt hn.2 (decide_eq_false (by omega))
    refine AWP.skip ?_
    refine AWP.region ?_
    refine AOps.step rfl rfl rfl (AOp.add64 rfl rfl rfl (by omega) (by omega)) ?_
    refine AOps.mD rfl rfl rfl rfl rfl (.nil ?_)
    refine ⟨n + 1, ⟨by omega, hT⟩, (by dsimp only; omega), Sub.less ⟨(SLe.of_eq rfl), SLe.refl _, SLe.refl _, SLe.refl _, trivial⟩ (fun _ h => by cases h)⟩
  replace h24 := of_decide_eq_false h24
  rw [List.length_map] at h24
  have HF : checkV v = 0 := by rw [check_over hlg hI hC hP, overFull_no (by rw [← show n = v.carrs.length by omega]; exact hn.2)]; rfl
  refine AWP.exit ?_
  refine AWP.seq (AWP.region ?_)
  refine AOps.aD rfl rfl rfl rfl rfl (.nil ?_)
  refine AWP.ret ?_
  refine ⟨RetD.eq rfl ?_, trivial⟩
  all_goals (first | rw [HF] | rw [show checkV v = 2 from if_pos (by unfold largeV; simp only [List.length_map] at *; omega)])

set_option maxRecDepth 100000 in
set_option maxHeartbeats 1000000 in
theorem c_rCheck (v : Vlt) (hs : smallV v) : ACall Tryz.prog 38 [.agg v.ds] (.v (.int .i64 (checkV v))) := by
  refine acall_of (n := 93) (ds' := [.v (.int .i64 (checkV v))]) Tryz.func38 rfl (by kernel_rfl) rfl [2] rfl rfl ?_
  intro B w0 F0 fr
  refine AWP.seq (AWP.region ?_)
  refine AOps.step rfl rfl rfl (AOp.box rfl rfl rfl) ?_
  refine AOps.aD rfl rfl rfl rfl rfl (.nil ?_)
  refine AWP.seq ?_
  refine AWP.seq (AWP.region ?_)
  refine AOps.step rfl rfl rfl (AOp.fieldAddr rfl fo_26_0 rfl) ?_
  refine AOps.step rfl rfl rfl (AOp.load rfl sc_22 rfl) ?_
  refine AOps.step rfl rfl rfl (AOp.lenSl rfl et_22.ht rfl) ?_
  refine AOps.step rfl rfl rfl (AOp.gtr rfl rfl rfl) ?_
  refine AOps.mD rfl rfl rfl rfl rfl ?_
  refine AOps.split 14 rfl (fun g1 => ?_) (fun g1 => ?_)
  · replace g1 := of_decide_eq_true g1
    refine AOps.pass ⟨14, rfl, .inl ⟨_, rfl, rfl⟩⟩ rfl rfl ?_
    refine AOps.pass ⟨14, rfl, .inl ⟨_, rfl, rfl⟩⟩ rfl rfl ?_
    refine AOps.pass ⟨14, rfl, .inl ⟨_, rfl, rfl⟩⟩ rfl rfl ?_
    refine AOps.pass ⟨14, rfl, .inl ⟨_, rfl, rfl⟩⟩ rfl rfl ?_
    refine AOps.step rfl rfl rfl (AOp.pickT rfl rfl rfl) ?_
    refine AOps.mD rfl rfl rfl rfl rfl ?_
    refine AOps.pass ⟨20, rfl, .inl ⟨_, rfl, rfl⟩⟩ rfl rfl ?_
    refine AOps.pass ⟨20, rfl, .inl ⟨_, rfl, rfl⟩⟩ rfl rfl ?_
    refine AOps.pass ⟨20, rfl, .inl ⟨_, rfl, rfl⟩⟩ rfl rfl ?_
    refine AOps.pass ⟨20, rfl, .inl ⟨_, rfl, rfl⟩⟩ rfl rfl ?_
    refine AOps.step rfl rfl rfl (AOp.pickT rfl rfl rfl) (.nil ?_)
    refine AWP.cond rfl (fun _ => ?_) (fun h => nomatch h)
    refine AWP.seq (AWP.region ?_)
    refine AOps.aD rfl rfl rfl rfl rfl (.nil ?_)
    refine AWP.ret ?_
    refine ⟨RetD.eq rfl ?_, trivial⟩
    all_goals (first | rw [HF] | rw [show checkV v = 2 from if_pos (by unfold largeV; simp only [List.length_map] at *; omega)])
  replace g1 := of_decide_eq_false g1
  refine AOps.step ⟨14, rfl, .inl ⟨_, rfl, rfl⟩⟩ rfl rfl (AOp.fieldAddr rfl fo_26_1 rfl) ?_
  refine AOps.step ⟨14, rfl, .inl ⟨_, rfl, rfl⟩⟩ rfl rfl (AOp.load rfl sc_23 rfl) ?_
  refine AOps.step ⟨14, rfl, .inl ⟨_, rfl, rfl⟩⟩ rfl rfl (AOp.lenSl rfl et_23.ht rfl) ?_
  refine AOps.step ⟨14, rfl, .inl ⟨_, rfl, rfl⟩⟩ rfl rfl (AOp.gtr rfl rfl rfl) ?_
  refine AOps.step rfl rfl rfl (AOp.pickF rfl rfl rfl) ?_
  refine AOps.mD rfl rfl rfl rfl rfl ?_
  refine AOps.split 20 rfl (fun g2 => ?_) (fun g2 => ?_)
  · replace g2 := of_decide_eq_true g2
    refine AOps.pass ⟨20, rfl, .inl ⟨_, rfl, rfl⟩⟩ rfl rfl ?_
    refine AOps.pass ⟨20, rfl, .inl ⟨_, rfl, rfl⟩⟩ rfl rfl ?_
    refine AOps.pass ⟨20, rfl, .inl ⟨_, rfl, rfl⟩⟩ rfl rfl ?_
    refine AOps.pass ⟨20, rfl, .inl ⟨_, rfl, rfl⟩⟩ rfl rfl ?_
    refine AOps.step rfl rfl rfl (AOp.pickT rfl rfl rfl) (.nil ?_)
    refine AWP.cond rfl (fun _ => ?_) (fun h => nomatch h)
    refine AWP.seq (AWP.region ?_)
    refine AOps.aD rfl rfl rfl rfl rfl (.nil ?_)
    refine AWP.ret ?_
    refine ⟨RetD.eq rfl ?_, trivial⟩
    all_goals (first | rw [HF] | rw [show checkV v = 2 from if_pos (by unfold largeV; simp only [List.length_map] at *; omega)])
  replace g2 := of_decide_eq_false g2
  refine AOps.step ⟨20, rfl, .inl ⟨_, rfl, rfl⟩⟩ rfl rfl (AOp.fieldAddr rfl fo_26_2 rfl) ?_
  refine AOps.step ⟨20, rfl, .inl ⟨_, rfl, rfl⟩⟩ rfl rfl (AOp.load rfl sc_24 rfl) ?_
  refine AOps.step ⟨20, rfl, .inl ⟨_, rfl, rfl⟩⟩ rfl rfl (AOp.lenSl rfl et_24.ht rfl) ?_
  refine AOps.step ⟨20, rfl, .inl ⟨_, rfl, rfl⟩⟩ rfl rfl (AOp.gtr rfl rfl rfl) ?_
  refine AOps.step rfl rfl rfl (AOp.pickF rfl rfl rfl) (.nil ?_)
  refine AWP.cond rfl (fun h3 => ?_) (fun h3 => ?_)
  · replace h3 := of_decide_eq_true h3
    refine AWP.seq (AWP.region ?_)
    refine AOps.aD rfl rfl rfl rfl rfl (.nil ?_)
    refine AWP.ret ?_
    refine ⟨RetD.eq rfl ?_, trivial⟩
    all_goals (first | rw [HF] | rw [show checkV v = 2 from if_pos (by unfold largeV; simp only [List.length_map] at *; omega)])
  replace h3 := of_decide_eq_false h3
  have hlg : ¬ largeV v := by unfold largeV; simp only [List.length_map] at *; omega
  refine AWP.skip ?_
  refine AWP.seq ?_
  refine AWP.seq (AWP.region ?_)
  refine AOps.step rfl rfl rfl (AOp.fieldAddr rfl fo_26_0 rfl) ?_
  refine AOps.step rfl rfl rfl (AOp.load rfl sc_22 rfl) ?_
  refine AOps.step rfl rfl rfl (AOp.call rfl (.cons (ArgOk.rfl' rfl) .nil) (c_rItems v.items hs.1)) ?_
  refine AOps.aD rfl rfl rfl rfl rfl (.nil ?_)
  refine AWP.seq (AWP.region ?_)
  refine AOps.mD rfl rfl rfl rfl rfl ?_
  refine AOps.step rfl rfl rfl (AOp.neq rfl rfl rfl) (.nil ?_)
  refine AWP.cond rfl (fun h4 => ?_) (fun h4 => ?_)
  · replace h4 := of_decide_eq_true h4
    have HF : checkV v = ffst (itemFault v.items) v.items.length := by unfold checkV; rw [if_neg hlg, if_pos h4]
    refine AWP.seq (AWP.region ?_)
    refine AOps.mD rfl rfl rfl rfl rfl ?_
    refine AOps.aD rfl rfl rfl rfl rfl (.nil ?_)
    refine AWP.ret ?_
    refine ⟨RetD.eq rfl ?_, trivial⟩
    all_goals (first | rw [HF] | rw [show checkV v = 2 from if_pos (by unfold largeV; simp only [List.length_map] at *; omega)])
  replace h4 := of_decide_eq_false h4
  have hI := Decidable.not_not.1 h4
  refine AWP.skip ?_
  refine AWP.seq ?_
  refine AWP.seq (AWP.region ?_)
  refine AOps.step rfl rfl rfl (AOp.fieldAddr rfl fo_26_1 rfl) ?_
  refine AOps.step rfl rfl rfl (AOp.load rfl sc_23 rfl) ?_
  refine AOps.step rfl rfl rfl (AOp.call rfl (.cons (ArgOk.rfl' rfl) .nil) (c_rCarrs v.carrs hs.2)) ?_
  refine AOps.aD rfl rfl rfl rfl rfl (.nil ?_)
  refine AWP.seq (AWP.region ?_)
  refine AOps.mD rfl rfl rfl rfl rfl ?_
  refine AOps.step rfl rfl rfl (AOp.neq rfl rfl rfl) (.nil ?_)
  refine AWP.cond rfl (fun h5 => ?_) (fun h5 => ?_)
  · replace h5 := of_decide_eq_true h5
    have HF : checkV v = ffst (carrFault v.carrs) v.carrs.length := by unfold checkV; rw [if_neg hlg, hI, if_neg (by decide), if_pos h5]
    refine AWP.seq (AWP.region ?_)
    refine AOps.mD rfl rfl rfl rfl rfl ?_
    refine AOps.aD rfl rfl rfl rfl rfl (.nil ?_)
    refine AWP.ret ?_
    refine ⟨RetD.eq rfl ?_, trivial⟩
    all_goals (first | rw [HF] | rw [show checkV v = 2 from if_pos (by unfold largeV; simp only [List.length_map] at *; omega)])
  replace h5 := of_decide_eq_false h5
  have hC := Decidable.not_not.1 h5
  refine AWP.skip ?_
  refine AWP.seq ?_
  refine AWP.seq (AWP.region ?_)
  refine AOps.step rfl rfl rfl (AOp.fieldAddr rfl fo_26_2 rfl) ?_
  refine AOps.step rfl rfl rfl (AOp.load rfl sc_24 rfl) ?_
  refine AOps.step rfl rfl rfl (AOp.lenSl rfl et_24.ht rfl) ?_
  refine AOps.mD rfl rfl rfl rfl rfl (.nil ?_)
  refine AWP.block ?_
  have hb200 : v.copies.length ≤ 200 := by unfold largeV at hlg; omega
  refine AWP.loop (G := Nat) (fun i => Env.of [(41, .d (.v (.int .i64 (i : Int)))), (39, .d (.sl (v.copies.map Cpy.ds))), (40, .d (.v (.int .i64 ((v.copies.map Cpy.ds).length : Int)))), (1, .d (.fp v.ds))]) (fun i => []) (fun i => i ≤ v.copies.length ∧ ffst (cpyFaultAt v) i = 0) (fun i => v.copies.length - i) 0 ⟨Nat.zero_le _, rfl⟩ (Sub.less ⟨(SLe.of_eq rfl), SLe.refl _, SLe.refl _, SLe.refl _, trivial⟩ (fun _ h => h)) ?_
  intro i hi
  refine AWP.seq (AWP.region ?_)
  refine AOps.step rfl rfl rfl (AOp.lss rfl rfl rfl) (.nil ?_)
  refine AWP.seq ?_
  refine AWP.cond rfl (fun h6 => ?_) (fun h6 => ?_)
  · replace h6 := of_decide_eq_true h6
    rw [List.length_map] at h6
    have hlt : i < v.copies.length := by omega
    refine AWP.skip ?_
    refine AWP.seq ?_
    refine AWP.block ?_
    refine AWP.seq (AWP.region ?_)
    refine AOps.mD rfl rfl rfl rfl rfl ?_
    refine AOps.step rfl rfl rfl (AOp.indexAddr rfl et_24 rfl rfl i rfl (at_list hlt) rfl) ?_
    refine AOps.step rfl rfl rfl (AOp.loadAgg rfl ag_65 rfl rfl) ?_
    refine AOps.alloc 101 rfl rfl rfl rfl zt_65 rfl rfl rfl ?_
    refine AOps.aD rfl rfl rfl rfl rfl ?_
    refine AOps.store rfl rfl rfl sz_65 rfl (.head _) rfl rfl rfl (Nat.le_of_ble_eq_true rfl) (.nil ?_)
    refine AWP.seq ?_
    refine AWP.seq (AWP.region ?_)
    refine AOps.step rfl rfl rfl (AOp.loadAgg rfl ag_26 rfl rfl) ?_
    refine AOps.step rfl rfl rfl (AOp.fieldAddrP rfl fo_65_0 rfl) ?_
    refine AOps.step rfl rfl rfl (AOp.loadP rfl sc_9 rfl (.head _) rfl) ?_
    refine AOps.step rfl rfl rfl (AOp.call rfl (.cons (ArgOk.rfl' rfl) (.cons (ArgOk.rfl' rfl) .nil)) (c_itemOf _ _)) ?_
    refine AOps.step rfl rfl rfl (AOp.lss rfl rfl rfl) ?_
    refine AOps.mD rfl rfl rfl rfl rfl ?_
    refine AOps.split 51 rfl (fun g7 => ?_) (fun g7 => ?_)
    · replace g7 := of_decide_eq_true g7
      have h9 : ∀ b, cpyFault v v.copies[i] b = 9 := fun b => if_pos (.inl g7)
      have HF := check_copies hlg hI hC hlt hi.2 (show cpyFaultAt v i = 9 by unfold cpyFaultAt; rw [dif_pos hlt, h9]) (by decide)
      refine AOps.pass ⟨51, rfl, .inl ⟨_, rfl, rfl⟩⟩ rfl rfl ?_
      refine AOps.pass ⟨51, rfl, .inl ⟨_, rfl, rfl⟩⟩ rfl rfl ?_
      refine AOps.pass ⟨51, rfl, .inl ⟨_, rfl, rfl⟩⟩ rfl rfl ?_
      refine AOps.pass ⟨51, rfl, .inl ⟨_, rfl, rfl⟩⟩ rfl rfl ?_
      refine AOps.pass ⟨51, rfl, .inl ⟨_, rfl, rfl⟩⟩ rfl rfl ?_
      refine AOps.step rfl rfl rfl (AOp.pickT rfl rfl rfl) (.nil ?_)
      refine AWP.cond rfl (fun _ => ?_) (fun h => nomatch h)
      refine AWP.seq (AWP.region ?_)
      refine AOps.aD rfl rfl rfl rfl rfl (.nil ?_)
      refine AWP.ret ?_
      refine ⟨RetD.eq rfl ?_, trivial⟩
      all_goals (first | rw [HF] | rw [show checkV v = 2 from if_pos (by unfold largeV; simp only [List.length_map] at *; omega)])
    replace g7 := of_decide_eq_false g7
    have h91 := g7
    refine AOps.step ⟨51, rfl, .inl ⟨_, rfl, rfl⟩⟩ rfl rfl (AOp.loadAgg rfl ag_26 rfl rfl) ?_
    refine AOps.step ⟨51, rfl, .inl ⟨_, rfl, rfl⟩⟩ rfl rfl (AOp.fieldAddrP rfl fo_65_1 rfl) ?_
    refine AOps.step ⟨51, rfl, .inl ⟨_, rfl, rfl⟩⟩ rfl rfl (AOp.loadP rfl sc_9 rfl (.head _) rfl) ?_
    refine AOps.step ⟨51, rfl, .inl ⟨_, rfl, rfl⟩⟩ rfl rfl (AOp.call rfl (.cons (ArgOk.rfl' rfl) (.cons (ArgOk.rfl' rfl) .nil)) (c_carrierOf _ _)) ?_
    refine AOps.step ⟨51, rfl, .inl ⟨_, rfl, rfl⟩⟩ rfl rfl (AOp.lss rfl rfl rfl) ?_
    refine AOps.step rfl rfl rfl (AOp.pickF rfl rfl rfl) (.nil ?_)
    refine AWP.cond rfl (fun h8 => ?_) (fun h8 => ?_)
    · replace h8 := of_decide_eq_true h8
      have h9 : ∀ b, cpyFault v v.copies[i] b = 9 := fun b => if_pos (.inr h8)
      have HF := check_copies hlg hI hC hlt hi.2 (show cpyFaultAt v i = 9 by unfold cpyFaultAt; rw [dif_pos hlt, h9]) (by decide)
      refine AWP.seq (AWP.region ?_)
      refine AOps.aD rfl rfl rfl rfl rfl (.nil ?_)
      refine AWP.ret ?_
      refine ⟨RetD.eq rfl ?_, trivial⟩
      all_goals (first | rw [HF] | rw [show checkV v = 2 from if_pos (by unfold largeV; simp only [List.length_map] at *; omega)])
    replace h8 := of_decide_eq_false h8
    have hA : ¬ (itemIdx v v.copies[i].item < 0 ∨ carrIdx v v.copies[i].carrier < 0) := by omega
    refine AWP.skip ?_
    refine AWP.seq ?_
    refine AWP.seq ?_
    refine AWP.draw (by kernel_rfl) (by kernel_rfl) ?_
    refine DRun.step rfl rfl rfl (AOp.moveD rfl rfl) ?_
    refine DRun.step rfl rfl rfl (AOp.gtr rfl rfl rfl) ?_
    refine DRun.step rfl rfl rfl (AOp.moveD rfl rfl) ?_
    refine DRun.split 60 rfl (fun g9 => ?_) (fun g9 => ?_)
    · replace g9 := of_decide_eq_true g9
      have ha := cpyFaultAt_some hlt (show 0 < i by omega)
      refine DRun.step ⟨60, rfl, .inl ⟨_, rfl, rfl⟩⟩ rfl rfl (AOp.fieldAddr rfl fo_26_2 rfl) ?_
      refine DRun.step ⟨60, rfl, .inl ⟨_, rfl, rfl⟩⟩ rfl rfl (AOp.load rfl sc_24 rfl) ?_
      refine DRun.step ⟨60, rfl, .inl ⟨_, rfl, rfl⟩⟩ rfl rfl (AOp.moveD rfl rfl) ?_
      refine DRun.step ⟨60, rfl, .inl ⟨_, rfl, rfl⟩⟩ rfl rfl (AOp.sub64 rfl rfl rfl (by omega) (by omega)) ?_
      refine DRun.step ⟨60, rfl, .inl ⟨_, rfl, rfl⟩⟩ rfl rfl (AOp.indexAddr rfl et_24 rfl rfl (i - 1) (by omega) (at_list (by omega)) rfl) ?_
      refine DRun.step ⟨60, rfl, .inl ⟨_, rfl, rfl⟩⟩ rfl rfl (AOp.loadAgg rfl ag_65 rfl rfl) ?_
      refine DRun.step ⟨60, rfl, .inl ⟨_, rfl, rfl⟩⟩ rfl rfl (AOp.loadPU rfl ag_65 rfl (.head _) rfl rfl) ?_
      refine DRun.step ⟨60, rfl, .inl ⟨_, rfl, rfl⟩⟩ rfl rfl (AOp.call rfl (.cons (ArgOk.rfl' rfl) (.cons (ArgOk.rfl' rfl) .nil)) (c_order _ _)) ?_
      refine DRun.step ⟨60, rfl, .inl ⟨_, rfl, rfl⟩⟩ rfl rfl (AOp.geq rfl rfl rfl) ?_
      refine DRun.step rfl rfl rfl (AOp.pickT rfl rfl rfl) ?_
      refine DRun.nil ?_
      refine AWP.cond rfl (fun h10 => ?_) (fun h10 => ?_)
      · replace h10 := of_decide_eq_true h10
        have h8 : cpyFault v v.copies[i] (some v.copies[i-1]) = 8 := (if_neg hA).trans (if_pos ⟨_, rfl, h10⟩)
        have HF := check_copies hlg hI hC hlt hi.2 (ha.trans h8) (by decide)
        refine AWP.seq (AWP.region ?_)
        refine AOps.aD rfl rfl rfl rfl rfl (.nil ?_)
        refine AWP.ret ?_
        refine ⟨RetD.eq rfl ?_, trivial⟩
        all_goals (first | rw [HF] | rw [show checkV v = 2 from if_pos (by unfold largeV; simp only [List.length_map] at *; omega)])
      replace h10 := of_decide_eq_false h10
      have hB : ¬ (∃ b', some v.copies[i-1] = some b' ∧ 0 ≤ cpyCmp b' v.copies[i]) := by rintro ⟨_, e, hh⟩; cases e; exact h10 hh
      refine AWP.skip ?_
      refine AWP.seq (AWP.region ?_)
      refine AOps.step rfl rfl rfl (AOp.loadAgg rfl ag_26 rfl rfl) ?_
      refine AOps.step rfl rfl rfl (AOp.loadPU rfl ag_65 rfl (.head _) rfl rfl) ?_
      refine AOps.step rfl rfl rfl (AOp.call rfl (.cons (ArgOk.rfl' rfl) (.cons (ArgOk.rfl' rfl) .nil)) (c_rCopy v v.copies[i] (some v.copies[i-1]) (okItems_of hI) hA hB (carr_ne (carrNames hC) (by omega)))) ?_
      refine AOps.aD rfl rfl rfl rfl rfl (.nil ?_)
      refine AWP.seq (AWP.region ?_)
      refine AOps.mD rfl rfl rfl rfl rfl ?_
      refine AOps.step rfl rfl rfl (AOp.neq rfl rfl rfl) (.nil ?_)
      refine AWP.cond rfl (fun h11 => ?_) (fun h11 => ?_)
      · replace h11 := of_decide_eq_true h11
        have HF := check_copies hlg hI hC hlt hi.2 ha h11
        refine AWP.seq (AWP.region ?_)
        refine AOps.mD rfl rfl rfl rfl rfl ?_
        refine AOps.aD rfl rfl rfl rfl rfl (.nil ?_)
        refine AWP.ret ?_
        refine ⟨RetD.eq rfl ?_, trivial⟩
        all_goals (first | rw [HF] | rw [show checkV v = 2 from if_pos (by unfold largeV; simp only [List.length_map] at *; omega)])
      replace h11 := of_decide_eq_false h11
      have H0 := ha.trans (Decidable.not_not.1 h11)
      refine AWP.skip ?_
      refine AWP.region ?_
      refine AOps.step rfl rfl rfl (AOp.add64 rfl rfl rfl (by omega) (by omega)) ?_
      refine AOps.mD rfl rfl rfl rfl rfl (.nil ?_)
      refine ⟨i + 1, ⟨by omega, ffst_next hi.2 H0⟩, (by dsimp only; omega), Sub.less ⟨(SLe.of_eq rfl), SLe.refl _, SLe.refl _, SLe.refl _, trivial⟩ (fun _ h => by cases h)⟩
    replace g9 := of_decide_eq_false g9
    have ha := cpyFaultAt_none hlt (show ¬ 0 < i by omega)
    refine DRun.pass ⟨60, rfl, .inl ⟨_, rfl, rfl⟩⟩ rfl rfl ?_
    refine DRun.pass ⟨60, rfl, .inl ⟨_, rfl, rfl⟩⟩ rfl rfl ?_
    refine DRun.pass ⟨60, rfl, .inl ⟨_, rfl, rfl⟩⟩ rfl rfl ?_
    refine DRun.pass ⟨60, rfl, .inl ⟨_, rfl, rfl⟩⟩ rfl rfl ?_
    refine DRun.pass ⟨60, rfl, .inl ⟨_, rfl, rfl⟩⟩ rfl rfl ?_
    refine DRun.pass ⟨60, rfl, .inl ⟨_, rfl, rfl⟩⟩ rfl rfl ?_
    refine DRun.pass ⟨60, rfl, .inl ⟨_, rfl, rfl⟩⟩ rfl rfl ?_
    refine DRun.pass ⟨60, rfl, .inl ⟨_, rfl, rfl⟩⟩ rfl rfl ?_
    refine DRun.pass ⟨60, rfl, .inl ⟨_, rfl, rfl⟩⟩ rfl rfl ?_
    refine DRun.step rfl rfl rfl (AOp.pickF rfl rfl rfl) ?_
    refine DRun.nil ?_
    refine AWP.cond rfl (fun h => nomatch h) (fun _ => ?_)
    refine AWP.skip ?_
    refine AWP.seq (AWP.region ?_)
    refine AOps.step rfl rfl rfl (AOp.loadAgg rfl ag_26 rfl rfl) ?_
    refine AOps.step rfl rfl rfl (AOp.loadPU rfl ag_65 rfl (.head _) rfl rfl) ?_
    refine AOps.step rfl rfl rfl (AOp.call rfl (.cons (ArgOk.rfl' rfl) (.cons (ArgOk.rfl' rfl) .nil)) (c_rCopy v v.copies[i] none (okItems_of hI) hA (by simp) (carr_ne (carrNames hC) (by omega)))) ?_
    refine AOps.aD rfl rfl rfl rfl rfl (.nil ?_)
    refine AWP.seq (AWP.region ?_)
    refine AOps.mD rfl rfl rfl rfl rfl ?_
    refine AOps.step rfl rfl rfl (AOp.neq rfl rfl rfl) (.nil ?_)
    refine AWP.cond rfl (fun h12 => ?_) (fun h12 => ?_)
    · replace h12 := of_decide_eq_true h12
      have HF := check_copies hlg hI hC hlt hi.2 ha h12
      refine AWP.seq (AWP.region ?_)
      refine AOps.mD rfl rfl rfl rfl rfl ?_
      refine AOps.aD rfl rfl rfl rfl rfl (.nil ?_)
      refine AWP.ret ?_
      refine ⟨RetD.eq rfl ?_, trivial⟩
      all_goals (first | rw [HF] | rw [show checkV v = 2 from if_pos (by unfold largeV; simp only [List.length_map] at *; omega)])
    replace h12 := of_decide_eq_false h12
    have H0 := ha.trans (Decidable.not_not.1 h12)
    refine AWP.skip ?_
    refine AWP.region ?_
    refine AOps.step rfl rfl rfl (AOp.add64 rfl rfl rfl (by omega) (by omega)) ?_
    refine AOps.mD rfl rfl rfl rfl rfl (.nil ?_)
    refine ⟨i + 1, ⟨by omega, ffst_next hi.2 H0⟩, (by dsimp only; omega), Sub.less ⟨(SLe.of_eq rfl), SLe.refl _, SLe.refl _, SLe.refl _, trivial⟩ (fun _ h => by cases h)⟩
  replace h6 := of_decide_eq_false h6
  rw [List.length_map] at h6
  have hP : ffst (cpyFaultAt v) v.copies.length = 0 := by rw [← show i = v.copies.length by omega]; exact hi.2
  refine AWP.exit ?_
  refine AWP.seq ?_
  refine AWP.seq (AWP.region ?_)
  refine AOps.step rfl rfl rfl (AOp.fieldAddr rfl fo_26_1 rfl) ?_
  refine AOps.step rfl rfl rfl (AOp.load rfl sc_23 rfl) ?_
  refine AOps.step rfl rfl rfl (AOp.lenSl rfl et_23.ht rfl) ?_
  refine AOps.mD rfl rfl rfl rfl rfl (.nil ?_)
  refine AWP.block ?_
  have hb16 : v.carrs.length ≤ 16 := by unfold largeV at hlg; omega
  refine AWP.loop (G := Nat) (fun n => Env.of [(81, .d (.v (.int .i64 (n : Int)))), (79, .d (.sl (v.carrs.map Carr.ds))), (80, .d (.v (.int .i64 ((v.carrs.map Carr.ds).length : Int)))), (1, .d (.fp v.ds))]) (fun n => []) (fun n => n ≤ v.carrs.length ∧ ∀ c ∈ v.carrs.take n, decide (c.room < usedOn v c.name) = false) (fun n => v.carrs.length - n) 0 ⟨Nat.zero_le _, fun c h => by simp at h⟩ (Sub.less ⟨(SLe.of_eq rfl), SLe.refl _, SLe.refl _, SLe.refl _, trivial⟩ (fun _ h => h)) ?_
  intro n hn
  refine AWP.seq (AWP.region ?_)
  refine AOps.step rfl rfl rfl (AOp.lss rfl rfl rfl) (.nil ?_)
  refine AWP.seq ?_
  refine AWP.cond rfl (fun h13 => ?_) (fun h13 => ?_)
  · replace h13 := of_decide_eq_true h13
    rw [List.length_map] at h13
    have hlt : n < v.carrs.length := by omega
    refine AWP.skip ?_
    refine AWP.seq ?_
    refine AWP.block ?_
    refine AWP.seq (AWP.region ?_)
    refine AOps.step rfl rfl rfl (AOp.indexAddr rfl et_23 rfl rfl n rfl (at_list hlt) rfl) ?_
    refine AOps.step rfl rfl rfl (AOp.loadAgg rfl ag_59 rfl rfl) ?_
    refine AOps.alloc 102 rfl rfl rfl rfl zt_59 rfl rfl rfl ?_
    refine AOps.store rfl rfl rfl sz_59 rfl (.head _) rfl rfl rfl (Nat.le_of_ble_eq_true rfl) (.nil ?_)
    refine AWP.seq ?_
    refine AWP.draw (by kernel_rfl) (by kernel_rfl) ?_
    refine DRun.step rfl rfl rfl (AOp.loadAgg rfl ag_26 rfl rfl) ?_
    refine DRun.step rfl rfl rfl (AOp.fieldAddrP rfl fo_59_0 rfl) ?_
    refine DRun.step rfl rfl rfl (AOp.loadP rfl sc_9 rfl (.head _) rfl) ?_
    refine DRun.step rfl rfl rfl (AOp.call rfl (.cons (ArgOk.rfl' rfl) (.cons (ArgOk.rfl' rfl) .nil)) (c_used v v.carrs[n].name (okItems_of hI) (okCopies_of hP) (by unfold largeV at hlg; omega))) ?_
    refine DRun.step rfl rfl rfl (AOp.fieldAddrP rfl fo_59_4 rfl) ?_
    refine DRun.step rfl rfl rfl (AOp.loadP rfl sc_3 rfl (.head _) rfl) ?_
    refine DRun.step rfl rfl rfl (AOp.gtr rfl rfl rfl) ?_
    refine DRun.nil ?_
    refine AWP.cond rfl (fun h14 => ?_) (fun h14 => ?_)
    · replace h14 := of_decide_eq_true h14
      have HF : checkV v = 2 := by rw [check_over hlg hI hC hP, if_pos (overFull_yes hlt h14)]
      refine AWP.seq (AWP.region ?_)
      refine AOps.aD rfl rfl rfl rfl rfl (.nil ?_)
      refine AWP.ret ?_
      refine ⟨RetD.eq rfl ?_, trivial⟩
      all_goals (first | rw [HF] | rw [show checkV v = 2 from if_pos (by unfold largeV; simp only [List.length_map] at *; omega)])
    replace h14 := of_decide_eq_false h14
    have hT := take_false' (p := fun x : Carr => decide (x.room < usedOn v x.name)) hlt hn.2 (decide_eq_false h14)
    refine AWP.skip ?_
    refine AWP.region ?_
    refine AOps.step rfl rfl rfl (AOp.add64 rfl rfl rfl (by omega) (by omega)) ?_
    refine AOps.mD rfl rfl rfl rfl rfl (.nil ?_)
    refine ⟨n + 1, ⟨by omega, hT⟩, (by dsimp only; omega), Sub.less ⟨(SLe.of_eq rfl), SLe.refl _, SLe.refl _, SLe.refl _, trivial⟩ (fun _ h => by cases h)⟩
  replace h13 := of_decide_eq_false h13
  rw [List.length_map] at h13
  have HF : checkV v = 0 := by rw [check_over hlg hI hC hP, overFull_no (by rw [← show n = v.carrs.length by omega]; exact hn.2)]; rfl
  refine AWP.exit ?_
  refine AWP.seq (AWP.region ?_)
  refine AOps.aD rfl rfl rfl rfl rfl (.nil ?_)
  refine AWP.ret ?_
  refine ⟨RetD.eq rfl ?_, trivial⟩
  all_goals (first | rw [HF] | rw [show checkV v = 2 from if_pos (by unfold largeV; simp only [List.length_map] at *; omega)])

end Go.Proofs.YtieccphckobhjaaGreatDoor


namespace Go.Proofs.YtieccphckobhjaaGreatDoor
open Go.RowKit
set_option linter.unusedVariables false

/-! Types. -/
namespace TyC6
theorem et_145 : ElemTy Tryz.prog 145 5 1 1 (.int .u8 0) := ⟨by kernel_rfl, by kernel_rfl, by kernel_rfl, by decide⟩
end TyC6
open TyC6

set_option maxRecDepth 100000 in
set_option maxHeartbeats 1000000 in
theorem c_sumNil  : ACall Tryz.prog 44 [.sl []] (.v (.int .u32 2166136261)) := by
  refine acall_of (n := 19) (ds' := [.v (.int .u32 2166136261)]) Tryz.func44 rfl (by kernel_rfl) rfl [2] rfl rfl ?_
  intro B w0 F0 fr
  refine AWP.seq (AWP.region ?_)
  refine AOps.aD rfl rfl rfl rfl rfl (.nil ?_)
  refine AWP.seq (AWP.region ?_)
  refine AOps.aD rfl rfl rfl rfl rfl (.nil ?_)
  refine AWP.seq ?_
  refine AWP.seq (AWP.region ?_)
  refine AOps.mD rfl rfl rfl rfl rfl ?_
  refine AOps.step rfl rfl rfl (AOp.lenSl rfl et_145.ht rfl) ?_
  refine AOps.mD rfl rfl rfl rfl rfl (.nil ?_)
  refine AWP.block ?_
  refine AWP.loop (G := Unit) (fun _ => Env.of [(8, .d (.v (.int .i64 0))), (7, .d (.v (.int .i64 (([] : List (List D)).length : Int)))), (3, .d (.v (.int .u32 2166136261)))]) (fun _ => []) (fun _ => True) (fun _ => 0) () trivial (Sub.less ⟨SLe.refl _, SLe.refl _, SLe.refl _, trivial⟩ (fun _ h => h)) ?_
  intro _ _
  refine AWP.seq (AWP.region ?_)
  refine AOps.step rfl rfl rfl (AOp.lss rfl rfl rfl) (.nil ?_)
  refine AWP.seq ?_
  refine AWP.cond rfl (fun h1 => ?_) (fun h1 => ?_)
  · replace h1 := of_decide_eq_true h1
    simp at h1
  replace h1 := of_decide_eq_false h1
  refine AWP.exit ?_
  refine AWP.seq (AWP.region ?_)
  refine AOps.mD rfl rfl rfl rfl rfl ?_
  refine AOps.aD rfl rfl rfl rfl rfl (.nil ?_)
  refine AWP.ret ?_
  refine ⟨RetD.eq rfl ?_, trivial⟩
  all_goals (rfl)

set_option maxRecDepth 100000 in
set_option maxHeartbeats 1000000 in
theorem c_awake  : ACall Tryz.prog 12 [] (.v (.bool true)) := by
  refine acall_of (n := 3) (ds' := [.v (.bool true)]) Tryz.func12 rfl (by kernel_rfl) rfl [0] rfl rfl ?_
  intro B w0 F0 fr
  refine AWP.seq (AWP.region ?_)
  refine AOps.aD rfl rfl rfl rfl rfl (.nil ?_)
  refine AWP.seq (AWP.region ?_)
  refine AOps.step rfl rfl rfl (AOp.call rfl (.cons (ArgOk.nil rfl) .nil) c_sumNil) ?_
  refine AOps.step rfl rfl rfl (AOp.eql rfl rfl rfl) ?_
  refine AOps.aD rfl rfl rfl rfl rfl (.nil ?_)
  refine AWP.ret ?_
  refine ⟨RetD.eq rfl ?_, trivial⟩
  all_goals (simp)

end Go.Proofs.YtieccphckobhjaaGreatDoor


namespace Go.Proofs.YtieccphckobhjaaGreatDoor
open Go.RowKit
set_option linter.unusedVariables false

/-! Types. -/
namespace TyT1

end TyT1
open TyT1


structure Tsk where
  day : Int
  item : ByteArray
  carrier : ByteArray
def Tsk.ds (x : Tsk) : List D := [.v (.int .i64 x.day), .v (.string x.item), .v (.string x.carrier)]
/-- An element with its first place. -/
def tds (p : Tsk × Nat) : List D := p.1.ds
/-- Two elements change places. -/
def sw {α : Type} (l : List α) (i j : Nat) : List α := match l[i]?, l[j]? with
  | some x, some y => (l.set i y).set j x
  | _, _ => l
def swapTo {α : Type} (l : List α) (a b : Nat) : Nat → List α
  | 0 => l
  | k + 1 => sw (swapTo l a b k) (a + k) (b + k)
end Go.Proofs.YtieccphckobhjaaGreatDoor


namespace Go.Proofs.YtieccphckobhjaaGreatDoor
open Go.RowKit
set_option linter.unusedVariables false

/-! Types. -/
namespace TyT2

end TyT2
open TyT2


/-- The pieces from a to m and from m to b change places. -/
def rotl {α : Type} (l : List α) (a m b : Nat) : List α := l.take a ++ ((l.drop m).take (b - m) ++ ((l.drop a).take (m - a) ++ l.drop b))
end Go.Proofs.YtieccphckobhjaaGreatDoor


namespace Go.Proofs.YtieccphckobhjaaGreatDoor
open Go.RowKit
set_option linter.unusedVariables false

/-! Types. -/
namespace TyT3

end TyT3
open TyT3


/-- What a comparing function must do. -/
structure PreC {α : Type} (cmp : α → α → Int) : Prop where
  asym : ∀ x y, cmp x y < 0 → 0 ≤ cmp y x
  trans : ∀ x y z, 0 ≤ cmp y x → 0 ≤ cmp z y → 0 ≤ cmp z x
variable {α : Type}
/-- By the comparison, then by the first place. -/
def tlt (cmp : α → α → Int) (p q : α × Nat) : Prop := cmp p.1 q.1 < 0 ∨ (0 ≤ cmp q.1 p.1 ∧ p.2 < q.2)
instance (cmp : α → α → Int) (p q : α × Nat) : Decidable (tlt cmp p q) := by unfold tlt; infer_instance
def tle (cmp : α → α → Int) (p q : α × Nat) : Bool := decide (¬ tlt cmp q p)
/-- The elements from a to b, in order. -/
def sortSeg (cmp : α → α → Int) (l : List (α × Nat)) (a b : Nat) : List (α × Nat) := l.take a ++ (((l.drop a).take (b - a)).mergeSort (tle cmp) ++ l.drop b)
def TagsOk (l : List (α × Nat)) : Prop := (l.map Prod.snd).Nodup
end Go.Proofs.YtieccphckobhjaaGreatDoor


namespace Go.Proofs.YtieccphckobhjaaGreatDoor
open Go.RowKit
set_option linter.unusedVariables false

/-! Types. -/
namespace TyT4

end TyT4
open TyT4


variable {α : Type}
def SortedOn (cmp : α → α → Int) (c : List (α × Nat)) (a b : Nat) : Prop := ∀ i j x y, a ≤ i → i < j → j < b → c[i]? = some x → c[j]? = some y → tlt cmp x y
end Go.Proofs.YtieccphckobhjaaGreatDoor


namespace Go.Proofs.YtieccphckobhjaaGreatDoor
open Go.RowKit
set_option linter.unusedVariables false

/-! Types. -/
namespace TyT5

end TyT5
open TyT5


variable {α : Type}
/-- After i elements of the insertion sort of a to b. -/
structure Ins (cmp : α → α → Int) (l : List (α × Nat)) (a b : Nat) (c : List (α × Nat)) (i : Nat) : Prop where
  perm : c.Perm l
  out : ∀ p, p < a ∨ i ≤ p → c[p]? = l[p]?
  sorted : SortedOn cmp c a i
  tags : ∀ p x q z, a ≤ p → p < i → i ≤ q → q < b → c[p]? = some x → l[q]? = some z → x.2 < z.2
/-- The element i is on its way down, at j. -/
structure InsJ (cmp : α → α → Int) (l : List (α × Nat)) (a b : Nat) (c : List (α × Nat)) (i j : Nat) : Prop where
  perm : c.Perm l
  out : ∀ p, p < a ∨ i < p → c[p]? = l[p]?
  aj : a ≤ j
  ji : j ≤ i
  at_ : c[j]? = l[i]?
  sorted : ∀ p q x y, a ≤ p → p < q → q ≤ i → q ≠ j → c[p]? = some x → c[q]? = some y → tlt cmp x y
  tags : ∀ p x q z, a ≤ p → p ≤ i → p ≠ j → i ≤ q → q < b → c[p]? = some x → l[q]? = some z → x.2 < z.2
def Incr (l : List (α × Nat)) (a b : Nat) : Prop := ∀ i j x y, a ≤ i → i < j → j < b → l[i]? = some x → l[j]? = some y → x.2 < y.2
end Go.Proofs.YtieccphckobhjaaGreatDoor


namespace Go.Proofs.YtieccphckobhjaaGreatDoor
open Go.RowKit
set_option linter.unusedVariables false
section
variable {P : Program} {B : Nat} {ops : Array Oper} {o : Oper} {e : Env} {σ : Obs}
end
end Go.Proofs.YtieccphckobhjaaGreatDoor


namespace Go.Proofs.YtieccphckobhjaaGreatDoor
open Go.RowKit
/-- A plain field's kind. -/
inductive Kd where
  | int (k : IntKind)
  | str
  | bool
def Kd.fits : Kd → Value → Bool
  | .int k, .int k' _ => decide (k' = k)
  | .str, .string _ => true
  | .bool, .bool _ => true
  | _, _ => false
def Kd.ofType (P : Program) (t : TypeId) : Kd → Bool
  | .int k => match P.underlying t with | some (.int k') => decide (k' = k) | _ => false
  | .str => match P.underlying t with | some .string => true | _ => false
  | .bool => match P.underlying t with | some .bool => true | _ => false
def kindsB : List Kd → List Value → Bool
  | [], [] => true
  | k :: ks, v :: vs => k.fits v && kindsB ks vs
  | _, _ => false
def fieldsB (P : Program) : Nat → List Kd → List Field → Bool
  | _, [], [] => true
  | i, k :: ks, f :: fs => (f.name != "_") && (f.offset == i) && k.ofType P f.type && fieldsB P (i + 1) ks fs
  | _, _, _ => false
def sameV : Value → Value → Bool
  | .int _ a, .int _ b => decide (a = b)
  | .string a, .string b => decide (a = b)
  | .bool a, .bool b => decide (a = b)
  | _, _ => false
def sameL : List Value → List Value → Bool
  | [], [] => true
  | a :: l, b :: r => sameV a b && sameL l r
  | _, _ => false
theorem run_eqCell {P : Program} (w : World) {k : Kd} {t : TypeId} (hk : k.ofType P t = true) {a b : Value} (ha : k.fits a = true) (hb : k.fits b = true) (d : Nat) : (Op.equalIn (d + 1) t a b).run P w = .ok (sameV a b) w := by
  cases k with
  | int q =>
    simp only [Kd.ofType] at hk
    split at hk
    · rename_i q' hu
      have hq := of_decide_eq_true hk
      subst hq
      cases a <;> simp only [Kd.fits, Bool.false_eq_true] at ha
      cases b <;> simp only [Kd.fits, Bool.false_eq_true] at hb
      have h1 := of_decide_eq_true ha
      have h2 := of_decide_eq_true hb
      subst h1
      rename_i x _ y
      subst h2
      rw [run_equalIn_int w d t _ _ x y hu]
      rw [show (x == y) = decide (x = y) by by_cases hxy : x = y <;> simp [hxy]]; rfl
    · cases hk
  | str =>
    simp only [Kd.ofType] at hk
    split at hk
    · rename_i hu
      cases a <;> simp only [Kd.fits, Bool.false_eq_true] at ha
      cases b <;> simp only [Kd.fits, Bool.false_eq_true] at hb
      rename_i x y
      rw [run_equalIn_string w d t x y hu, toList_eq]
      rfl
    · cases hk
  | bool =>
    simp only [Kd.ofType] at hk
    split at hk
    · rename_i hu
      cases a <;> simp only [Kd.fits, Bool.false_eq_true] at ha
      cases b <;> simp only [Kd.fits, Bool.false_eq_true] at hb
      rename_i x y
      rw [run_equalIn_bool w d t x y hu]
      cases x <;> cases y <;> rfl
    · cases hk
theorem ofType_plain {P : Program} {t : TypeId} {k : Kd} (h : k.ofType P t = true) : P.plainKey t = true := by
  unfold Program.plainKey
  cases k <;> simp only [Kd.ofType] at h <;> split at h <;> first | cases h; done | simp_all
theorem run_eqFields_same {P : Program} (w : World) (d : Nat) : ∀ (ks : List Kd) (fs : List Field) (pre pre' us vs : List Value), pre.length = pre'.length → fieldsB P pre.length ks fs = true → kindsB ks us = true → kindsB ks vs = true →
    (Op.eqFields (d + 1) (pre ++ us).toArray (pre' ++ vs).toArray fs).run P w = .ok (sameL us vs) w
  | [], [], _, _, [], [], _, _, _, _ => by simp [Op.eqFields, sameL]
  | k :: ks, f :: fs, pre, pre', u :: us, v :: vs, hl, hf, hu, hv => by
    simp only [fieldsB, kindsB, Bool.and_eq_true, bne_iff_ne, beq_iff_eq] at hf hu hv
    obtain ⟨⟨⟨hn, ho⟩, hk⟩, hf⟩ := hf
    have ih := run_eqFields_same w d ks fs (pre ++ [u]) (pre' ++ [v]) us vs (by simp [hl]) (by simpa using hf) hu.2 hv.2
    have p1 : (part f.type (pre ++ u :: us).toArray f.offset).run P w = .ok u w := run_part_plain w (ofType_plain hk) (by rw [ho]; simp)
    have p2 : (part f.type (pre' ++ v :: vs).toArray f.offset).run P w = .ok v w := run_part_plain w (ofType_plain hk) (by rw [ho, hl]; simp)
    rw [List.append_assoc, List.append_assoc] at ih
    simp only [List.cons_append, List.nil_append] at ih
    simp only [Op.eqFields, hn, ne_eq, not_false_eq_true, if_true, Sem.run_bind, p1, p2, run_eqCell w hk hu.1 hv.1, Result.andThen_ok, sameL]
    cases sameV u v
    · simp
    · simpa using ih
  | [], _ :: _, _, _, _, _, _, h, _, _ => by simp [fieldsB] at h
  | _ :: _, [], _, _, _, _, _, h, _, _ => by simp [fieldsB] at h
  | [], [], _, _, _ :: _, _, _, _, h, _ => by simp [kindsB] at h
  | [], [], _, _, [], _ :: _, _, _, _, h => by simp [kindsB] at h
  | _ :: _, _ :: _, _, _, [], _, _, _, h, _ => by simp [kindsB] at h
  | _ :: _, _ :: _, _, _, _ :: _, [], _, _, _, h => by simp [kindsB] at h
def eqStructB (P : Program) (t : TypeId) (ks : List Kd) : Bool :=
  (match P.underlying t with | some (.struct fs) => fieldsB P 0 ks fs.toList | _ => false) && !P.stoodInHeld t && !P.eqGuardType P.depth t
/-- Structs of plain fields compare field by field. -/
structure EqT (P : Program) (t : TypeId) (ks : List Kd) : Prop where
  guard : ∀ (op : BinOp) (x y : Operand) (us vs : Array Value) (w : World), (eqGuard op t x y (.agg us) (.agg vs)).run P w = .ok () w
  run : ∀ (us vs : List Value) (w : World), kindsB ks us = true → kindsB ks vs = true → (Op.equal t (.agg us.toArray) (.agg vs.toArray)).run P w = .ok (sameL us vs) w
theorem EqT.of {P : Program} {t : TypeId} {ks : List Kd} (h : eqStructB P t ks = true) : EqT P t ks := by
  unfold eqStructB at h
  simp only [Bool.and_eq_true, Bool.not_eq_true'] at h
  obtain ⟨⟨h1, h2⟩, h3⟩ := h
  split at h1
  · rename_i fs hu
    have hfs : P.fieldsOf t = fs := by simp [Program.fieldsOf, hu]
    refine ⟨fun op x y us vs w => ?_, fun us vs w hk1 hk2 => ?_⟩
    · unfold eqGuard
      cases op <;> first | rfl | (simp [run_program, h3])
    · have h4 := run_eqFields_same w 9998 ks fs.toList [] [] us vs rfl (by simpa using h1) hk1 hk2
      unfold Op.equal
      rw [show Op.maxDepth = 9999 + 1 from rfl, run_equalIn_struct w 9999 t us.toArray vs.toArray (by rw [hfs]; exact hu) h2, hfs]
      simpa using h4
  · cases h1
/-- Two cell lists whose values compare as b. -/
def EqD (P : Program) (t : TypeId) (ds1 ds2 : List D) (b : Bool) : Prop := ∃ us vs : List Value, ds1 = us.map D.v ∧ ds2 = vs.map D.v ∧ (∀ (op : BinOp) (x y : Operand) (w : World), (eqGuard op t x y (.agg us.toArray) (.agg vs.toArray)).run P w = .ok () w) ∧
  ∀ w, (Op.equal t (.agg us.toArray) (.agg vs.toArray)).run P w = .ok b w
theorem EqD.of {P : Program} {t : TypeId} {ks : List Kd} {ds1 ds2 : List D} {b : Bool} (T : EqT P t ks) (us vs : List Value) (h1 : ds1 = us.map D.v) (h2 : ds2 = vs.map D.v) (k1 : kindsB ks us = true) (k2 : kindsB ks vs = true) (hb : sameL us vs = b) : EqD P t ds1 ds2 b :=
  ⟨us, vs, h1, h2, fun op x y w => T.guard op x y _ _ w, fun w => by rw [T.run us vs w k1 k2, hb]⟩
theorem rep_vs {F : Nat → Prop} {w : World} {x : Value} {us : List Value} (h : Rep F w x (.agg (us.map D.v))) : x = .agg us.toArray := by
  cases h with
  | agg cs ds hl hone h =>
    congr 2
    rw [List.length_map] at hl
    refine List.ext_getElem hl fun i h1 h2 => ?_
    have := h i h1 (by rw [List.length_map]; exact h2)
    rw [List.getElem_map] at this
    exact rep_v this
section
variable {P : Program} {B : Nat} {ops : Array Oper} {o : Oper} {e : Env} {σ : Obs}
theorem AOp.aggNeq {t ty : TypeId} {x y : Operand} {ds1 ds2 : List D} {b : Bool} (ho : o.op = .binOp .neq t x y ty) (hx : e.ev x = .d (.agg ds1)) (hy : e.ev y = .d (.agg ds2)) (E : EqD P t ds1 ds2 b) : AOp P B ops o e σ (.d (.v (.bool (!b)))) := .value fun F ρ w a hF hr _ => by
  obtain ⟨us, vs, rfl, rfl, hg, hq⟩ := E
  have h1 := hr x (by rw [ho]; simp [Op.operands])
  have h2 := hr y (by rw [ho]; simp [Op.operands])
  rw [hx] at h1
  rw [hy] at h2
  refine ⟨.bool (!b), F, w, ?_, .d (.v _), Ext.refl hF⟩
  unfold execOp
  simp only [ho, rep_vs (repS_d h1), rep_vs (repS_d h2)]
  rw [Sem.run_bind, Sem.run_bind, hg]
  simp only [Result.andThen_ok, binOp, Sem.run_bind, hq, Sem.run_pure]
end
end Go.Proofs.YtieccphckobhjaaGreatDoor


namespace Go.Proofs.YtieccphckobhjaaGreatDoor
open Go.RowKit
set_option linter.unusedVariables false

/-! Types. -/
namespace TyE0

end TyE0
open TyE0


instance memDec (s : ByteArray) (l : List ByteArray) : Decidable (s ∈ l) := @List.instDecidableMemOfLawfulBEq ByteArray instBEqOfDecidableEq inferInstance s l
structure CpyOk (v : Vlt) (c : Cpy) : Prop where
  item : 0 ≤ itemIdx v c.item
  carr : 0 ≤ carrIdx v c.carrier
  frm : c.frm = ⟨#[]⟩ ∨ 0 ≤ carrIdx v c.frm
  ne : c.frm ≠ c.carrier
  day : 0 ≤ c.day ∧ c.day ≤ 200000
  last : c.day ≤ c.last ∧ c.last ≤ 200000
  gen : 1 ≤ c.gen ∧ c.gen ≤ 100
  form : decide (c.gen = 1) = decide (c.frm = ⟨#[]⟩)
  bad : ffst (badFault (itemBlocks v c.item) c.bad) c.bad.length = 0
theorem cpyOk_of {v : Vlt} {c : Cpy} {b : Option Cpy} (h : cpyFault v c b = 0) : CpyOk v c ∧ ∀ d, b = some d → cpyCmp d c < 0 := by
  unfold cpyFault at h
  by_cases h1 : itemIdx v c.item < 0 ∨ carrIdx v c.carrier < 0
  · rw [if_pos h1] at h; simp at h
  rw [if_neg h1] at h
  by_cases h2 : ∃ d, b = some d ∧ 0 ≤ cpyCmp d c
  · rw [if_pos h2] at h; simp at h
  rw [if_neg h2] at h
  by_cases h3 : c.frm ≠ ⟨#[]⟩ ∧ carrIdx v c.frm < 0
  · rw [if_pos h3] at h; simp at h
  rw [if_neg h3] at h
  by_cases h4 : c.frm = c.carrier
  · rw [if_pos h4] at h; simp at h
  rw [if_neg h4] at h
  by_cases h5 : ¬ (0 ≤ c.day ∧ c.day ≤ 200000) ∨ ¬ (c.day ≤ c.last ∧ c.last ≤ 200000) ∨ ¬ (1 ≤ c.gen ∧ c.gen ≤ 100)
  · rw [if_pos h5] at h; simp at h
  rw [if_neg h5] at h
  by_cases h6 : decide (c.gen = 1) ≠ decide (c.frm = ⟨#[]⟩)
  · rw [if_pos h6] at h; simp at h
  rw [if_neg h6] at h
  refine ⟨⟨by omega, by omega, ?_, h4, by omega, by omega, by omega, Decidable.not_not.1 h6, h⟩, fun d hd => by
    by_cases hh : cpyCmp d c < 0
    · exact hh
    · exact absurd ⟨d, hd, by omega⟩ h2⟩
  by_cases h7 : c.frm = ⟨#[]⟩
  · exact .inl h7
  · right
    by_cases h8 : carrIdx v c.frm < 0
    · exact absurd ⟨h7, h8⟩ h3
    · omega
structure VOk (v : Vlt) : Prop where
  ni : v.items.length ≤ 30
  nc : v.carrs.length ≤ 16
  np : v.copies.length ≤ 200
  items : ffst (itemFault v.items) v.items.length = 0
  carrs : ffst (carrFault v.carrs) v.carrs.length = 0
  cps : ffst (cpyFaultAt v) v.copies.length = 0
  cpy : ∀ c ∈ v.copies, CpyOk v c
  order : ∀ k (h : k + 1 < v.copies.length), cpyCmp v.copies[k] v.copies[k + 1] < 0
  room : ∀ x ∈ v.carrs, usedOn v x.name ≤ x.room
theorem vok_of {v : Vlt} (h : checkV v = 0) : VOk v := by
  unfold checkV at h
  by_cases h1 : largeV v
  · rw [if_pos h1] at h; simp at h
  rw [if_neg h1] at h
  by_cases h2 : ffst (itemFault v.items) v.items.length ≠ 0
  · rw [if_pos h2] at h; exact absurd h h2
  rw [if_neg h2] at h
  by_cases h3 : ffst (carrFault v.carrs) v.carrs.length ≠ 0
  · rw [if_pos h3] at h; exact absurd h h3
  rw [if_neg h3] at h
  by_cases h4 : ffst (cpyFaultAt v) v.copies.length ≠ 0
  · rw [if_pos h4] at h; exact absurd h h4
  rw [if_neg h4] at h
  by_cases h5 : overFull v = true
  · rw [if_pos h5] at h; simp at h
  have h4' := Decidable.not_not.1 h4
  unfold largeV at h1
  refine ⟨by omega, by omega, by omega, Decidable.not_not.1 h2, Decidable.not_not.1 h3, h4', fun c hc => ?_, fun k hk => ?_, fun x hx => ?_⟩
  · obtain ⟨k, hk, rfl⟩ := List.mem_iff_getElem.1 hc
    have h6 := ffst_all _ h4' k hk
    by_cases h0 : 0 < k
    · rw [cpyFaultAt_some hk h0] at h6; exact (cpyOk_of h6).1
    · rw [cpyFaultAt_none hk h0] at h6; exact (cpyOk_of h6).1
  · have h6 := ffst_all _ h4' (k + 1) hk
    rw [cpyFaultAt_some hk (Nat.succ_pos k)] at h6
    exact (cpyOk_of h6).2 _ rfl
  · refine Int.not_lt.1 fun hh => h5 ?_
    unfold overFull
    exact List.any_eq_true.2 ⟨x, hx, decide_eq_true hh⟩
structure POk (p : Pol) : Prop where
  copies : 1 ≤ p.copies ∧ p.copies ≤ 16
  places : 1 ≤ p.places ∧ p.places ≤ p.copies
  kinds : 1 ≤ p.kinds ∧ p.kinds ≤ p.copies
  every : 1 ≤ p.every ∧ p.every ≤ 200000
  old : 1 ≤ p.old ∧ p.old ≤ 200000
  gens : 1 ≤ p.gens ∧ p.gens ≤ 100
/-- The error of a vault and a policy. -/
def bothFault (v : Vlt) (p : Pol) : Int := if checkV v ≠ 0 then checkV v else polFault p
def dayFault (v : Vlt) (p : Pol) (day : Int) : Int := if bothFault v p ≠ 0 then bothFault v p else if 0 ≤ day ∧ day ≤ 200000 then 0 else 1


end Go.Proofs.YtieccphckobhjaaGreatDoor


namespace Go.Proofs.YtieccphckobhjaaGreatDoor
open Go.RowKit
set_option linter.unusedVariables false

/-! Types. -/
namespace TyE1

end TyE1
open TyE1


deriving instance DecidableEq for Tsk



/-! What is due. -/
section
variable (frm every to : Int)
def fstD (c : Cpy) : Int := max frm (c.last + every)
def cntD (c : Cpy) : Nat := if fstD frm every c < to then ((to - 1 - fstD frm every c) / every + 1).toNat else 0
def dayD (c : Cpy) (k : Nat) : Int := fstD frm every c + k * every
def elD (c : Cpy) (i k : Nat) : Tsk × Nat := (⟨dayD frm every c k, c.item, c.carrier⟩, i * 1000000 + (dayD frm every c k).toNat)
def tagC (c : Cpy) (i : Nat) : List (Tsk × Nat) := (List.range (cntD frm every to c)).map (elD frm every c i)
def tagTo (l : List Cpy) (n : Nat) : List (Tsk × Nat) := (List.range n).flatMap fun i => match l[i]? with | none => [] | some c => tagC frm every to c i
def manyTo (l : List Cpy) (n : Nat) : Nat := ((l.take n).map (cntD frm every to)).sum
end
def cmpT (a b : Tsk) : Int := if a.day < b.day then -1 else if b.day < a.day then 1 else 0
def dueAll (v : Vlt) (p : Pol) (frm to : Int) : List (Tsk × Nat) := tagTo frm p.every to v.copies v.copies.length
def dueL (v : Vlt) (p : Pol) (frm to : Int) : List (Tsk × Nat) := sortSeg cmpT (dueAll v p frm to) 0 (dueAll v p frm to).length
def spanFault (frm to : Int) : Int := if ¬ (0 ≤ frm ∧ frm ≤ 200000) ∨ ¬ (frm ≤ to ∧ to ≤ 200001) then 1 else 0
def dueFault (v : Vlt) (p : Pol) (frm to : Int) : Int :=
  if bothFault v p ≠ 0 then bothFault v p else if spanFault frm to ≠ 0 then 1 else if 20000 < (manyTo frm p.every to v.copies v.copies.length : Int) then 2 else 0
def dueR (v : Vlt) (p : Pol) (frm to : Int) : List Tsk := if dueFault v p frm to = 0 then (dueL v p frm to).map Prod.fst else []
section
variable {frm every to : Int}
end


end Go.Proofs.YtieccphckobhjaaGreatDoor


namespace Go.Proofs.YtieccphckobhjaaGreatDoor
open Go.RowKit
set_option linter.unusedVariables false

/-! Types. -/
namespace TyE2
theorem ag_26 : AggT Tryz.prog 26 3 := .of (by kernel_rfl)
end TyE2
open TyE2


theorem SLe.fn (f : Nat) : SLe (.d (.v (.func (.func f) #[] #[]))) (.d (.clo (.func f) [])) := fun F ρ w x h => by
  cases repS_v h
  exact .d (.clo _ [] [] rfl (fun i h => absurd h (Nat.not_lt_zero i)))
theorem row_same2 {c id e size : Nat} {o : Ob} {els els' : List (List D)} {τ : Obs} (h : els = els') : ∀ p ∈ [(id, Ob.row e size els')], p ∈ (c, o) :: (id, Ob.row e size els) :: τ := fun p hp => by
  rw [List.mem_singleton] at hp; subst hp; subst h; exact .tail _ (.head _)
end Go.Proofs.YtieccphckobhjaaGreatDoor


namespace Go.Proofs.YtieccphckobhjaaGreatDoor
open Go.RowKit
set_option linter.unusedVariables false

theorem wp_to2 {P : Program} {o : Oper} {a : Act} {w : World} {K K' : Act → World → Prop} {Q Q' : Exit → Act → World → Prop} (h : ∀ a w, K a w → K' a w) (hq : ∀ e a w, e ≠ .normal → Q e a w → Q' e a w)
    (hh : o.wp P a w K Q) : o.wp P a w K' Q' := by
  unfold Oper.wp at *
  generalize (execOp a.eval o).run P w = r at *
  cases r with
  | ok n w' =>
    cases n <;> simp only [Oper.upon] at hh ⊢ <;>
      first
        | exact h _ _ hh
        | exact Calls.mono hh (fun e w'' he => by cases e <;> first | exact h _ _ he | exact hq _ _ _ (by simp) he | exact he.imp fun _ => Exists.imp fun _ => hq _ _ _ (by simp))
        | exact Rows.mono hh (fun _ _ he => h _ _ he)
  | halt x w' => cases x <;> simp only [Oper.upon] at hh ⊢ <;> first | exact hq _ _ _ (by simp) hh | exact hh

def Region.edge (ops : Array Oper) (m j : Nat) : Bool := ((ops[m]?).map fun o => o.after.any fun e => Region.binds .any e && Nat.beq e.on j).getD false
/-- Who must come before lies before. -/
def Region.downB (ops : Array Oper) : Bool := (List.range ops.size).all fun i =>
  ((ops[i]?).map fun o => (o.after.all fun e => !Region.binds .any e || Nat.blt e.on i) && (match o.guard with | none => true | some p => Nat.blt p.1 i)).getD true
/-- From k on each one waits for all before it. -/
def Region.chainB (ops : Array Oper) (k : Nat) : Bool := Region.downB ops && Nat.ble k ops.size && (List.range (ops.size - 1)).all fun j =>
  (List.range ops.size).any fun m => Nat.blt j m && (Nat.ble m k || Nat.ble m (j + 1)) && Region.edge ops m j
theorem Region.edge_spec {ops : Array Oper} {m j : Nat} (h : Region.edge ops m j = true) : ∃ o, ops[m]? = some o ∧ ∃ e ∈ o.after, Region.binds .any e = true ∧ e.on = j := by
  unfold Region.edge at h
  cases ho : ops[m]? with
  | none => rw [ho] at h; simp at h
  | some o =>
    rw [ho] at h
    simp only [Option.map_some, Option.getD_some, Array.any_eq_true'] at h
    obtain ⟨e, he, hb⟩ := h
    simp only [Bool.and_eq_true] at hb
    exact ⟨o, rfl, e, he, hb.1, Nat.eq_of_beq_eq_true hb.2⟩
theorem Region.down_spec {ops : Array Oper} (h : Region.downB ops = true) {i : Nat} {o : Oper} (ho : ops[i]? = some o) : (∀ e ∈ o.after, Region.binds .any e = true → e.on < i) ∧ ∀ p, o.guard = some p → p.1 < i := by
  have h1 := List.all_eq_true.1 h i (List.mem_range.2 (Array.getElem?_eq_some_iff.1 ho).1)
  rw [ho] at h1
  simp only [Option.map_some, Option.getD_some, Bool.and_eq_true] at h1
  refine ⟨fun e he hb => ?_, fun p hp => ?_⟩
  · have := Array.all_eq_true_iff_forall_mem.1 h1.1 e he
    rw [hb] at this
    simpa [Nat.blt_eq] using this
  · have h2 := h1.2
    rw [hp] at h2
    simpa [Nat.blt_eq] using h2
structure Chain (ops : Array Oper) (k : Nat) : Prop where
  down : Region.downB ops = true
  le : k ≤ ops.size
  next : ∀ j, j < ops.size - 1 → ∃ m, j < m ∧ (m ≤ k ∨ m ≤ j + 1) ∧ Region.edge ops m j = true
theorem Chain.of {ops : Array Oper} {k : Nat} (h : Region.chainB ops k = true) : Chain ops k := by
  unfold Region.chainB at h
  simp only [Bool.and_eq_true] at h
  obtain ⟨⟨h1, h2⟩, h3⟩ := h
  refine ⟨h1, Nat.le_of_ble_eq_true h2, fun j hj => ?_⟩
  have h4 := List.all_eq_true.1 h3 j (List.mem_range.2 hj)
  obtain ⟨m, _, hm⟩ := List.any_eq_true.1 h4
  simp only [Bool.and_eq_true, Bool.or_eq_true, Nat.blt_eq] at hm
  exact ⟨m, hm.1.1, hm.1.2.imp Nat.le_of_ble_eq_true Nat.le_of_ble_eq_true, hm.2⟩

def Closed (ops : Array Oper) (listed : Array Bool) : Prop := ∀ i o, ops[i]? = some o → listed.getD i false = true → ∀ e ∈ o.after, Region.binds .any e = true → listed.getD e.on false = true
theorem getD_tf {listed : Array Bool} {j : Nat} (h : j < listed.size) (a b : Bool) : listed.getD j a = listed.getD j b := by simp [Array.getD_eq_getD_getElem?, h]
theorem Closed.set {ops : Array Oper} {listed : Array Bool} (h : Closed ops listed) {i : Nat} (hi : i ∈ Region.ready .any ops listed) : Closed ops (listed.setIfInBounds i true) := by
  intro m o ho hm e he hb
  by_cases hmi : i = m
  · subst hmi
    obtain ⟨_, o', ho', hall⟩ := mem_ready.1 hi
    rw [ho] at ho'; cases ho'
    exact getD_set_true (hall e he hb)
  · rw [getD_set_ne false hmi] at hm
    exact getD_set_true (h m o ho hm e he hb)
theorem Chain.before {ops : Array Oper} {k : Nat} (hC : Chain ops k) {listed : Array Bool} (hc : Closed ops listed) {i : Nat} (hi : i ∈ Region.ready .any ops listed) (hk : k ≤ i) : ∀ d j, j + d = i → 0 < d → listed.getD j false = true := by
  obtain ⟨_, oi, hoi, hall⟩ := mem_ready.1 hi
  have hlt : i < ops.size := (Array.getElem?_eq_some_iff.1 hoi).1
  intro d
  induction d using Nat.strongRecOn with
  | ind d ih =>
    intro j hj hd
    obtain ⟨m, h1, h2, h3⟩ := hC.next j (by omega)
    obtain ⟨o, ho, e, he, hb, heq⟩ := Region.edge_spec h3
    by_cases hmi : m = i
    · subst hmi
      rw [hoi] at ho; cases ho
      rw [← heq]; exact hall e he hb
    · have := ih (i - m) (by omega) m (by omega) (by omega)
      rw [← heq]; exact hc m o ho this e he hb
theorem ready_least {ops : Array Oper} (hd : Region.downB ops = true) {listed : Array Bool} (hs : listed.size = ops.size) : ∀ j, j < ops.size → listed.getD j true = false → ∃ m, m ≤ j ∧ m ∈ Region.ready .any ops listed := by
  intro j
  induction j using Nat.strongRecOn with
  | ind j ih =>
    intro hj hu
    by_cases hr : j ∈ Region.ready .any ops listed
    · exact ⟨j, Nat.le_refl _, hr⟩
    · have ho : ops[j]? = some ops[j] := Array.getElem?_eq_getElem hj
      have : ¬ ∀ e ∈ ops[j].after, Region.binds .any e = true → listed.getD e.on false = true := fun hh => hr (mem_ready.2 ⟨hu, _, ho, hh⟩)
      simp only [Classical.not_forall] at this
      obtain ⟨e, he, hb, hn⟩ := this
      have hlt := (Region.down_spec hd ho).1 e he hb
      obtain ⟨m, h1, h2⟩ := ih e.on hlt (by omega) (by
        rw [getD_tf (by omega) true false]
        simpa using hn)
      exact ⟨m, by omega, h2⟩
section
variable {P : Program} {ops : Array Oper} {Q Q0 : Exit → Act → World → Prop} {k : Nat}
theorem wpAny_chain (hC : Chain ops k) : ∀ (l : List Oper) (i : Nat) (listed : Array Bool) (fuel : Nat) (a : Act) (w : World), (∀ j, l[j]? = ops[i + j]?) → i + l.length = ops.size → k ≤ i → listed.size = ops.size →
    (∀ j, j < i → listed.getD j false = true) → (∀ j, i ≤ j → j < ops.size → listed.getD j true = false) → Closed ops listed → l.length ≤ fuel → wpList P ops Q l a w → wpAny P .any ops Q fuel listed a w
  | [], i, listed, fuel, a, w, hl, hsz, hk, hls, h1, h2, hc, hf, h => by
    have hr : Region.ready .any ops listed = [] := by
      refine List.eq_nil_iff_forall_not_mem.2 fun m hm => ?_
      obtain ⟨hu, o, ho, _⟩ := mem_ready.1 hm
      have hlt : m < ops.size := (Array.getElem?_eq_some_iff.1 ho).1
      have := h1 m (by simp at hsz; omega)
      rw [getD_tf (by omega) false true, hu] at this
      simp at this
    cases fuel with
    | zero => exact ⟨hr, h⟩
    | succ f => exact ⟨fun _ => h, fun m hm => by rw [hr] at hm; cases hm⟩
  | o :: l, i, listed, fuel, a, w, hl, hsz, hk, hls, h1, h2, hc, hf, h => by
    have h0 : ops[i]? = some o := by simpa using (hl 0).symm
    have hlt : i < ops.size := (Array.getElem?_eq_some_iff.1 h0).1
    have hl' : ∀ j, l[j]? = ops[i + 1 + j]? := fun j => by have := hl (j + 1); simpa [Nat.add_assoc, Nat.add_comm 1 j] using this
    have hui := h2 i (Nat.le_refl _) hlt
    have hir : i ∈ Region.ready .any ops listed := mem_ready.2 ⟨hui, o, h0, fun e he hb => h1 _ ((Region.down_spec hC.down h0).1 e he hb)⟩
    have hnext : ∀ (a' : Act) (w' : World), wpList P ops Q l a' w' → wpAny P .any ops Q (fuel - 1) (listed.setIfInBounds i true) a' w' := fun a' w' h' =>
      wpAny_chain hC l (i + 1) _ _ a' w' hl' (by simp at hsz; omega) (by omega) (by simp [hls]) (fun j hj => by
        by_cases hji : i = j
        · subst hji
          simp [Array.getD_eq_getD_getElem?, hls, hlt]
        · rw [getD_set_ne false hji]; exact h1 j (by omega)) (fun j hj hj2 => by rw [getD_set_ne true (by omega)]; exact h2 j (by omega) hj2) (hc.set hir) (by simp at hf; omega) h'
    obtain ⟨f, rfl⟩ : ∃ f, fuel = f + 1 := ⟨fuel - 1, by simp at hf; omega⟩
    refine ⟨fun hr => (by rw [hr] at hir; cases hir), fun m hm => ?_⟩
    obtain ⟨hu, o', ho', _⟩ := mem_ready.1 hm
    have hm2 : m = i := by
      have hmlt : m < ops.size := (Array.getElem?_eq_some_iff.1 ho').1
      rcases Nat.lt_trichotomy m i with hh | hh | hh
      · have := h1 m hh
        rw [getD_tf (by omega) false true, hu] at this
        simp at this
      · exact hh
      · have := hC.before hc hm (by omega) (m - i) i (by omega) (by omega)
        rw [getD_tf (by omega) false true, hui] at this
        simp at this
    subst hm2
    unfold wpOp
    simp only [h0]
    unfold wpList at h
    by_cases hw : Region.wanted o (yielded ops a.tmps) = true
    · rw [if_pos hw] at h ⊢
      exact h.imp (Oper.wp_mono hnext) id
    · rw [if_neg hw] at h ⊢
      exact hnext _ _ h
theorem wanted_same {ops0 : Array Oper} {o : Oper} {tmps : Array Value} (h : ∀ p, o.guard = some p → ops0[p.1]? = ops[p.1]?) : Region.wanted o (yielded ops0 tmps) = Region.wanted o (yielded ops tmps) := by
  unfold Region.wanted
  cases hg : o.guard with
  | none => rfl
  | some p =>
    obtain ⟨j, want⟩ := p
    have := h (j, want) hg
    dsimp only at this ⊢
    unfold yielded
    rw [this]
theorem wpAny_split (hC : Chain ops k) {ops0 : Array Oper} (h0 : ops0.size = k) (hpre : ∀ j, j < k → ops0[j]? = ops[j]?) (hN : ∀ a w, Q0 .normal a w → wpList P ops Q (ops.toList.drop k) a w) (hE : ∀ e a w, e ≠ .normal → Q0 e a w → Q e a w) :
    ∀ (fuel0 : Nat) (listed0 listed : Array Bool) (fuel : Nat) (a : Act) (w : World), listed0.size = k → listed.size = ops.size → (∀ j, j < k → ∀ d, listed0.getD j d = listed.getD j d) → (∀ j, k ≤ j → j < ops.size → listed.getD j true = false) →
      Closed ops listed → fuel0 + (ops.size - k) ≤ fuel → wpAny P .any ops0 Q0 fuel0 listed0 a w → wpAny P .any ops Q fuel listed a w := by
  have hle := hC.le
  have hd0 : Region.downB ops0 = true := by
    unfold Region.downB
    refine List.all_eq_true.2 fun i hi => ?_
    have hik := List.mem_range.1 hi
    have h1 := List.all_eq_true.1 hC.down i (List.mem_range.2 (by omega))
    rw [hpre i (by omega)]
    exact h1
  have all : ∀ (fuel0 : Nat) (listed0 listed : Array Bool) (fuel : Nat) (a : Act) (w : World), listed0.size = k → listed.size = ops.size → (∀ j, j < k → ∀ d, listed0.getD j d = listed.getD j d) → (∀ j, k ≤ j → j < ops.size → listed.getD j true = false) →
      Closed ops listed → fuel0 + (ops.size - k) ≤ fuel → wpAny P .any ops0 Q0 fuel0 listed0 a w → (∀ j, j < k → listed.getD j false = true) → wpAny P .any ops Q fuel listed a w := by
    intro fuel0 listed0 listed fuel a w hs0 hs hag hun hc hf H hall
    have hr0 : Region.ready .any ops0 listed0 = [] := by
      refine List.eq_nil_iff_forall_not_mem.2 fun m hm => ?_
      obtain ⟨hu, o, ho, _⟩ := mem_ready.1 hm
      have hlt : m < ops0.size := (Array.getElem?_eq_some_iff.1 ho).1
      have h1 := hall m (by omega)
      rw [← hag m (by omega), getD_tf (by omega) false true, hu] at h1
      simp at h1
    have hQ : Q0 .normal a w := by
      cases fuel0 with
      | zero => exact H.2
      | succ f => exact H.1 hr0
    exact wpAny_chain hC (ops.toList.drop k) k listed fuel a w (fun j => by rw [List.getElem?_drop, Array.getElem?_toList]) (by rw [List.length_drop, Array.length_toList]; omega) (Nat.le_refl _) hs hall hun hc (by rw [List.length_drop, Array.length_toList]; omega) (hN a w hQ)
  intro fuel0
  induction fuel0 with
  | zero =>
    intro listed0 listed fuel a w hs0 hs hag hun hc hf H
    refine all 0 listed0 listed fuel a w hs0 hs hag hun hc hf H fun j hj => ?_
    cases hh : listed.getD j false with
    | true => rfl
    | false =>
      rw [← hag j hj, getD_tf (by omega) false true] at hh
      obtain ⟨m, _, hm⟩ := ready_least hd0 (by omega) j (by omega) hh
      rw [H.1] at hm; cases hm
  | succ fuel0 ih =>
    intro listed0 listed fuel a w hs0 hs hag hun hc hf H
    by_cases hall : ∀ j, j < k → listed.getD j false = true
    · exact all _ listed0 listed fuel a w hs0 hs hag hun hc hf H hall
    · simp only [Classical.not_forall] at hall
      obtain ⟨j, hj, hjn⟩ := hall
      have hju : listed.getD j true = false := by rw [getD_tf (by omega) true false]; simpa using hjn
      obtain ⟨f, rfl⟩ : ∃ f, fuel = f + 1 := ⟨fuel - 1, by omega⟩
      refine ⟨fun hr => ?_, fun m hm => ?_⟩
      · obtain ⟨m, _, hm⟩ := ready_least hC.down hs j (by omega) hju
        rw [hr] at hm; cases hm
      · obtain ⟨hu, o, ho, hdep⟩ := mem_ready.1 hm
        have hmlt : m < ops.size := (Array.getElem?_eq_some_iff.1 ho).1
        have hmk : m < k := by
          refine Nat.lt_of_not_le fun hkm => hjn ?_
          exact hC.before hc hm hkm (m - j) j (by omega) (by omega)
        have ho0 : ops0[m]? = some o := by rw [hpre m hmk]; exact ho
        have hm0 : m ∈ Region.ready .any ops0 listed0 := mem_ready.2 ⟨by rw [hag m hmk]; exact hu, o, ho0, fun e he hb => by
          have := (Region.down_spec hC.down ho).1 e he hb
          rw [hag _ (by omega)]; exact hdep e he hb⟩
        have h1 := H.2 m hm0
        unfold wpOp at h1 ⊢
        simp only [ho, ho0] at h1 ⊢
        rw [wanted_same (ops := ops) fun p hp => hpre _ (by have := (Region.down_spec hC.down ho).2 p hp; omega)] at h1
        have hnext : ∀ (a' : Act) (w' : World), wpAny P .any ops0 Q0 fuel0 (listed0.setIfInBounds m true) a' w' → wpAny P .any ops Q f (listed.setIfInBounds m true) a' w' := fun a' w' h' =>
          ih _ _ f a' w' (by simp [hs0]) (by simp [hs]) (fun j hj d => by
            by_cases hmj : m = j
            · subst hmj
              simp [Array.getD_eq_getD_getElem?, hs0, hs, hmk, hmlt]
            · rw [getD_set_ne d hmj, getD_set_ne d hmj]; exact hag j hj d) (fun j hj hj2 => by rw [getD_set_ne true (by omega)]; exact hun j hj hj2) (hc.set hm) (by omega) h'
        by_cases hw : Region.wanted o (yielded ops a.tmps) = true
        · rw [if_pos hw] at h1 ⊢
          exact h1.imp (wp_to2 hnext hE) fun h => ⟨h.1, h.2.imp fun _ => Exists.imp fun _ => hE _ _ _ (by simp)⟩
        · rw [if_neg hw] at h1 ⊢
          exact hnext _ _ h1
end
/-- A region that draws its order, whose operations from k on wait for all before them: in the order of the text. -/
theorem AWP.drawTail {cx : Cx} {id : Nat} {l : List Oper} {e : Env} {σ : Obs} {Q : Post} (k : Nat) (hm : cx.P.follows .mixedOrders = true) (hB : Region.lexB .any (l.take k).toArray = true) (hC : Region.chainB l.toArray k = true)
    (h : DRun cx (l.take k).toArray σ (l.take k) e (fun e => AOps cx l.toArray (l.drop k) e σ Q)) : AWP cx (.region id l.toArray true) e σ Q := by
  intro a w ⟨F, ρ, hr⟩
  simp only [Region.lexB, Bool.and_eq_true] at hB
  have hch := Chain.of hC
  have hkl : k ≤ l.length := by simpa using hch.le
  have h1 := anyD_lex (l.take k) 0 (Array.replicate (l.take k).toArray.size false) e (by simp) (by simpa using hB.2) h
  have h2 := wpAny_of_D (cx := cx) (ops := (l.take k).toArray) (Q := fun ex e σ => match ex with | .normal => AOps cx l.toArray (l.drop k) e σ Q | _ => False) (by simpa using DRun.dsts _ e h) _ _ e a _ ⟨F, ρ, hr.drew⟩ h1
  refine wp_region_any hm (wpAny_split hch (ops0 := (l.take k).toArray) (by simp; omega) (fun j hj => by simp [hj]) ?_ ?_ (l.take k).length _ _ _ _ _ (by simp; omega) (by simp) ?_ ?_ ?_ (by simp; omega) h2)
  · rintro a w ⟨e, σ, h3, h4⟩
    have := h3 a w h4
    simpa using this
  · rintro ex a w hne ⟨e, σ, h3, _⟩
    cases ex <;> first | exact absurd rfl hne | exact h3.elim
  · intro j hj d
    have h5 : j < l.length := by omega
    have h6 : j < min k l.length := by omega
    simp [Array.getD_eq_getD_getElem?, h5, h6]
  · intro j hj hj2
    have : j < l.length := by simpa using hj2
    simp [Array.getD_eq_getD_getElem?, this]
  · intro i o ho hi
    have : i < l.length := by simpa using (Array.getElem?_eq_some_iff.1 ho).1
    simp [Array.getD_eq_getD_getElem?, this] at hi
end Go.Proofs.YtieccphckobhjaaGreatDoor
