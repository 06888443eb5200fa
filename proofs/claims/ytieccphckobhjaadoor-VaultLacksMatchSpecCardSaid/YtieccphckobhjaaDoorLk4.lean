/- Walks and laws over abstract values, merged by tools/merge.py. No statement of the seat. -/
import Derived.Lib.EndianBits
import Derived.Test.YtieccphckobhjaaDoorLk3

namespace Go.Proofs.YtieccphckobhjaaDoor
open Go.RowKit
set_option linter.unusedVariables false

/-! Types. -/
namespace TyC5
theorem ag_26 : AggT Tryd.prog 26 3 := .of (by kernel_rfl)
theorem ag_69 : AggT Tryd.prog 69 2 := .of (by kernel_rfl)
theorem ag_73 : AggT Tryd.prog 73 5 := .of (by kernel_rfl)
theorem ag_77 : AggT Tryd.prog 77 7 := .of (by kernel_rfl)
theorem bt_4 : Tryd.prog.underlying 4 = some .bool := by kernel_rfl
theorem et_22 : ElemTy Tryd.prog 22 69 2 24 (.agg #[(.string ⟨#[]⟩), (.int .i64 0)]) := ⟨by kernel_rfl, by kernel_rfl, by kernel_rfl, by decide⟩
theorem et_23 : ElemTy Tryd.prog 23 73 5 64 (.agg #[(.string ⟨#[]⟩), (.string ⟨#[]⟩), (.string ⟨#[]⟩), (.int .i64 0), (.int .i64 0)]) := ⟨by kernel_rfl, by kernel_rfl, by kernel_rfl, by decide⟩
theorem et_24 : ElemTy Tryd.prog 24 77 7 96 (.agg #[(.string ⟨#[]⟩), (.string ⟨#[]⟩), (.string ⟨#[]⟩), (.int .i64 0), (.int .i64 0), (.int .i64 0), (.slice none 0 0)]) := ⟨by kernel_rfl, by kernel_rfl, by kernel_rfl, by decide⟩
theorem et_75 : ElemTy Tryd.prog 75 3 1 8 (.int .i64 0) := ⟨by kernel_rfl, by kernel_rfl, by kernel_rfl, by decide⟩
theorem fo_26_0 : fieldOff Tryd.prog 26 0 = some 0 := by kernel_rfl
theorem fo_26_1 : fieldOff Tryd.prog 26 1 = some 1 := by kernel_rfl
theorem fo_26_2 : fieldOff Tryd.prog 26 2 = some 2 := by kernel_rfl
theorem fo_69_0 : fieldOff Tryd.prog 69 0 = some 0 := by kernel_rfl
theorem fo_69_1 : fieldOff Tryd.prog 69 1 = some 1 := by kernel_rfl
theorem fo_73_0 : fieldOff Tryd.prog 73 0 = some 0 := by kernel_rfl
theorem fo_73_1 : fieldOff Tryd.prog 73 1 = some 1 := by kernel_rfl
theorem fo_73_2 : fieldOff Tryd.prog 73 2 = some 2 := by kernel_rfl
theorem fo_73_3 : fieldOff Tryd.prog 73 3 = some 3 := by kernel_rfl
theorem fo_73_4 : fieldOff Tryd.prog 73 4 = some 4 := by kernel_rfl
theorem fo_77_0 : fieldOff Tryd.prog 77 0 = some 0 := by kernel_rfl
theorem fo_77_1 : fieldOff Tryd.prog 77 1 = some 1 := by kernel_rfl
theorem fo_77_2 : fieldOff Tryd.prog 77 2 = some 2 := by kernel_rfl
theorem fo_77_3 : fieldOff Tryd.prog 77 3 = some 3 := by kernel_rfl
theorem fo_77_4 : fieldOff Tryd.prog 77 4 = some 4 := by kernel_rfl
theorem fo_77_5 : fieldOff Tryd.prog 77 5 = some 5 := by kernel_rfl
theorem fo_77_6 : fieldOff Tryd.prog 77 6 = some 6 := by kernel_rfl
theorem sc_22 : Scal Tryd.prog 22 := .of (by kernel_rfl)
theorem sc_23 : Scal Tryd.prog 23 := .of (by kernel_rfl)
theorem sc_24 : Scal Tryd.prog 24 := .of (by kernel_rfl)
theorem sc_3 : Scal Tryd.prog 3 := .of (by kernel_rfl)
theorem sc_75 : Scal Tryd.prog 75 := .of (by kernel_rfl)
theorem sc_9 : Scal Tryd.prog 9 := .of (by kernel_rfl)
theorem sz_69 : ∀ w, (sizeOf 69).run Tryd.prog w = .ok 2 w := SizeT.of (by kernel_rfl)
theorem sz_73 : ∀ w, (sizeOf 73).run Tryd.prog w = .ok 5 w := SizeT.of (by kernel_rfl)
theorem sz_77 : ∀ w, (sizeOf 77).run Tryd.prog w = .ok 7 w := SizeT.of (by kernel_rfl)
theorem zt_69 : (Tryd.prog.info? 69).bind (·.zero) = some (.agg #[(.string ⟨#[]⟩), (.int .i64 0)]) := by kernel_rfl
theorem zt_73 : (Tryd.prog.info? 73).bind (·.zero) = some (.agg #[(.string ⟨#[]⟩), (.string ⟨#[]⟩), (.string ⟨#[]⟩), (.int .i64 0), (.int .i64 0)]) := by kernel_rfl
theorem zt_77 : (Tryd.prog.info? 77).bind (·.zero) = some (.agg #[(.string ⟨#[]⟩), (.string ⟨#[]⟩), (.string ⟨#[]⟩), (.int .i64 0), (.int .i64 0), (.int .i64 0), (.slice none 0 0)]) := by kernel_rfl
end TyC5
open TyC5

set_option maxRecDepth 100000 in
set_option maxHeartbeats 1000000 in
theorem c_rCopy (v : Vlt) (c : Cpy) (b : Option Cpy) (hv : okItems v) (hA : ¬ (itemIdx v c.item < 0 ∨ carrIdx v c.carrier < 0)) (hB : ¬ (∃ b', b = some b' ∧ 0 ≤ cpyCmp b' c)) (hne : c.carrier ≠ ⟨#[]⟩) : ACall Tryd.prog 38 [.agg v.ds, .agg c.ds] (.v (.int .i64 (cpyFault v c b))) := by
  refine acall_of (n := 90) (ds' := [.v (.int .i64 (cpyFault v c b))]) Tryd.func38 rfl (by kernel_rfl) rfl [4] rfl rfl ?_
  intro B w0 F0 fr
  obtain ⟨ki, hki, eki, _⟩ := idxBy_some (show 0 ≤ itemIdx v c.item by omega)
  have hbi := hv _ (List.getElem_mem hki)
  have hib := itemBlocks_at hki eki
  refine AWP.seq ?_
  refine AWP.region ?_
  refine AOps.step rfl rfl rfl (AOp.box rfl rfl rfl) ?_
  refine AOps.step rfl rfl rfl (AOp.box rfl rfl rfl) ?_
  refine AOps.step rfl rfl rfl (AOp.assignD rfl rfl) ?_
  refine AOps.nil ?_
  refine AWP.seq ?_
  refine AWP.block ?_
  refine AWP.seq ?_
  refine AWP.region ?_
  refine AOps.step rfl rfl rfl (AOp.fieldAddr rfl fo_77_2 rfl) ?_
  refine AOps.step rfl rfl rfl (AOp.load rfl sc_9 rfl) ?_
  refine AOps.step rfl rfl rfl (AOp.sneq rfl rfl rfl) ?_
  refine AOps.step rfl rfl rfl (AOp.moveD rfl rfl) ?_
  refine AOps.split 11 rfl (fun g1 => ?_) (fun g1 => ?_)
  · replace g1 := of_decide_eq_true g1
    refine AOps.step ⟨11, rfl, .inl ⟨_, rfl, rfl⟩⟩ rfl rfl (AOp.loadAgg rfl ag_26 rfl rfl) ?_
    refine AOps.step ⟨11, rfl, .inl ⟨_, rfl, rfl⟩⟩ rfl rfl (AOp.fieldAddr rfl fo_77_2 rfl) ?_
    refine AOps.step ⟨11, rfl, .inl ⟨_, rfl, rfl⟩⟩ rfl rfl (AOp.load rfl sc_9 rfl) ?_
    refine AOps.step ⟨11, rfl, .inl ⟨_, rfl, rfl⟩⟩ rfl rfl (AOp.call rfl (.cons (ArgOk.rfl' rfl) (.cons (ArgOk.rfl' rfl) .nil)) (c_carrierOf _ _)) ?_
    refine AOps.step ⟨11, rfl, .inl ⟨_, rfl, rfl⟩⟩ rfl rfl (AOp.lss rfl rfl rfl) ?_
    refine AOps.step rfl rfl rfl (AOp.pickT rfl rfl rfl) ?_
    refine AOps.step rfl rfl rfl (AOp.assignD rfl rfl) ?_
    refine AOps.nil ?_
    refine AWP.cond rfl (fun h2 => ?_) (fun h2 => ?_)
    · replace h2 := of_decide_eq_true h2
      have HF : cpyFault v c b = 9 := ((if_neg hA).trans ((if_neg hB).trans (if_pos ⟨by assumption, h2⟩)))
      refine AWP.seq ?_
      refine AWP.region ?_
      refine AOps.step rfl rfl rfl (AOp.assignD rfl rfl) ?_
      refine AOps.nil ?_
      refine AWP.ret ?_
      refine ⟨RetD.eq rfl ?_, trivial⟩
      all_goals (rw [HF])
    · replace h2 := of_decide_eq_false h2
      have hC : ¬ (c.frm ≠ ⟨#[]⟩ ∧ carrIdx v c.frm < 0) := fun hh => h2 hh.2
      refine AWP.seq ?_
      refine AWP.region ?_
      refine AOps.step rfl rfl rfl (AOp.fieldAddr rfl fo_77_2 rfl) ?_
      refine AOps.step rfl rfl rfl (AOp.load rfl sc_9 rfl) ?_
      refine AOps.step rfl rfl rfl (AOp.sneq rfl rfl rfl) ?_
      refine AOps.step rfl rfl rfl (AOp.moveD rfl rfl) ?_
      refine AOps.split 22 rfl (fun g3 => ?_) (fun g3 => ?_)
      · replace g3 := of_decide_eq_true g3
        refine AOps.step ⟨22, rfl, .inl ⟨_, rfl, rfl⟩⟩ rfl rfl (AOp.fieldAddr rfl fo_77_2 rfl) ?_
        refine AOps.step ⟨22, rfl, .inl ⟨_, rfl, rfl⟩⟩ rfl rfl (AOp.load rfl sc_9 rfl) ?_
        refine AOps.step ⟨22, rfl, .inl ⟨_, rfl, rfl⟩⟩ rfl rfl (AOp.fieldAddr rfl fo_77_1 rfl) ?_
        refine AOps.step ⟨22, rfl, .inl ⟨_, rfl, rfl⟩⟩ rfl rfl (AOp.load rfl sc_9 rfl) ?_
        refine AOps.step ⟨22, rfl, .inl ⟨_, rfl, rfl⟩⟩ rfl rfl (AOp.seql rfl rfl rfl) ?_
        refine AOps.step rfl rfl rfl (AOp.pickT rfl rfl rfl) ?_
        refine AOps.step rfl rfl rfl (AOp.assignD rfl rfl) ?_
        refine AOps.nil ?_
        refine AWP.cond rfl (fun h4 => ?_) (fun h4 => ?_)
        · replace h4 := of_decide_eq_true h4
          have HF : cpyFault v c b = 12 := ((if_neg hA).trans ((if_neg hB).trans ((if_neg hC).trans (if_pos h4))))
          refine AWP.seq ?_
          refine AWP.region ?_
          refine AOps.step rfl rfl rfl (AOp.assignD rfl rfl) ?_
          refine AOps.nil ?_
          refine AWP.ret ?_
          refine ⟨RetD.eq rfl ?_, trivial⟩
          all_goals (rw [HF])
        · replace h4 := of_decide_eq_false h4
          have hDD := h4
          refine AWP.seq ?_
          refine AWP.region ?_
          refine AOps.step rfl rfl rfl (AOp.fieldAddr rfl fo_77_3 rfl) ?_
          refine AOps.step rfl rfl rfl (AOp.load rfl sc_3 rfl) ?_
          refine AOps.step rfl rfl rfl (AOp.call rfl (.cons (ArgOk.rfl' rfl) .nil) (c_rDay _)) ?_
          refine AOps.step rfl rfl rfl (AOp.not rfl rfl) ?_
          refine AOps.step rfl rfl rfl (AOp.moveD rfl rfl) ?_
          refine AOps.split 34 rfl (fun g5 => ?_) (fun g5 => ?_)
          · replace g5 := bnot_t g5; replace g5 := of_decide_eq_false g5
            have HF : cpyFault v c b = 1 := ((if_neg hA).trans ((if_neg hB).trans ((if_neg hC).trans ((if_neg hDD).trans (if_pos (.inl g5))))))
            refine AOps.pass ⟨34, rfl, .inl ⟨_, rfl, rfl⟩⟩ rfl rfl ?_
            refine AOps.pass ⟨34, rfl, .inl ⟨_, rfl, rfl⟩⟩ rfl rfl ?_
            refine AOps.pass ⟨34, rfl, .inl ⟨_, rfl, rfl⟩⟩ rfl rfl ?_
            refine AOps.pass ⟨34, rfl, .inl ⟨_, rfl, rfl⟩⟩ rfl rfl ?_
            refine AOps.pass ⟨34, rfl, .inl ⟨_, rfl, rfl⟩⟩ rfl rfl ?_
            refine AOps.pass ⟨34, rfl, .inl ⟨_, rfl, rfl⟩⟩ rfl rfl ?_
            refine AOps.step rfl rfl rfl (AOp.pickT rfl rfl rfl) ?_
            refine AOps.step rfl rfl rfl (AOp.moveD rfl rfl) ?_
            refine AOps.pass ⟨42, rfl, .inl ⟨_, rfl, rfl⟩⟩ rfl rfl ?_
            refine AOps.pass ⟨42, rfl, .inl ⟨_, rfl, rfl⟩⟩ rfl rfl ?_
            refine AOps.pass ⟨42, rfl, .inl ⟨_, rfl, rfl⟩⟩ rfl rfl ?_
            refine AOps.pass ⟨42, rfl, .inl ⟨_, rfl, rfl⟩⟩ rfl rfl ?_
            refine AOps.step rfl rfl rfl (AOp.pickT rfl rfl rfl) ?_
            refine AOps.step rfl rfl rfl (AOp.assignD rfl rfl) ?_
            refine AOps.nil ?_
            refine AWP.cond rfl (fun _ => ?_) (fun h => nomatch h)
            refine AWP.seq ?_
            refine AWP.region ?_
            refine AOps.step rfl rfl rfl (AOp.assignD rfl rfl) ?_
            refine AOps.nil ?_
            refine AWP.ret ?_
            refine ⟨RetD.eq rfl ?_, trivial⟩
            all_goals (rw [HF])
          · replace g5 := bnot_f g5; replace g5 := of_decide_eq_true g5
            have he1 := g5
            refine AOps.step ⟨34, rfl, .inl ⟨_, rfl, rfl⟩⟩ rfl rfl (AOp.fieldAddr rfl fo_77_4 rfl) ?_
            refine AOps.step ⟨34, rfl, .inl ⟨_, rfl, rfl⟩⟩ rfl rfl (AOp.load rfl sc_3 rfl) ?_
            refine AOps.step ⟨34, rfl, .inl ⟨_, rfl, rfl⟩⟩ rfl rfl (AOp.fieldAddr rfl fo_77_3 rfl) ?_
            refine AOps.step ⟨34, rfl, .inl ⟨_, rfl, rfl⟩⟩ rfl rfl (AOp.load rfl sc_3 rfl) ?_
            refine AOps.step ⟨34, rfl, .inl ⟨_, rfl, rfl⟩⟩ rfl rfl (AOp.call rfl (.cons (ArgOk.rfl' rfl) (.cons (ArgOk.rfl' rfl) (.cons (ArgOk.rfl' rfl) .nil))) (c_rWithin _ _ _)) ?_
            refine AOps.step ⟨34, rfl, .inl ⟨_, rfl, rfl⟩⟩ rfl rfl (AOp.not rfl rfl) ?_
            refine AOps.step rfl rfl rfl (AOp.pickF rfl rfl rfl) ?_
            refine AOps.step rfl rfl rfl (AOp.moveD rfl rfl) ?_
            refine AOps.split 42 rfl (fun g6 => ?_) (fun g6 => ?_)
            · replace g6 := bnot_t g6; replace g6 := of_decide_eq_false g6
              have HF : cpyFault v c b = 1 := ((if_neg hA).trans ((if_neg hB).trans ((if_neg hC).trans ((if_neg hDD).trans (if_pos (.inr (.inl g6)))))))
              refine AOps.pass ⟨42, rfl, .inl ⟨_, rfl, rfl⟩⟩ rfl rfl ?_
              refine AOps.pass ⟨42, rfl, .inl ⟨_, rfl, rfl⟩⟩ rfl rfl ?_
              refine AOps.pass ⟨42, rfl, .inl ⟨_, rfl, rfl⟩⟩ rfl rfl ?_
              refine AOps.pass ⟨42, rfl, .inl ⟨_, rfl, rfl⟩⟩ rfl rfl ?_
              refine AOps.step rfl rfl rfl (AOp.pickT rfl rfl rfl) ?_
              refine AOps.step rfl rfl rfl (AOp.assignD rfl rfl) ?_
              refine AOps.nil ?_
              refine AWP.cond rfl (fun _ => ?_) (fun h => nomatch h)
              refine AWP.seq ?_
              refine AWP.region ?_
              refine AOps.step rfl rfl rfl (AOp.assignD rfl rfl) ?_
              refine AOps.nil ?_
              refine AWP.ret ?_
              refine ⟨RetD.eq rfl ?_, trivial⟩
              all_goals (rw [HF])
            · replace g6 := bnot_f g6; replace g6 := of_decide_eq_true g6
              have he2 := g6
              refine AOps.step ⟨42, rfl, .inl ⟨_, rfl, rfl⟩⟩ rfl rfl (AOp.fieldAddr rfl fo_77_5 rfl) ?_
              refine AOps.step ⟨42, rfl, .inl ⟨_, rfl, rfl⟩⟩ rfl rfl (AOp.load rfl sc_3 rfl) ?_
              refine AOps.step ⟨42, rfl, .inl ⟨_, rfl, rfl⟩⟩ rfl rfl (AOp.call rfl (.cons (ArgOk.rfl' rfl) (.cons (ArgOk.rfl' rfl) (.cons (ArgOk.rfl' rfl) .nil))) (c_rWithin _ _ _)) ?_
              refine AOps.step ⟨42, rfl, .inl ⟨_, rfl, rfl⟩⟩ rfl rfl (AOp.not rfl rfl) ?_
              refine AOps.step rfl rfl rfl (AOp.pickF rfl rfl rfl) ?_
              refine AOps.step rfl rfl rfl (AOp.assignD rfl rfl) ?_
              refine AOps.nil ?_
              refine AWP.cond rfl (fun h7 => ?_) (fun h7 => ?_)
              · replace h7 := bnot_t h7; replace h7 := of_decide_eq_false h7
                have HF : cpyFault v c b = 1 := ((if_neg hA).trans ((if_neg hB).trans ((if_neg hC).trans ((if_neg hDD).trans (if_pos (.inr (.inr h7)))))))
                refine AWP.seq ?_
                refine AWP.region ?_
                refine AOps.step rfl rfl rfl (AOp.assignD rfl rfl) ?_
                refine AOps.nil ?_
                refine AWP.ret ?_
                refine ⟨RetD.eq rfl ?_, trivial⟩
                all_goals (rw [HF])
              · replace h7 := bnot_f h7; replace h7 := of_decide_eq_true h7
                have hE : ¬ (¬ (0 ≤ c.day ∧ c.day ≤ 200000) ∨ ¬ (c.day ≤ c.last ∧ c.last ≤ 200000) ∨ ¬ (1 ≤ c.gen ∧ c.gen ≤ 100)) := by omega
                refine AWP.seq ?_
                refine AWP.region ?_
                refine AOps.step rfl rfl rfl (AOp.fieldAddr rfl fo_77_5 rfl) ?_
                refine AOps.step rfl rfl rfl (AOp.load rfl sc_3 rfl) ?_
                refine AOps.step rfl rfl rfl (AOp.eql rfl rfl rfl) ?_
                refine AOps.step rfl rfl rfl (AOp.fieldAddr rfl fo_77_2 rfl) ?_
                refine AOps.step rfl rfl rfl (AOp.load rfl sc_9 rfl) ?_
                refine AOps.step rfl rfl rfl (AOp.seql rfl rfl rfl) ?_
                refine AOps.step rfl rfl rfl (AOp.bneq rfl bt_4 rfl rfl) ?_
                refine AOps.step rfl rfl rfl (AOp.assignD rfl rfl) ?_
                refine AOps.nil ?_
                refine AWP.cond rfl (fun h8 => ?_) (fun h8 => ?_)
                · replace h8 := of_decide_eq_true h8
                  have HF : cpyFault v c b = 3 := ((if_neg hA).trans ((if_neg hB).trans ((if_neg hC).trans ((if_neg hDD).trans ((if_neg hE).trans (if_pos h8))))))
                  refine AWP.seq ?_
                  refine AWP.region ?_
                  refine AOps.step rfl rfl rfl (AOp.assignD rfl rfl) ?_
                  refine AOps.nil ?_
                  refine AWP.ret ?_
                  refine ⟨RetD.eq rfl ?_, trivial⟩
                  all_goals (rw [HF])
                · replace h8 := of_decide_eq_false h8
                  have hG := h8
                  have HX : cpyFault v c b = ffst (badFault (itemBlocks v c.item) c.bad) c.bad.length := ((if_neg hA).trans ((if_neg hB).trans ((if_neg hC).trans ((if_neg hDD).trans ((if_neg hE).trans (if_neg hG))))))
                  refine AWP.skip ?_
                  refine AWP.seq ?_
                  refine AWP.seq ?_
                  refine AWP.region ?_
                  refine AOps.step rfl rfl rfl (AOp.fieldAddr rfl fo_77_6 rfl) ?_
                  refine AOps.step rfl rfl rfl (AOp.load rfl sc_75 rfl) ?_
                  refine AOps.step rfl rfl rfl (AOp.lenSl rfl et_75.ht rfl) ?_
                  refine AOps.step rfl rfl rfl (AOp.moveD rfl rfl) ?_
                  refine AOps.nil ?_
                  refine AWP.block ?_
                  refine AWP.bound 57 rfl (fun hbd => ?_)
                  rw [List.length_map] at hbd
                  refine AWP.loop (G := Nat) (fun q => Env.of [(59, .d (.v (.int .i64 (q : Int)))), (57, .d (.sl (c.bad.map intD))), (58, .d (.v (.int .i64 ((c.bad.map intD).length : Int)))), (2, .d (.fp v.ds)), (3, .d (.fp c.ds))]) (fun q => []) (fun q => q ≤ c.bad.length ∧ ffst (badFault (itemBlocks v c.item) c.bad) q = 0) (fun q => c.bad.length - q) 0 ⟨Nat.zero_le _, rfl⟩ (Sub.less ⟨(SLe.of_eq rfl), SLe.refl _, SLe.refl _, SLe.refl _, SLe.refl _, trivial⟩ (fun _ h => h)) ?_
                  intro q hq
                  refine AWP.seq ?_
                  refine AWP.region ?_
                  refine AOps.step rfl rfl rfl (AOp.lss rfl rfl rfl) ?_
                  refine AOps.nil ?_
                  refine AWP.seq ?_
                  refine AWP.cond rfl (fun h9 => ?_) (fun h9 => ?_)
                  · replace h9 := of_decide_eq_true h9
                    rw [List.length_map] at h9
                    have hlt : q < c.bad.length := by omega
                    refine AWP.skip ?_
                    refine AWP.seq ?_
                    refine AWP.block ?_
                    refine AWP.seq ?_
                    refine AWP.region ?_
                    refine AOps.step rfl rfl rfl (AOp.moveD rfl rfl) ?_
                    refine AOps.step rfl rfl rfl (AOp.indexAddr rfl et_75 rfl rfl q rfl (at_list hlt) rfl) ?_
                    refine AOps.step rfl rfl rfl (AOp.load rfl sc_3 rfl) ?_
                    refine AOps.step rfl rfl rfl (AOp.assignD rfl rfl) ?_
                    refine AOps.step rfl rfl rfl (AOp.assignD rfl rfl) ?_
                    refine AOps.nil ?_
                    refine AWP.seq ?_
                    refine AWP.seq ?_
                    refine AWP.draw (by kernel_rfl) (by kernel_rfl) ?_
                    refine DRun.step rfl rfl rfl (AOp.moveD rfl rfl) ?_
                    refine DRun.step rfl rfl rfl (AOp.fieldAddr rfl fo_26_0 rfl) ?_
                    refine DRun.step rfl rfl rfl (AOp.load rfl sc_22 rfl) ?_
                    refine DRun.step rfl rfl rfl (AOp.loadAgg rfl ag_26 rfl rfl) ?_
                    refine DRun.step rfl rfl rfl (AOp.fieldAddr rfl fo_77_0 rfl) ?_
                    refine DRun.step rfl rfl rfl (AOp.load rfl sc_9 rfl) ?_
                    refine DRun.step rfl rfl rfl (AOp.call rfl (.cons (ArgOk.rfl' rfl) (.cons (ArgOk.rfl' rfl) .nil)) (c_itemOf _ _)) ?_
                    refine DRun.step rfl rfl rfl (AOp.indexAddr rfl et_22 rfl rfl ki eki (at_list hki) rfl) ?_
                    refine DRun.step rfl rfl rfl (AOp.fieldAddr rfl fo_69_1 rfl) ?_
                    refine DRun.step rfl rfl rfl (AOp.load rfl sc_3 rfl) ?_
                    refine DRun.step rfl rfl rfl (AOp.sub64 rfl rfl rfl (by omega) (by omega)) ?_
                    refine DRun.step rfl rfl rfl (AOp.call rfl (.cons (ArgOk.rfl' rfl) (.cons (ArgOk.rfl' rfl) (.cons (ArgOk.rfl' rfl) .nil))) (c_rWithin _ _ _)) ?_
                    refine DRun.step rfl rfl rfl (AOp.not rfl rfl) ?_
                    refine DRun.nil ?_
                    refine AWP.cond rfl (fun h10 => ?_) (fun h10 => ?_)
                    · replace h10 := bnot_t h10; replace h10 := of_decide_eq_false h10
                      have H1 := badFault_1 (n := itemBlocks v c.item) hlt (by rw [hib]; exact h10)
                      have HF : cpyFault v c b = 1 := by rw [HX, ffst_hit hq.2 (by rw [H1]; decide) _ hlt, H1]
                      refine AWP.seq ?_
                      refine AWP.region ?_
                      refine AOps.step rfl rfl rfl (AOp.assignD rfl rfl) ?_
                      refine AOps.nil ?_
                      refine AWP.ret ?_
                      refine ⟨RetD.eq rfl ?_, trivial⟩
                      all_goals (rw [HF])
                    · replace h10 := bnot_f h10; replace h10 := of_decide_eq_true h10
                      have h7 : 0 ≤ c.bad[q] ∧ c.bad[q] ≤ itemBlocks v c.item - 1 := by rw [hib]; omega
                      refine AWP.skip ?_
                      refine AWP.seq ?_
                      refine AWP.region ?_
                      refine AOps.step rfl rfl rfl (AOp.moveD rfl rfl) ?_
                      refine AOps.step rfl rfl rfl (AOp.gtr rfl rfl rfl) ?_
                      refine AOps.step rfl rfl rfl (AOp.moveD rfl rfl) ?_
                      refine AOps.split 79 rfl (fun g11 => ?_) (fun g11 => ?_)
                      · replace g11 := of_decide_eq_true g11
                        refine AOps.step ⟨79, rfl, .inl ⟨_, rfl, rfl⟩⟩ rfl rfl (AOp.moveD rfl rfl) ?_
                        refine AOps.step ⟨79, rfl, .inl ⟨_, rfl, rfl⟩⟩ rfl rfl (AOp.fieldAddr rfl fo_77_6 rfl) ?_
                        refine AOps.step ⟨79, rfl, .inl ⟨_, rfl, rfl⟩⟩ rfl rfl (AOp.load rfl sc_75 rfl) ?_
                        refine AOps.step ⟨79, rfl, .inl ⟨_, rfl, rfl⟩⟩ rfl rfl (AOp.moveD rfl rfl) ?_
                        refine AOps.step ⟨79, rfl, .inl ⟨_, rfl, rfl⟩⟩ rfl rfl (AOp.sub64 rfl rfl rfl (by omega) (by omega)) ?_
                        refine AOps.step ⟨79, rfl, .inl ⟨_, rfl, rfl⟩⟩ rfl rfl (AOp.indexAddr rfl et_75 rfl rfl (q - 1) (by omega) (at_list (by omega)) rfl) ?_
                        refine AOps.step ⟨79, rfl, .inl ⟨_, rfl, rfl⟩⟩ rfl rfl (AOp.load rfl sc_3 rfl) ?_
                        refine AOps.step ⟨79, rfl, .inl ⟨_, rfl, rfl⟩⟩ rfl rfl (AOp.leq rfl rfl rfl) ?_
                        refine AOps.step rfl rfl rfl (AOp.pickT rfl rfl rfl) ?_
                        refine AOps.nil ?_
                        refine AWP.cond rfl (fun h12 => ?_) (fun h12 => ?_)
                        · replace h12 := of_decide_eq_true h12
                          have H8 := badFault_8 hlt h7 (by omega) h12
                          have HF : cpyFault v c b = 8 := by rw [HX, ffst_hit hq.2 (by rw [H8]; decide) _ hlt, H8]
                          refine AWP.seq ?_
                          refine AWP.region ?_
                          refine AOps.step rfl rfl rfl (AOp.assignD rfl rfl) ?_
                          refine AOps.nil ?_
                          refine AWP.ret ?_
                          refine ⟨RetD.eq rfl ?_, trivial⟩
                          all_goals (rw [HF])
                        · replace h12 := of_decide_eq_false h12
                          have h8 : 0 < q → ¬ c.bad[q] ≤ c.bad[q-1] := fun _ => h12
                          refine AWP.skip ?_
                          refine AWP.region ?_
                          refine AOps.step rfl rfl rfl (AOp.add64 rfl rfl rfl (by omega) (by omega)) ?_
                          refine AOps.step rfl rfl rfl (AOp.moveD rfl rfl) ?_
                          refine AOps.nil ?_
                          refine ⟨q + 1, ⟨by omega, ffst_next hq.2 (badFault_0 hlt h7 h8)⟩, (by dsimp only; omega), Sub.less ⟨(SLe.of_eq rfl), SLe.refl _, SLe.refl _, SLe.refl _, SLe.refl _, trivial⟩ (fun _ h => h)⟩
                      · replace g11 := of_decide_eq_false g11
                        have h8 : 0 < q → ¬ c.bad[q] ≤ c.bad[q-1] := fun hh => absurd hh (by omega)
                        refine AOps.pass ⟨79, rfl, .inl ⟨_, rfl, rfl⟩⟩ rfl rfl ?_
                        refine AOps.pass ⟨79, rfl, .inl ⟨_, rfl, rfl⟩⟩ rfl rfl ?_
                        refine AOps.pass ⟨79, rfl, .inl ⟨_, rfl, rfl⟩⟩ rfl rfl ?_
                        refine AOps.pass ⟨79, rfl, .inl ⟨_, rfl, rfl⟩⟩ rfl rfl ?_
                        refine AOps.pass ⟨79, rfl, .inl ⟨_, rfl, rfl⟩⟩ rfl rfl ?_
                        refine AOps.pass ⟨79, rfl, .inl ⟨_, rfl, rfl⟩⟩ rfl rfl ?_
                        refine AOps.pass ⟨79, rfl, .inl ⟨_, rfl, rfl⟩⟩ rfl rfl ?_
                        refine AOps.pass ⟨79, rfl, .inl ⟨_, rfl, rfl⟩⟩ rfl rfl ?_
                        refine AOps.step rfl rfl rfl (AOp.pickF rfl rfl rfl) ?_
                        refine AOps.nil ?_
                        refine AWP.cond rfl (fun h => nomatch h) (fun _ => ?_)
                        refine AWP.skip ?_
                        refine AWP.region ?_
                        refine AOps.step rfl rfl rfl (AOp.add64 rfl rfl rfl (by omega) (by omega)) ?_
                        refine AOps.step rfl rfl rfl (AOp.moveD rfl rfl) ?_
                        refine AOps.nil ?_
                        refine ⟨q + 1, ⟨by omega, ffst_next hq.2 (badFault_0 hlt h7 h8)⟩, (by dsimp only; omega), Sub.less ⟨(SLe.of_eq rfl), SLe.refl _, SLe.refl _, SLe.refl _, SLe.refl _, trivial⟩ (fun _ h => h)⟩
                  · replace h9 := of_decide_eq_false h9
                    rw [List.length_map] at h9
                    have HF : cpyFault v c b = 0 := by rw [HX, ← show q = c.bad.length by omega]; exact hq.2
                    refine AWP.exit ?_
                    refine AWP.seq ?_
                    refine AWP.region ?_
                    refine AOps.step rfl rfl rfl (AOp.assignD rfl rfl) ?_
                    refine AOps.nil ?_
                    refine AWP.ret ?_
                    refine ⟨RetD.eq rfl ?_, trivial⟩
                    all_goals (rw [HF])
      · replace g3 := of_decide_eq_false g3
        have hDD : ¬ c.frm = c.carrier := fun hh => g3 (fun h5 => hne (hh.symm.trans h5))
        refine AOps.pass ⟨22, rfl, .inl ⟨_, rfl, rfl⟩⟩ rfl rfl ?_
        refine AOps.pass ⟨22, rfl, .inl ⟨_, rfl, rfl⟩⟩ rfl rfl ?_
        refine AOps.pass ⟨22, rfl, .inl ⟨_, rfl, rfl⟩⟩ rfl rfl ?_
        refine AOps.pass ⟨22, rfl, .inl ⟨_, rfl, rfl⟩⟩ rfl rfl ?_
        refine AOps.pass ⟨22, rfl, .inl ⟨_, rfl, rfl⟩⟩ rfl rfl ?_
        refine AOps.step rfl rfl rfl (AOp.pickF rfl rfl rfl) ?_
        refine AOps.step rfl rfl rfl (AOp.assignD rfl rfl) ?_
        refine AOps.nil ?_
        refine AWP.cond rfl (fun h => nomatch h) (fun _ => ?_)
        refine AWP.seq ?_
        refine AWP.region ?_
        refine AOps.step rfl rfl rfl (AOp.fieldAddr rfl fo_77_3 rfl) ?_
        refine AOps.step rfl rfl rfl (AOp.load rfl sc_3 rfl) ?_
        refine AOps.step rfl rfl rfl (AOp.call rfl (.cons (ArgOk.rfl' rfl) .nil) (c_rDay _)) ?_
        refine AOps.step rfl rfl rfl (AOp.not rfl rfl) ?_
        refine AOps.step rfl rfl rfl (AOp.moveD rfl rfl) ?_
        refine AOps.split 34 rfl (fun g13 => ?_) (fun g13 => ?_)
        · replace g13 := bnot_t g13; replace g13 := of_decide_eq_false g13
          have HF : cpyFault v c b = 1 := ((if_neg hA).trans ((if_neg hB).trans ((if_neg hC).trans ((if_neg hDD).trans (if_pos (.inl g13))))))
          refine AOps.pass ⟨34, rfl, .inl ⟨_, rfl, rfl⟩⟩ rfl rfl ?_
          refine AOps.pass ⟨34, rfl, .inl ⟨_, rfl, rfl⟩⟩ rfl rfl ?_
          refine AOps.pass ⟨34, rfl, .inl ⟨_, rfl, rfl⟩⟩ rfl rfl ?_
          refine AOps.pass ⟨34, rfl, .inl ⟨_, rfl, rfl⟩⟩ rfl rfl ?_
          refine AOps.pass ⟨34, rfl, .inl ⟨_, rfl, rfl⟩⟩ rfl rfl ?_
          refine AOps.pass ⟨34, rfl, .inl ⟨_, rfl, rfl⟩⟩ rfl rfl ?_
          refine AOps.step rfl rfl rfl (AOp.pickT rfl rfl rfl) ?_
          refine AOps.step rfl rfl rfl (AOp.moveD rfl rfl) ?_
          refine AOps.pass ⟨42, rfl, .inl ⟨_, rfl, rfl⟩⟩ rfl rfl ?_
          refine AOps.pass ⟨42, rfl, .inl ⟨_, rfl, rfl⟩⟩ rfl rfl ?_
          refine AOps.pass ⟨42, rfl, .inl ⟨_, rfl, rfl⟩⟩ rfl rfl ?_
          refine AOps.pass ⟨42, rfl, .inl ⟨_, rfl, rfl⟩⟩ rfl rfl ?_
          refine AOps.step rfl rfl rfl (AOp.pickT rfl rfl rfl) ?_
          refine AOps.step rfl rfl rfl (AOp.assignD rfl rfl) ?_
          refine AOps.nil ?_
          refine AWP.cond rfl (fun _ => ?_) (fun h => nomatch h)
          refine AWP.seq ?_
          refine AWP.region ?_
          refine AOps.step rfl rfl rfl (AOp.assignD rfl rfl) ?_
          refine AOps.nil ?_
          refine AWP.ret ?_
          refine ⟨RetD.eq rfl ?_, trivial⟩
          all_goals (rw [HF])
        · replace g13 := bnot_f g13; replace g13 := of_decide_eq_true g13
          have he1 := g13
          refine AOps.step ⟨34, rfl, .inl ⟨_, rfl, rfl⟩⟩ rfl rfl (AOp.fieldAddr rfl fo_77_4 rfl) ?_
          refine AOps.step ⟨34, rfl, .inl ⟨_, rfl, rfl⟩⟩ rfl rfl (AOp.load rfl sc_3 rfl) ?_
          refine AOps.step ⟨34, rfl, .inl ⟨_, rfl, rfl⟩⟩ rfl rfl (AOp.fieldAddr rfl fo_77_3 rfl) ?_
          refine AOps.step ⟨34, rfl, .inl ⟨_, rfl, rfl⟩⟩ rfl rfl (AOp.load rfl sc_3 rfl) ?_
          refine AOps.step ⟨34, rfl, .inl ⟨_, rfl, rfl⟩⟩ rfl rfl (AOp.call rfl (.cons (ArgOk.rfl' rfl) (.cons (ArgOk.rfl' rfl) (.cons (ArgOk.rfl' rfl) .nil))) (c_rWithin _ _ _)) ?_
          refine AOps.step ⟨34, rfl, .inl ⟨_, rfl, rfl⟩⟩ rfl rfl (AOp.not rfl rfl) ?_
          refine AOps.step rfl rfl rfl (AOp.pickF rfl rfl rfl) ?_
          refine AOps.step rfl rfl rfl (AOp.moveD rfl rfl) ?_
          refine AOps.split 42 rfl (fun g14 => ?_) (fun g14 => ?_)
          · replace g14 := bnot_t g14; replace g14 := of_decide_eq_false g14
            have HF : cpyFault v c b = 1 := ((if_neg hA).trans ((if_neg hB).trans ((if_neg hC).trans ((if_neg hDD).trans (if_pos (.inr (.inl g14)))))))
            refine AOps.pass ⟨42, rfl, .inl ⟨_, rfl, rfl⟩⟩ rfl rfl ?_
            refine AOps.pass ⟨42, rfl, .inl ⟨_, rfl, rfl⟩⟩ rfl rfl ?_
            refine AOps.pass ⟨42, rfl, .inl ⟨_, rfl, rfl⟩⟩ rfl rfl ?_
            refine AOps.pass ⟨42, rfl, .inl ⟨_, rfl, rfl⟩⟩ rfl rfl ?_
            refine AOps.step rfl rfl rfl (AOp.pickT rfl rfl rfl) ?_
            refine AOps.step rfl rfl rfl (AOp.assignD rfl rfl) ?_
            refine AOps.nil ?_
            refine AWP.cond rfl (fun _ => ?_) (fun h => nomatch h)
            refine AWP.seq ?_
            refine AWP.region ?_
            refine AOps.step rfl rfl rfl (AOp.assignD rfl rfl) ?_
            refine AOps.nil ?_
            refine AWP.ret ?_
            refine ⟨RetD.eq rfl ?_, trivial⟩
            all_goals (rw [HF])
          · replace g14 := bnot_f g14; replace g14 := of_decide_eq_true g14
            have he2 := g14
            refine AOps.step ⟨42, rfl, .inl ⟨_, rfl, rfl⟩⟩ rfl rfl (AOp.fieldAddr rfl fo_77_5 rfl) ?_
            refine AOps.step ⟨42, rfl, .inl ⟨_, rfl, rfl⟩⟩ rfl rfl (AOp.load rfl sc_3 rfl) ?_
            refine AOps.step ⟨42, rfl, .inl ⟨_, rfl, rfl⟩⟩ rfl rfl (AOp.call rfl (.cons (ArgOk.rfl' rfl) (.cons (ArgOk.rfl' rfl) (.cons (ArgOk.rfl' rfl) .nil))) (c_rWithin _ _ _)) ?_
            refine AOps.step ⟨42, rfl, .inl ⟨_, rfl, rfl⟩⟩ rfl rfl (AOp.not rfl rfl) ?_
            refine AOps.step rfl rfl rfl (AOp.pickF rfl rfl rfl) ?_
            refine AOps.step rfl rfl rfl (AOp.assignD rfl rfl) ?_
            refine AOps.nil ?_
            refine AWP.cond rfl (fun h15 => ?_) (fun h15 => ?_)
            · replace h15 := bnot_t h15; replace h15 := of_decide_eq_false h15
              have HF : cpyFault v c b = 1 := ((if_neg hA).trans ((if_neg hB).trans ((if_neg hC).trans ((if_neg hDD).trans (if_pos (.inr (.inr h15)))))))
              refine AWP.seq ?_
              refine AWP.region ?_
              refine AOps.step rfl rfl rfl (AOp.assignD rfl rfl) ?_
              refine AOps.nil ?_
              refine AWP.ret ?_
              refine ⟨RetD.eq rfl ?_, trivial⟩
              all_goals (rw [HF])
            · replace h15 := bnot_f h15; replace h15 := of_decide_eq_true h15
              have hE : ¬ (¬ (0 ≤ c.day ∧ c.day ≤ 200000) ∨ ¬ (c.day ≤ c.last ∧ c.last ≤ 200000) ∨ ¬ (1 ≤ c.gen ∧ c.gen ≤ 100)) := by omega
              refine AWP.seq ?_
              refine AWP.region ?_
              refine AOps.step rfl rfl rfl (AOp.fieldAddr rfl fo_77_5 rfl) ?_
              refine AOps.step rfl rfl rfl (AOp.load rfl sc_3 rfl) ?_
              refine AOps.step rfl rfl rfl (AOp.eql rfl rfl rfl) ?_
              refine AOps.step rfl rfl rfl (AOp.fieldAddr rfl fo_77_2 rfl) ?_
              refine AOps.step rfl rfl rfl (AOp.load rfl sc_9 rfl) ?_
              refine AOps.step rfl rfl rfl (AOp.seql rfl rfl rfl) ?_
              refine AOps.step rfl rfl rfl (AOp.bneq rfl bt_4 rfl rfl) ?_
              refine AOps.step rfl rfl rfl (AOp.assignD rfl rfl) ?_
              refine AOps.nil ?_
              refine AWP.cond rfl (fun h16 => ?_) (fun h16 => ?_)
              · replace h16 := of_decide_eq_true h16
                have HF : cpyFault v c b = 3 := ((if_neg hA).trans ((if_neg hB).trans ((if_neg hC).trans ((if_neg hDD).trans ((if_neg hE).trans (if_pos h16))))))
                refine AWP.seq ?_
                refine AWP.region ?_
                refine AOps.step rfl rfl rfl (AOp.assignD rfl rfl) ?_
                refine AOps.nil ?_
                refine AWP.ret ?_
                refine ⟨RetD.eq rfl ?_, trivial⟩
                all_goals (rw [HF])
              · replace h16 := of_decide_eq_false h16
                have hG := h16
                have HX : cpyFault v c b = ffst (badFault (itemBlocks v c.item) c.bad) c.bad.length := ((if_neg hA).trans ((if_neg hB).trans ((if_neg hC).trans ((if_neg hDD).trans ((if_neg hE).trans (if_neg hG))))))
                refine AWP.skip ?_
                refine AWP.seq ?_
                refine AWP.seq ?_
                refine AWP.region ?_
                refine AOps.step rfl rfl rfl (AOp.fieldAddr rfl fo_77_6 rfl) ?_
                refine AOps.step rfl rfl rfl (AOp.load rfl sc_75 rfl) ?_
                refine AOps.step rfl rfl rfl (AOp.lenSl rfl et_75.ht rfl) ?_
                refine AOps.step rfl rfl rfl (AOp.moveD rfl rfl) ?_
                refine AOps.nil ?_
                refine AWP.block ?_
                refine AWP.bound 57 rfl (fun hbd => ?_)
                rw [List.length_map] at hbd
                refine AWP.loop (G := Nat) (fun q => Env.of [(59, .d (.v (.int .i64 (q : Int)))), (57, .d (.sl (c.bad.map intD))), (58, .d (.v (.int .i64 ((c.bad.map intD).length : Int)))), (2, .d (.fp v.ds)), (3, .d (.fp c.ds))]) (fun q => []) (fun q => q ≤ c.bad.length ∧ ffst (badFault (itemBlocks v c.item) c.bad) q = 0) (fun q => c.bad.length - q) 0 ⟨Nat.zero_le _, rfl⟩ (Sub.less ⟨(SLe.of_eq rfl), SLe.refl _, SLe.refl _, SLe.refl _, SLe.refl _, trivial⟩ (fun _ h => h)) ?_
                intro q hq
                refine AWP.seq ?_
                refine AWP.region ?_
                refine AOps.step rfl rfl rfl (AOp.lss rfl rfl rfl) ?_
                refine AOps.nil ?_
                refine AWP.seq ?_
                refine AWP.cond rfl (fun h17 => ?_) (fun h17 => ?_)
                · replace h17 := of_decide_eq_true h17
                  rw [List.length_map] at h17
                  have hlt : q < c.bad.length := by omega
                  refine AWP.skip ?_
                  refine AWP.seq ?_
                  refine AWP.block ?_
                  refine AWP.seq ?_
                  refine AWP.region ?_
                  refine AOps.step rfl rfl rfl (AOp.moveD rfl rfl) ?_
                  refine AOps.step rfl rfl rfl (AOp.indexAddr rfl et_75 rfl rfl q rfl (at_list hlt) rfl) ?_
                  refine AOps.step rfl rfl rfl (AOp.load rfl sc_3 rfl) ?_
                  refine AOps.step rfl rfl rfl (AOp.assignD rfl rfl) ?_
                  refine AOps.step rfl rfl rfl (AOp.assignD rfl rfl) ?_
                  refine AOps.nil ?_
                  refine AWP.seq ?_
                  refine AWP.seq ?_
                  refine AWP.draw (by kernel_rfl) (by kernel_rfl) ?_
                  refine DRun.step rfl rfl rfl (AOp.moveD rfl rfl) ?_
                  refine DRun.step rfl rfl rfl (AOp.fieldAddr rfl fo_26_0 rfl) ?_
                  refine DRun.step rfl rfl rfl (AOp.load rfl sc_22 rfl) ?_
                  refine DRun.step rfl rfl rfl (AOp.loadAgg rfl ag_26 rfl rfl) ?_
                  refine DRun.step rfl rfl rfl (AOp.fieldAddr rfl fo_77_0 rfl) ?_
                  refine DRun.step rfl rfl rfl (AOp.load rfl sc_9 rfl) ?_
                  refine DRun.step rfl rfl rfl (AOp.call rfl (.cons (ArgOk.rfl' rfl) (.cons (ArgOk.rfl' rfl) .nil)) (c_itemOf _ _)) ?_
                  refine DRun.step rfl rfl rfl (AOp.indexAddr rfl et_22 rfl rfl ki eki (at_list hki) rfl) ?_
                  refine DRun.step rfl rfl rfl (AOp.fieldAddr rfl fo_69_1 rfl) ?_
                  refine DRun.step rfl rfl rfl (AOp.load rfl sc_3 rfl) ?_
                  refine DRun.step rfl rfl rfl (AOp.sub64 rfl rfl rfl (by omega) (by omega)) ?_
                  refine DRun.step rfl rfl rfl (AOp.call rfl (.cons (ArgOk.rfl' rfl) (.cons (ArgOk.rfl' rfl) (.cons (ArgOk.rfl' rfl) .nil))) (c_rWithin _ _ _)) ?_
                  refine DRun.step rfl rfl rfl (AOp.not rfl rfl) ?_
                  refine DRun.nil ?_
                  refine AWP.cond rfl (fun h18 => ?_) (fun h18 => ?_)
                  · replace h18 := bnot_t h18; replace h18 := of_decide_eq_false h18
                    have H1 := badFault_1 (n := itemBlocks v c.item) hlt (by rw [hib]; exact h18)
                    have HF : cpyFault v c b = 1 := by rw [HX, ffst_hit hq.2 (by rw [H1]; decide) _ hlt, H1]
                    refine AWP.seq ?_
                    refine AWP.region ?_
                    refine AOps.step rfl rfl rfl (AOp.assignD rfl rfl) ?_
                    refine AOps.nil ?_
                    refine AWP.ret ?_
                    refine ⟨RetD.eq rfl ?_, trivial⟩
                    all_goals (rw [HF])
                  · replace h18 := bnot_f h18; replace h18 := of_decide_eq_true h18
                    have h7 : 0 ≤ c.bad[q] ∧ c.bad[q] ≤ itemBlocks v c.item - 1 := by rw [hib]; omega
                    refine AWP.skip ?_
                    refine AWP.seq ?_
                    refine AWP.region ?_
                    refine AOps.step rfl rfl rfl (AOp.moveD rfl rfl) ?_
                    refine AOps.step rfl rfl rfl (AOp.gtr rfl rfl rfl) ?_
                    refine AOps.step rfl rfl rfl (AOp.moveD rfl rfl) ?_
                    refine AOps.split 79 rfl (fun g19 => ?_) (fun g19 => ?_)
                    · replace g19 := of_decide_eq_true g19
                      refine AOps.step ⟨79, rfl, .inl ⟨_, rfl, rfl⟩⟩ rfl rfl (AOp.moveD rfl rfl) ?_
                      refine AOps.step ⟨79, rfl, .inl ⟨_, rfl, rfl⟩⟩ rfl rfl (AOp.fieldAddr rfl fo_77_6 rfl) ?_
                      refine AOps.step ⟨79, rfl, .inl ⟨_, rfl, rfl⟩⟩ rfl rfl (AOp.load rfl sc_75 rfl) ?_
                      refine AOps.step ⟨79, rfl, .inl ⟨_, rfl, rfl⟩⟩ rfl rfl (AOp.moveD rfl rfl) ?_
                      refine AOps.step ⟨79, rfl, .inl ⟨_, rfl, rfl⟩⟩ rfl rfl (AOp.sub64 rfl rfl rfl (by omega) (by omega)) ?_
                      refine AOps.step ⟨79, rfl, .inl ⟨_, rfl, rfl⟩⟩ rfl rfl (AOp.indexAddr rfl et_75 rfl rfl (q - 1) (by omega) (at_list (by omega)) rfl) ?_
                      refine AOps.step ⟨79, rfl, .inl ⟨_, rfl, rfl⟩⟩ rfl rfl (AOp.load rfl sc_3 rfl) ?_
                      refine AOps.step ⟨79, rfl, .inl ⟨_, rfl, rfl⟩⟩ rfl rfl (AOp.leq rfl rfl rfl) ?_
                      refine AOps.step rfl rfl rfl (AOp.pickT rfl rfl rfl) ?_
                      refine AOps.nil ?_
                      refine AWP.cond rfl (fun h20 => ?_) (fun h20 => ?_)
                      · replace h20 := of_decide_eq_true h20
                        have H8 := badFault_8 hlt h7 (by omega) h20
                        have HF : cpyFault v c b = 8 := by rw [HX, ffst_hit hq.2 (by rw [H8]; decide) _ hlt, H8]
                        refine AWP.seq ?_
                        refine AWP.region ?_
                        refine AOps.step rfl rfl rfl (AOp.assignD rfl rfl) ?_
                        refine AOps.nil ?_
                        refine AWP.ret ?_
                        refine ⟨RetD.eq rfl ?_, trivial⟩
                        all_goals (rw [HF])
                      · replace h20 := of_decide_eq_false h20
                        have h8 : 0 < q → ¬ c.bad[q] ≤ c.bad[q-1] := fun _ => h20
                        refine AWP.skip ?_
                        refine AWP.region ?_
                        refine AOps.step rfl rfl rfl (AOp.add64 rfl rfl rfl (by omega) (by omega)) ?_
                        refine AOps.step rfl rfl rfl (AOp.moveD rfl rfl) ?_
                        refine AOps.nil ?_
                        refine ⟨q + 1, ⟨by omega, ffst_next hq.2 (badFault_0 hlt h7 h8)⟩, (by dsimp only; omega), Sub.less ⟨(SLe.of_eq rfl), SLe.refl _, SLe.refl _, SLe.refl _, SLe.refl _, trivial⟩ (fun _ h => h)⟩
                    · replace g19 := of_decide_eq_false g19
                      have h8 : 0 < q → ¬ c.bad[q] ≤ c.bad[q-1] := fun hh => absurd hh (by omega)
                      refine AOps.pass ⟨79, rfl, .inl ⟨_, rfl, rfl⟩⟩ rfl rfl ?_
                      refine AOps.pass ⟨79, rfl, .inl ⟨_, rfl, rfl⟩⟩ rfl rfl ?_
                      refine AOps.pass ⟨79, rfl, .inl ⟨_, rfl, rfl⟩⟩ rfl rfl ?_
                      refine AOps.pass ⟨79, rfl, .inl ⟨_, rfl, rfl⟩⟩ rfl rfl ?_
                      refine AOps.pass ⟨79, rfl, .inl ⟨_, rfl, rfl⟩⟩ rfl rfl ?_
                      refine AOps.pass ⟨79, rfl, .inl ⟨_, rfl, rfl⟩⟩ rfl rfl ?_
                      refine AOps.pass ⟨79, rfl, .inl ⟨_, rfl, rfl⟩⟩ rfl rfl ?_
                      refine AOps.pass ⟨79, rfl, .inl ⟨_, rfl, rfl⟩⟩ rfl rfl ?_
                      refine AOps.step rfl rfl rfl (AOp.pickF rfl rfl rfl) ?_
                      refine AOps.nil ?_
                      refine AWP.cond rfl (fun h => nomatch h) (fun _ => ?_)
                      refine AWP.skip ?_
                      refine AWP.region ?_
                      refine AOps.step rfl rfl rfl (AOp.add64 rfl rfl rfl (by omega) (by omega)) ?_
                      refine AOps.step rfl rfl rfl (AOp.moveD rfl rfl) ?_
                      refine AOps.nil ?_
                      refine ⟨q + 1, ⟨by omega, ffst_next hq.2 (badFault_0 hlt h7 h8)⟩, (by dsimp only; omega), Sub.less ⟨(SLe.of_eq rfl), SLe.refl _, SLe.refl _, SLe.refl _, SLe.refl _, trivial⟩ (fun _ h => h)⟩
                · replace h17 := of_decide_eq_false h17
                  rw [List.length_map] at h17
                  have HF : cpyFault v c b = 0 := by rw [HX, ← show q = c.bad.length by omega]; exact hq.2
                  refine AWP.exit ?_
                  refine AWP.seq ?_
                  refine AWP.region ?_
                  refine AOps.step rfl rfl rfl (AOp.assignD rfl rfl) ?_
                  refine AOps.nil ?_
                  refine AWP.ret ?_
                  refine ⟨RetD.eq rfl ?_, trivial⟩
                  all_goals (rw [HF])
  · replace g1 := of_decide_eq_false g1
    have hC : ¬ (c.frm ≠ ⟨#[]⟩ ∧ carrIdx v c.frm < 0) := fun hh => g1 hh.1
    refine AOps.pass ⟨11, rfl, .inl ⟨_, rfl, rfl⟩⟩ rfl rfl ?_
    refine AOps.pass ⟨11, rfl, .inl ⟨_, rfl, rfl⟩⟩ rfl rfl ?_
    refine AOps.pass ⟨11, rfl, .inl ⟨_, rfl, rfl⟩⟩ rfl rfl ?_
    refine AOps.pass ⟨11, rfl, .inl ⟨_, rfl, rfl⟩⟩ rfl rfl ?_
    refine AOps.pass ⟨11, rfl, .inl ⟨_, rfl, rfl⟩⟩ rfl rfl ?_
    refine AOps.step rfl rfl rfl (AOp.pickF rfl rfl rfl) ?_
    refine AOps.step rfl rfl rfl (AOp.assignD rfl rfl) ?_
    refine AOps.nil ?_
    refine AWP.cond rfl (fun h => nomatch h) (fun _ => ?_)
    refine AWP.seq ?_
    refine AWP.region ?_
    refine AOps.step rfl rfl rfl (AOp.fieldAddr rfl fo_77_2 rfl) ?_
    refine AOps.step rfl rfl rfl (AOp.load rfl sc_9 rfl) ?_
    refine AOps.step rfl rfl rfl (AOp.sneq rfl rfl rfl) ?_
    refine AOps.step rfl rfl rfl (AOp.moveD rfl rfl) ?_
    refine AOps.split 22 rfl (fun g21 => ?_) (fun g21 => ?_)
    · replace g21 := of_decide_eq_true g21
      refine AOps.step ⟨22, rfl, .inl ⟨_, rfl, rfl⟩⟩ rfl rfl (AOp.fieldAddr rfl fo_77_2 rfl) ?_
      refine AOps.step ⟨22, rfl, .inl ⟨_, rfl, rfl⟩⟩ rfl rfl (AOp.load rfl sc_9 rfl) ?_
      refine AOps.step ⟨22, rfl, .inl ⟨_, rfl, rfl⟩⟩ rfl rfl (AOp.fieldAddr rfl fo_77_1 rfl) ?_
      refine AOps.step ⟨22, rfl, .inl ⟨_, rfl, rfl⟩⟩ rfl rfl (AOp.load rfl sc_9 rfl) ?_
      refine AOps.step ⟨22, rfl, .inl ⟨_, rfl, rfl⟩⟩ rfl rfl (AOp.seql rfl rfl rfl) ?_
      refine AOps.step rfl rfl rfl (AOp.pickT rfl rfl rfl) ?_
      refine AOps.step rfl rfl rfl (AOp.assignD rfl rfl) ?_
      refine AOps.nil ?_
      refine AWP.cond rfl (fun h22 => ?_) (fun h22 => ?_)
      · replace h22 := of_decide_eq_true h22
        have HF : cpyFault v c b = 12 := ((if_neg hA).trans ((if_neg hB).trans ((if_neg hC).trans (if_pos h22))))
        refine AWP.seq ?_
        refine AWP.region ?_
        refine AOps.step rfl rfl rfl (AOp.assignD rfl rfl) ?_
        refine AOps.nil ?_
        refine AWP.ret ?_
        refine ⟨RetD.eq rfl ?_, trivial⟩
        all_goals (rw [HF])
      · replace h22 := of_decide_eq_false h22
        have hDD := h22
        refine AWP.seq ?_
        refine AWP.region ?_
        refine AOps.step rfl rfl rfl (AOp.fieldAddr rfl fo_77_3 rfl) ?_
        refine AOps.step rfl rfl rfl (AOp.load rfl sc_3 rfl) ?_
        refine AOps.step rfl rfl rfl (AOp.call rfl (.cons (ArgOk.rfl' rfl) .nil) (c_rDay _)) ?_
        refine AOps.step rfl rfl rfl (AOp.not rfl rfl) ?_
        refine AOps.step rfl rfl rfl (AOp.moveD rfl rfl) ?_
        refine AOps.split 34 rfl (fun g23 => ?_) (fun g23 => ?_)
        · replace g23 := bnot_t g23; replace g23 := of_decide_eq_false g23
          have HF : cpyFault v c b = 1 := ((if_neg hA).trans ((if_neg hB).trans ((if_neg hC).trans ((if_neg hDD).trans (if_pos (.inl g23))))))
          refine AOps.pass ⟨34, rfl, .inl ⟨_, rfl, rfl⟩⟩ rfl rfl ?_
          refine AOps.pass ⟨34, rfl, .inl ⟨_, rfl, rfl⟩⟩ rfl rfl ?_
          refine AOps.pass ⟨34, rfl, .inl ⟨_, rfl, rfl⟩⟩ rfl rfl ?_
          refine AOps.pass ⟨34, rfl, .inl ⟨_, rfl, rfl⟩⟩ rfl rfl ?_
          refine AOps.pass ⟨34, rfl, .inl ⟨_, rfl, rfl⟩⟩ rfl rfl ?_
          refine AOps.pass ⟨34, rfl, .inl ⟨_, rfl, rfl⟩⟩ rfl rfl ?_
          refine AOps.step rfl rfl rfl (AOp.pickT rfl rfl rfl) ?_
          refine AOps.step rfl rfl rfl (AOp.moveD rfl rfl) ?_
          refine AOps.pass ⟨42, rfl, .inl ⟨_, rfl, rfl⟩⟩ rfl rfl ?_
          refine AOps.pass ⟨42, rfl, .inl ⟨_, rfl, rfl⟩⟩ rfl rfl ?_
          refine AOps.pass ⟨42, rfl, .inl ⟨_, rfl, rfl⟩⟩ rfl rfl ?_
          refine AOps.pass ⟨42, rfl, .inl ⟨_, rfl, rfl⟩⟩ rfl rfl ?_
          refine AOps.step rfl rfl rfl (AOp.pickT rfl rfl rfl) ?_
          refine AOps.step rfl rfl rfl (AOp.assignD rfl rfl) ?_
          refine AOps.nil ?_
          refine AWP.cond rfl (fun _ => ?_) (fun h => nomatch h)
          refine AWP.seq ?_
          refine AWP.region ?_
          refine AOps.step rfl rfl rfl (AOp.assignD rfl rfl) ?_
          refine AOps.nil ?_
          refine AWP.ret ?_
          refine ⟨RetD.eq rfl ?_, trivial⟩
          all_goals (rw [HF])
        · replace g23 := bnot_f g23; replace g23 := of_decide_eq_true g23
          have he1 := g23
          refine AOps.step ⟨34, rfl, .inl ⟨_, rfl, rfl⟩⟩ rfl rfl (AOp.fieldAddr rfl fo_77_4 rfl) ?_
          refine AOps.step ⟨34, rfl, .inl ⟨_, rfl, rfl⟩⟩ rfl rfl (AOp.load rfl sc_3 rfl) ?_
          refine AOps.step ⟨34, rfl, .inl ⟨_, rfl, rfl⟩⟩ rfl rfl (AOp.fieldAddr rfl fo_77_3 rfl) ?_
          refine AOps.step ⟨34, rfl, .inl ⟨_, rfl, rfl⟩⟩ rfl rfl (AOp.load rfl sc_3 rfl) ?_
          refine AOps.step ⟨34, rfl, .inl ⟨_, rfl, rfl⟩⟩ rfl rfl (AOp.call rfl (.cons (ArgOk.rfl' rfl) (.cons (ArgOk.rfl' rfl) (.cons (ArgOk.rfl' rfl) .nil))) (c_rWithin _ _ _)) ?_
          refine AOps.step ⟨34, rfl, .inl ⟨_, rfl, rfl⟩⟩ rfl rfl (AOp.not rfl rfl) ?_
          refine AOps.step rfl rfl rfl (AOp.pickF rfl rfl rfl) ?_
          refine AOps.step rfl rfl rfl (AOp.moveD rfl rfl) ?_
          refine AOps.split 42 rfl (fun g24 => ?_) (fun g24 => ?_)
          · replace g24 := bnot_t g24; replace g24 := of_decide_eq_false g24
            have HF : cpyFault v c b = 1 := ((if_neg hA).trans ((if_neg hB).trans ((if_neg hC).trans ((if_neg hDD).trans (if_pos (.inr (.inl g24)))))))
            refine AOps.pass ⟨42, rfl, .inl ⟨_, rfl, rfl⟩⟩ rfl rfl ?_
            refine AOps.pass ⟨42, rfl, .inl ⟨_, rfl, rfl⟩⟩ rfl rfl ?_
            refine AOps.pass ⟨42, rfl, .inl ⟨_, rfl, rfl⟩⟩ rfl rfl ?_
            refine AOps.pass ⟨42, rfl, .inl ⟨_, rfl, rfl⟩⟩ rfl rfl ?_
            refine AOps.step rfl rfl rfl (AOp.pickT rfl rfl rfl) ?_
            refine AOps.step rfl rfl rfl (AOp.assignD rfl rfl) ?_
            refine AOps.nil ?_
            refine AWP.cond rfl (fun _ => ?_) (fun h => nomatch h)
            refine AWP.seq ?_
            refine AWP.region ?_
            refine AOps.step rfl rfl rfl (AOp.assignD rfl rfl) ?_
            refine AOps.nil ?_
            refine AWP.ret ?_
            refine ⟨RetD.eq rfl ?_, trivial⟩
            all_goals (rw [HF])
          · replace g24 := bnot_f g24; replace g24 := of_decide_eq_true g24
            have he2 := g24
            refine AOps.step ⟨42, rfl, .inl ⟨_, rfl, rfl⟩⟩ rfl rfl (AOp.fieldAddr rfl fo_77_5 rfl) ?_
            refine AOps.step ⟨42, rfl, .inl ⟨_, rfl, rfl⟩⟩ rfl rfl (AOp.load rfl sc_3 rfl) ?_
            refine AOps.step ⟨42, rfl, .inl ⟨_, rfl, rfl⟩⟩ rfl rfl (AOp.call rfl (.cons (ArgOk.rfl' rfl) (.cons (ArgOk.rfl' rfl) (.cons (ArgOk.rfl' rfl) .nil))) (c_rWithin _ _ _)) ?_
            refine AOps.step ⟨42, rfl, .inl ⟨_, rfl, rfl⟩⟩ rfl rfl (AOp.not rfl rfl) ?_
            refine AOps.step rfl rfl rfl (AOp.pickF rfl rfl rfl) ?_
            refine AOps.step rfl rfl rfl (AOp.assignD rfl rfl) ?_
            refine AOps.nil ?_
            refine AWP.cond rfl (fun h25 => ?_) (fun h25 => ?_)
            · replace h25 := bnot_t h25; replace h25 := of_decide_eq_false h25
              have HF : cpyFault v c b = 1 := ((if_neg hA).trans ((if_neg hB).trans ((if_neg hC).trans ((if_neg hDD).trans (if_pos (.inr (.inr h25)))))))
              refine AWP.seq ?_
              refine AWP.region ?_
              refine AOps.step rfl rfl rfl (AOp.assignD rfl rfl) ?_
              refine AOps.nil ?_
              refine AWP.ret ?_
              refine ⟨RetD.eq rfl ?_, trivial⟩
              all_goals (rw [HF])
            · replace h25 := bnot_f h25; replace h25 := of_decide_eq_true h25
              have hE : ¬ (¬ (0 ≤ c.day ∧ c.day ≤ 200000) ∨ ¬ (c.day ≤ c.last ∧ c.last ≤ 200000) ∨ ¬ (1 ≤ c.gen ∧ c.gen ≤ 100)) := by omega
              refine AWP.seq ?_
              refine AWP.region ?_
              refine AOps.step rfl rfl rfl (AOp.fieldAddr rfl fo_77_5 rfl) ?_
              refine AOps.step rfl rfl rfl (AOp.load rfl sc_3 rfl) ?_
              refine AOps.step rfl rfl rfl (AOp.eql rfl rfl rfl) ?_
              refine AOps.step rfl rfl rfl (AOp.fieldAddr rfl fo_77_2 rfl) ?_
              refine AOps.step rfl rfl rfl (AOp.load rfl sc_9 rfl) ?_
              refine AOps.step rfl rfl rfl (AOp.seql rfl rfl rfl) ?_
              refine AOps.step rfl rfl rfl (AOp.bneq rfl bt_4 rfl rfl) ?_
              refine AOps.step rfl rfl rfl (AOp.assignD rfl rfl) ?_
              refine AOps.nil ?_
              refine AWP.cond rfl (fun h26 => ?_) (fun h26 => ?_)
              · replace h26 := of_decide_eq_true h26
                have HF : cpyFault v c b = 3 := ((if_neg hA).trans ((if_neg hB).trans ((if_neg hC).trans ((if_neg hDD).trans ((if_neg hE).trans (if_pos h26))))))
                refine AWP.seq ?_
                refine AWP.region ?_
                refine AOps.step rfl rfl rfl (AOp.assignD rfl rfl) ?_
                refine AOps.nil ?_
                refine AWP.ret ?_
                refine ⟨RetD.eq rfl ?_, trivial⟩
                all_goals (rw [HF])
              · replace h26 := of_decide_eq_false h26
                have hG := h26
                have HX : cpyFault v c b = ffst (badFault (itemBlocks v c.item) c.bad) c.bad.length := ((if_neg hA).trans ((if_neg hB).trans ((if_neg hC).trans ((if_neg hDD).trans ((if_neg hE).trans (if_neg hG))))))
                refine AWP.skip ?_
                refine AWP.seq ?_
                refine AWP.seq ?_
                refine AWP.region ?_
                refine AOps.step rfl rfl rfl (AOp.fieldAddr rfl fo_77_6 rfl) ?_
                refine AOps.step rfl rfl rfl (AOp.load rfl sc_75 rfl) ?_
                refine AOps.step rfl rfl rfl (AOp.lenSl rfl et_75.ht rfl) ?_
                refine AOps.step rfl rfl rfl (AOp.moveD rfl rfl) ?_
                refine AOps.nil ?_
                refine AWP.block ?_
                refine AWP.bound 57 rfl (fun hbd => ?_)
                rw [List.length_map] at hbd
                refine AWP.loop (G := Nat) (fun q => Env.of [(59, .d (.v (.int .i64 (q : Int)))), (57, .d (.sl (c.bad.map intD))), (58, .d (.v (.int .i64 ((c.bad.map intD).length : Int)))), (2, .d (.fp v.ds)), (3, .d (.fp c.ds))]) (fun q => []) (fun q => q ≤ c.bad.length ∧ ffst (badFault (itemBlocks v c.item) c.bad) q = 0) (fun q => c.bad.length - q) 0 ⟨Nat.zero_le _, rfl⟩ (Sub.less ⟨(SLe.of_eq rfl), SLe.refl _, SLe.refl _, SLe.refl _, SLe.refl _, trivial⟩ (fun _ h => h)) ?_
                intro q hq
                refine AWP.seq ?_
                refine AWP.region ?_
                refine AOps.step rfl rfl rfl (AOp.lss rfl rfl rfl) ?_
                refine AOps.nil ?_
                refine AWP.seq ?_
                refine AWP.cond rfl (fun h27 => ?_) (fun h27 => ?_)
                · replace h27 := of_decide_eq_true h27
                  rw [List.length_map] at h27
                  have hlt : q < c.bad.length := by omega
                  refine AWP.skip ?_
                  refine AWP.seq ?_
                  refine AWP.block ?_
                  refine AWP.seq ?_
                  refine AWP.region ?_
                  refine AOps.step rfl rfl rfl (AOp.moveD rfl rfl) ?_
                  refine AOps.step rfl rfl rfl (AOp.indexAddr rfl et_75 rfl rfl q rfl (at_list hlt) rfl) ?_
                  refine AOps.step rfl rfl rfl (AOp.load rfl sc_3 rfl) ?_
                  refine AOps.step rfl rfl rfl (AOp.assignD rfl rfl) ?_
                  refine AOps.step rfl rfl rfl (AOp.assignD rfl rfl) ?_
                  refine AOps.nil ?_
                  refine AWP.seq ?_
                  refine AWP.seq ?_
                  refine AWP.draw (by kernel_rfl) (by kernel_rfl) ?_
                  refine DRun.step rfl rfl rfl (AOp.moveD rfl rfl) ?_
                  refine DRun.step rfl rfl rfl (AOp.fieldAddr rfl fo_26_0 rfl) ?_
                  refine DRun.step rfl rfl rfl (AOp.load rfl sc_22 rfl) ?_
                  refine DRun.step rfl rfl rfl (AOp.loadAgg rfl ag_26 rfl rfl) ?_
                  refine DRun.step rfl rfl rfl (AOp.fieldAddr rfl fo_77_0 rfl) ?_
                  refine DRun.step rfl rfl rfl (AOp.load rfl sc_9 rfl) ?_
                  refine DRun.step rfl rfl rfl (AOp.call rfl (.cons (ArgOk.rfl' rfl) (.cons (ArgOk.rfl' rfl) .nil)) (c_itemOf _ _)) ?_
                  refine DRun.step rfl rfl rfl (AOp.indexAddr rfl et_22 rfl rfl ki eki (at_list hki) rfl) ?_
                  refine DRun.step rfl rfl rfl (AOp.fieldAddr rfl fo_69_1 rfl) ?_
                  refine DRun.step rfl rfl rfl (AOp.load rfl sc_3 rfl) ?_
                  refine DRun.step rfl rfl rfl (AOp.sub64 rfl rfl rfl (by omega) (by omega)) ?_
                  refine DRun.step rfl rfl rfl (AOp.call rfl (.cons (ArgOk.rfl' rfl) (.cons (ArgOk.rfl' rfl) (.cons (ArgOk.rfl' rfl) .nil))) (c_rWithin _ _ _)) ?_
                  refine DRun.step rfl rfl rfl (AOp.not rfl rfl) ?_
                  refine DRun.nil ?_
                  refine AWP.cond rfl (fun h28 => ?_) (fun h28 => ?_)
                  · replace h28 := bnot_t h28; replace h28 := of_decide_eq_false h28
                    have H1 := badFault_1 (n := itemBlocks v c.item) hlt (by rw [hib]; exact h28)
                    have HF : cpyFault v c b = 1 := by rw [HX, ffst_hit hq.2 (by rw [H1]; decide) _ hlt, H1]
                    refine AWP.seq ?_
                    refine AWP.region ?_
                    refine AOps.step rfl rfl rfl (AOp.assignD rfl rfl) ?_
                    refine AOps.nil ?_
                    refine AWP.ret ?_
                    refine ⟨RetD.eq rfl ?_, trivial⟩
                    all_goals (rw [HF])
                  · replace h28 := bnot_f h28; replace h28 := of_decide_eq_true h28
                    have h7 : 0 ≤ c.bad[q] ∧ c.bad[q] ≤ itemBlocks v c.item - 1 := by rw [hib]; omega
                    refine AWP.skip ?_
                    refine AWP.seq ?_
                    refine AWP.region ?_
                    refine AOps.step rfl rfl rfl (AOp.moveD rfl rfl) ?_
                    refine AOps.step rfl rfl rfl (AOp.gtr rfl rfl rfl) ?_
                    refine AOps.step rfl rfl rfl (AOp.moveD rfl rfl) ?_
                    refine AOps.split 79 rfl (fun g29 => ?_) (fun g29 => ?_)
                    · replace g29 := of_decide_eq_true g29
                      refine AOps.step ⟨79, rfl, .inl ⟨_, rfl, rfl⟩⟩ rfl rfl (AOp.moveD rfl rfl) ?_
                      refine AOps.step ⟨79, rfl, .inl ⟨_, rfl, rfl⟩⟩ rfl rfl (AOp.fieldAddr rfl fo_77_6 rfl) ?_
                      refine AOps.step ⟨79, rfl, .inl ⟨_, rfl, rfl⟩⟩ rfl rfl (AOp.load rfl sc_75 rfl) ?_
                      refine AOps.step ⟨79, rfl, .inl ⟨_, rfl, rfl⟩⟩ rfl rfl (AOp.moveD rfl rfl) ?_
                      refine AOps.step ⟨79, rfl, .inl ⟨_, rfl, rfl⟩⟩ rfl rfl (AOp.sub64 rfl rfl rfl (by omega) (by omega)) ?_
                      refine AOps.step ⟨79, rfl, .inl ⟨_, rfl, rfl⟩⟩ rfl rfl (AOp.indexAddr rfl et_75 rfl rfl (q - 1) (by omega) (at_list (by omega)) rfl) ?_
                      refine AOps.step ⟨79, rfl, .inl ⟨_, rfl, rfl⟩⟩ rfl rfl (AOp.load rfl sc_3 rfl) ?_
                      refine AOps.step ⟨79, rfl, .inl ⟨_, rfl, rfl⟩⟩ rfl rfl (AOp.leq rfl rfl rfl) ?_
                      refine AOps.step rfl rfl rfl (AOp.pickT rfl rfl rfl) ?_
                      refine AOps.nil ?_
                      refine AWP.cond rfl (fun h30 => ?_) (fun h30 => ?_)
                      · replace h30 := of_decide_eq_true h30
                        have H8 := badFault_8 hlt h7 (by omega) h30
                        have HF : cpyFault v c b = 8 := by rw [HX, ffst_hit hq.2 (by rw [H8]; decide) _ hlt, H8]
                        refine AWP.seq ?_
                        refine AWP.region ?_
                        refine AOps.step rfl rfl rfl (AOp.assignD rfl rfl) ?_
                        refine AOps.nil ?_
                        refine AWP.ret ?_
                        refine ⟨RetD.eq rfl ?_, trivial⟩
                        all_goals (rw [HF])
                      · replace h30 := of_decide_eq_false h30
                        have h8 : 0 < q → ¬ c.bad[q] ≤ c.bad[q-1] := fun _ => h30
                        refine AWP.skip ?_
                        refine AWP.region ?_
                        refine AOps.step rfl rfl rfl (AOp.add64 rfl rfl rfl (by omega) (by omega)) ?_
                        refine AOps.step rfl rfl rfl (AOp.moveD rfl rfl) ?_
                        refine AOps.nil ?_
                        refine ⟨q + 1, ⟨by omega, ffst_next hq.2 (badFault_0 hlt h7 h8)⟩, (by dsimp only; omega), Sub.less ⟨(SLe.of_eq rfl), SLe.refl _, SLe.refl _, SLe.refl _, SLe.refl _, trivial⟩ (fun _ h => h)⟩
                    · replace g29 := of_decide_eq_false g29
                      have h8 : 0 < q → ¬ c.bad[q] ≤ c.bad[q-1] := fun hh => absurd hh (by omega)
                      refine AOps.pass ⟨79, rfl, .inl ⟨_, rfl, rfl⟩⟩ rfl rfl ?_
                      refine AOps.pass ⟨79, rfl, .inl ⟨_, rfl, rfl⟩⟩ rfl rfl ?_
                      refine AOps.pass ⟨79, rfl, .inl ⟨_, rfl, rfl⟩⟩ rfl rfl ?_
                      refine AOps.pass ⟨79, rfl, .inl ⟨_, rfl, rfl⟩⟩ rfl rfl ?_
                      refine AOps.pass ⟨79, rfl, .inl ⟨_, rfl, rfl⟩⟩ rfl rfl ?_
                      refine AOps.pass ⟨79, rfl, .inl ⟨_, rfl, rfl⟩⟩ rfl rfl ?_
                      refine AOps.pass ⟨79, rfl, .inl ⟨_, rfl, rfl⟩⟩ rfl rfl ?_
                      refine AOps.pass ⟨79, rfl, .inl ⟨_, rfl, rfl⟩⟩ rfl rfl ?_
                      refine AOps.step rfl rfl rfl (AOp.pickF rfl rfl rfl) ?_
                      refine AOps.nil ?_
                      refine AWP.cond rfl (fun h => nomatch h) (fun _ => ?_)
                      refine AWP.skip ?_
                      refine AWP.region ?_
                      refine AOps.step rfl rfl rfl (AOp.add64 rfl rfl rfl (by omega) (by omega)) ?_
                      refine AOps.step rfl rfl rfl (AOp.moveD rfl rfl) ?_
                      refine AOps.nil ?_
                      refine ⟨q + 1, ⟨by omega, ffst_next hq.2 (badFault_0 hlt h7 h8)⟩, (by dsimp only; omega), Sub.less ⟨(SLe.of_eq rfl), SLe.refl _, SLe.refl _, SLe.refl _, SLe.refl _, trivial⟩ (fun _ h => h)⟩
                · replace h27 := of_decide_eq_false h27
                  rw [List.length_map] at h27
                  have HF : cpyFault v c b = 0 := by rw [HX, ← show q = c.bad.length by omega]; exact hq.2
                  refine AWP.exit ?_
                  refine AWP.seq ?_
                  refine AWP.region ?_
                  refine AOps.step rfl rfl rfl (AOp.assignD rfl rfl) ?_
                  refine AOps.nil ?_
                  refine AWP.ret ?_
                  refine ⟨RetD.eq rfl ?_, trivial⟩
                  all_goals (rw [HF])
    · replace g21 := of_decide_eq_false g21
      have hDD : ¬ c.frm = c.carrier := fun hh => g21 (fun h5 => hne (hh.symm.trans h5))
      refine AOps.pass ⟨22, rfl, .inl ⟨_, rfl, rfl⟩⟩ rfl rfl ?_
      refine AOps.pass ⟨22, rfl, .inl ⟨_, rfl, rfl⟩⟩ rfl rfl ?_
      refine AOps.pass ⟨22, rfl, .inl ⟨_, rfl, rfl⟩⟩ rfl rfl ?_
      refine AOps.pass ⟨22, rfl, .inl ⟨_, rfl, rfl⟩⟩ rfl rfl ?_
      refine AOps.pass ⟨22, rfl, .inl ⟨_, rfl, rfl⟩⟩ rfl rfl ?_
      refine AOps.step rfl rfl rfl (AOp.pickF rfl rfl rfl) ?_
      refine AOps.step rfl rfl rfl (AOp.assignD rfl rfl) ?_
      refine AOps.nil ?_
      refine AWP.cond rfl (fun h => nomatch h) (fun _ => ?_)
      refine AWP.seq ?_
      refine AWP.region ?_
      refine AOps.step rfl rfl rfl (AOp.fieldAddr rfl fo_77_3 rfl) ?_
      refine AOps.step rfl rfl rfl (AOp.load rfl sc_3 rfl) ?_
      refine AOps.step rfl rfl rfl (AOp.call rfl (.cons (ArgOk.rfl' rfl) .nil) (c_rDay _)) ?_
      refine AOps.step rfl rfl rfl (AOp.not rfl rfl) ?_
      refine AOps.step rfl rfl rfl (AOp.moveD rfl rfl) ?_
      refine AOps.split 34 rfl (fun g31 => ?_) (fun g31 => ?_)
      · replace g31 := bnot_t g31; replace g31 := of_decide_eq_false g31
        have HF : cpyFault v c b = 1 := ((if_neg hA).trans ((if_neg hB).trans ((if_neg hC).trans ((if_neg hDD).trans (if_pos (.inl g31))))))
        refine AOps.pass ⟨34, rfl, .inl ⟨_, rfl, rfl⟩⟩ rfl rfl ?_
        refine AOps.pass ⟨34, rfl, .inl ⟨_, rfl, rfl⟩⟩ rfl rfl ?_
        refine AOps.pass ⟨34, rfl, .inl ⟨_, rfl, rfl⟩⟩ rfl rfl ?_
        refine AOps.pass ⟨34, rfl, .inl ⟨_, rfl, rfl⟩⟩ rfl rfl ?_
        refine AOps.pass ⟨34, rfl, .inl ⟨_, rfl, rfl⟩⟩ rfl rfl ?_
        refine AOps.pass ⟨34, rfl, .inl ⟨_, rfl, rfl⟩⟩ rfl rfl ?_
        refine AOps.step rfl rfl rfl (AOp.pickT rfl rfl rfl) ?_
        refine AOps.step rfl rfl rfl (AOp.moveD rfl rfl) ?_
        refine AOps.pass ⟨42, rfl, .inl ⟨_, rfl, rfl⟩⟩ rfl rfl ?_
        refine AOps.pass ⟨42, rfl, .inl ⟨_, rfl, rfl⟩⟩ rfl rfl ?_
        refine AOps.pass ⟨42, rfl, .inl ⟨_, rfl, rfl⟩⟩ rfl rfl ?_
        refine AOps.pass ⟨42, rfl, .inl ⟨_, rfl, rfl⟩⟩ rfl rfl ?_
        refine AOps.step rfl rfl rfl (AOp.pickT rfl rfl rfl) ?_
        refine AOps.step rfl rfl rfl (AOp.assignD rfl rfl) ?_
        refine AOps.nil ?_
        refine AWP.cond rfl (fun _ => ?_) (fun h => nomatch h)
        refine AWP.seq ?_
        refine AWP.region ?_
        refine AOps.step rfl rfl rfl (AOp.assignD rfl rfl) ?_
        refine AOps.nil ?_
        refine AWP.ret ?_
        refine ⟨RetD.eq rfl ?_, trivial⟩
        all_goals (rw [HF])
      · replace g31 := bnot_f g31; replace g31 := of_decide_eq_true g31
        have he1 := g31
        refine AOps.step ⟨34, rfl, .inl ⟨_, rfl, rfl⟩⟩ rfl rfl (AOp.fieldAddr rfl fo_77_4 rfl) ?_
        refine AOps.step ⟨34, rfl, .inl ⟨_, rfl, rfl⟩⟩ rfl rfl (AOp.load rfl sc_3 rfl) ?_
        refine AOps.step ⟨34, rfl, .inl ⟨_, rfl, rfl⟩⟩ rfl rfl (AOp.fieldAddr rfl fo_77_3 rfl) ?_
        refine AOps.step ⟨34, rfl, .inl ⟨_, rfl, rfl⟩⟩ rfl rfl (AOp.load rfl sc_3 rfl) ?_
        refine AOps.step ⟨34, rfl, .inl ⟨_, rfl, rfl⟩⟩ rfl rfl (AOp.call rfl (.cons (ArgOk.rfl' rfl) (.cons (ArgOk.rfl' rfl) (.cons (ArgOk.rfl' rfl) .nil))) (c_rWithin _ _ _)) ?_
        refine AOps.step ⟨34, rfl, .inl ⟨_, rfl, rfl⟩⟩ rfl rfl (AOp.not rfl rfl) ?_
        refine AOps.step rfl rfl rfl (AOp.pickF rfl rfl rfl) ?_
        refine AOps.step rfl rfl rfl (AOp.moveD rfl rfl) ?_
        refine AOps.split 42 rfl (fun g32 => ?_) (fun g32 => ?_)
        · replace g32 := bnot_t g32; replace g32 := of_decide_eq_false g32
          have HF : cpyFault v c b = 1 := ((if_neg hA).trans ((if_neg hB).trans ((if_neg hC).trans ((if_neg hDD).trans (if_pos (.inr (.inl g32)))))))
          refine AOps.pass ⟨42, rfl, .inl ⟨_, rfl, rfl⟩⟩ rfl rfl ?_
          refine AOps.pass ⟨42, rfl, .inl ⟨_, rfl, rfl⟩⟩ rfl rfl ?_
          refine AOps.pass ⟨42, rfl, .inl ⟨_, rfl, rfl⟩⟩ rfl rfl ?_
          refine AOps.pass ⟨42, rfl, .inl ⟨_, rfl, rfl⟩⟩ rfl rfl ?_
          refine AOps.step rfl rfl rfl (AOp.pickT rfl rfl rfl) ?_
          refine AOps.step rfl rfl rfl (AOp.assignD rfl rfl) ?_
          refine AOps.nil ?_
          refine AWP.cond rfl (fun _ => ?_) (fun h => nomatch h)
          refine AWP.seq ?_
          refine AWP.region ?_
          refine AOps.step rfl rfl rfl (AOp.assignD rfl rfl) ?_
          refine AOps.nil ?_
          refine AWP.ret ?_
          refine ⟨RetD.eq rfl ?_, trivial⟩
          all_goals (rw [HF])
        · replace g32 := bnot_f g32; replace g32 := of_decide_eq_true g32
          have he2 := g32
          refine AOps.step ⟨42, rfl, .inl ⟨_, rfl, rfl⟩⟩ rfl rfl (AOp.fieldAddr rfl fo_77_5 rfl) ?_
          refine AOps.step ⟨42, rfl, .inl ⟨_, rfl, rfl⟩⟩ rfl rfl (AOp.load rfl sc_3 rfl) ?_
          refine AOps.step ⟨42, rfl, .inl ⟨_, rfl, rfl⟩⟩ rfl rfl (AOp.call rfl (.cons (ArgOk.rfl' rfl) (.cons (ArgOk.rfl' rfl) (.cons (ArgOk.rfl' rfl) .nil))) (c_rWithin _ _ _)) ?_
          refine AOps.step ⟨42, rfl, .inl ⟨_, rfl, rfl⟩⟩ rfl rfl (AOp.not rfl rfl) ?_
          refine AOps.step rfl rfl rfl (AOp.pickF rfl rfl rfl) ?_
          refine AOps.step rfl rfl rfl (AOp.assignD rfl rfl) ?_
          refine AOps.nil ?_
          refine AWP.cond rfl (fun h33 => ?_) (fun h33 => ?_)
          · replace h33 := bnot_t h33; replace h33 := of_decide_eq_false h33
            have HF : cpyFault v c b = 1 := ((if_neg hA).trans ((if_neg hB).trans ((if_neg hC).trans ((if_neg hDD).trans (if_pos (.inr (.inr h33)))))))
            refine AWP.seq ?_
            refine AWP.region ?_
            refine AOps.step rfl rfl rfl (AOp.assignD rfl rfl) ?_
            refine AOps.nil ?_
            refine AWP.ret ?_
            refine ⟨RetD.eq rfl ?_, trivial⟩
            all_goals (rw [HF])
          · replace h33 := bnot_f h33; replace h33 := of_decide_eq_true h33
            have hE : ¬ (¬ (0 ≤ c.day ∧ c.day ≤ 200000) ∨ ¬ (c.day ≤ c.last ∧ c.last ≤ 200000) ∨ ¬ (1 ≤ c.gen ∧ c.gen ≤ 100)) := by omega
            refine AWP.seq ?_
            refine AWP.region ?_
            refine AOps.step rfl rfl rfl (AOp.fieldAddr rfl fo_77_5 rfl) ?_
            refine AOps.step rfl rfl rfl (AOp.load rfl sc_3 rfl) ?_
            refine AOps.step rfl rfl rfl (AOp.eql rfl rfl rfl) ?_
            refine AOps.step rfl rfl rfl (AOp.fieldAddr rfl fo_77_2 rfl) ?_
            refine AOps.step rfl rfl rfl (AOp.load rfl sc_9 rfl) ?_
            refine AOps.step rfl rfl rfl (AOp.seql rfl rfl rfl) ?_
            refine AOps.step rfl rfl rfl (AOp.bneq rfl bt_4 rfl rfl) ?_
            refine AOps.step rfl rfl rfl (AOp.assignD rfl rfl) ?_
            refine AOps.nil ?_
            refine AWP.cond rfl (fun h34 => ?_) (fun h34 => ?_)
            · replace h34 := of_decide_eq_true h34
              have HF : cpyFault v c b = 3 := ((if_neg hA).trans ((if_neg hB).trans ((if_neg hC).trans ((if_neg hDD).trans ((if_neg hE).trans (if_pos h34))))))
              refine AWP.seq ?_
              refine AWP.region ?_
              refine AOps.step rfl rfl rfl (AOp.assignD rfl rfl) ?_
              refine AOps.nil ?_
              refine AWP.ret ?_
              refine ⟨RetD.eq rfl ?_, trivial⟩
              all_goals (rw [HF])
            · replace h34 := of_decide_eq_false h34
              have hG := h34
              have HX : cpyFault v c b = ffst (badFault (itemBlocks v c.item) c.bad) c.bad.length := ((if_neg hA).trans ((if_neg hB).trans ((if_neg hC).trans ((if_neg hDD).trans ((if_neg hE).trans (if_neg hG))))))
              refine AWP.skip ?_
              refine AWP.seq ?_
              refine AWP.seq ?_
              refine AWP.region ?_
              refine AOps.step rfl rfl rfl (AOp.fieldAddr rfl fo_77_6 rfl) ?_
              refine AOps.step rfl rfl rfl (AOp.load rfl sc_75 rfl) ?_
              refine AOps.step rfl rfl rfl (AOp.lenSl rfl et_75.ht rfl) ?_
              refine AOps.step rfl rfl rfl (AOp.moveD rfl rfl) ?_
              refine AOps.nil ?_
              refine AWP.block ?_
              refine AWP.bound 57 rfl (fun hbd => ?_)
              rw [List.length_map] at hbd
              refine AWP.loop (G := Nat) (fun q => Env.of [(59, .d (.v (.int .i64 (q : Int)))), (57, .d (.sl (c.bad.map intD))), (58, .d (.v (.int .i64 ((c.bad.map intD).length : Int)))), (2, .d (.fp v.ds)), (3, .d (.fp c.ds))]) (fun q => []) (fun q => q ≤ c.bad.length ∧ ffst (badFault (itemBlocks v c.item) c.bad) q = 0) (fun q => c.bad.length - q) 0 ⟨Nat.zero_le _, rfl⟩ (Sub.less ⟨(SLe.of_eq rfl), SLe.refl _, SLe.refl _, SLe.refl _, SLe.refl _, trivial⟩ (fun _ h => h)) ?_
              intro q hq
              refine AWP.seq ?_
              refine AWP.region ?_
              refine AOps.step rfl rfl rfl (AOp.lss rfl rfl rfl) ?_
              refine AOps.nil ?_
              refine AWP.seq ?_
              refine AWP.cond rfl (fun h35 => ?_) (fun h35 => ?_)
              · replace h35 := of_decide_eq_true h35
                rw [List.length_map] at h35
                have hlt : q < c.bad.length := by omega
                refine AWP.skip ?_
                refine AWP.seq ?_
                refine AWP.block ?_
                refine AWP.seq ?_
                refine AWP.region ?_
                refine AOps.step rfl rfl rfl (AOp.moveD rfl rfl) ?_
                refine AOps.step rfl rfl rfl (AOp.indexAddr rfl et_75 rfl rfl q rfl (at_list hlt) rfl) ?_
                refine AOps.step rfl rfl rfl (AOp.load rfl sc_3 rfl) ?_
                refine AOps.step rfl rfl rfl (AOp.assignD rfl rfl) ?_
                refine AOps.step rfl rfl rfl (AOp.assignD rfl rfl) ?_
                refine AOps.nil ?_
                refine AWP.seq ?_
                refine AWP.seq ?_
                refine AWP.draw (by kernel_rfl) (by kernel_rfl) ?_
                refine DRun.step rfl rfl rfl (AOp.moveD rfl rfl) ?_
                refine DRun.step rfl rfl rfl (AOp.fieldAddr rfl fo_26_0 rfl) ?_
                refine DRun.step rfl rfl rfl (AOp.load rfl sc_22 rfl) ?_
                refine DRun.step rfl rfl rfl (AOp.loadAgg rfl ag_26 rfl rfl) ?_
                refine DRun.step rfl rfl rfl (AOp.fieldAddr rfl fo_77_0 rfl) ?_
                refine DRun.step rfl rfl rfl (AOp.load rfl sc_9 rfl) ?_
                refine DRun.step rfl rfl rfl (AOp.call rfl (.cons (ArgOk.rfl' rfl) (.cons (ArgOk.rfl' rfl) .nil)) (c_itemOf _ _)) ?_
                refine DRun.step rfl rfl rfl (AOp.indexAddr rfl et_22 rfl rfl ki eki (at_list hki) rfl) ?_
                refine DRun.step rfl rfl rfl (AOp.fieldAddr rfl fo_69_1 rfl) ?_
                refine DRun.step rfl rfl rfl (AOp.load rfl sc_3 rfl) ?_
                refine DRun.step rfl rfl rfl (AOp.sub64 rfl rfl rfl (by omega) (by omega)) ?_
                refine DRun.step rfl rfl rfl (AOp.call rfl (.cons (ArgOk.rfl' rfl) (.cons (ArgOk.rfl' rfl) (.cons (ArgOk.rfl' rfl) .nil))) (c_rWithin _ _ _)) ?_
                refine DRun.step rfl rfl rfl (AOp.not rfl rfl) ?_
                refine DRun.nil ?_
                refine AWP.cond rfl (fun h36 => ?_) (fun h36 => ?_)
                · replace h36 := bnot_t h36; replace h36 := of_decide_eq_false h36
                  have H1 := badFault_1 (n := itemBlocks v c.item) hlt (by rw [hib]; exact h36)
                  have HF : cpyFault v c b = 1 := by rw [HX, ffst_hit hq.2 (by rw [H1]; decide) _ hlt, H1]
                  refine AWP.seq ?_
                  refine AWP.region ?_
                  refine AOps.step rfl rfl rfl (AOp.assignD rfl rfl) ?_
                  refine AOps.nil ?_
                  refine AWP.ret ?_
                  refine ⟨RetD.eq rfl ?_, trivial⟩
                  all_goals (rw [HF])
                · replace h36 := bnot_f h36; replace h36 := of_decide_eq_true h36
                  have h7 : 0 ≤ c.bad[q] ∧ c.bad[q] ≤ itemBlocks v c.item - 1 := by rw [hib]; omega
                  refine AWP.skip ?_
                  refine AWP.seq ?_
                  refine AWP.region ?_
                  refine AOps.step rfl rfl rfl (AOp.moveD rfl rfl) ?_
                  refine AOps.step rfl rfl rfl (AOp.gtr rfl rfl rfl) ?_
                  refine AOps.step rfl rfl rfl (AOp.moveD rfl rfl) ?_
                  refine AOps.split 79 rfl (fun g37 => ?_) (fun g37 => ?_)
                  · replace g37 := of_decide_eq_true g37
                    refine AOps.step ⟨79, rfl, .inl ⟨_, rfl, rfl⟩⟩ rfl rfl (AOp.moveD rfl rfl) ?_
                    refine AOps.step ⟨79, rfl, .inl ⟨_, rfl, rfl⟩⟩ rfl rfl (AOp.fieldAddr rfl fo_77_6 rfl) ?_
                    refine AOps.step ⟨79, rfl, .inl ⟨_, rfl, rfl⟩⟩ rfl rfl (AOp.load rfl sc_75 rfl) ?_
                    refine AOps.step ⟨79, rfl, .inl ⟨_, rfl, rfl⟩⟩ rfl rfl (AOp.moveD rfl rfl) ?_
                    refine AOps.step ⟨79, rfl, .inl ⟨_, rfl, rfl⟩⟩ rfl rfl (AOp.sub64 rfl rfl rfl (by omega) (by omega)) ?_
                    refine AOps.step ⟨79, rfl, .inl ⟨_, rfl, rfl⟩⟩ rfl rfl (AOp.indexAddr rfl et_75 rfl rfl (q - 1) (by omega) (at_list (by omega)) rfl) ?_
                    refine AOps.step ⟨79, rfl, .inl ⟨_, rfl, rfl⟩⟩ rfl rfl (AOp.load rfl sc_3 rfl) ?_
                    refine AOps.step ⟨79, rfl, .inl ⟨_, rfl, rfl⟩⟩ rfl rfl (AOp.leq rfl rfl rfl) ?_
                    refine AOps.step rfl rfl rfl (AOp.pickT rfl rfl rfl) ?_
                    refine AOps.nil ?_
                    refine AWP.cond rfl (fun h38 => ?_) (fun h38 => ?_)
                    · replace h38 := of_decide_eq_true h38
                      have H8 := badFault_8 hlt h7 (by omega) h38
                      have HF : cpyFault v c b = 8 := by rw [HX, ffst_hit hq.2 (by rw [H8]; decide) _ hlt, H8]
                      refine AWP.seq ?_
                      refine AWP.region ?_
                      refine AOps.step rfl rfl rfl (AOp.assignD rfl rfl) ?_
                      refine AOps.nil ?_
                      refine AWP.ret ?_
                      refine ⟨RetD.eq rfl ?_, trivial⟩
                      all_goals (rw [HF])
                    · replace h38 := of_decide_eq_false h38
                      have h8 : 0 < q → ¬ c.bad[q] ≤ c.bad[q-1] := fun _ => h38
                      refine AWP.skip ?_
                      refine AWP.region ?_
                      refine AOps.step rfl rfl rfl (AOp.add64 rfl rfl rfl (by omega) (by omega)) ?_
                      refine AOps.step rfl rfl rfl (AOp.moveD rfl rfl) ?_
                      refine AOps.nil ?_
                      refine ⟨q + 1, ⟨by omega, ffst_next hq.2 (badFault_0 hlt h7 h8)⟩, (by dsimp only; omega), Sub.less ⟨(SLe.of_eq rfl), SLe.refl _, SLe.refl _, SLe.refl _, SLe.refl _, trivial⟩ (fun _ h => h)⟩
                  · replace g37 := of_decide_eq_false g37
                    have h8 : 0 < q → ¬ c.bad[q] ≤ c.bad[q-1] := fun hh => absurd hh (by omega)
                    refine AOps.pass ⟨79, rfl, .inl ⟨_, rfl, rfl⟩⟩ rfl rfl ?_
                    refine AOps.pass ⟨79, rfl, .inl ⟨_, rfl, rfl⟩⟩ rfl rfl ?_
                    refine AOps.pass ⟨79, rfl, .inl ⟨_, rfl, rfl⟩⟩ rfl rfl ?_
                    refine AOps.pass ⟨79, rfl, .inl ⟨_, rfl, rfl⟩⟩ rfl rfl ?_
                    refine AOps.pass ⟨79, rfl, .inl ⟨_, rfl, rfl⟩⟩ rfl rfl ?_
                    refine AOps.pass ⟨79, rfl, .inl ⟨_, rfl, rfl⟩⟩ rfl rfl ?_
                    refine AOps.pass ⟨79, rfl, .inl ⟨_, rfl, rfl⟩⟩ rfl rfl ?_
                    refine AOps.pass ⟨79, rfl, .inl ⟨_, rfl, rfl⟩⟩ rfl rfl ?_
                    refine AOps.step rfl rfl rfl (AOp.pickF rfl rfl rfl) ?_
                    refine AOps.nil ?_
                    refine AWP.cond rfl (fun h => nomatch h) (fun _ => ?_)
                    refine AWP.skip ?_
                    refine AWP.region ?_
                    refine AOps.step rfl rfl rfl (AOp.add64 rfl rfl rfl (by omega) (by omega)) ?_
                    refine AOps.step rfl rfl rfl (AOp.moveD rfl rfl) ?_
                    refine AOps.nil ?_
                    refine ⟨q + 1, ⟨by omega, ffst_next hq.2 (badFault_0 hlt h7 h8)⟩, (by dsimp only; omega), Sub.less ⟨(SLe.of_eq rfl), SLe.refl _, SLe.refl _, SLe.refl _, SLe.refl _, trivial⟩ (fun _ h => h)⟩
              · replace h35 := of_decide_eq_false h35
                rw [List.length_map] at h35
                have HF : cpyFault v c b = 0 := by rw [HX, ← show q = c.bad.length by omega]; exact hq.2
                refine AWP.exit ?_
                refine AWP.seq ?_
                refine AWP.region ?_
                refine AOps.step rfl rfl rfl (AOp.assignD rfl rfl) ?_
                refine AOps.nil ?_
                refine AWP.ret ?_
                refine ⟨RetD.eq rfl ?_, trivial⟩
                all_goals (rw [HF])

set_option maxRecDepth 100000 in
set_option maxHeartbeats 1000000 in
theorem c_pCheck (v : Vlt) (hs : smallV v) : ACall Tryd.prog 9 [.agg v.ds] (.v (.int .i64 (checkV v))) := by
  refine acall_of (n := 150) (ds' := [.v (.int .i64 (checkV v))]) Tryd.func9 rfl (by kernel_rfl) rfl [2] rfl rfl ?_
  intro B w0 F0 fr
  refine AWP.seq ?_
  refine AWP.region ?_
  refine AOps.step rfl rfl rfl (AOp.box rfl rfl rfl) ?_
  refine AOps.step rfl rfl rfl (AOp.assignD rfl rfl) ?_
  refine AOps.nil ?_
  refine AWP.seq ?_
  refine AWP.seq ?_
  refine AWP.region ?_
  refine AOps.step rfl rfl rfl (AOp.fieldAddr rfl fo_26_0 rfl) ?_
  refine AOps.step rfl rfl rfl (AOp.load rfl sc_22 rfl) ?_
  refine AOps.step rfl rfl rfl (AOp.lenSl rfl et_22.ht rfl) ?_
  refine AOps.step rfl rfl rfl (AOp.gtr rfl rfl rfl) ?_
  refine AOps.step rfl rfl rfl (AOp.moveD rfl rfl) ?_
  refine AOps.split 17 rfl (fun g1 => ?_) (fun g1 => ?_)
  · replace g1 := of_decide_eq_true g1
    refine AOps.pass ⟨17, rfl, .inl ⟨_, rfl, rfl⟩⟩ rfl rfl ?_
    refine AOps.pass ⟨17, rfl, .inl ⟨_, rfl, rfl⟩⟩ rfl rfl ?_
    refine AOps.pass ⟨17, rfl, .inl ⟨_, rfl, rfl⟩⟩ rfl rfl ?_
    refine AOps.pass ⟨17, rfl, .inl ⟨_, rfl, rfl⟩⟩ rfl rfl ?_
    refine AOps.step rfl rfl rfl (AOp.pickT rfl rfl rfl) ?_
    refine AOps.step rfl rfl rfl (AOp.moveD rfl rfl) ?_
    refine AOps.pass ⟨23, rfl, .inl ⟨_, rfl, rfl⟩⟩ rfl rfl ?_
    refine AOps.pass ⟨23, rfl, .inl ⟨_, rfl, rfl⟩⟩ rfl rfl ?_
    refine AOps.pass ⟨23, rfl, .inl ⟨_, rfl, rfl⟩⟩ rfl rfl ?_
    refine AOps.pass ⟨23, rfl, .inl ⟨_, rfl, rfl⟩⟩ rfl rfl ?_
    refine AOps.step rfl rfl rfl (AOp.pickT rfl rfl rfl) ?_
    refine AOps.nil ?_
    refine AWP.cond rfl (fun _ => ?_) (fun h => nomatch h)
    refine AWP.seq ?_
    refine AWP.region ?_
    refine AOps.step rfl rfl rfl (AOp.assignD rfl rfl) ?_
    refine AOps.nil ?_
    refine AWP.ret ?_
    refine ⟨RetD.eq rfl ?_, trivial⟩
    all_goals (first | rw [HF] | rw [show checkV v = 2 from if_pos (by unfold largeV; simp only [List.length_map] at *; omega)])
  · replace g1 := of_decide_eq_false g1
    refine AOps.step ⟨17, rfl, .inl ⟨_, rfl, rfl⟩⟩ rfl rfl (AOp.fieldAddr rfl fo_26_1 rfl) ?_
    refine AOps.step ⟨17, rfl, .inl ⟨_, rfl, rfl⟩⟩ rfl rfl (AOp.load rfl sc_23 rfl) ?_
    refine AOps.step ⟨17, rfl, .inl ⟨_, rfl, rfl⟩⟩ rfl rfl (AOp.lenSl rfl et_23.ht rfl) ?_
    refine AOps.step ⟨17, rfl, .inl ⟨_, rfl, rfl⟩⟩ rfl rfl (AOp.gtr rfl rfl rfl) ?_
    refine AOps.step rfl rfl rfl (AOp.pickF rfl rfl rfl) ?_
    refine AOps.step rfl rfl rfl (AOp.moveD rfl rfl) ?_
    refine AOps.split 23 rfl (fun g2 => ?_) (fun g2 => ?_)
    · replace g2 := of_decide_eq_true g2
      refine AOps.pass ⟨23, rfl, .inl ⟨_, rfl, rfl⟩⟩ rfl rfl ?_
      refine AOps.pass ⟨23, rfl, .inl ⟨_, rfl, rfl⟩⟩ rfl rfl ?_
      refine AOps.pass ⟨23, rfl, .inl ⟨_, rfl, rfl⟩⟩ rfl rfl ?_
      refine AOps.pass ⟨23, rfl, .inl ⟨_, rfl, rfl⟩⟩ rfl rfl ?_
      refine AOps.step rfl rfl rfl (AOp.pickT rfl rfl rfl) ?_
      refine AOps.nil ?_
      refine AWP.cond rfl (fun _ => ?_) (fun h => nomatch h)
      refine AWP.seq ?_
      refine AWP.region ?_
      refine AOps.step rfl rfl rfl (AOp.assignD rfl rfl) ?_
      refine AOps.nil ?_
      refine AWP.ret ?_
      refine ⟨RetD.eq rfl ?_, trivial⟩
      all_goals (first | rw [HF] | rw [show checkV v = 2 from if_pos (by unfold largeV; simp only [List.length_map] at *; omega)])
    · replace g2 := of_decide_eq_false g2
      refine AOps.step ⟨23, rfl, .inl ⟨_, rfl, rfl⟩⟩ rfl rfl (AOp.fieldAddr rfl fo_26_2 rfl) ?_
      refine AOps.step ⟨23, rfl, .inl ⟨_, rfl, rfl⟩⟩ rfl rfl (AOp.load rfl sc_24 rfl) ?_
      refine AOps.step ⟨23, rfl, .inl ⟨_, rfl, rfl⟩⟩ rfl rfl (AOp.lenSl rfl et_24.ht rfl) ?_
      refine AOps.step ⟨23, rfl, .inl ⟨_, rfl, rfl⟩⟩ rfl rfl (AOp.gtr rfl rfl rfl) ?_
      refine AOps.step rfl rfl rfl (AOp.pickF rfl rfl rfl) ?_
      refine AOps.nil ?_
      refine AWP.cond rfl (fun h3 => ?_) (fun h3 => ?_)
      · replace h3 := of_decide_eq_true h3
        refine AWP.seq ?_
        refine AWP.region ?_
        refine AOps.step rfl rfl rfl (AOp.assignD rfl rfl) ?_
        refine AOps.nil ?_
        refine AWP.ret ?_
        refine ⟨RetD.eq rfl ?_, trivial⟩
        all_goals (first | rw [HF] | rw [show checkV v = 2 from if_pos (by unfold largeV; simp only [List.length_map] at *; omega)])
      · replace h3 := of_decide_eq_false h3
        have hlg : ¬ largeV v := by unfold largeV; simp only [List.length_map] at *; omega
        refine AWP.skip ?_
        refine AWP.seq ?_
        refine AWP.seq ?_
        refine AWP.region ?_
        refine AOps.step rfl rfl rfl (AOp.fieldAddr rfl fo_26_0 rfl) ?_
        refine AOps.step rfl rfl rfl (AOp.load rfl sc_22 rfl) ?_
        refine AOps.step rfl rfl rfl (AOp.lenSl rfl et_22.ht rfl) ?_
        refine AOps.step rfl rfl rfl (AOp.moveD rfl rfl) ?_
        refine AOps.nil ?_
        refine AWP.block ?_
        have hb30 : v.items.length ≤ 30 := by unfold largeV at hlg; omega
        refine AWP.loop (G := Nat) (fun k => Env.of [(32, .d (.v (.int .i64 (k : Int)))), (30, .d (.sl (v.items.map Item.ds))), (31, .d (.v (.int .i64 ((v.items.map Item.ds).length : Int)))), (1, .d (.fp v.ds))]) (fun k => []) (fun k => k ≤ v.items.length ∧ ffst (itemFault v.items) k = 0) (fun k => v.items.length - k) 0 ⟨Nat.zero_le _, rfl⟩ (Sub.less ⟨(SLe.of_eq rfl), SLe.refl _, SLe.refl _, SLe.refl _, trivial⟩ (fun _ h => h)) ?_
        intro k hk
        refine AWP.seq ?_
        refine AWP.region ?_
        refine AOps.step rfl rfl rfl (AOp.lss rfl rfl rfl) ?_
        refine AOps.nil ?_
        refine AWP.seq ?_
        refine AWP.cond rfl (fun h4 => ?_) (fun h4 => ?_)
        · replace h4 := of_decide_eq_true h4
          rw [List.length_map] at h4
          have hlt : k < v.items.length := by omega
          have hsz := hs.1 _ (List.getElem_mem hlt)
          refine AWP.skip ?_
          refine AWP.seq ?_
          refine AWP.block ?_
          refine AWP.seq ?_
          refine AWP.region ?_
          refine AOps.step rfl rfl rfl (AOp.moveD rfl rfl) ?_
          refine AOps.step rfl rfl rfl (AOp.indexAddr rfl et_22 rfl rfl k rfl (at_list hlt) rfl) ?_
          refine AOps.step rfl rfl rfl (AOp.loadAgg rfl ag_69 rfl rfl) ?_
          refine AOps.alloc 101 rfl rfl rfl rfl zt_69 rfl rfl rfl ?_
          refine AOps.step rfl rfl rfl (AOp.assignD rfl rfl) ?_
          refine AOps.store rfl rfl rfl sz_69 rfl (.head _) rfl rfl rfl (Nat.le_of_ble_eq_true rfl) ?_
          refine AOps.nil ?_
          refine AWP.block ?_
          refine AWP.seq ?_
          refine AWP.region ?_
          refine AOps.step rfl rfl rfl (AOp.fieldAddrP rfl fo_69_0 rfl) ?_
          refine AOps.step rfl rfl rfl (AOp.loadP rfl sc_9 rfl (.head _) rfl) ?_
          refine AOps.step rfl rfl rfl (AOp.call rfl (.cons (ArgOk.rfl' rfl) .nil) (c_pName _ (by assumption))) ?_
          refine AOps.step rfl rfl rfl (AOp.not rfl rfl) ?_
          refine AOps.step rfl rfl rfl (AOp.assignD rfl rfl) ?_
          refine AOps.nil ?_
          refine AWP.cond rfl (fun h5 => ?_) (fun h5 => ?_)
          · replace h5 := bnot_t h5
            have HF := check_items hlg hlt hk.2 (itemFault_5 hlt h5) (by decide)
            refine AWP.seq ?_
            refine AWP.region ?_
            refine AOps.step rfl rfl rfl (AOp.assignD rfl rfl) ?_
            refine AOps.nil ?_
            refine AWP.ret ?_
            refine ⟨RetD.eq rfl ?_, trivial⟩
            all_goals (first | rw [HF] | rw [show checkV v = 2 from if_pos (by unfold largeV; simp only [List.length_map] at *; omega)])
          · replace h5 := bnot_f h5
            have hnm : nameOk v.items[k].name = true := h5
            refine AWP.seq ?_
            refine AWP.draw (by kernel_rfl) (by kernel_rfl) ?_
            refine DRun.step rfl rfl rfl (AOp.moveD rfl rfl) ?_
            refine DRun.step rfl rfl rfl (AOp.gtr rfl rfl rfl) ?_
            refine DRun.step rfl rfl rfl (AOp.moveD rfl rfl) ?_
            refine DRun.split 45 rfl (fun g6 => ?_) (fun g6 => ?_)
            · replace g6 := of_decide_eq_true g6
              refine DRun.step ⟨45, rfl, .inl ⟨_, rfl, rfl⟩⟩ rfl rfl (AOp.fieldAddrP rfl fo_69_0 rfl) ?_
              refine DRun.step ⟨45, rfl, .inl ⟨_, rfl, rfl⟩⟩ rfl rfl (AOp.loadP rfl sc_9 rfl (.head _) rfl) ?_
              refine DRun.step ⟨45, rfl, .inl ⟨_, rfl, rfl⟩⟩ rfl rfl (AOp.fieldAddr rfl fo_26_0 rfl) ?_
              refine DRun.step ⟨45, rfl, .inl ⟨_, rfl, rfl⟩⟩ rfl rfl (AOp.load rfl sc_22 rfl) ?_
              refine DRun.step ⟨45, rfl, .inl ⟨_, rfl, rfl⟩⟩ rfl rfl (AOp.moveD rfl rfl) ?_
              refine DRun.step ⟨45, rfl, .inl ⟨_, rfl, rfl⟩⟩ rfl rfl (AOp.sub64 rfl rfl rfl (by omega) (by omega)) ?_
              refine DRun.step ⟨45, rfl, .inl ⟨_, rfl, rfl⟩⟩ rfl rfl (AOp.indexAddr rfl et_22 rfl rfl (k - 1) (by omega) (at_list (by omega)) rfl) ?_
              refine DRun.step ⟨45, rfl, .inl ⟨_, rfl, rfl⟩⟩ rfl rfl (AOp.fieldAddr rfl fo_69_0 rfl) ?_
              refine DRun.step ⟨45, rfl, .inl ⟨_, rfl, rfl⟩⟩ rfl rfl (AOp.load rfl sc_9 rfl) ?_
              refine DRun.step ⟨45, rfl, .inl ⟨_, rfl, rfl⟩⟩ rfl rfl (AOp.sleq rfl rfl rfl) ?_
              refine DRun.step rfl rfl rfl (AOp.pickT rfl rfl rfl) ?_
              refine DRun.step rfl rfl rfl (AOp.assignD rfl rfl) ?_
              refine DRun.nil ?_
              refine AWP.cond rfl (fun h7 => ?_) (fun h7 => ?_)
              · skip
                have HF := check_items hlg hlt hk.2 (itemFault_8 hlt hnm (by omega) h7) (by decide)
                refine AWP.seq ?_
                refine AWP.region ?_
                refine AOps.step rfl rfl rfl (AOp.assignD rfl rfl) ?_
                refine AOps.nil ?_
                refine AWP.ret ?_
                refine ⟨RetD.eq rfl ?_, trivial⟩
                all_goals (first | rw [HF] | rw [show checkV v = 2 from if_pos (by unfold largeV; simp only [List.length_map] at *; omega)])
              · skip
                have hs := h7
                refine AWP.seq ?_
                refine AWP.region ?_
                refine AOps.step rfl rfl rfl (AOp.fieldAddrP rfl fo_69_1 rfl) ?_
                refine AOps.step rfl rfl rfl (AOp.loadP rfl sc_3 rfl (.head _) rfl) ?_
                refine AOps.step rfl rfl rfl (AOp.call rfl (.cons (ArgOk.rfl' rfl) (.cons (ArgOk.rfl' rfl) (.cons (ArgOk.rfl' rfl) .nil))) (c_pWithin _ _ _)) ?_
                refine AOps.step rfl rfl rfl (AOp.not rfl rfl) ?_
                refine AOps.step rfl rfl rfl (AOp.assignD rfl rfl) ?_
                refine AOps.nil ?_
                refine AWP.cond rfl (fun h8 => ?_) (fun h8 => ?_)
                · replace h8 := bnot_t h8; replace h8 := of_decide_eq_false h8
                  have HF := check_items hlg hlt hk.2 (itemFault_1 hlt hnm (by first | exact fun _ => hs | exact fun h => absurd h (by omega)) h8) (by decide)
                  refine AWP.seq ?_
                  refine AWP.region ?_
                  refine AOps.step rfl rfl rfl (AOp.assignD rfl rfl) ?_
                  refine AOps.nil ?_
                  refine AWP.ret ?_
                  refine ⟨RetD.eq rfl ?_, trivial⟩
                  all_goals (first | rw [HF] | rw [show checkV v = 2 from if_pos (by unfold largeV; simp only [List.length_map] at *; omega)])
                · replace h8 := bnot_f h8; replace h8 := of_decide_eq_true h8
                  have H0 := itemFault_0 hlt hnm (by first | exact fun _ => hs | exact fun h => absurd h (by omega)) h8
                  refine AWP.skip ?_
                  refine AWP.region ?_
                  refine AOps.step rfl rfl rfl (AOp.add64 rfl rfl rfl (by omega) (by omega)) ?_
                  refine AOps.step rfl rfl rfl (AOp.moveD rfl rfl) ?_
                  refine AOps.nil ?_
                  refine ⟨k + 1, ⟨by omega, ffst_next hk.2 H0⟩, (by dsimp only; omega), Sub.less ⟨(SLe.of_eq rfl), SLe.refl _, SLe.refl _, SLe.refl _, trivial⟩ (fun _ h => by cases h)⟩
            · replace g6 := of_decide_eq_false g6
              refine DRun.pass ⟨45, rfl, .inl ⟨_, rfl, rfl⟩⟩ rfl rfl ?_
              refine DRun.pass ⟨45, rfl, .inl ⟨_, rfl, rfl⟩⟩ rfl rfl ?_
              refine DRun.pass ⟨45, rfl, .inl ⟨_, rfl, rfl⟩⟩ rfl rfl ?_
              refine DRun.pass ⟨45, rfl, .inl ⟨_, rfl, rfl⟩⟩ rfl rfl ?_
              refine DRun.pass ⟨45, rfl, .inl ⟨_, rfl, rfl⟩⟩ rfl rfl ?_
              refine DRun.pass ⟨45, rfl, .inl ⟨_, rfl, rfl⟩⟩ rfl rfl ?_
              refine DRun.pass ⟨45, rfl, .inl ⟨_, rfl, rfl⟩⟩ rfl rfl ?_
              refine DRun.pass ⟨45, rfl, .inl ⟨_, rfl, rfl⟩⟩ rfl rfl ?_
              refine DRun.pass ⟨45, rfl, .inl ⟨_, rfl, rfl⟩⟩ rfl rfl ?_
              refine DRun.pass ⟨45, rfl, .inl ⟨_, rfl, rfl⟩⟩ rfl rfl ?_
              refine DRun.step rfl rfl rfl (AOp.pickF rfl rfl rfl) ?_
              refine DRun.step rfl rfl rfl (AOp.assignD rfl rfl) ?_
              refine DRun.nil ?_
              refine AWP.cond rfl (fun h => nomatch h) (fun _ => ?_)
              refine AWP.seq ?_
              refine AWP.region ?_
              refine AOps.step rfl rfl rfl (AOp.fieldAddrP rfl fo_69_1 rfl) ?_
              refine AOps.step rfl rfl rfl (AOp.loadP rfl sc_3 rfl (.head _) rfl) ?_
              refine AOps.step rfl rfl rfl (AOp.call rfl (.cons (ArgOk.rfl' rfl) (.cons (ArgOk.rfl' rfl) (.cons (ArgOk.rfl' rfl) .nil))) (c_pWithin _ _ _)) ?_
              refine AOps.step rfl rfl rfl (AOp.not rfl rfl) ?_
              refine AOps.step rfl rfl rfl (AOp.assignD rfl rfl) ?_
              refine AOps.nil ?_
              refine AWP.cond rfl (fun h9 => ?_) (fun h9 => ?_)
              · replace h9 := bnot_t h9; replace h9 := of_decide_eq_false h9
                have HF := check_items hlg hlt hk.2 (itemFault_1 hlt hnm (by first | exact fun _ => hs | exact fun h => absurd h (by omega)) h9) (by decide)
                refine AWP.seq ?_
                refine AWP.region ?_
                refine AOps.step rfl rfl rfl (AOp.assignD rfl rfl) ?_
                refine AOps.nil ?_
                refine AWP.ret ?_
                refine ⟨RetD.eq rfl ?_, trivial⟩
                all_goals (first | rw [HF] | rw [show checkV v = 2 from if_pos (by unfold largeV; simp only [List.length_map] at *; omega)])
              · replace h9 := bnot_f h9; replace h9 := of_decide_eq_true h9
                have H0 := itemFault_0 hlt hnm (by first | exact fun _ => hs | exact fun h => absurd h (by omega)) h9
                refine AWP.skip ?_
                refine AWP.region ?_
                refine AOps.step rfl rfl rfl (AOp.add64 rfl rfl rfl (by omega) (by omega)) ?_
                refine AOps.step rfl rfl rfl (AOp.moveD rfl rfl) ?_
                refine AOps.nil ?_
                refine ⟨k + 1, ⟨by omega, ffst_next hk.2 H0⟩, (by dsimp only; omega), Sub.less ⟨(SLe.of_eq rfl), SLe.refl _, SLe.refl _, SLe.refl _, trivial⟩ (fun _ h => by cases h)⟩
        · replace h4 := of_decide_eq_false h4
          rw [List.length_map] at h4
          have hI : ffst (itemFault v.items) v.items.length = 0 := by rw [← show k = v.items.length by omega]; exact hk.2
          refine AWP.exit ?_
          refine AWP.seq ?_
          refine AWP.seq ?_
          refine AWP.region ?_
          refine AOps.step rfl rfl rfl (AOp.fieldAddr rfl fo_26_1 rfl) ?_
          refine AOps.step rfl rfl rfl (AOp.load rfl sc_23 rfl) ?_
          refine AOps.step rfl rfl rfl (AOp.lenSl rfl et_23.ht rfl) ?_
          refine AOps.step rfl rfl rfl (AOp.moveD rfl rfl) ?_
          refine AOps.nil ?_
          refine AWP.block ?_
          have hb16 : v.carrs.length ≤ 16 := by unfold largeV at hlg; omega
          refine AWP.loop (G := Nat) (fun j => Env.of [(66, .d (.v (.int .i64 (j : Int)))), (64, .d (.sl (v.carrs.map Carr.ds))), (65, .d (.v (.int .i64 ((v.carrs.map Carr.ds).length : Int)))), (1, .d (.fp v.ds))]) (fun j => []) (fun j => j ≤ v.carrs.length ∧ ffst (carrFault v.carrs) j = 0) (fun j => v.carrs.length - j) 0 ⟨Nat.zero_le _, rfl⟩ (Sub.less ⟨(SLe.of_eq rfl), SLe.refl _, SLe.refl _, SLe.refl _, trivial⟩ (fun _ h => h)) ?_
          intro j hj
          refine AWP.seq ?_
          refine AWP.region ?_
          refine AOps.step rfl rfl rfl (AOp.lss rfl rfl rfl) ?_
          refine AOps.nil ?_
          refine AWP.seq ?_
          refine AWP.cond rfl (fun h10 => ?_) (fun h10 => ?_)
          · replace h10 := of_decide_eq_true h10
            rw [List.length_map] at h10
            have hlt : j < v.carrs.length := by omega
            obtain ⟨hsz1, hsz2, hsz3⟩ := hs.2 _ (List.getElem_mem hlt)
            refine AWP.skip ?_
            refine AWP.seq ?_
            refine AWP.block ?_
            refine AWP.seq ?_
            refine AWP.region ?_
            refine AOps.step rfl rfl rfl (AOp.moveD rfl rfl) ?_
            refine AOps.step rfl rfl rfl (AOp.indexAddr rfl et_23 rfl rfl j rfl (at_list hlt) rfl) ?_
            refine AOps.step rfl rfl rfl (AOp.loadAgg rfl ag_73 rfl rfl) ?_
            refine AOps.alloc 102 rfl rfl rfl rfl zt_73 rfl rfl rfl ?_
            refine AOps.step rfl rfl rfl (AOp.assignD rfl rfl) ?_
            refine AOps.store rfl rfl rfl sz_73 rfl (.head _) rfl rfl rfl (Nat.le_of_ble_eq_true rfl) ?_
            refine AOps.nil ?_
            refine AWP.block ?_
            refine AWP.seq ?_
            refine AWP.region ?_
            refine AOps.step rfl rfl rfl (AOp.fieldAddrP rfl fo_73_0 rfl) ?_
            refine AOps.step rfl rfl rfl (AOp.loadP rfl sc_9 rfl (.head _) rfl) ?_
            refine AOps.step rfl rfl rfl (AOp.call rfl (.cons (ArgOk.rfl' rfl) .nil) (c_pName _ (by assumption))) ?_
            refine AOps.step rfl rfl rfl (AOp.not rfl rfl) ?_
            refine AOps.step rfl rfl rfl (AOp.moveD rfl rfl) ?_
            refine AOps.split 76 rfl (fun g11 => ?_) (fun g11 => ?_)
            · replace g11 := bnot_t g11
              have HF := check_carrs hlg hI hlt hj.2 (carrFault_5 hlt (.inl g11)) (by decide)
              refine AOps.pass ⟨76, rfl, .inl ⟨_, rfl, rfl⟩⟩ rfl rfl ?_
              refine AOps.pass ⟨76, rfl, .inl ⟨_, rfl, rfl⟩⟩ rfl rfl ?_
              refine AOps.pass ⟨76, rfl, .inl ⟨_, rfl, rfl⟩⟩ rfl rfl ?_
              refine AOps.pass ⟨76, rfl, .inl ⟨_, rfl, rfl⟩⟩ rfl rfl ?_
              refine AOps.step rfl rfl rfl (AOp.pickT rfl rfl rfl) ?_
              refine AOps.step rfl rfl rfl (AOp.moveD rfl rfl) ?_
              refine AOps.pass ⟨82, rfl, .inl ⟨_, rfl, rfl⟩⟩ rfl rfl ?_
              refine AOps.pass ⟨82, rfl, .inl ⟨_, rfl, rfl⟩⟩ rfl rfl ?_
              refine AOps.pass ⟨82, rfl, .inl ⟨_, rfl, rfl⟩⟩ rfl rfl ?_
              refine AOps.pass ⟨82, rfl, .inl ⟨_, rfl, rfl⟩⟩ rfl rfl ?_
              refine AOps.step rfl rfl rfl (AOp.pickT rfl rfl rfl) ?_
              refine AOps.step rfl rfl rfl (AOp.assignD rfl rfl) ?_
              refine AOps.nil ?_
              refine AWP.cond rfl (fun _ => ?_) (fun h => nomatch h)
              refine AWP.seq ?_
              refine AWP.region ?_
              refine AOps.step rfl rfl rfl (AOp.assignD rfl rfl) ?_
              refine AOps.nil ?_
              refine AWP.ret ?_
              refine ⟨RetD.eq rfl ?_, trivial⟩
              all_goals (first | rw [HF] | rw [show checkV v = 2 from if_pos (by unfold largeV; simp only [List.length_map] at *; omega)])
            · replace g11 := bnot_f g11
              have hn1 := g11
              refine AOps.step ⟨76, rfl, .inl ⟨_, rfl, rfl⟩⟩ rfl rfl (AOp.fieldAddrP rfl fo_73_1 rfl) ?_
              refine AOps.step ⟨76, rfl, .inl ⟨_, rfl, rfl⟩⟩ rfl rfl (AOp.loadP rfl sc_9 rfl (.head _) rfl) ?_
              refine AOps.step ⟨76, rfl, .inl ⟨_, rfl, rfl⟩⟩ rfl rfl (AOp.call rfl (.cons (ArgOk.rfl' rfl) .nil) (c_pName _ (by assumption))) ?_
              refine AOps.step ⟨76, rfl, .inl ⟨_, rfl, rfl⟩⟩ rfl rfl (AOp.not rfl rfl) ?_
              refine AOps.step rfl rfl rfl (AOp.pickF rfl rfl rfl) ?_
              refine AOps.step rfl rfl rfl (AOp.moveD rfl rfl) ?_
              refine AOps.split 82 rfl (fun g12 => ?_) (fun g12 => ?_)
              · replace g12 := bnot_t g12
                have HF := check_carrs hlg hI hlt hj.2 (carrFault_5 hlt (.inr (.inl g12))) (by decide)
                refine AOps.pass ⟨82, rfl, .inl ⟨_, rfl, rfl⟩⟩ rfl rfl ?_
                refine AOps.pass ⟨82, rfl, .inl ⟨_, rfl, rfl⟩⟩ rfl rfl ?_
                refine AOps.pass ⟨82, rfl, .inl ⟨_, rfl, rfl⟩⟩ rfl rfl ?_
                refine AOps.pass ⟨82, rfl, .inl ⟨_, rfl, rfl⟩⟩ rfl rfl ?_
                refine AOps.step rfl rfl rfl (AOp.pickT rfl rfl rfl) ?_
                refine AOps.step rfl rfl rfl (AOp.assignD rfl rfl) ?_
                refine AOps.nil ?_
                refine AWP.cond rfl (fun _ => ?_) (fun h => nomatch h)
                refine AWP.seq ?_
                refine AWP.region ?_
                refine AOps.step rfl rfl rfl (AOp.assignD rfl rfl) ?_
                refine AOps.nil ?_
                refine AWP.ret ?_
                refine ⟨RetD.eq rfl ?_, trivial⟩
                all_goals (first | rw [HF] | rw [show checkV v = 2 from if_pos (by unfold largeV; simp only [List.length_map] at *; omega)])
              · replace g12 := bnot_f g12
                have hn2 := g12
                refine AOps.step ⟨82, rfl, .inl ⟨_, rfl, rfl⟩⟩ rfl rfl (AOp.fieldAddrP rfl fo_73_2 rfl) ?_
                refine AOps.step ⟨82, rfl, .inl ⟨_, rfl, rfl⟩⟩ rfl rfl (AOp.loadP rfl sc_9 rfl (.head _) rfl) ?_
                refine AOps.step ⟨82, rfl, .inl ⟨_, rfl, rfl⟩⟩ rfl rfl (AOp.call rfl (.cons (ArgOk.rfl' rfl) .nil) (c_pName _ (by assumption))) ?_
                refine AOps.step ⟨82, rfl, .inl ⟨_, rfl, rfl⟩⟩ rfl rfl (AOp.not rfl rfl) ?_
                refine AOps.step rfl rfl rfl (AOp.pickF rfl rfl rfl) ?_
                refine AOps.step rfl rfl rfl (AOp.assignD rfl rfl) ?_
                refine AOps.nil ?_
                refine AWP.cond rfl (fun h13 => ?_) (fun h13 => ?_)
                · replace h13 := bnot_t h13
                  have HF := check_carrs hlg hI hlt hj.2 (carrFault_5 hlt (.inr (.inr h13))) (by decide)
                  refine AWP.seq ?_
                  refine AWP.region ?_
                  refine AOps.step rfl rfl rfl (AOp.assignD rfl rfl) ?_
                  refine AOps.nil ?_
                  refine AWP.ret ?_
                  refine ⟨RetD.eq rfl ?_, trivial⟩
                  all_goals (first | rw [HF] | rw [show checkV v = 2 from if_pos (by unfold largeV; simp only [List.length_map] at *; omega)])
                · replace h13 := bnot_f h13
                  have hnm : nameOk v.carrs[j].name = true ∧ nameOk v.carrs[j].place = true ∧ nameOk v.carrs[j].kind = true := ⟨hn1, hn2, h13⟩
                  refine AWP.seq ?_
                  refine AWP.draw (by kernel_rfl) (by kernel_rfl) ?_
                  refine DRun.step rfl rfl rfl (AOp.moveD rfl rfl) ?_
                  refine DRun.step rfl rfl rfl (AOp.gtr rfl rfl rfl) ?_
                  refine DRun.step rfl rfl rfl (AOp.moveD rfl rfl) ?_
                  refine DRun.split 91 rfl (fun g14 => ?_) (fun g14 => ?_)
                  · replace g14 := of_decide_eq_true g14
                    refine DRun.step ⟨91, rfl, .inl ⟨_, rfl, rfl⟩⟩ rfl rfl (AOp.fieldAddrP rfl fo_73_0 rfl) ?_
                    refine DRun.step ⟨91, rfl, .inl ⟨_, rfl, rfl⟩⟩ rfl rfl (AOp.loadP rfl sc_9 rfl (.head _) rfl) ?_
                    refine DRun.step ⟨91, rfl, .inl ⟨_, rfl, rfl⟩⟩ rfl rfl (AOp.fieldAddr rfl fo_26_1 rfl) ?_
                    refine DRun.step ⟨91, rfl, .inl ⟨_, rfl, rfl⟩⟩ rfl rfl (AOp.load rfl sc_23 rfl) ?_
                    refine DRun.step ⟨91, rfl, .inl ⟨_, rfl, rfl⟩⟩ rfl rfl (AOp.moveD rfl rfl) ?_
                    refine DRun.step ⟨91, rfl, .inl ⟨_, rfl, rfl⟩⟩ rfl rfl (AOp.sub64 rfl rfl rfl (by omega) (by omega)) ?_
                    refine DRun.step ⟨91, rfl, .inl ⟨_, rfl, rfl⟩⟩ rfl rfl (AOp.indexAddr rfl et_23 rfl rfl (j - 1) (by omega) (at_list (by omega)) rfl) ?_
                    refine DRun.step ⟨91, rfl, .inl ⟨_, rfl, rfl⟩⟩ rfl rfl (AOp.fieldAddr rfl fo_73_0 rfl) ?_
                    refine DRun.step ⟨91, rfl, .inl ⟨_, rfl, rfl⟩⟩ rfl rfl (AOp.load rfl sc_9 rfl) ?_
                    refine DRun.step ⟨91, rfl, .inl ⟨_, rfl, rfl⟩⟩ rfl rfl (AOp.sleq rfl rfl rfl) ?_
                    refine DRun.step rfl rfl rfl (AOp.pickT rfl rfl rfl) ?_
                    refine DRun.step rfl rfl rfl (AOp.assignD rfl rfl) ?_
                    refine DRun.nil ?_
                    refine AWP.cond rfl (fun h15 => ?_) (fun h15 => ?_)
                    · skip
                      have HF := check_carrs hlg hI hlt hj.2 (carrFault_8 hlt hnm (by omega) h15) (by decide)
                      refine AWP.seq ?_
                      refine AWP.region ?_
                      refine AOps.step rfl rfl rfl (AOp.assignD rfl rfl) ?_
                      refine AOps.nil ?_
                      refine AWP.ret ?_
                      refine ⟨RetD.eq rfl ?_, trivial⟩
                      all_goals (first | rw [HF] | rw [show checkV v = 2 from if_pos (by unfold largeV; simp only [List.length_map] at *; omega)])
                    · skip
                      have hs := h15
                      refine AWP.seq ?_
                      refine AWP.region ?_
                      refine AOps.step rfl rfl rfl (AOp.fieldAddrP rfl fo_73_3 rfl) ?_
                      refine AOps.step rfl rfl rfl (AOp.loadP rfl sc_3 rfl (.head _) rfl) ?_
                      refine AOps.step rfl rfl rfl (AOp.call rfl (.cons (ArgOk.rfl' rfl) .nil) (c_pDay _)) ?_
                      refine AOps.step rfl rfl rfl (AOp.not rfl rfl) ?_
                      refine AOps.step rfl rfl rfl (AOp.moveD rfl rfl) ?_
                      refine AOps.split 108 rfl (fun g16 => ?_) (fun g16 => ?_)
                      · replace g16 := bnot_t g16; replace g16 := of_decide_eq_false g16
                        have HF := check_carrs hlg hI hlt hj.2 (carrFault_1 hlt hnm (by first | exact fun _ => hs | exact fun h => absurd h (by omega)) (.inl g16)) (by decide)
                        refine AOps.pass ⟨108, rfl, .inl ⟨_, rfl, rfl⟩⟩ rfl rfl ?_
                        refine AOps.pass ⟨108, rfl, .inl ⟨_, rfl, rfl⟩⟩ rfl rfl ?_
                        refine AOps.pass ⟨108, rfl, .inl ⟨_, rfl, rfl⟩⟩ rfl rfl ?_
                        refine AOps.pass ⟨108, rfl, .inl ⟨_, rfl, rfl⟩⟩ rfl rfl ?_
                        refine AOps.step rfl rfl rfl (AOp.pickT rfl rfl rfl) ?_
                        refine AOps.step rfl rfl rfl (AOp.assignD rfl rfl) ?_
                        refine AOps.nil ?_
                        refine AWP.cond rfl (fun _ => ?_) (fun h => nomatch h)
                        refine AWP.seq ?_
                        refine AWP.region ?_
                        refine AOps.step rfl rfl rfl (AOp.assignD rfl rfl) ?_
                        refine AOps.nil ?_
                        refine AWP.ret ?_
                        refine ⟨RetD.eq rfl ?_, trivial⟩
                        all_goals (first | rw [HF] | rw [show checkV v = 2 from if_pos (by unfold largeV; simp only [List.length_map] at *; omega)])
                      · replace g16 := bnot_f g16; replace g16 := of_decide_eq_true g16
                        have hd := g16
                        refine AOps.step ⟨108, rfl, .inl ⟨_, rfl, rfl⟩⟩ rfl rfl (AOp.fieldAddrP rfl fo_73_4 rfl) ?_
                        refine AOps.step ⟨108, rfl, .inl ⟨_, rfl, rfl⟩⟩ rfl rfl (AOp.loadP rfl sc_3 rfl (.head _) rfl) ?_
                        refine AOps.step ⟨108, rfl, .inl ⟨_, rfl, rfl⟩⟩ rfl rfl (AOp.call rfl (.cons (ArgOk.rfl' rfl) (.cons (ArgOk.rfl' rfl) (.cons (ArgOk.rfl' rfl) .nil))) (c_pWithin _ _ _)) ?_
                        refine AOps.step ⟨108, rfl, .inl ⟨_, rfl, rfl⟩⟩ rfl rfl (AOp.not rfl rfl) ?_
                        refine AOps.step rfl rfl rfl (AOp.pickF rfl rfl rfl) ?_
                        refine AOps.step rfl rfl rfl (AOp.assignD rfl rfl) ?_
                        refine AOps.nil ?_
                        refine AWP.cond rfl (fun h17 => ?_) (fun h17 => ?_)
                        · replace h17 := bnot_t h17; replace h17 := of_decide_eq_false h17
                          have HF := check_carrs hlg hI hlt hj.2 (carrFault_1 hlt hnm (by first | exact fun _ => hs | exact fun h => absurd h (by omega)) (.inr h17)) (by decide)
                          refine AWP.seq ?_
                          refine AWP.region ?_
                          refine AOps.step rfl rfl rfl (AOp.assignD rfl rfl) ?_
                          refine AOps.nil ?_
                          refine AWP.ret ?_
                          refine ⟨RetD.eq rfl ?_, trivial⟩
                          all_goals (first | rw [HF] | rw [show checkV v = 2 from if_pos (by unfold largeV; simp only [List.length_map] at *; omega)])
                        · replace h17 := bnot_f h17; replace h17 := of_decide_eq_true h17
                          have H0 := carrFault_0 hlt hnm (by first | exact fun _ => hs | exact fun h => absurd h (by omega)) hd h17
                          refine AWP.skip ?_
                          refine AWP.region ?_
                          refine AOps.step rfl rfl rfl (AOp.add64 rfl rfl rfl (by omega) (by omega)) ?_
                          refine AOps.step rfl rfl rfl (AOp.moveD rfl rfl) ?_
                          refine AOps.nil ?_
                          refine ⟨j + 1, ⟨by omega, ffst_next hj.2 H0⟩, (by dsimp only; omega), Sub.less ⟨(SLe.of_eq rfl), SLe.refl _, SLe.refl _, SLe.refl _, trivial⟩ (fun _ h => by cases h)⟩
                  · replace g14 := of_decide_eq_false g14
                    refine DRun.pass ⟨91, rfl, .inl ⟨_, rfl, rfl⟩⟩ rfl rfl ?_
                    refine DRun.pass ⟨91, rfl, .inl ⟨_, rfl, rfl⟩⟩ rfl rfl ?_
                    refine DRun.pass ⟨91, rfl, .inl ⟨_, rfl, rfl⟩⟩ rfl rfl ?_
                    refine DRun.pass ⟨91, rfl, .inl ⟨_, rfl, rfl⟩⟩ rfl rfl ?_
                    refine DRun.pass ⟨91, rfl, .inl ⟨_, rfl, rfl⟩⟩ rfl rfl ?_
                    refine DRun.pass ⟨91, rfl, .inl ⟨_, rfl, rfl⟩⟩ rfl rfl ?_
                    refine DRun.pass ⟨91, rfl, .inl ⟨_, rfl, rfl⟩⟩ rfl rfl ?_
                    refine DRun.pass ⟨91, rfl, .inl ⟨_, rfl, rfl⟩⟩ rfl rfl ?_
                    refine DRun.pass ⟨91, rfl, .inl ⟨_, rfl, rfl⟩⟩ rfl rfl ?_
                    refine DRun.pass ⟨91, rfl, .inl ⟨_, rfl, rfl⟩⟩ rfl rfl ?_
                    refine DRun.step rfl rfl rfl (AOp.pickF rfl rfl rfl) ?_
                    refine DRun.step rfl rfl rfl (AOp.assignD rfl rfl) ?_
                    refine DRun.nil ?_
                    refine AWP.cond rfl (fun h => nomatch h) (fun _ => ?_)
                    refine AWP.seq ?_
                    refine AWP.region ?_
                    refine AOps.step rfl rfl rfl (AOp.fieldAddrP rfl fo_73_3 rfl) ?_
                    refine AOps.step rfl rfl rfl (AOp.loadP rfl sc_3 rfl (.head _) rfl) ?_
                    refine AOps.step rfl rfl rfl (AOp.call rfl (.cons (ArgOk.rfl' rfl) .nil) (c_pDay _)) ?_
                    refine AOps.step rfl rfl rfl (AOp.not rfl rfl) ?_
                    refine AOps.step rfl rfl rfl (AOp.moveD rfl rfl) ?_
                    refine AOps.split 108 rfl (fun g18 => ?_) (fun g18 => ?_)
                    · replace g18 := bnot_t g18; replace g18 := of_decide_eq_false g18
                      have HF := check_carrs hlg hI hlt hj.2 (carrFault_1 hlt hnm (by first | exact fun _ => hs | exact fun h => absurd h (by omega)) (.inl g18)) (by decide)
                      refine AOps.pass ⟨108, rfl, .inl ⟨_, rfl, rfl⟩⟩ rfl rfl ?_
                      refine AOps.pass ⟨108, rfl, .inl ⟨_, rfl, rfl⟩⟩ rfl rfl ?_
                      refine AOps.pass ⟨108, rfl, .inl ⟨_, rfl, rfl⟩⟩ rfl rfl ?_
                      refine AOps.pass ⟨108, rfl, .inl ⟨_, rfl, rfl⟩⟩ rfl rfl ?_
                      refine AOps.step rfl rfl rfl (AOp.pickT rfl rfl rfl) ?_
                      refine AOps.step rfl rfl rfl (AOp.assignD rfl rfl) ?_
                      refine AOps.nil ?_
                      refine AWP.cond rfl (fun _ => ?_) (fun h => nomatch h)
                      refine AWP.seq ?_
                      refine AWP.region ?_
                      refine AOps.step rfl rfl rfl (AOp.assignD rfl rfl) ?_
                      refine AOps.nil ?_
                      refine AWP.ret ?_
                      refine ⟨RetD.eq rfl ?_, trivial⟩
                      all_goals (first | rw [HF] | rw [show checkV v = 2 from if_pos (by unfold largeV; simp only [List.length_map] at *; omega)])
                    · replace g18 := bnot_f g18; replace g18 := of_decide_eq_true g18
                      have hd := g18
                      refine AOps.step ⟨108, rfl, .inl ⟨_, rfl, rfl⟩⟩ rfl rfl (AOp.fieldAddrP rfl fo_73_4 rfl) ?_
                      refine AOps.step ⟨108, rfl, .inl ⟨_, rfl, rfl⟩⟩ rfl rfl (AOp.loadP rfl sc_3 rfl (.head _) rfl) ?_
                      refine AOps.step ⟨108, rfl, .inl ⟨_, rfl, rfl⟩⟩ rfl rfl (AOp.call rfl (.cons (ArgOk.rfl' rfl) (.cons (ArgOk.rfl' rfl) (.cons (ArgOk.rfl' rfl) .nil))) (c_pWithin _ _ _)) ?_
                      refine AOps.step ⟨108, rfl, .inl ⟨_, rfl, rfl⟩⟩ rfl rfl (AOp.not rfl rfl) ?_
                      refine AOps.step rfl rfl rfl (AOp.pickF rfl rfl rfl) ?_
                      refine AOps.step rfl rfl rfl (AOp.assignD rfl rfl) ?_
                      refine AOps.nil ?_
                      refine AWP.cond rfl (fun h19 => ?_) (fun h19 => ?_)
                      · replace h19 := bnot_t h19; replace h19 := of_decide_eq_false h19
                        have HF := check_carrs hlg hI hlt hj.2 (carrFault_1 hlt hnm (by first | exact fun _ => hs | exact fun h => absurd h (by omega)) (.inr h19)) (by decide)
                        refine AWP.seq ?_
                        refine AWP.region ?_
                        refine AOps.step rfl rfl rfl (AOp.assignD rfl rfl) ?_
                        refine AOps.nil ?_
                        refine AWP.ret ?_
                        refine ⟨RetD.eq rfl ?_, trivial⟩
                        all_goals (first | rw [HF] | rw [show checkV v = 2 from if_pos (by unfold largeV; simp only [List.length_map] at *; omega)])
                      · replace h19 := bnot_f h19; replace h19 := of_decide_eq_true h19
                        have H0 := carrFault_0 hlt hnm (by first | exact fun _ => hs | exact fun h => absurd h (by omega)) hd h19
                        refine AWP.skip ?_
                        refine AWP.region ?_
                        refine AOps.step rfl rfl rfl (AOp.add64 rfl rfl rfl (by omega) (by omega)) ?_
                        refine AOps.step rfl rfl rfl (AOp.moveD rfl rfl) ?_
                        refine AOps.nil ?_
                        refine ⟨j + 1, ⟨by omega, ffst_next hj.2 H0⟩, (by dsimp only; omega), Sub.less ⟨(SLe.of_eq rfl), SLe.refl _, SLe.refl _, SLe.refl _, trivial⟩ (fun _ h => by cases h)⟩
          · replace h10 := of_decide_eq_false h10
            rw [List.length_map] at h10
            have hC : ffst (carrFault v.carrs) v.carrs.length = 0 := by rw [← show j = v.carrs.length by omega]; exact hj.2
            refine AWP.exit ?_
            refine AWP.seq ?_
            refine AWP.seq ?_
            refine AWP.region ?_
            refine AOps.step rfl rfl rfl (AOp.fieldAddr rfl fo_26_2 rfl) ?_
            refine AOps.step rfl rfl rfl (AOp.load rfl sc_24 rfl) ?_
            refine AOps.step rfl rfl rfl (AOp.lenSl rfl et_24.ht rfl) ?_
            refine AOps.step rfl rfl rfl (AOp.moveD rfl rfl) ?_
            refine AOps.nil ?_
            refine AWP.block ?_
            have hb200 : v.copies.length ≤ 200 := by unfold largeV at hlg; omega
            refine AWP.loop (G := Nat) (fun i => Env.of [(118, .d (.v (.int .i64 (i : Int)))), (116, .d (.sl (v.copies.map Cpy.ds))), (117, .d (.v (.int .i64 ((v.copies.map Cpy.ds).length : Int)))), (1, .d (.fp v.ds))]) (fun i => []) (fun i => i ≤ v.copies.length ∧ ffst (cpyFaultAt v) i = 0) (fun i => v.copies.length - i) 0 ⟨Nat.zero_le _, rfl⟩ (Sub.less ⟨(SLe.of_eq rfl), SLe.refl _, SLe.refl _, SLe.refl _, trivial⟩ (fun _ h => h)) ?_
            intro i hi
            refine AWP.seq ?_
            refine AWP.region ?_
            refine AOps.step rfl rfl rfl (AOp.lss rfl rfl rfl) ?_
            refine AOps.nil ?_
            refine AWP.seq ?_
            refine AWP.cond rfl (fun h20 => ?_) (fun h20 => ?_)
            · replace h20 := of_decide_eq_true h20
              rw [List.length_map] at h20
              have hlt : i < v.copies.length := by omega
              refine AWP.skip ?_
              refine AWP.seq ?_
              refine AWP.block ?_
              refine AWP.seq ?_
              refine AWP.region ?_
              refine AOps.step rfl rfl rfl (AOp.moveD rfl rfl) ?_
              refine AOps.step rfl rfl rfl (AOp.indexAddr rfl et_24 rfl rfl i rfl (at_list hlt) rfl) ?_
              refine AOps.step rfl rfl rfl (AOp.loadAgg rfl ag_77 rfl rfl) ?_
              refine AOps.alloc 103 rfl rfl rfl rfl zt_77 rfl rfl rfl ?_
              refine AOps.step rfl rfl rfl (AOp.assignD rfl rfl) ?_
              refine AOps.store rfl rfl rfl sz_77 rfl (.head _) rfl rfl rfl (Nat.le_of_ble_eq_true rfl) ?_
              refine AOps.nil ?_
              refine AWP.seq ?_
              refine AWP.region ?_
              refine AOps.step rfl rfl rfl (AOp.assignD rfl rfl) ?_
              refine AOps.nil ?_
              refine AWP.seq ?_
              refine AWP.seq ?_
              refine AWP.region ?_
              refine AOps.step rfl rfl rfl (AOp.moveD rfl rfl) ?_
              refine AOps.step rfl rfl rfl (AOp.gtr rfl rfl rfl) ?_
              refine AOps.nil ?_
              refine AWP.cond rfl (fun h21 => ?_) (fun h21 => ?_)
              · replace h21 := of_decide_eq_true h21
                have ha := cpyFaultAt_some hlt (show 0 < i by omega)
                refine AWP.region ?_
                refine AOps.step rfl rfl rfl (AOp.fieldAddr rfl fo_26_2 rfl) ?_
                refine AOps.step rfl rfl rfl (AOp.load rfl sc_24 rfl) ?_
                refine AOps.step rfl rfl rfl (AOp.moveD rfl rfl) ?_
                refine AOps.step rfl rfl rfl (AOp.sub64 rfl rfl rfl (by omega) (by omega)) ?_
                refine AOps.step rfl rfl rfl (AOp.indexAddr rfl et_24 rfl rfl (i - 1) (by omega) (at_list (by omega)) rfl) ?_
                refine AOps.step rfl rfl rfl (AOp.assignD rfl rfl) ?_
                refine AOps.nil ?_
                refine AWP.seq ?_
                refine AWP.region ?_
                refine AOps.step rfl rfl rfl (AOp.loadAgg rfl ag_26 rfl rfl) ?_
                refine AOps.step rfl rfl rfl (AOp.loadPU rfl ag_77 rfl (.head _) rfl rfl) ?_
                refine AOps.step rfl rfl rfl (AOp.moveD rfl rfl) ?_
                refine AOps.step rfl rfl rfl (AOp.call rfl (.cons (ArgOk.rfl' rfl) (.cons (ArgOk.rfl' rfl) (.cons (ArgOk.rfl' rfl) .nil))) (c_pCopyS v v.copies[i] v.copies[i-1] (okItems_of hI))) ?_
                refine AOps.step rfl rfl rfl (AOp.assignD rfl rfl) ?_
                refine AOps.nil ?_
                refine AWP.seq ?_
                refine AWP.region ?_
                refine AOps.step rfl rfl rfl (AOp.moveD rfl rfl) ?_
                refine AOps.step rfl rfl rfl (AOp.neq rfl rfl rfl) ?_
                refine AOps.nil ?_
                refine AWP.cond rfl (fun h22 => ?_) (fun h22 => ?_)
                · replace h22 := of_decide_eq_true h22
                  have HF := check_copies hlg hI hC hlt hi.2 ha h22
                  refine AWP.seq ?_
                  refine AWP.region ?_
                  refine AOps.step rfl rfl rfl (AOp.moveD rfl rfl) ?_
                  refine AOps.step rfl rfl rfl (AOp.assignD rfl rfl) ?_
                  refine AOps.nil ?_
                  refine AWP.ret ?_
                  refine ⟨RetD.eq rfl ?_, trivial⟩
                  all_goals (first | rw [HF] | rw [show checkV v = 2 from if_pos (by unfold largeV; simp only [List.length_map] at *; omega)])
                · replace h22 := of_decide_eq_false h22
                  have H0 := ha.trans (Decidable.not_not.1 h22)
                  refine AWP.skip ?_
                  refine AWP.region ?_
                  refine AOps.step rfl rfl rfl (AOp.add64 rfl rfl rfl (by omega) (by omega)) ?_
                  refine AOps.step rfl rfl rfl (AOp.moveD rfl rfl) ?_
                  refine AOps.nil ?_
                  refine ⟨i + 1, ⟨by omega, ffst_next hi.2 H0⟩, (by dsimp only; omega), Sub.less ⟨(SLe.of_eq rfl), SLe.refl _, SLe.refl _, SLe.refl _, trivial⟩ (fun _ h => by cases h)⟩
              · replace h21 := of_decide_eq_false h21
                have ha := cpyFaultAt_none hlt (show ¬ 0 < i by omega)
                refine AWP.skip ?_
                refine AWP.seq ?_
                refine AWP.region ?_
                refine AOps.step rfl rfl rfl (AOp.loadAgg rfl ag_26 rfl rfl) ?_
                refine AOps.step rfl rfl rfl (AOp.loadPU rfl ag_77 rfl (.head _) rfl rfl) ?_
                refine AOps.step rfl rfl rfl (AOp.moveD rfl rfl) ?_
                refine AOps.step rfl rfl rfl (AOp.call rfl (.cons (ArgOk.rfl' rfl) (.cons (ArgOk.rfl' rfl) (.cons (ArgOk.rfl' rfl) .nil))) (c_pCopyN v v.copies[i] (okItems_of hI))) ?_
                refine AOps.step rfl rfl rfl (AOp.assignD rfl rfl) ?_
                refine AOps.nil ?_
                refine AWP.seq ?_
                refine AWP.region ?_
                refine AOps.step rfl rfl rfl (AOp.moveD rfl rfl) ?_
                refine AOps.step rfl rfl rfl (AOp.neq rfl rfl rfl) ?_
                refine AOps.nil ?_
                refine AWP.cond rfl (fun h23 => ?_) (fun h23 => ?_)
                · replace h23 := of_decide_eq_true h23
                  have HF := check_copies hlg hI hC hlt hi.2 ha h23
                  refine AWP.seq ?_
                  refine AWP.region ?_
                  refine AOps.step rfl rfl rfl (AOp.moveD rfl rfl) ?_
                  refine AOps.step rfl rfl rfl (AOp.assignD rfl rfl) ?_
                  refine AOps.nil ?_
                  refine AWP.ret ?_
                  refine ⟨RetD.eq rfl ?_, trivial⟩
                  all_goals (first | rw [HF] | rw [show checkV v = 2 from if_pos (by unfold largeV; simp only [List.length_map] at *; omega)])
                · replace h23 := of_decide_eq_false h23
                  have H0 := ha.trans (Decidable.not_not.1 h23)
                  refine AWP.skip ?_
                  refine AWP.region ?_
                  refine AOps.step rfl rfl rfl (AOp.add64 rfl rfl rfl (by omega) (by omega)) ?_
                  refine AOps.step rfl rfl rfl (AOp.moveD rfl rfl) ?_
                  refine AOps.nil ?_
                  refine ⟨i + 1, ⟨by omega, ffst_next hi.2 H0⟩, (by dsimp only; omega), Sub.less ⟨(SLe.of_eq rfl), SLe.refl _, SLe.refl _, SLe.refl _, trivial⟩ (fun _ h => by cases h)⟩
            · replace h20 := of_decide_eq_false h20
              rw [List.length_map] at h20
              have hP : ffst (cpyFaultAt v) v.copies.length = 0 := by rw [← show i = v.copies.length by omega]; exact hi.2
              refine AWP.exit ?_
              refine AWP.seq ?_
              refine AWP.seq ?_
              refine AWP.region ?_
              refine AOps.step rfl rfl rfl (AOp.fieldAddr rfl fo_26_1 rfl) ?_
              refine AOps.step rfl rfl rfl (AOp.load rfl sc_23 rfl) ?_
              refine AOps.step rfl rfl rfl (AOp.lenSl rfl et_23.ht rfl) ?_
              refine AOps.step rfl rfl rfl (AOp.moveD rfl rfl) ?_
              refine AOps.nil ?_
              refine AWP.block ?_
              refine AWP.loop (G := Nat) (fun n => Env.of [(141, .d (.v (.int .i64 (n : Int)))), (139, .d (.sl (v.carrs.map Carr.ds))), (140, .d (.v (.int .i64 ((v.carrs.map Carr.ds).length : Int)))), (1, .d (.fp v.ds))]) (fun n => []) (fun n => n ≤ v.carrs.length ∧ ∀ c ∈ v.carrs.take n, decide (c.room < usedOn v c.name) = false) (fun n => v.carrs.length - n) 0 ⟨Nat.zero_le _, fun c h => by simp at h⟩ (Sub.less ⟨(SLe.of_eq rfl), SLe.refl _, SLe.refl _, SLe.refl _, trivial⟩ (fun _ h => h)) ?_
              intro n hn
              refine AWP.seq ?_
              refine AWP.region ?_
              refine AOps.step rfl rfl rfl (AOp.lss rfl rfl rfl) ?_
              refine AOps.nil ?_
              refine AWP.seq ?_
              refine AWP.cond rfl (fun h24 => ?_) (fun h24 => ?_)
              · replace h24 := of_decide_eq_true h24
                rw [List.length_map] at h24
                have hlt : n < v.carrs.length := by omega
                refine AWP.skip ?_
                refine AWP.seq ?_
                refine AWP.block ?_
                refine AWP.seq ?_
                refine AWP.region ?_
                refine AOps.step rfl rfl rfl (AOp.indexAddr rfl et_23 rfl rfl n rfl (at_list hlt) rfl) ?_
                refine AOps.step rfl rfl rfl (AOp.loadAgg rfl ag_73 rfl rfl) ?_
                refine AOps.alloc 104 rfl rfl rfl rfl zt_73 rfl rfl rfl ?_
                refine AOps.store rfl rfl rfl sz_73 rfl (.head _) rfl rfl rfl (Nat.le_of_ble_eq_true rfl) ?_
                refine AOps.nil ?_
                refine AWP.seq ?_
                refine AWP.region ?_
                refine AOps.step rfl rfl rfl (AOp.loadAgg rfl ag_26 rfl rfl) ?_
                refine AOps.step rfl rfl rfl (AOp.loadPU rfl ag_73 rfl (.head _) rfl rfl) ?_
                refine AOps.step rfl rfl rfl (AOp.call rfl (.cons (ArgOk.rfl' rfl) (.cons (ArgOk.rfl' rfl) .nil)) (c_left v v.carrs[n] (okItems_of hI) (okCopies_of hP) (by unfold largeV at hlg; omega) (carrFault_ok hlt (ffst_all _ hC n hlt)).2.2)) ?_
                refine AOps.step rfl rfl rfl (AOp.lss rfl rfl rfl) ?_
                refine AOps.nil ?_
                refine AWP.cond rfl (fun h25 => ?_) (fun h25 => ?_)
                · replace h25 := of_decide_eq_true h25
                  have HF : checkV v = 2 := by rw [check_over hlg hI hC hP, if_pos (overFull_yes hlt (by omega))]
                  refine AWP.seq ?_
                  refine AWP.region ?_
                  refine AOps.step rfl rfl rfl (AOp.assignD rfl rfl) ?_
                  refine AOps.nil ?_
                  refine AWP.ret ?_
                  refine ⟨RetD.eq rfl ?_, trivial⟩
                  all_goals (first | rw [HF] | rw [show checkV v = 2 from if_pos (by unfold largeV; simp only [List.length_map] at *; omega)])
                · replace h25 := of_decide_eq_false h25
                  have hT := take_false' (p := fun x : Carr => decide (x.room < usedOn v x.name)) hlt hn.2 (decide_eq_false (by omega))
                  refine AWP.skip ?_
                  refine AWP.region ?_
                  refine AOps.step rfl rfl rfl (AOp.add64 rfl rfl rfl (by omega) (by omega)) ?_
                  refine AOps.step rfl rfl rfl (AOp.moveD rfl rfl) ?_
                  refine AOps.nil ?_
                  refine ⟨n + 1, ⟨by omega, hT⟩, (by dsimp only; omega), Sub.less ⟨(SLe.of_eq rfl), SLe.refl _, SLe.refl _, SLe.refl _, trivial⟩ (fun _ h => by cases h)⟩
              · replace h24 := of_decide_eq_false h24
                rw [List.length_map] at h24
                have HF : checkV v = 0 := by rw [check_over hlg hI hC hP, overFull_no (by rw [← show n = v.carrs.length by omega]; exact hn.2)]; rfl
                refine AWP.exit ?_
                refine AWP.seq ?_
                refine AWP.region ?_
                refine AOps.step rfl rfl rfl (AOp.assignD rfl rfl) ?_
                refine AOps.nil ?_
                refine AWP.ret ?_
                refine ⟨RetD.eq rfl ?_, trivial⟩
                all_goals (first | rw [HF] | rw [show checkV v = 2 from if_pos (by unfold largeV; simp only [List.length_map] at *; omega)])

set_option maxRecDepth 100000 in
set_option maxHeartbeats 1000000 in
theorem c_rCheck (v : Vlt) (hs : smallV v) : ACall Tryd.prog 10 [.agg v.ds] (.v (.int .i64 (checkV v))) := by
  refine acall_of (n := 93) (ds' := [.v (.int .i64 (checkV v))]) Tryd.func10 rfl (by kernel_rfl) rfl [2] rfl rfl ?_
  intro B w0 F0 fr
  refine AWP.seq ?_
  refine AWP.region ?_
  refine AOps.step rfl rfl rfl (AOp.box rfl rfl rfl) ?_
  refine AOps.step rfl rfl rfl (AOp.assignD rfl rfl) ?_
  refine AOps.nil ?_
  refine AWP.seq ?_
  refine AWP.seq ?_
  refine AWP.region ?_
  refine AOps.step rfl rfl rfl (AOp.fieldAddr rfl fo_26_0 rfl) ?_
  refine AOps.step rfl rfl rfl (AOp.load rfl sc_22 rfl) ?_
  refine AOps.step rfl rfl rfl (AOp.lenSl rfl et_22.ht rfl) ?_
  refine AOps.step rfl rfl rfl (AOp.gtr rfl rfl rfl) ?_
  refine AOps.step rfl rfl rfl (AOp.moveD rfl rfl) ?_
  refine AOps.split 14 rfl (fun g1 => ?_) (fun g1 => ?_)
  · replace g1 := of_decide_eq_true g1
    refine AOps.pass ⟨14, rfl, .inl ⟨_, rfl, rfl⟩⟩ rfl rfl ?_
    refine AOps.pass ⟨14, rfl, .inl ⟨_, rfl, rfl⟩⟩ rfl rfl ?_
    refine AOps.pass ⟨14, rfl, .inl ⟨_, rfl, rfl⟩⟩ rfl rfl ?_
    refine AOps.pass ⟨14, rfl, .inl ⟨_, rfl, rfl⟩⟩ rfl rfl ?_
    refine AOps.step rfl rfl rfl (AOp.pickT rfl rfl rfl) ?_
    refine AOps.step rfl rfl rfl (AOp.moveD rfl rfl) ?_
    refine AOps.pass ⟨20, rfl, .inl ⟨_, rfl, rfl⟩⟩ rfl rfl ?_
    refine AOps.pass ⟨20, rfl, .inl ⟨_, rfl, rfl⟩⟩ rfl rfl ?_
    refine AOps.pass ⟨20, rfl, .inl ⟨_, rfl, rfl⟩⟩ rfl rfl ?_
    refine AOps.pass ⟨20, rfl, .inl ⟨_, rfl, rfl⟩⟩ rfl rfl ?_
    refine AOps.step rfl rfl rfl (AOp.pickT rfl rfl rfl) ?_
    refine AOps.nil ?_
    refine AWP.cond rfl (fun _ => ?_) (fun h => nomatch h)
    refine AWP.seq ?_
    refine AWP.region ?_
    refine AOps.step rfl rfl rfl (AOp.assignD rfl rfl) ?_
    refine AOps.nil ?_
    refine AWP.ret ?_
    refine ⟨RetD.eq rfl ?_, trivial⟩
    all_goals (first | rw [HF] | rw [show checkV v = 2 from if_pos (by unfold largeV; simp only [List.length_map] at *; omega)])
  · replace g1 := of_decide_eq_false g1
    refine AOps.step ⟨14, rfl, .inl ⟨_, rfl, rfl⟩⟩ rfl rfl (AOp.fieldAddr rfl fo_26_1 rfl) ?_
    refine AOps.step ⟨14, rfl, .inl ⟨_, rfl, rfl⟩⟩ rfl rfl (AOp.load rfl sc_23 rfl) ?_
    refine AOps.step ⟨14, rfl, .inl ⟨_, rfl, rfl⟩⟩ rfl rfl (AOp.lenSl rfl et_23.ht rfl) ?_
    refine AOps.step ⟨14, rfl, .inl ⟨_, rfl, rfl⟩⟩ rfl rfl (AOp.gtr rfl rfl rfl) ?_
    refine AOps.step rfl rfl rfl (AOp.pickF rfl rfl rfl) ?_
    refine AOps.step rfl rfl rfl (AOp.moveD rfl rfl) ?_
    refine AOps.split 20 rfl (fun g2 => ?_) (fun g2 => ?_)
    · replace g2 := of_decide_eq_true g2
      refine AOps.pass ⟨20, rfl, .inl ⟨_, rfl, rfl⟩⟩ rfl rfl ?_
      refine AOps.pass ⟨20, rfl, .inl ⟨_, rfl, rfl⟩⟩ rfl rfl ?_
      refine AOps.pass ⟨20, rfl, .inl ⟨_, rfl, rfl⟩⟩ rfl rfl ?_
      refine AOps.pass ⟨20, rfl, .inl ⟨_, rfl, rfl⟩⟩ rfl rfl ?_
      refine AOps.step rfl rfl rfl (AOp.pickT rfl rfl rfl) ?_
      refine AOps.nil ?_
      refine AWP.cond rfl (fun _ => ?_) (fun h => nomatch h)
      refine AWP.seq ?_
      refine AWP.region ?_
      refine AOps.step rfl rfl rfl (AOp.assignD rfl rfl) ?_
      refine AOps.nil ?_
      refine AWP.ret ?_
      refine ⟨RetD.eq rfl ?_, trivial⟩
      all_goals (first | rw [HF] | rw [show checkV v = 2 from if_pos (by unfold largeV; simp only [List.length_map] at *; omega)])
    · replace g2 := of_decide_eq_false g2
      refine AOps.step ⟨20, rfl, .inl ⟨_, rfl, rfl⟩⟩ rfl rfl (AOp.fieldAddr rfl fo_26_2 rfl) ?_
      refine AOps.step ⟨20, rfl, .inl ⟨_, rfl, rfl⟩⟩ rfl rfl (AOp.load rfl sc_24 rfl) ?_
      refine AOps.step ⟨20, rfl, .inl ⟨_, rfl, rfl⟩⟩ rfl rfl (AOp.lenSl rfl et_24.ht rfl) ?_
      refine AOps.step ⟨20, rfl, .inl ⟨_, rfl, rfl⟩⟩ rfl rfl (AOp.gtr rfl rfl rfl) ?_
      refine AOps.step rfl rfl rfl (AOp.pickF rfl rfl rfl) ?_
      refine AOps.nil ?_
      refine AWP.cond rfl (fun h3 => ?_) (fun h3 => ?_)
      · replace h3 := of_decide_eq_true h3
        refine AWP.seq ?_
        refine AWP.region ?_
        refine AOps.step rfl rfl rfl (AOp.assignD rfl rfl) ?_
        refine AOps.nil ?_
        refine AWP.ret ?_
        refine ⟨RetD.eq rfl ?_, trivial⟩
        all_goals (first | rw [HF] | rw [show checkV v = 2 from if_pos (by unfold largeV; simp only [List.length_map] at *; omega)])
      · replace h3 := of_decide_eq_false h3
        have hlg : ¬ largeV v := by unfold largeV; simp only [List.length_map] at *; omega
        refine AWP.skip ?_
        refine AWP.seq ?_
        refine AWP.seq ?_
        refine AWP.region ?_
        refine AOps.step rfl rfl rfl (AOp.fieldAddr rfl fo_26_0 rfl) ?_
        refine AOps.step rfl rfl rfl (AOp.load rfl sc_22 rfl) ?_
        refine AOps.step rfl rfl rfl (AOp.call rfl (.cons (ArgOk.rfl' rfl) .nil) (c_rItems v.items hs.1)) ?_
        refine AOps.step rfl rfl rfl (AOp.assignD rfl rfl) ?_
        refine AOps.nil ?_
        refine AWP.seq ?_
        refine AWP.region ?_
        refine AOps.step rfl rfl rfl (AOp.moveD rfl rfl) ?_
        refine AOps.step rfl rfl rfl (AOp.neq rfl rfl rfl) ?_
        refine AOps.nil ?_
        refine AWP.cond rfl (fun h4 => ?_) (fun h4 => ?_)
        · replace h4 := of_decide_eq_true h4
          have HF : checkV v = ffst (itemFault v.items) v.items.length := by unfold checkV; rw [if_neg hlg, if_pos h4]
          refine AWP.seq ?_
          refine AWP.region ?_
          refine AOps.step rfl rfl rfl (AOp.moveD rfl rfl) ?_
          refine AOps.step rfl rfl rfl (AOp.assignD rfl rfl) ?_
          refine AOps.nil ?_
          refine AWP.ret ?_
          refine ⟨RetD.eq rfl ?_, trivial⟩
          all_goals (first | rw [HF] | rw [show checkV v = 2 from if_pos (by unfold largeV; simp only [List.length_map] at *; omega)])
        · replace h4 := of_decide_eq_false h4
          have hI := Decidable.not_not.1 h4
          refine AWP.skip ?_
          refine AWP.seq ?_
          refine AWP.seq ?_
          refine AWP.region ?_
          refine AOps.step rfl rfl rfl (AOp.fieldAddr rfl fo_26_1 rfl) ?_
          refine AOps.step rfl rfl rfl (AOp.load rfl sc_23 rfl) ?_
          refine AOps.step rfl rfl rfl (AOp.call rfl (.cons (ArgOk.rfl' rfl) .nil) (c_rCarrs v.carrs hs.2)) ?_
          refine AOps.step rfl rfl rfl (AOp.assignD rfl rfl) ?_
          refine AOps.nil ?_
          refine AWP.seq ?_
          refine AWP.region ?_
          refine AOps.step rfl rfl rfl (AOp.moveD rfl rfl) ?_
          refine AOps.step rfl rfl rfl (AOp.neq rfl rfl rfl) ?_
          refine AOps.nil ?_
          refine AWP.cond rfl (fun h5 => ?_) (fun h5 => ?_)
          · replace h5 := of_decide_eq_true h5
            have HF : checkV v = ffst (carrFault v.carrs) v.carrs.length := by unfold checkV; rw [if_neg hlg, hI, if_neg (by decide), if_pos h5]
            refine AWP.seq ?_
            refine AWP.region ?_
            refine AOps.step rfl rfl rfl (AOp.moveD rfl rfl) ?_
            refine AOps.step rfl rfl rfl (AOp.assignD rfl rfl) ?_
            refine AOps.nil ?_
            refine AWP.ret ?_
            refine ⟨RetD.eq rfl ?_, trivial⟩
            all_goals (first | rw [HF] | rw [show checkV v = 2 from if_pos (by unfold largeV; simp only [List.length_map] at *; omega)])
          · replace h5 := of_decide_eq_false h5
            have hC := Decidable.not_not.1 h5
            refine AWP.skip ?_
            refine AWP.seq ?_
            refine AWP.seq ?_
            refine AWP.region ?_
            refine AOps.step rfl rfl rfl (AOp.fieldAddr rfl fo_26_2 rfl) ?_
            refine AOps.step rfl rfl rfl (AOp.load rfl sc_24 rfl) ?_
            refine AOps.step rfl rfl rfl (AOp.lenSl rfl et_24.ht rfl) ?_
            refine AOps.step rfl rfl rfl (AOp.moveD rfl rfl) ?_
            refine AOps.nil ?_
            refine AWP.block ?_
            have hb200 : v.copies.length ≤ 200 := by unfold largeV at hlg; omega
            refine AWP.loop (G := Nat) (fun i => Env.of [(41, .d (.v (.int .i64 (i : Int)))), (39, .d (.sl (v.copies.map Cpy.ds))), (40, .d (.v (.int .i64 ((v.copies.map Cpy.ds).length : Int)))), (1, .d (.fp v.ds))]) (fun i => []) (fun i => i ≤ v.copies.length ∧ ffst (cpyFaultAt v) i = 0) (fun i => v.copies.length - i) 0 ⟨Nat.zero_le _, rfl⟩ (Sub.less ⟨(SLe.of_eq rfl), SLe.refl _, SLe.refl _, SLe.refl _, trivial⟩ (fun _ h => h)) ?_
            intro i hi
            refine AWP.seq ?_
            refine AWP.region ?_
            refine AOps.step rfl rfl rfl (AOp.lss rfl rfl rfl) ?_
            refine AOps.nil ?_
            refine AWP.seq ?_
            refine AWP.cond rfl (fun h6 => ?_) (fun h6 => ?_)
            · replace h6 := of_decide_eq_true h6
              rw [List.length_map] at h6
              have hlt : i < v.copies.length := by omega
              refine AWP.skip ?_
              refine AWP.seq ?_
              refine AWP.block ?_
              refine AWP.seq ?_
              refine AWP.region ?_
              refine AOps.step rfl rfl rfl (AOp.moveD rfl rfl) ?_
              refine AOps.step rfl rfl rfl (AOp.indexAddr rfl et_24 rfl rfl i rfl (at_list hlt) rfl) ?_
              refine AOps.step rfl rfl rfl (AOp.loadAgg rfl ag_77 rfl rfl) ?_
              refine AOps.alloc 101 rfl rfl rfl rfl zt_77 rfl rfl rfl ?_
              refine AOps.step rfl rfl rfl (AOp.assignD rfl rfl) ?_
              refine AOps.store rfl rfl rfl sz_77 rfl (.head _) rfl rfl rfl (Nat.le_of_ble_eq_true rfl) ?_
              refine AOps.nil ?_
              refine AWP.seq ?_
              refine AWP.seq ?_
              refine AWP.region ?_
              refine AOps.step rfl rfl rfl (AOp.loadAgg rfl ag_26 rfl rfl) ?_
              refine AOps.step rfl rfl rfl (AOp.fieldAddrP rfl fo_77_0 rfl) ?_
              refine AOps.step rfl rfl rfl (AOp.loadP rfl sc_9 rfl (.head _) rfl) ?_
              refine AOps.step rfl rfl rfl (AOp.call rfl (.cons (ArgOk.rfl' rfl) (.cons (ArgOk.rfl' rfl) .nil)) (c_itemOf _ _)) ?_
              refine AOps.step rfl rfl rfl (AOp.lss rfl rfl rfl) ?_
              refine AOps.step rfl rfl rfl (AOp.moveD rfl rfl) ?_
              refine AOps.split 51 rfl (fun g7 => ?_) (fun g7 => ?_)
              · replace g7 := of_decide_eq_true g7
                have h9 : ∀ b, cpyFault v v.copies[i] b = 9 := fun b => if_pos (.inl g7)
                have HF := check_copies hlg hI hC hlt hi.2 (show cpyFaultAt v i = 9 by unfold cpyFaultAt; rw [dif_pos hlt, h9]) (by decide)
                refine AOps.pass ⟨51, rfl, .inl ⟨_, rfl, rfl⟩⟩ rfl rfl ?_
                refine AOps.pass ⟨51, rfl, .inl ⟨_, rfl, rfl⟩⟩ rfl rfl ?_
                refine AOps.pass ⟨51, rfl, .inl ⟨_, rfl, rfl⟩⟩ rfl rfl ?_
                refine AOps.pass ⟨51, rfl, .inl ⟨_, rfl, rfl⟩⟩ rfl rfl ?_
                refine AOps.pass ⟨51, rfl, .inl ⟨_, rfl, rfl⟩⟩ rfl rfl ?_
                refine AOps.step rfl rfl rfl (AOp.pickT rfl rfl rfl) ?_
                refine AOps.nil ?_
                refine AWP.cond rfl (fun _ => ?_) (fun h => nomatch h)
                refine AWP.seq ?_
                refine AWP.region ?_
                refine AOps.step rfl rfl rfl (AOp.assignD rfl rfl) ?_
                refine AOps.nil ?_
                refine AWP.ret ?_
                refine ⟨RetD.eq rfl ?_, trivial⟩
                all_goals (first | rw [HF] | rw [show checkV v = 2 from if_pos (by unfold largeV; simp only [List.length_map] at *; omega)])
              · replace g7 := of_decide_eq_false g7
                have h91 := g7
                refine AOps.step ⟨51, rfl, .inl ⟨_, rfl, rfl⟩⟩ rfl rfl (AOp.loadAgg rfl ag_26 rfl rfl) ?_
                refine AOps.step ⟨51, rfl, .inl ⟨_, rfl, rfl⟩⟩ rfl rfl (AOp.fieldAddrP rfl fo_77_1 rfl) ?_
                refine AOps.step ⟨51, rfl, .inl ⟨_, rfl, rfl⟩⟩ rfl rfl (AOp.loadP rfl sc_9 rfl (.head _) rfl) ?_
                refine AOps.step ⟨51, rfl, .inl ⟨_, rfl, rfl⟩⟩ rfl rfl (AOp.call rfl (.cons (ArgOk.rfl' rfl) (.cons (ArgOk.rfl' rfl) .nil)) (c_carrierOf _ _)) ?_
                refine AOps.step ⟨51, rfl, .inl ⟨_, rfl, rfl⟩⟩ rfl rfl (AOp.lss rfl rfl rfl) ?_
                refine AOps.step rfl rfl rfl (AOp.pickF rfl rfl rfl) ?_
                refine AOps.nil ?_
                refine AWP.cond rfl (fun h8 => ?_) (fun h8 => ?_)
                · replace h8 := of_decide_eq_true h8
                  have h9 : ∀ b, cpyFault v v.copies[i] b = 9 := fun b => if_pos (.inr h8)
                  have HF := check_copies hlg hI hC hlt hi.2 (show cpyFaultAt v i = 9 by unfold cpyFaultAt; rw [dif_pos hlt, h9]) (by decide)
                  refine AWP.seq ?_
                  refine AWP.region ?_
                  refine AOps.step rfl rfl rfl (AOp.assignD rfl rfl) ?_
                  refine AOps.nil ?_
                  refine AWP.ret ?_
                  refine ⟨RetD.eq rfl ?_, trivial⟩
                  all_goals (first | rw [HF] | rw [show checkV v = 2 from if_pos (by unfold largeV; simp only [List.length_map] at *; omega)])
                · replace h8 := of_decide_eq_false h8
                  have hA : ¬ (itemIdx v v.copies[i].item < 0 ∨ carrIdx v v.copies[i].carrier < 0) := by omega
                  refine AWP.skip ?_
                  refine AWP.seq ?_
                  refine AWP.seq ?_
                  refine AWP.draw (by kernel_rfl) (by kernel_rfl) ?_
                  refine DRun.step rfl rfl rfl (AOp.moveD rfl rfl) ?_
                  refine DRun.step rfl rfl rfl (AOp.gtr rfl rfl rfl) ?_
                  refine DRun.step rfl rfl rfl (AOp.moveD rfl rfl) ?_
                  refine DRun.split 60 rfl (fun g9 => ?_) (fun g9 => ?_)
                  · replace g9 := of_decide_eq_true g9
                    have ha := cpyFaultAt_some hlt (show 0 < i by omega)
                    refine DRun.step ⟨60, rfl, .inl ⟨_, rfl, rfl⟩⟩ rfl rfl (AOp.fieldAddr rfl fo_26_2 rfl) ?_
                    refine DRun.step ⟨60, rfl, .inl ⟨_, rfl, rfl⟩⟩ rfl rfl (AOp.load rfl sc_24 rfl) ?_
                    refine DRun.step ⟨60, rfl, .inl ⟨_, rfl, rfl⟩⟩ rfl rfl (AOp.moveD rfl rfl) ?_
                    refine DRun.step ⟨60, rfl, .inl ⟨_, rfl, rfl⟩⟩ rfl rfl (AOp.sub64 rfl rfl rfl (by omega) (by omega)) ?_
                    refine DRun.step ⟨60, rfl, .inl ⟨_, rfl, rfl⟩⟩ rfl rfl (AOp.indexAddr rfl et_24 rfl rfl (i - 1) (by omega) (at_list (by omega)) rfl) ?_
                    refine DRun.step ⟨60, rfl, .inl ⟨_, rfl, rfl⟩⟩ rfl rfl (AOp.loadAgg rfl ag_77 rfl rfl) ?_
                    refine DRun.step ⟨60, rfl, .inl ⟨_, rfl, rfl⟩⟩ rfl rfl (AOp.loadPU rfl ag_77 rfl (.head _) rfl rfl) ?_
                    refine DRun.step ⟨60, rfl, .inl ⟨_, rfl, rfl⟩⟩ rfl rfl (AOp.call rfl (.cons (ArgOk.rfl' rfl) (.cons (ArgOk.rfl' rfl) .nil)) (c_order _ _)) ?_
                    refine DRun.step ⟨60, rfl, .inl ⟨_, rfl, rfl⟩⟩ rfl rfl (AOp.geq rfl rfl rfl) ?_
                    refine DRun.step rfl rfl rfl (AOp.pickT rfl rfl rfl) ?_
                    refine DRun.nil ?_
                    refine AWP.cond rfl (fun h10 => ?_) (fun h10 => ?_)
                    · replace h10 := of_decide_eq_true h10
                      have h8 : cpyFault v v.copies[i] (some v.copies[i-1]) = 8 := (if_neg hA).trans (if_pos ⟨_, rfl, h10⟩)
                      have HF := check_copies hlg hI hC hlt hi.2 (ha.trans h8) (by decide)
                      refine AWP.seq ?_
                      refine AWP.region ?_
                      refine AOps.step rfl rfl rfl (AOp.assignD rfl rfl) ?_
                      refine AOps.nil ?_
                      refine AWP.ret ?_
                      refine ⟨RetD.eq rfl ?_, trivial⟩
                      all_goals (first | rw [HF] | rw [show checkV v = 2 from if_pos (by unfold largeV; simp only [List.length_map] at *; omega)])
                    · replace h10 := of_decide_eq_false h10
                      have hB : ¬ (∃ b', some v.copies[i-1] = some b' ∧ 0 ≤ cpyCmp b' v.copies[i]) := by rintro ⟨_, e, hh⟩; cases e; exact h10 hh
                      refine AWP.skip ?_
                      refine AWP.seq ?_
                      refine AWP.region ?_
                      refine AOps.step rfl rfl rfl (AOp.loadAgg rfl ag_26 rfl rfl) ?_
                      refine AOps.step rfl rfl rfl (AOp.loadPU rfl ag_77 rfl (.head _) rfl rfl) ?_
                      refine AOps.step rfl rfl rfl (AOp.call rfl (.cons (ArgOk.rfl' rfl) (.cons (ArgOk.rfl' rfl) .nil)) (c_rCopy v v.copies[i] (some v.copies[i-1]) (okItems_of hI) hA hB (carr_ne (carrNames hC) (by omega)))) ?_
                      refine AOps.step rfl rfl rfl (AOp.assignD rfl rfl) ?_
                      refine AOps.nil ?_
                      refine AWP.seq ?_
                      refine AWP.region ?_
                      refine AOps.step rfl rfl rfl (AOp.moveD rfl rfl) ?_
                      refine AOps.step rfl rfl rfl (AOp.neq rfl rfl rfl) ?_
                      refine AOps.nil ?_
                      refine AWP.cond rfl (fun h11 => ?_) (fun h11 => ?_)
                      · replace h11 := of_decide_eq_true h11
                        have HF := check_copies hlg hI hC hlt hi.2 ha h11
                        refine AWP.seq ?_
                        refine AWP.region ?_
                        refine AOps.step rfl rfl rfl (AOp.moveD rfl rfl) ?_
                        refine AOps.step rfl rfl rfl (AOp.assignD rfl rfl) ?_
                        refine AOps.nil ?_
                        refine AWP.ret ?_
                        refine ⟨RetD.eq rfl ?_, trivial⟩
                        all_goals (first | rw [HF] | rw [show checkV v = 2 from if_pos (by unfold largeV; simp only [List.length_map] at *; omega)])
                      · replace h11 := of_decide_eq_false h11
                        have H0 := ha.trans (Decidable.not_not.1 h11)
                        refine AWP.skip ?_
                        refine AWP.region ?_
                        refine AOps.step rfl rfl rfl (AOp.add64 rfl rfl rfl (by omega) (by omega)) ?_
                        refine AOps.step rfl rfl rfl (AOp.moveD rfl rfl) ?_
                        refine AOps.nil ?_
                        refine ⟨i + 1, ⟨by omega, ffst_next hi.2 H0⟩, (by dsimp only; omega), Sub.less ⟨(SLe.of_eq rfl), SLe.refl _, SLe.refl _, SLe.refl _, trivial⟩ (fun _ h => by cases h)⟩
                  · replace g9 := of_decide_eq_false g9
                    have ha := cpyFaultAt_none hlt (show ¬ 0 < i by omega)
                    refine DRun.pass ⟨60, rfl, .inl ⟨_, rfl, rfl⟩⟩ rfl rfl ?_
                    refine DRun.pass ⟨60, rfl, .inl ⟨_, rfl, rfl⟩⟩ rfl rfl ?_
                    refine DRun.pass ⟨60, rfl, .inl ⟨_, rfl, rfl⟩⟩ rfl rfl ?_
                    refine DRun.pass ⟨60, rfl, .inl ⟨_, rfl, rfl⟩⟩ rfl rfl ?_
                    refine DRun.pass ⟨60, rfl, .inl ⟨_, rfl, rfl⟩⟩ rfl rfl ?_
                    refine DRun.pass ⟨60, rfl, .inl ⟨_, rfl, rfl⟩⟩ rfl rfl ?_
                    refine DRun.pass ⟨60, rfl, .inl ⟨_, rfl, rfl⟩⟩ rfl rfl ?_
                    refine DRun.pass ⟨60, rfl, .inl ⟨_, rfl, rfl⟩⟩ rfl rfl ?_
                    refine DRun.pass ⟨60, rfl, .inl ⟨_, rfl, rfl⟩⟩ rfl rfl ?_
                    refine DRun.step rfl rfl rfl (AOp.pickF rfl rfl rfl) ?_
                    refine DRun.nil ?_
                    refine AWP.cond rfl (fun h => nomatch h) (fun _ => ?_)
                    refine AWP.skip ?_
                    refine AWP.seq ?_
                    refine AWP.region ?_
                    refine AOps.step rfl rfl rfl (AOp.loadAgg rfl ag_26 rfl rfl) ?_
                    refine AOps.step rfl rfl rfl (AOp.loadPU rfl ag_77 rfl (.head _) rfl rfl) ?_
                    refine AOps.step rfl rfl rfl (AOp.call rfl (.cons (ArgOk.rfl' rfl) (.cons (ArgOk.rfl' rfl) .nil)) (c_rCopy v v.copies[i] none (okItems_of hI) hA (by simp) (carr_ne (carrNames hC) (by omega)))) ?_
                    refine AOps.step rfl rfl rfl (AOp.assignD rfl rfl) ?_
                    refine AOps.nil ?_
                    refine AWP.seq ?_
                    refine AWP.region ?_
                    refine AOps.step rfl rfl rfl (AOp.moveD rfl rfl) ?_
                    refine AOps.step rfl rfl rfl (AOp.neq rfl rfl rfl) ?_
                    refine AOps.nil ?_
                    refine AWP.cond rfl (fun h12 => ?_) (fun h12 => ?_)
                    · replace h12 := of_decide_eq_true h12
                      have HF := check_copies hlg hI hC hlt hi.2 ha h12
                      refine AWP.seq ?_
                      refine AWP.region ?_
                      refine AOps.step rfl rfl rfl (AOp.moveD rfl rfl) ?_
                      refine AOps.step rfl rfl rfl (AOp.assignD rfl rfl) ?_
                      refine AOps.nil ?_
                      refine AWP.ret ?_
                      refine ⟨RetD.eq rfl ?_, trivial⟩
                      all_goals (first | rw [HF] | rw [show checkV v = 2 from if_pos (by unfold largeV; simp only [List.length_map] at *; omega)])
                    · replace h12 := of_decide_eq_false h12
                      have H0 := ha.trans (Decidable.not_not.1 h12)
                      refine AWP.skip ?_
                      refine AWP.region ?_
                      refine AOps.step rfl rfl rfl (AOp.add64 rfl rfl rfl (by omega) (by omega)) ?_
                      refine AOps.step rfl rfl rfl (AOp.moveD rfl rfl) ?_
                      refine AOps.nil ?_
                      refine ⟨i + 1, ⟨by omega, ffst_next hi.2 H0⟩, (by dsimp only; omega), Sub.less ⟨(SLe.of_eq rfl), SLe.refl _, SLe.refl _, SLe.refl _, trivial⟩ (fun _ h => by cases h)⟩
            · replace h6 := of_decide_eq_false h6
              rw [List.length_map] at h6
              have hP : ffst (cpyFaultAt v) v.copies.length = 0 := by rw [← show i = v.copies.length by omega]; exact hi.2
              refine AWP.exit ?_
              refine AWP.seq ?_
              refine AWP.seq ?_
              refine AWP.region ?_
              refine AOps.step rfl rfl rfl (AOp.fieldAddr rfl fo_26_1 rfl) ?_
              refine AOps.step rfl rfl rfl (AOp.load rfl sc_23 rfl) ?_
              refine AOps.step rfl rfl rfl (AOp.lenSl rfl et_23.ht rfl) ?_
              refine AOps.step rfl rfl rfl (AOp.moveD rfl rfl) ?_
              refine AOps.nil ?_
              refine AWP.block ?_
              have hb16 : v.carrs.length ≤ 16 := by unfold largeV at hlg; omega
              refine AWP.loop (G := Nat) (fun n => Env.of [(81, .d (.v (.int .i64 (n : Int)))), (79, .d (.sl (v.carrs.map Carr.ds))), (80, .d (.v (.int .i64 ((v.carrs.map Carr.ds).length : Int)))), (1, .d (.fp v.ds))]) (fun n => []) (fun n => n ≤ v.carrs.length ∧ ∀ c ∈ v.carrs.take n, decide (c.room < usedOn v c.name) = false) (fun n => v.carrs.length - n) 0 ⟨Nat.zero_le _, fun c h => by simp at h⟩ (Sub.less ⟨(SLe.of_eq rfl), SLe.refl _, SLe.refl _, SLe.refl _, trivial⟩ (fun _ h => h)) ?_
              intro n hn
              refine AWP.seq ?_
              refine AWP.region ?_
              refine AOps.step rfl rfl rfl (AOp.lss rfl rfl rfl) ?_
              refine AOps.nil ?_
              refine AWP.seq ?_
              refine AWP.cond rfl (fun h13 => ?_) (fun h13 => ?_)
              · replace h13 := of_decide_eq_true h13
                rw [List.length_map] at h13
                have hlt : n < v.carrs.length := by omega
                refine AWP.skip ?_
                refine AWP.seq ?_
                refine AWP.block ?_
                refine AWP.seq ?_
                refine AWP.region ?_
                refine AOps.step rfl rfl rfl (AOp.indexAddr rfl et_23 rfl rfl n rfl (at_list hlt) rfl) ?_
                refine AOps.step rfl rfl rfl (AOp.loadAgg rfl ag_73 rfl rfl) ?_
                refine AOps.alloc 102 rfl rfl rfl rfl zt_73 rfl rfl rfl ?_
                refine AOps.store rfl rfl rfl sz_73 rfl (.head _) rfl rfl rfl (Nat.le_of_ble_eq_true rfl) ?_
                refine AOps.nil ?_
                refine AWP.seq ?_
                refine AWP.draw (by kernel_rfl) (by kernel_rfl) ?_
                refine DRun.step rfl rfl rfl (AOp.loadAgg rfl ag_26 rfl rfl) ?_
                refine DRun.step rfl rfl rfl (AOp.fieldAddrP rfl fo_73_0 rfl) ?_
                refine DRun.step rfl rfl rfl (AOp.loadP rfl sc_9 rfl (.head _) rfl) ?_
                refine DRun.step rfl rfl rfl (AOp.call rfl (.cons (ArgOk.rfl' rfl) (.cons (ArgOk.rfl' rfl) .nil)) (c_used v v.carrs[n].name (okItems_of hI) (okCopies_of hP) (by unfold largeV at hlg; omega))) ?_
                refine DRun.step rfl rfl rfl (AOp.fieldAddrP rfl fo_73_4 rfl) ?_
                refine DRun.step rfl rfl rfl (AOp.loadP rfl sc_3 rfl (.head _) rfl) ?_
                refine DRun.step rfl rfl rfl (AOp.gtr rfl rfl rfl) ?_
                refine DRun.nil ?_
                refine AWP.cond rfl (fun h14 => ?_) (fun h14 => ?_)
                · replace h14 := of_decide_eq_true h14
                  have HF : checkV v = 2 := by rw [check_over hlg hI hC hP, if_pos (overFull_yes hlt h14)]
                  refine AWP.seq ?_
                  refine AWP.region ?_
                  refine AOps.step rfl rfl rfl (AOp.assignD rfl rfl) ?_
                  refine AOps.nil ?_
                  refine AWP.ret ?_
                  refine ⟨RetD.eq rfl ?_, trivial⟩
                  all_goals (first | rw [HF] | rw [show checkV v = 2 from if_pos (by unfold largeV; simp only [List.length_map] at *; omega)])
                · replace h14 := of_decide_eq_false h14
                  have hT := take_false' (p := fun x : Carr => decide (x.room < usedOn v x.name)) hlt hn.2 (decide_eq_false h14)
                  refine AWP.skip ?_
                  refine AWP.region ?_
                  refine AOps.step rfl rfl rfl (AOp.add64 rfl rfl rfl (by omega) (by omega)) ?_
                  refine AOps.step rfl rfl rfl (AOp.moveD rfl rfl) ?_
                  refine AOps.nil ?_
                  refine ⟨n + 1, ⟨by omega, hT⟩, (by dsimp only; omega), Sub.less ⟨(SLe.of_eq rfl), SLe.refl _, SLe.refl _, SLe.refl _, trivial⟩ (fun _ h => by cases h)⟩
              · replace h13 := of_decide_eq_false h13
                rw [List.length_map] at h13
                have HF : checkV v = 0 := by rw [check_over hlg hI hC hP, overFull_no (by rw [← show n = v.carrs.length by omega]; exact hn.2)]; rfl
                refine AWP.exit ?_
                refine AWP.seq ?_
                refine AWP.region ?_
                refine AOps.step rfl rfl rfl (AOp.assignD rfl rfl) ?_
                refine AOps.nil ?_
                refine AWP.ret ?_
                refine ⟨RetD.eq rfl ?_, trivial⟩
                all_goals (first | rw [HF] | rw [show checkV v = 2 from if_pos (by unfold largeV; simp only [List.length_map] at *; omega)])

end Go.Proofs.YtieccphckobhjaaDoor


namespace Go.Proofs.YtieccphckobhjaaDoor
open Go.RowKit
set_option linter.unusedVariables false

/-! Types. -/
namespace TyC6
theorem ag_26 : AggT Tryd.prog 26 3 := .of (by kernel_rfl)
theorem ag_28 : AggT Tryd.prog 28 6 := .of (by kernel_rfl)
theorem et_135 : ElemTy Tryd.prog 135 5 1 1 (.int .u8 0) := ⟨by kernel_rfl, by kernel_rfl, by kernel_rfl, by decide⟩
end TyC6
open TyC6

set_option maxRecDepth 100000 in
set_option maxHeartbeats 1000000 in
theorem c_sumNil  : ACall Tryd.prog 41 [.sl []] (.v (.int .u32 2166136261)) := by
  refine acall_of (n := 19) (ds' := [.v (.int .u32 2166136261)]) Tryd.func41 rfl (by kernel_rfl) rfl [2] rfl rfl ?_
  intro B w0 F0 fr
  refine AWP.seq ?_
  refine AWP.region ?_
  refine AOps.step rfl rfl rfl (AOp.assignD rfl rfl) ?_
  refine AOps.nil ?_
  refine AWP.seq ?_
  refine AWP.region ?_
  refine AOps.step rfl rfl rfl (AOp.assignD rfl rfl) ?_
  refine AOps.nil ?_
  refine AWP.seq ?_
  refine AWP.seq ?_
  refine AWP.region ?_
  refine AOps.step rfl rfl rfl (AOp.moveD rfl rfl) ?_
  refine AOps.step rfl rfl rfl (AOp.lenSl rfl et_135.ht rfl) ?_
  refine AOps.step rfl rfl rfl (AOp.moveD rfl rfl) ?_
  refine AOps.nil ?_
  refine AWP.block ?_
  refine AWP.loop (G := Unit) (fun _ => Env.of [(8, .d (.v (.int .i64 0))), (7, .d (.v (.int .i64 (([] : List (List D)).length : Int)))), (3, .d (.v (.int .u32 2166136261)))]) (fun _ => []) (fun _ => True) (fun _ => 0) () trivial (Sub.less ⟨SLe.refl _, SLe.refl _, SLe.refl _, trivial⟩ (fun _ h => h)) ?_
  intro _ _
  refine AWP.seq ?_
  refine AWP.region ?_
  refine AOps.step rfl rfl rfl (AOp.lss rfl rfl rfl) ?_
  refine AOps.nil ?_
  refine AWP.seq ?_
  refine AWP.cond rfl (fun h1 => ?_) (fun h1 => ?_)
  · replace h1 := of_decide_eq_true h1
    simp at h1
  · replace h1 := of_decide_eq_false h1
    refine AWP.exit ?_
    refine AWP.seq ?_
    refine AWP.region ?_
    refine AOps.step rfl rfl rfl (AOp.moveD rfl rfl) ?_
    refine AOps.step rfl rfl rfl (AOp.assignD rfl rfl) ?_
    refine AOps.nil ?_
    refine AWP.ret ?_
    refine ⟨RetD.eq rfl ?_, trivial⟩
    all_goals (rfl)

set_option maxRecDepth 100000 in
set_option maxHeartbeats 1000000 in
theorem c_awake  : ACall Tryd.prog 13 [] (.v (.bool true)) := by
  refine acall_of (n := 3) (ds' := [.v (.bool true)]) Tryd.func13 rfl (by kernel_rfl) rfl [0] rfl rfl ?_
  intro B w0 F0 fr
  refine AWP.seq ?_
  refine AWP.region ?_
  refine AOps.step rfl rfl rfl (AOp.assignD rfl rfl) ?_
  refine AOps.nil ?_
  refine AWP.seq ?_
  refine AWP.region ?_
  refine AOps.step rfl rfl rfl (AOp.call rfl (.cons (ArgOk.nil rfl) .nil) c_sumNil) ?_
  refine AOps.step rfl rfl rfl (AOp.eql rfl rfl rfl) ?_
  refine AOps.step rfl rfl rfl (AOp.assignD rfl rfl) ?_
  refine AOps.nil ?_
  refine AWP.ret ?_
  refine ⟨RetD.eq rfl ?_, trivial⟩
  all_goals (simp)

set_option maxRecDepth 100000 in
set_option maxHeartbeats 1000000 in
theorem lawChecks (v : Vlt) (p : Pol) (hs : smallV v) : ACall Tryd.prog 3 [.agg v.ds, .agg p.ds] (.v (.bool true)) := by
  refine acall_of (n := 20) (ds' := [.v (.bool true)]) Tryd.func3 rfl (by kernel_rfl) rfl [4] rfl rfl ?_
  intro B w0 F0 fr
  refine AWP.seq ?_
  refine AWP.region ?_
  refine AOps.step rfl rfl rfl (AOp.box rfl rfl rfl) ?_
  refine AOps.step rfl rfl rfl (AOp.box rfl rfl rfl) ?_
  refine AOps.step rfl rfl rfl (AOp.assignD rfl rfl) ?_
  refine AOps.nil ?_
  refine AWP.seq ?_
  refine AWP.draw (by kernel_rfl) (by kernel_rfl) ?_
  refine DRun.step rfl rfl rfl (AOp.loadAgg rfl ag_26 rfl rfl) ?_
  refine DRun.step rfl rfl rfl (AOp.call rfl (.cons (ArgOk.rfl' rfl) .nil) (c_pCheck v hs)) ?_
  refine DRun.step rfl rfl rfl (AOp.loadAgg rfl ag_26 rfl rfl) ?_
  refine DRun.step rfl rfl rfl (AOp.call rfl (.cons (ArgOk.rfl' rfl) .nil) (c_rCheck v hs)) ?_
  refine DRun.step rfl rfl rfl (AOp.eql rfl rfl rfl) ?_
  refine DRun.step rfl rfl rfl (AOp.moveD rfl rfl) ?_
  refine DRun.split 10 rfl (fun g1 => ?_) (fun g1 => ?_)
  · replace g1 := of_decide_eq_true g1
    refine DRun.step ⟨10, rfl, .inl ⟨_, rfl, rfl⟩⟩ rfl rfl (AOp.loadAgg rfl ag_28 rfl rfl) ?_
    refine DRun.step ⟨10, rfl, .inl ⟨_, rfl, rfl⟩⟩ rfl rfl (AOp.call rfl (.cons (ArgOk.rfl' rfl) .nil) (c_pPol p)) ?_
    refine DRun.step ⟨10, rfl, .inl ⟨_, rfl, rfl⟩⟩ rfl rfl (AOp.loadAgg rfl ag_28 rfl rfl) ?_
    refine DRun.step ⟨10, rfl, .inl ⟨_, rfl, rfl⟩⟩ rfl rfl (AOp.call rfl (.cons (ArgOk.rfl' rfl) .nil) (c_rPol p)) ?_
    refine DRun.step ⟨10, rfl, .inl ⟨_, rfl, rfl⟩⟩ rfl rfl (AOp.eql rfl rfl rfl) ?_
    refine DRun.step rfl rfl rfl (AOp.pickT rfl rfl rfl) ?_
    refine DRun.step rfl rfl rfl (AOp.moveD rfl rfl) ?_
    refine DRun.split 17 rfl (fun g2 => ?_) (fun g2 => ?_)
    · replace g2 := of_decide_eq_true g2
      refine DRun.step ⟨17, rfl, .inl ⟨_, rfl, rfl⟩⟩ rfl rfl (AOp.call rfl .nil c_awake) ?_
      refine DRun.step rfl rfl rfl (AOp.pickT rfl rfl rfl) ?_
      refine DRun.step rfl rfl rfl (AOp.assignD rfl rfl) ?_
      refine DRun.nil ?_
      refine AWP.ret ?_
      refine ⟨RetD.eq rfl ?_, trivial⟩
      all_goals (simp)
    · replace g2 := of_decide_eq_false g2
      exact absurd rfl g2
  · replace g1 := of_decide_eq_false g1
    exact absurd rfl g1

end Go.Proofs.YtieccphckobhjaaDoor


namespace Go.Proofs.YtieccphckobhjaaDoor
open Go.RowKit
set_option linter.unusedVariables false

/-! Types. -/
namespace TyT1
theorem ag_46 : AggT Tryd.prog 46 3 := .of (by kernel_rfl)
theorem et_41 : ElemTy Tryd.prog 41 46 3 40 (.agg #[(.int .i64 0), (.string ⟨#[]⟩), (.string ⟨#[]⟩)]) := ⟨by kernel_rfl, by kernel_rfl, by kernel_rfl, by decide⟩
theorem sz_46 : ∀ w, (sizeOf 46).run Tryd.prog w = .ok 3 w := SizeT.of (by kernel_rfl)
end TyT1
open TyT1


structure Tsk where
  day : Int
  item : ByteArray
  carrier : ByteArray
def Tsk.ds (x : Tsk) : List D := [.v (.int .i64 x.day), .v (.string x.item), .v (.string x.carrier)]
/-- An element with its first place. -/
def tds (p : Tsk × Nat) : List D := p.1.ds
/-- Two elements change places. -/
def sw {α : Type} (l : List α) (i j : Nat) : List α := match l[i]?, l[j]? with
  | some x, some y => (l.set i y).set j x
  | _, _ => l
theorem sw_len {α : Type} (l : List α) (i j : Nat) : (sw l i j).length = l.length := by unfold sw; split <;> simp
theorem sw_at {α : Type} {l : List α} {i j : Nat} (hi : i < l.length) (hj : j < l.length) : sw l i j = (l.set i l[j]).set j l[i] := by
  unfold sw; rw [List.getElem?_eq_getElem hi, List.getElem?_eq_getElem hj]
def swapTo {α : Type} (l : List α) (a b : Nat) : Nat → List α
  | 0 => l
  | k + 1 => sw (swapTo l a b k) (a + k) (b + k)
theorem swapTo_len {α : Type} (l : List α) (a b : Nat) : ∀ k, (swapTo l a b k).length = l.length
  | 0 => rfl
  | k + 1 => by unfold swapTo; rw [sw_len, swapTo_len l a b k]
theorem whole_el {size : Nat} {ds x : List D} (h : ds.length = size) : ds.take 0 ++ x ++ ds.drop (0 + size) = x := by
  rw [List.take_zero, List.nil_append, Nat.zero_add, List.drop_eq_nil_of_le (by omega), List.append_nil]
theorem row_swap {α : Type} {enc : α → List D} {size : Nat} (hs : ∀ x, (enc x).length = size) {cur : List α} {i j : Nat} (hi : i < cur.length) (hj : j < cur.length) {els1 : List (List D)} {d2 : List D}
    (h1 : els1 = (cur.map enc).set i ((enc cur[i]).take 0 ++ enc cur[j] ++ (enc cur[i]).drop (0 + size))) (h2 : els1[j]? = some d2) :
    els1.set j (d2.take 0 ++ enc cur[i] ++ d2.drop (0 + size)) = (sw cur i j).map enc := by
  rw [whole_el (hs _)] at h1
  have hd : d2.length = size := by
    rw [h1, List.getElem?_set] at h2
    by_cases hij : i = j
    · rw [if_pos hij, if_pos (by rw [List.length_map]; exact hi)] at h2
      rw [← Option.some.inj h2]; exact hs _
    · rw [if_neg hij, List.getElem?_map, List.getElem?_eq_getElem hj] at h2
      rw [← Option.some.inj h2]; exact hs _
  rw [whole_el hd, h1, sw_at hi hj, List.map_set, List.map_set]


set_option maxRecDepth 100000 in
set_option maxHeartbeats 1000000 in
theorem c_swapRange (l : List (Tsk × Nat)) (a b n : Nat) (c : D) (ha : a + n ≤ l.length) (hb : b + n ≤ l.length) (hl : l.length ≤ 4611686018427387904) : RCall Tryd.prog 133 46 3 (l.map tds) ((swapTo l a b n).map tds) [.v (.int .i64 a), .v (.int .i64 b), .v (.int .i64 n), c] (.tup []) := by
  refine RCall.of1 (chg := fun i => Nat.ble 1000 i) (xcall_of (n := 38) (ds' := []) Tryd.func133 rfl (by kernel_rfl) rfl [] rfl rfl ?_) rfl
  intro B w0 F0 fr ρ0
  refine AWP.seq ?_
  refine AWP.region ?_
  refine AOps.step rfl rfl rfl (AOp.assignD rfl rfl) ?_
  refine AOps.nil ?_
  refine AWP.block ?_
  refine AWP.loop (G := Nat) (fun k => Env.of [(10, .d (.v (.int .i64 (k : Int)))), (0, .own 1), (1, .d (.v (.int .i64 a))), (2, .d (.v (.int .i64 b))), (3, .d (.v (.int .i64 n)))]) (fun k => [(1, .row 46 3 ((swapTo l a b k).map tds))]) (fun k => k ≤ n) (fun k => n - k) 0 (Nat.zero_le _) (Sub.less ⟨(SLe.of_eq rfl), SLe.refl _, SLe.refl _, SLe.refl _, SLe.refl _, trivial⟩ (row_same rfl)) ?_
  intro k hk
  refine AWP.seq ?_
  refine AWP.seq ?_
  refine AWP.region ?_
  refine AOps.step rfl rfl rfl (AOp.moveD rfl rfl) ?_
  refine AOps.step rfl rfl rfl (AOp.moveD rfl rfl) ?_
  refine AOps.step rfl rfl rfl (AOp.lss rfl rfl rfl) ?_
  refine AOps.nil ?_
  refine AWP.cond rfl (fun h1 => ?_) (fun h1 => ?_)
  · replace h1 := of_decide_eq_true h1
    have hlt : k < n := by omega
    refine AWP.skip ?_
    refine AWP.seq ?_
    refine AWP.block ?_
    refine AWP.drawG (fun k => (Nat.beq k 21 || Nat.beq k 23) || (Nat.beq k 12 || Nat.beq k 13 || Nat.beq k 18 || Nat.beq k 19 || Nat.beq k 20 || Nat.beq k 22)) (fun k => Nat.beq k 21 || Nat.beq k 23) (fun k h => Bool.or_eq_true_iff.2 (.inl h)) (by kernel_rfl) (by kernel_rfl) (by kernel_rfl) ?_
    refine GRun.step rfl rfl rfl (fun _ => AOp.moveO rfl rfl) ?_
    refine GRun.step rfl rfl rfl (fun _ => AOp.moveD rfl rfl) ?_
    refine GRun.step rfl rfl rfl (fun _ => AOp.moveD rfl rfl) ?_
    refine GRun.step rfl rfl rfl (fun _ => AOp.add64 rfl rfl rfl (by omega) (by omega)) ?_
    refine GRun.step rfl rfl rfl (fun _ => AOp.moveO rfl rfl) ?_
    refine GRun.step rfl rfl rfl (fun _ => AOp.moveD rfl rfl) ?_
    refine GRun.step rfl rfl rfl (fun _ => AOp.moveD rfl rfl) ?_
    refine GRun.step rfl rfl rfl (fun _ => AOp.add64 rfl rfl rfl (by omega) (by omega)) ?_
    refine GRun.step rfl rfl rfl (fun _ => AOp.moveO rfl rfl) ?_
    refine GRun.step rfl rfl rfl (fun _ => AOp.moveD rfl rfl) ?_
    refine GRun.step rfl rfl rfl (fun _ => AOp.moveD rfl rfl) ?_
    refine GRun.step rfl rfl rfl (fun _ => AOp.add64 rfl rfl rfl (by omega) (by omega)) ?_
    refine GRun.stepS rfl rfl rfl rfl (AOp.indexOwn rfl et_41 rfl rfl (.head _) (b + k) (by omega) (by rw [List.length_map, swapTo_len]; omega)) ?_
    refine GRun.stepS rfl rfl rfl rfl (AOp.loadRowAgg rfl ag_46 rfl (.head _) (b + k) rfl (at_list (by rw [swapTo_len]; omega))) ?_
    refine GRun.step rfl rfl rfl (fun _ => AOp.moveO rfl rfl) ?_
    refine GRun.step rfl rfl rfl (fun _ => AOp.moveD rfl rfl) ?_
    refine GRun.step rfl rfl rfl (fun _ => AOp.moveD rfl rfl) ?_
    refine GRun.step rfl rfl rfl (fun _ => AOp.add64 rfl rfl rfl (by omega) (by omega)) ?_
    refine GRun.stepS rfl rfl rfl rfl (AOp.indexOwn rfl et_41 rfl rfl (.head _) (a + k) (by omega) (by rw [List.length_map, swapTo_len]; omega)) ?_
    refine GRun.stepS rfl rfl rfl rfl (AOp.loadRowAgg rfl ag_46 rfl (.head _) (a + k) rfl (at_list (by rw [swapTo_len]; omega))) ?_
    refine GRun.stepS rfl rfl rfl rfl (AOp.indexOwn rfl et_41 rfl rfl (.head _) (a + k) (by omega) (by rw [List.length_map, swapTo_len]; omega)) ?_
    refine GRun.eff rfl rfl rfl (EOp.storeRow rfl rfl sz_46 rfl (.head _) rfl rfl rfl (a + k) 0 rfl (at_list (by rw [swapTo_len]; omega)) (Nat.le_of_ble_eq_true rfl)) ?_
    refine GRun.stepS rfl rfl rfl rfl (AOp.indexOwn rfl et_41 rfl rfl (.head _) (b + k) (by omega) (by rw [List.length_set, List.length_map, swapTo_len]; omega)) ?_
    refine GRun.eff rfl rfl rfl (EOp.storeRow rfl rfl sz_46 rfl (.head _) rfl rfl rfl (b + k) 0 rfl (List.getElem?_eq_getElem (by rw [List.length_set, List.length_map, swapTo_len]; omega)) (Nat.le_of_ble_eq_true rfl)) ?_
    refine GRun.nil ?_
    refine AWP.region ?_
    refine AOps.step rfl rfl rfl (AOp.moveD rfl rfl) ?_
    refine AOps.step rfl rfl rfl (AOp.add64 rfl rfl rfl (by omega) (by omega)) ?_
    refine AOps.step rfl rfl rfl (AOp.assignD rfl rfl) ?_
    refine AOps.nil ?_
    refine ⟨k + 1, (by omega), (by dsimp only; omega), Sub.less ⟨(SLe.of_eq rfl), SLe.refl _, SLe.refl _, SLe.refl _, SLe.refl _, trivial⟩ (row_same (row_swap (enc := tds) (size := 3) (cur := swapTo l a b k) (i := a + k) (j := b + k) (fun _ => rfl) (by rw [swapTo_len]; omega) (by rw [swapTo_len]; omega) rfl (List.getElem?_eq_getElem (by rw [List.length_set, List.length_map, swapTo_len]; omega))))⟩
  · replace h1 := of_decide_eq_false h1
    have hkn : k = n := by omega
    refine AWP.exit ?_
    refine ⟨trivial, ⟨mem_row_eq (.head _) ?_, trivial⟩⟩
    all_goals (rw [hkn])

end Go.Proofs.YtieccphckobhjaaDoor


namespace Go.Proofs.YtieccphckobhjaaDoor
open Go.RowKit
set_option linter.unusedVariables false

/-! Types. -/
namespace TyT2

end TyT2
open TyT2


theorem sw_get {α : Type} {l : List α} {i j : Nat} (hi : i < l.length) (hj : j < l.length) (p : Nat) : (sw l i j)[p]? = if p = j then l[i]? else if p = i then l[j]? else l[p]? := by
  rw [sw_at hi hj, List.getElem?_set, List.getElem?_set]
  simp only [List.length_set]
  by_cases h1 : p = j
  · subst h1; simp [hi, hj]
  · rw [if_neg (Ne.symm h1), if_neg h1]
    by_cases h2 : p = i
    · subst h2; simp [hi, hj]
    · rw [if_neg (Ne.symm h2), if_neg h2]
theorem swapTo_get {α : Type} {l : List α} {a b : Nat} : ∀ {n : Nat}, a + n ≤ b → b + n ≤ l.length → ∀ p, (swapTo l a b n)[p]? = if a ≤ p ∧ p < a + n then l[p + (b - a)]? else if b ≤ p ∧ p < b + n then l[p - (b - a)]? else l[p]?
  | 0, _, _, p => by
    unfold swapTo
    rw [if_neg (by omega), if_neg (by omega)]
  | n + 1, h1, h2, p => by
    unfold swapTo
    rw [sw_get (by rw [swapTo_len]; omega) (by rw [swapTo_len]; omega)]
    have ih := fun p => swapTo_get (l := l) (a := a) (b := b) (n := n) (by omega) (by omega) p
    by_cases e1 : p = b + n
    · rw [if_pos e1, ih, if_neg (by omega), if_neg (by omega), if_neg (by omega), if_pos (by omega)]
      congr 1; omega
    · rw [if_neg e1]
      by_cases e2 : p = a + n
      · rw [if_pos e2, ih, if_neg (by omega), if_neg (by omega), if_pos (by omega)]
        congr 1; omega
      · rw [if_neg e2, ih]
        by_cases c1 : a ≤ p ∧ p < a + n
        · rw [if_pos c1, if_pos (by omega)]
        · rw [if_neg c1, if_neg (by omega : ¬ (a ≤ p ∧ p < a + (n + 1)))]
          by_cases c2 : b ≤ p ∧ p < b + n
          · rw [if_pos c2, if_pos (by omega)]
          · rw [if_neg c2, if_neg (by omega : ¬ (b ≤ p ∧ p < b + (n + 1)))]
/-- The pieces from a to m and from m to b change places. -/
def rotl {α : Type} (l : List α) (a m b : Nat) : List α := l.take a ++ ((l.drop m).take (b - m) ++ ((l.drop a).take (m - a) ++ l.drop b))
theorem rotl_get {α : Type} {l : List α} {a m b : Nat} (h1 : a ≤ m) (h2 : m ≤ b) (h3 : b ≤ l.length) (p : Nat) : (rotl l a m b)[p]? = if p < a then l[p]? else if p < a + (b - m) then l[p + (m - a)]? else if p < b then l[p - (b - m)]? else l[p]? := by
  unfold rotl
  have e1 : (l.take a).length = a := by rw [List.length_take]; omega
  have e2 : ((l.drop m).take (b - m)).length = b - m := by rw [List.length_take, List.length_drop]; omega
  have e3 : ((l.drop a).take (m - a)).length = m - a := by rw [List.length_take, List.length_drop]; omega
  by_cases c1 : p < a
  · rw [if_pos c1, List.getElem?_append_left (by omega), List.getElem?_take, if_pos c1]
  · rw [if_neg c1, List.getElem?_append_right (by omega), e1]
    by_cases c2 : p < a + (b - m)
    · rw [if_pos c2, List.getElem?_append_left (by omega), List.getElem?_take, if_pos (by omega), List.getElem?_drop]
      congr 1; omega
    · rw [if_neg c2, List.getElem?_append_right (by omega), e2]
      by_cases c3 : p < b
      · rw [if_pos c3, List.getElem?_append_left (by omega), List.getElem?_take, if_pos (by omega), List.getElem?_drop]
        congr 1; omega
      · rw [if_neg c3, List.getElem?_append_right (by omega), e3, List.getElem?_drop]
        congr 1; omega
theorem rotl_len {α : Type} {l : List α} {a m b : Nat} (h1 : a ≤ m) (h2 : m ≤ b) (h3 : b ≤ l.length) : (rotl l a m b).length = l.length := by
  unfold rotl
  simp only [List.length_append, List.length_take, List.length_drop]
  omega
theorem rot_more {α : Type} {c : List α} {m i j : Nat} (hij : j < i) (hj : 0 < j) (hi : i ≤ m) (hl : m + j ≤ c.length) : rotl (swapTo c (m - i) m j) (m - (i - j)) m (m + j) = rotl c (m - i) m (m + j) := by
  apply List.ext_getElem?
  intro p
  rw [rotl_get (by omega) (by omega) (by rw [swapTo_len]; omega), rotl_get (by omega) (by omega) (by omega)]
  simp only [swapTo_get (l := c) (a := m - i) (b := m) (n := j) (by omega) (by omega)]
  by_cases c1 : p < m - i
  · rw [if_pos (by omega), if_neg (by omega), if_neg (by omega), if_pos c1]
  · rw [if_neg c1]
    by_cases c2 : p < m - i + j
    · rw [if_pos (by omega), if_pos (by omega), if_pos (by omega)]
    · rw [if_neg (by omega)]
      by_cases c3 : p < m - (i - j) + (m + j - m)
      · rw [if_pos c3, if_neg (by omega), if_pos (by omega), if_neg (by omega), if_pos (by omega)]
        congr 1; omega
      · rw [if_neg c3]
        by_cases c4 : p < m + j
        · rw [if_pos c4, if_neg (by omega), if_neg (by omega), if_neg (by omega), if_pos c4]
        · rw [if_neg c4, if_neg (by omega), if_neg (by omega), if_neg (by omega), if_neg c4]
theorem rot_less {α : Type} {c : List α} {m i j : Nat} (hij : i < j) (hj : 0 < i) (hi : i ≤ m) (hl : m + j ≤ c.length) : rotl (swapTo c (m - i) (m + j - i) i) (m - i) m (m + (j - i)) = rotl c (m - i) m (m + j) := by
  apply List.ext_getElem?
  intro p
  rw [rotl_get (by omega) (by omega) (by rw [swapTo_len]; omega), rotl_get (by omega) (by omega) (by omega)]
  simp only [swapTo_get (l := c) (a := m - i) (b := m + j - i) (n := i) (by omega) (by omega)]
  by_cases c1 : p < m - i
  · rw [if_pos (by omega), if_neg (by omega), if_neg (by omega), if_pos c1]
  · rw [if_neg c1, if_neg c1]
    by_cases c2 : p < m - i + (m + (j - i) - m)
    · rw [if_pos c2, if_neg (by omega), if_neg (by omega), if_pos (by omega)]
    · rw [if_neg c2]
      by_cases c3 : p < m + (j - i)
      · rw [if_pos c3, if_pos (by omega), if_pos (by omega)]
        congr 1; omega
      · rw [if_neg c3]
        by_cases c4 : p < m + j
        · rw [if_neg (by omega), if_pos (by omega), if_neg (by omega), if_pos c4]
          congr 1; omega
        · rw [if_neg (by omega), if_neg (by omega), if_neg (by omega), if_neg c4]
theorem rot_last {α : Type} {c : List α} {m i : Nat} (hi : i ≤ m) (hl : m + i ≤ c.length) : swapTo c (m - i) m i = rotl c (m - i) m (m + i) := by
  apply List.ext_getElem?
  intro p
  rw [rotl_get (by omega) (by omega) (by omega), swapTo_get (by omega) (by omega)]
  by_cases c1 : p < m - i
  · rw [if_pos c1, if_neg (by omega), if_neg (by omega)]
  · rw [if_neg c1]
    by_cases c2 : p < m - i + (m + i - m)
    · rw [if_pos c2, if_pos (by omega)]
    · rw [if_neg c2, if_neg (by omega)]
      by_cases c3 : p < m + i
      · rw [if_pos c3, if_pos (by omega)]
        congr 1; omega
      · rw [if_neg c3, if_neg (by omega)]


set_option maxRecDepth 100000 in
set_option maxHeartbeats 1000000 in
theorem c_rotate (l : List (Tsk × Nat)) (a m b : Nat) (c : D) (h1 : a < m) (h2 : m < b) (h3 : b ≤ l.length) (hl : l.length ≤ 4611686018427387904) : RCall Tryd.prog 127 46 3 (l.map tds) ((rotl l a m b).map tds) [.v (.int .i64 a), .v (.int .i64 m), .v (.int .i64 b), c] (.tup []) := by
  refine RCall.of1 (chg := fun i => Nat.ble 1000 i) (xcall_of (n := 58) (ds' := []) Tryd.func127 rfl (by kernel_rfl) rfl [] rfl rfl ?_) rfl
  intro B w0 F0 fr ρ0
  refine AWP.seq ?_
  refine AWP.region ?_
  refine AOps.step rfl rfl rfl (AOp.moveD rfl rfl) ?_
  refine AOps.step rfl rfl rfl (AOp.moveD rfl rfl) ?_
  refine AOps.step rfl rfl rfl (AOp.sub64 rfl rfl rfl (by omega) (by omega)) ?_
  refine AOps.step rfl rfl rfl (AOp.assignD rfl rfl) ?_
  refine AOps.nil ?_
  refine AWP.seq ?_
  refine AWP.region ?_
  refine AOps.step rfl rfl rfl (AOp.moveD rfl rfl) ?_
  refine AOps.step rfl rfl rfl (AOp.moveD rfl rfl) ?_
  refine AOps.step rfl rfl rfl (AOp.sub64 rfl rfl rfl (by omega) (by omega)) ?_
  refine AOps.step rfl rfl rfl (AOp.assignD rfl rfl) ?_
  refine AOps.nil ?_
  refine AWP.seq ?_
  refine AWP.block ?_
  refine AWP.loop (G := List (Tsk × Nat) × Nat × Nat) (fun g => Env.of [(10, .d (.v (.int .i64 (g.2.1 : Int)))), (11, .d (.v (.int .i64 (g.2.2 : Int)))), (0, .own 1), (2, .d (.v (.int .i64 m))), (4, .d c)]) (fun g => [(1, .row 46 3 (g.1.map tds))]) (fun g => 0 < g.2.1 ∧ 0 < g.2.2 ∧ g.2.1 ≤ m ∧ m + g.2.2 ≤ l.length ∧ g.1.length = l.length ∧ rotl g.1 (m - g.2.1) m (m + g.2.2) = rotl l a m b) (fun g => g.2.1 + g.2.2) (l, m - a, b - m) ⟨by dsimp only; omega, by dsimp only; omega, by dsimp only; omega, by dsimp only; omega, rfl, by dsimp only; rw [show m - (m - a) = a by omega, show m + (b - m) = b by omega]⟩ (Sub.less ⟨(SLe.i64 (by dsimp only; omega)), (SLe.i64 (by dsimp only; omega)), SLe.refl _, SLe.refl _, SLe.refl _, trivial⟩ (row_same rfl)) ?_
  rintro ⟨x, i, j⟩ ⟨q1, q2, q3, q4, q5, q6⟩
  dsimp only at q1 q2 q3 q4 q5 q6 ⊢
  refine AWP.seq ?_
  refine AWP.seq ?_
  refine AWP.region ?_
  refine AOps.step rfl rfl rfl (AOp.moveD rfl rfl) ?_
  refine AOps.step rfl rfl rfl (AOp.moveD rfl rfl) ?_
  refine AOps.step rfl rfl rfl (AOp.neq rfl rfl rfl) ?_
  refine AOps.nil ?_
  refine AWP.cond rfl (fun h1 => ?_) (fun h1 => ?_)
  · replace h1 := of_decide_eq_true h1
    refine AWP.skip ?_
    refine AWP.block ?_
    refine AWP.seq ?_
    refine AWP.region ?_
    refine AOps.step rfl rfl rfl (AOp.moveD rfl rfl) ?_
    refine AOps.step rfl rfl rfl (AOp.moveD rfl rfl) ?_
    refine AOps.step rfl rfl rfl (AOp.gtr rfl rfl rfl) ?_
    refine AOps.nil ?_
    refine AWP.cond rfl (fun h2 => ?_) (fun h2 => ?_)
    · replace h2 := of_decide_eq_true h2
      have hij : j < i := by omega
      refine AWP.seq ?_
      refine AWP.region ?_
      refine AOps.step rfl rfl rfl (AOp.moveO rfl rfl) ?_
      refine AOps.step rfl rfl rfl (AOp.moveD rfl rfl) ?_
      refine AOps.step rfl rfl rfl (AOp.moveD rfl rfl) ?_
      refine AOps.step rfl rfl rfl (AOp.sub64 rfl rfl rfl (by omega) (by omega)) ?_
      refine AOps.step rfl rfl rfl (AOp.moveD rfl rfl) ?_
      refine AOps.step rfl rfl rfl (AOp.moveD rfl rfl) ?_
      refine AOps.step rfl rfl rfl (AOp.moveD rfl rfl) ?_
      -- turns 1
      refine AOps.callX rfl rfl rfl (.cons (SLe.refl _) (.cons (SLe.i64 (by omega)) (.cons (SLe.refl _) (.cons (SLe.refl _) (.cons (SLe.refl _) .nil))))) ((c_swapRange x (m - i) m j _ (by omega) (by omega) (by omega)) 1) ⟨(.head _), trivial⟩ rfl rfl (fun _ h => nomatch h) ?_
      refine AOps.nil ?_
      refine AWP.region ?_
      refine AOps.step rfl rfl rfl (AOp.moveD rfl rfl) ?_
      refine AOps.step rfl rfl rfl (AOp.moveD rfl rfl) ?_
      refine AOps.step rfl rfl rfl (AOp.sub64 rfl rfl rfl (by omega) (by omega)) ?_
      refine AOps.step rfl rfl rfl (AOp.assignD rfl rfl) ?_
      refine AOps.nil ?_
      refine ⟨(swapTo x (m - i) m j, i - j, j), ⟨by dsimp only; omega, q2, by dsimp only; omega, q4, by dsimp only; rw [swapTo_len, q5], by dsimp only; rw [rot_more hij q2 q3 (by omega), q6]⟩, (by dsimp only; omega), Sub.less ⟨(SLe.i64 (by dsimp only; omega)), (SLe.refl _), SLe.refl _, SLe.refl _, SLe.refl _, trivial⟩ (row_same rfl)⟩
    · replace h2 := of_decide_eq_false h2
      have hij : i < j := by omega
      refine AWP.seq ?_
      refine AWP.region ?_
      refine AOps.step rfl rfl rfl (AOp.moveO rfl rfl) ?_
      refine AOps.step rfl rfl rfl (AOp.moveD rfl rfl) ?_
      refine AOps.step rfl rfl rfl (AOp.moveD rfl rfl) ?_
      refine AOps.step rfl rfl rfl (AOp.sub64 rfl rfl rfl (by omega) (by omega)) ?_
      refine AOps.step rfl rfl rfl (AOp.moveD rfl rfl) ?_
      refine AOps.step rfl rfl rfl (AOp.moveD rfl rfl) ?_
      refine AOps.step rfl rfl rfl (AOp.add64 rfl rfl rfl (by omega) (by omega)) ?_
      refine AOps.step rfl rfl rfl (AOp.moveD rfl rfl) ?_
      refine AOps.step rfl rfl rfl (AOp.sub64 rfl rfl rfl (by omega) (by omega)) ?_
      refine AOps.step rfl rfl rfl (AOp.moveD rfl rfl) ?_
      refine AOps.step rfl rfl rfl (AOp.moveD rfl rfl) ?_
      -- turns 1
      refine AOps.callX rfl rfl rfl (.cons (SLe.refl _) (.cons (SLe.i64 (by omega)) (.cons (SLe.i64 (by omega)) (.cons (SLe.refl _) (.cons (SLe.refl _) .nil))))) ((c_swapRange x (m - i) (m + j - i) i _ (by omega) (by omega) (by omega)) 1) ⟨(.head _), trivial⟩ rfl rfl (fun _ h => nomatch h) ?_
      refine AOps.nil ?_
      refine AWP.region ?_
      refine AOps.step rfl rfl rfl (AOp.moveD rfl rfl) ?_
      refine AOps.step rfl rfl rfl (AOp.moveD rfl rfl) ?_
      refine AOps.step rfl rfl rfl (AOp.sub64 rfl rfl rfl (by omega) (by omega)) ?_
      refine AOps.step rfl rfl rfl (AOp.assignD rfl rfl) ?_
      refine AOps.nil ?_
      refine ⟨(swapTo x (m - i) (m + j - i) i, i, j - i), ⟨q1, by dsimp only; omega, q3, by dsimp only; omega, by dsimp only; rw [swapTo_len, q5], by dsimp only; rw [rot_less hij q1 q3 (by omega), q6]⟩, (by dsimp only; omega), Sub.less ⟨(SLe.refl _), (SLe.i64 (by dsimp only; omega)), SLe.refl _, SLe.refl _, SLe.refl _, trivial⟩ (row_same rfl)⟩
  · replace h1 := of_decide_eq_false h1
    have hij : i = j := by omega
    refine AWP.exit ?_
    refine AWP.region ?_
    refine AOps.step rfl rfl rfl (AOp.moveO rfl rfl) ?_
    refine AOps.step rfl rfl rfl (AOp.moveD rfl rfl) ?_
    refine AOps.step rfl rfl rfl (AOp.moveD rfl rfl) ?_
    refine AOps.step rfl rfl rfl (AOp.sub64 rfl rfl rfl (by omega) (by omega)) ?_
    refine AOps.step rfl rfl rfl (AOp.moveD rfl rfl) ?_
    refine AOps.step rfl rfl rfl (AOp.moveD rfl rfl) ?_
    refine AOps.step rfl rfl rfl (AOp.moveD rfl rfl) ?_
    -- turns 1
    refine AOps.callX rfl rfl rfl (.cons (SLe.refl _) (.cons (SLe.i64 (by omega)) (.cons (SLe.refl _) (.cons (SLe.refl _) (.cons (SLe.refl _) .nil))))) ((c_swapRange x (m - i) m i _ (by omega) (by omega) (by omega)) 1) ⟨(.head _), trivial⟩ rfl rfl (fun _ h => nomatch h) ?_
    refine AOps.nil ?_
    refine ⟨trivial, ⟨mem_row_eq (.head _) ?_, trivial⟩⟩
    all_goals (subst hij; rw [rot_last q3 (by omega), q6])

end Go.Proofs.YtieccphckobhjaaDoor


namespace Go.Proofs.YtieccphckobhjaaDoor
open Go.RowKit
set_option linter.unusedVariables false

/-! Types. -/
namespace TyT3

end TyT3
open TyT3


/-- What a comparing function must do. -/
structure Pre {α : Type} (cmp : α → α → Int) : Prop where
  asym : ∀ x y, cmp x y < 0 → 0 ≤ cmp y x
  trans : ∀ x y z, 0 ≤ cmp y x → 0 ≤ cmp z y → 0 ≤ cmp z x
variable {α : Type}
/-- By the comparison, then by the first place. -/
def tlt (cmp : α → α → Int) (p q : α × Nat) : Prop := cmp p.1 q.1 < 0 ∨ (0 ≤ cmp q.1 p.1 ∧ p.2 < q.2)
instance (cmp : α → α → Int) (p q : α × Nat) : Decidable (tlt cmp p q) := by unfold tlt; infer_instance
theorem tlt_irrefl {cmp : α → α → Int} (h : Pre cmp) (p : α × Nat) : ¬ tlt cmp p p := fun hh => by
  rcases hh with h1 | ⟨_, h1⟩
  · have := h.asym _ _ h1; omega
  · omega
theorem tlt_trans {cmp : α → α → Int} (h : Pre cmp) {p q r : α × Nat} (h1 : tlt cmp p q) (h2 : tlt cmp q r) : tlt cmp p r := by
  have le1 : 0 ≤ cmp q.1 p.1 := by rcases h1 with h1 | h1; exact h.asym _ _ h1; exact h1.1
  have le2 : 0 ≤ cmp r.1 q.1 := by rcases h2 with h2 | h2; exact h.asym _ _ h2; exact h2.1
  have le3 := h.trans _ _ _ le1 le2
  by_cases hc : cmp p.1 r.1 < 0
  · exact .inl hc
  · refine .inr ⟨le3, ?_⟩
    have hle : 0 ≤ cmp p.1 r.1 := by omega
    rcases h1 with h1 | ⟨_, h1⟩
    · have := h.trans _ _ _ le2 hle; omega
    · rcases h2 with h2 | ⟨_, h2⟩
      · have := h.trans _ _ _ hle le1; omega
      · omega
theorem tlt_total {cmp : α → α → Int} {p q : α × Nat} (hne : p.2 ≠ q.2) (hn : ¬ tlt cmp p q) : tlt cmp q p := by
  unfold tlt at *
  by_cases h1 : cmp q.1 p.1 < 0
  · exact .inl h1
  · refine .inr ⟨?_, ?_⟩
    · by_cases h2 : cmp p.1 q.1 < 0
      · exact absurd (.inl h2) hn
      · omega
    · by_cases h2 : p.2 < q.2
      · exact absurd (.inr ⟨by omega, h2⟩) hn
      · omega
/-- Two lists in order of the same elements are the same. -/
theorem sorted_unique {cmp : α → α → Int} (h : Pre cmp) : ∀ {l r : List (α × Nat)}, l.Perm r → l.Pairwise (tlt cmp) → r.Pairwise (tlt cmp) → l = r
  | [], r, hp, _, _ => (List.nil_perm.1 hp).symm
  | x :: l, r, hp, hl, hr => by
    rcases r with _ | ⟨y, r⟩
    · exact absurd hp.length_eq (by simp)
    · rw [List.pairwise_cons] at hl hr
      have hxy : x = y := by
        have hx : x ∈ y :: r := hp.subset List.mem_cons_self
        have hy : y ∈ x :: l := hp.symm.subset List.mem_cons_self
        rcases List.mem_cons.1 hx with h1 | h1
        · exact h1
        · rcases List.mem_cons.1 hy with h2 | h2
          · exact h2.symm
          · exact absurd (tlt_trans h (hl.1 y h2) (hr.1 x h1)) (tlt_irrefl h x)
      subst hxy
      rw [sorted_unique h ((List.perm_cons x).1 hp) hl.2 hr.2]
def tle (cmp : α → α → Int) (p q : α × Nat) : Bool := decide (¬ tlt cmp q p)
/-- The elements from a to b, in order. -/
def sortSeg (cmp : α → α → Int) (l : List (α × Nat)) (a b : Nat) : List (α × Nat) := l.take a ++ (((l.drop a).take (b - a)).mergeSort (tle cmp) ++ l.drop b)
def TagsOk (l : List (α × Nat)) : Prop := (l.map Prod.snd).Nodup
theorem mergeSort_tlt {cmp : α → α → Int} (h : Pre cmp) {l : List (α × Nat)} (ht : TagsOk l) : (l.mergeSort (tle cmp)).Pairwise (tlt cmp) := by
  have hp := List.mergeSort_perm l (tle cmp)
  have h1 : (l.mergeSort (tle cmp)).Pairwise (fun p q => tle cmp p q = true) := List.pairwise_mergeSort (le := tle cmp) (fun a b c hab hbc => by
      unfold tle at *
      simp only [decide_eq_true_eq] at *
      intro hca
      by_cases e : a.2 = b.2
      · by_cases e2 : b.2 = c.2
        · unfold tlt at *
          rcases hca with h5 | ⟨_, h5⟩
          · have x1 : 0 ≤ cmp b.1 a.1 := by
              by_cases hh : cmp b.1 a.1 < 0
              · exact absurd (.inl hh) hab
              · omega
            have x2 : 0 ≤ cmp c.1 b.1 := by
              by_cases hh : cmp c.1 b.1 < 0
              · exact absurd (.inl hh) hbc
              · omega
            have := h.trans _ _ _ x1 x2; omega
          · omega
        · have := tlt_total (cmp := cmp) (Ne.symm e2) hbc
          exact hab (tlt_trans h this hca)
      · have := tlt_total (cmp := cmp) (Ne.symm e) hab
        exact hbc (tlt_trans h hca this)) (fun a b => by
      unfold tle
      by_cases hba : tlt cmp b a
      · have : ¬ tlt cmp a b := fun hab => tlt_irrefl h a (tlt_trans h hab hba)
        simp [this]
      · simp [hba]) l
  have h2 : ((l.mergeSort (tle cmp)).map Prod.snd).Nodup := (hp.map Prod.snd).nodup_iff.2 ht
  rw [List.Nodup, List.pairwise_map] at h2
  refine (h1.and h2).imp fun {p q} ⟨h3, h4⟩ => ?_
  unfold tle at h3
  exact tlt_total (Ne.symm h4) (of_decide_eq_true h3)


end Go.Proofs.YtieccphckobhjaaDoor


namespace Go.Proofs.YtieccphckobhjaaDoor
open Go.RowKit
set_option linter.unusedVariables false

/-! Types. -/
namespace TyT4

end TyT4
open TyT4


variable {α : Type}
def SortedOn (cmp : α → α → Int) (c : List (α × Nat)) (a b : Nat) : Prop := ∀ i j x y, a ≤ i → i < j → j < b → c[i]? = some x → c[j]? = some y → tlt cmp x y
theorem split3 (c : List α) {a b : Nat} (hab : a ≤ b) : c = c.take a ++ ((c.drop a).take (b - a) ++ c.drop b) := by
  rw [show c.drop b = (c.drop a).drop (b - a) by rw [List.drop_drop]; congr 1; omega, List.take_append_drop, List.take_append_drop]
theorem seg_get (c : List α) {a b p : Nat} (hp : p < b - a) : ((c.drop a).take (b - a))[p]? = c[a + p]? := by rw [List.getElem?_take, if_pos hp, List.getElem?_drop]
theorem seg_pairwise {cmp : α → α → Int} {c : List (α × Nat)} {a b : Nat} (hs : SortedOn cmp c a b) : ((c.drop a).take (b - a)).Pairwise (tlt cmp) := by
  rw [List.pairwise_iff_getElem]
  intro i j hi hj hij
  have hi2 : i < b - a := by rw [List.length_take] at hi; omega
  have hj2 : j < b - a := by rw [List.length_take] at hj; omega
  refine hs (a + i) (a + j) _ _ (by omega) (by omega) (by omega) ?_ ?_
  · rw [← seg_get c hi2]; exact List.getElem?_eq_getElem hi
  · rw [← seg_get c hj2]; exact List.getElem?_eq_getElem hj
theorem sortSeg_eq {cmp : α → α → Int} (h : Pre cmp) {l c : List (α × Nat)} {a b : Nat} (hab : a ≤ b) (ht : TagsOk l) (hp : c.Perm l) (hout : ∀ p, p < a ∨ b ≤ p → c[p]? = l[p]?) (hs : SortedOn cmp c a b) : c = sortSeg cmp l a b := by
  have e1 : c.take a = l.take a := List.ext_getElem? fun p => by
    rw [List.getElem?_take, List.getElem?_take]
    by_cases hp : p < a
    · rw [if_pos hp, if_pos hp, hout p (.inl hp)]
    · rw [if_neg hp, if_neg hp]
  have e2 : c.drop b = l.drop b := List.ext_getElem? fun p => by
    rw [List.getElem?_drop, List.getElem?_drop, hout _ (.inr (by omega))]
  have hperm : ((c.drop a).take (b - a)).Perm ((l.drop a).take (b - a)) := by
    have hp2 := hp
    rw [split3 c hab, split3 l hab, e1, e2, List.perm_append_left_iff, List.perm_append_right_iff] at hp2
    exact hp2
  have ht2 : TagsOk ((l.drop a).take (b - a)) := by
    unfold TagsOk at *
    exact (ht.sublist (((List.take_sublist _ _).trans (List.drop_sublist _ _)).map _))
  have hm := mergeSort_tlt h ht2
  have e3 := sorted_unique h (hperm.trans (List.mergeSort_perm _ (tle cmp)).symm) (seg_pairwise hs) hm
  unfold sortSeg
  rw [← e3, ← e1, ← e2]
  exact split3 c hab
theorem sortSeg_perm (cmp : α → α → Int) (l : List (α × Nat)) {a b : Nat} (hab : a ≤ b) : (sortSeg cmp l a b).Perm l := by
  unfold sortSeg
  have : (l.take a ++ ((l.drop a).take (b - a) ++ l.drop b)).Perm l := by rw [← split3 l hab]
  refine List.Perm.trans ?_ this
  rw [List.perm_append_left_iff, List.perm_append_right_iff]
  exact List.mergeSort_perm _ _
theorem sortSeg_len (cmp : α → α → Int) (l : List (α × Nat)) {a b : Nat} (hab : a ≤ b) : (sortSeg cmp l a b).length = l.length := (sortSeg_perm cmp l hab).length_eq
theorem sortSeg_get (cmp : α → α → Int) (l : List (α × Nat)) {a b : Nat} (hab : a ≤ b) (hb : b ≤ l.length) (p : Nat) : (sortSeg cmp l a b)[p]? = if p < a then l[p]? else if p < b then (((l.drop a).take (b - a)).mergeSort (tle cmp))[p - a]? else l[p]? := by
  unfold sortSeg
  have e1 : (l.take a).length = a := by rw [List.length_take]; omega
  have e2 : (((l.drop a).take (b - a)).mergeSort (tle cmp)).length = b - a := by rw [List.length_mergeSort, List.length_take, List.length_drop]; omega
  by_cases c1 : p < a
  · rw [if_pos c1, List.getElem?_append_left (by omega), List.getElem?_take, if_pos c1]
  · rw [if_neg c1, List.getElem?_append_right (by omega), e1]
    by_cases c2 : p < b
    · rw [if_pos c2, List.getElem?_append_left (by omega)]
    · rw [if_neg c2, List.getElem?_append_right (by omega), e2, List.getElem?_drop]
      congr 1; omega
theorem sortSeg_out (cmp : α → α → Int) (l : List (α × Nat)) {a b : Nat} (hab : a ≤ b) (hb : b ≤ l.length) (p : Nat) (hp : p < a ∨ b ≤ p) : (sortSeg cmp l a b)[p]? = l[p]? := by
  rw [sortSeg_get cmp l hab hb]
  rcases hp with hp | hp
  · rw [if_pos hp]
  · rw [if_neg (by omega), if_neg (by omega)]
theorem sortSeg_sorted {cmp : α → α → Int} (h : Pre cmp) {l : List (α × Nat)} {a b : Nat} (hab : a ≤ b) (hb : b ≤ l.length) (ht : TagsOk l) : SortedOn cmp (sortSeg cmp l a b) a b := by
  have ht2 : TagsOk ((l.drop a).take (b - a)) := by
    unfold TagsOk at *
    exact (ht.sublist (((List.take_sublist _ _).trans (List.drop_sublist _ _)).map _))
  have hm := List.pairwise_iff_getElem.1 (mergeSort_tlt h ht2)
  intro i j x y hi hij hj hx hy
  rw [sortSeg_get cmp l hab hb, if_neg (by omega), if_pos (by omega)] at hx hy
  obtain ⟨h1, e1⟩ := List.getElem?_eq_some_iff.1 hx
  obtain ⟨h2, e2⟩ := List.getElem?_eq_some_iff.1 hy
  have := hm (i - a) (j - a) h1 h2 (by omega)
  rw [e1, e2] at this
  exact this
theorem TagsOk.perm {l r : List (α × Nat)} (h : TagsOk l) (hp : r.Perm l) : TagsOk r := (hp.map Prod.snd).nodup_iff.2 h
theorem TagsOk.ne {l : List (α × Nat)} (h : TagsOk l) {i j : Nat} {x y : α × Nat} (hij : i < j) (hx : l[i]? = some x) (hy : l[j]? = some y) : x.2 ≠ y.2 := by
  unfold TagsOk List.Nodup at h
  rw [List.pairwise_map, List.pairwise_iff_getElem] at h
  obtain ⟨h1, e1⟩ := List.getElem?_eq_some_iff.1 hx
  obtain ⟨h2, e2⟩ := List.getElem?_eq_some_iff.1 hy
  have := h i j h1 h2 hij
  rw [e1, e2] at this
  exact this
theorem sw_perm {l : List α} {i j : Nat} : (sw l i j).Perm l := by
  unfold sw
  split
  · rename_i x y hx hy
    obtain ⟨h1, e1⟩ := List.getElem?_eq_some_iff.1 hx
    obtain ⟨h2, e2⟩ := List.getElem?_eq_some_iff.1 hy
    rw [← e1, ← e2]
    exact List.set_set_perm h1 h2
  · exact List.Perm.refl _
theorem swapTo_perm {l : List α} {a b : Nat} : ∀ n, (swapTo l a b n).Perm l
  | 0 => List.Perm.refl _
  | n + 1 => sw_perm.trans (swapTo_perm n)
theorem rotl_perm {l : List α} {a m b : Nat} (h1 : a ≤ m) (h2 : m ≤ b) : (rotl l a m b).Perm l := by
  unfold rotl
  have e : l = l.take a ++ ((l.drop a).take (m - a) ++ ((l.drop m).take (b - m) ++ l.drop b)) := by
    rw [show (l.drop m).take (b - m) ++ l.drop b = l.drop m from (by rw [show l.drop b = (l.drop m).drop (b - m) by rw [List.drop_drop]; congr 1; omega, List.take_append_drop])]
    exact split3 l h1
  conv => rhs; rw [e]
  rw [List.perm_append_left_iff, ← List.append_assoc, ← List.append_assoc, List.perm_append_right_iff]
  exact List.perm_append_comm


end Go.Proofs.YtieccphckobhjaaDoor


namespace Go.Proofs.YtieccphckobhjaaDoor
open Go.RowKit
set_option linter.unusedVariables false

/-! Types. -/
namespace TyT5

end TyT5
open TyT5


variable {α : Type}
/-- After i elements of the insertion sort of a to b. -/
structure Ins (cmp : α → α → Int) (l : List (α × Nat)) (a b : Nat) (c : List (α × Nat)) (i : Nat) : Prop where
  perm : c.Perm l
  out : ∀ p, p < a ∨ i ≤ p → c[p]? = l[p]?
  sorted : SortedOn cmp c a i
  tags : ∀ p x q z, a ≤ p → p < i → i ≤ q → q < b → c[p]? = some x → l[q]? = some z → x.2 < z.2
/-- The element i is on its way down, at j. -/
structure InsJ (cmp : α → α → Int) (l : List (α × Nat)) (a b : Nat) (c : List (α × Nat)) (i j : Nat) : Prop where
  perm : c.Perm l
  out : ∀ p, p < a ∨ i < p → c[p]? = l[p]?
  aj : a ≤ j
  ji : j ≤ i
  at_ : c[j]? = l[i]?
  sorted : ∀ p q x y, a ≤ p → p < q → q ≤ i → q ≠ j → c[p]? = some x → c[q]? = some y → tlt cmp x y
  tags : ∀ p x q z, a ≤ p → p ≤ i → p ≠ j → i ≤ q → q < b → c[p]? = some x → l[q]? = some z → x.2 < z.2
def Incr (l : List (α × Nat)) (a b : Nat) : Prop := ∀ i j x y, a ≤ i → i < j → j < b → l[i]? = some x → l[j]? = some y → x.2 < y.2
theorem Ins.start {cmp : α → α → Int} {l : List (α × Nat)} {a b : Nat} (h : Incr l a b) : Ins cmp l a b l (a + 1) :=
  ⟨List.Perm.refl _, fun _ _ => rfl, fun i j x y h1 h2 h3 => by omega, fun p x q z h1 h2 h3 h4 h5 h6 => h p q x z h1 (by omega) h4 h5 h6⟩
theorem Ins.down {cmp : α → α → Int} {l c : List (α × Nat)} {a b i : Nat} (h : Ins cmp l a b c i) (hai : a < i) : InsJ cmp l a b c i i :=
  ⟨h.perm, fun p hp => h.out p (by omega), by omega, Nat.le_refl _, h.out i (.inr (Nat.le_refl _)), fun p q x y h1 h2 h3 h4 => h.sorted p q x y h1 h2 (by omega), fun p x q z h1 h2 h3 h4 h5 => h.tags p x q z h1 (by omega) h4 h5⟩
theorem InsJ.step {cmp : α → α → Int} {l c : List (α × Nat)} {a b i j : Nat} (h : InsJ cmp l a b c i j) (haj : a < j) (hil : i < c.length) {x y : α × Nat} (hx : c[j]? = some x) (hy : c[j - 1]? = some y) (hlt : tlt cmp x y) : InsJ cmp l a b (sw c j (j - 1)) i (j - 1) := by
  have hji := h.ji
  have g := fun p => sw_get (l := c) (i := j) (j := j - 1) (by omega) (by omega) p
  refine ⟨sw_perm.trans h.perm, fun p hp => ?_, by omega, by omega, ?_, fun p q u v h1 h2 h3 h4 hu hv => ?_, fun p u q z h1 h2 h3 h4 h5 hu hz => ?_⟩
  · rw [g, if_neg (by omega), if_neg (by omega)]; exact h.out p hp
  · rw [g, if_pos rfl]; exact h.at_
  · rw [g] at hu hv
    rw [if_neg h4] at hv
    by_cases e1 : q = j
    · rw [if_pos e1, hy] at hv
      cases hv
      by_cases e2 : p = j - 1
      · rw [if_pos e2, hx] at hu; cases hu; exact hlt
      · rw [if_neg e2, if_neg (by omega)] at hu
        exact h.sorted p (j - 1) _ _ h1 (by omega) (by omega) (by omega) hu hy
    · rw [if_neg e1] at hv
      by_cases e2 : p = j - 1
      · rw [if_pos e2] at hu
        exact h.sorted j q _ _ (by omega) (by omega) h3 e1 hu hv
      · rw [if_neg e2] at hu
        by_cases e3 : p = j
        · rw [if_pos e3] at hu
          exact h.sorted (j - 1) q _ _ (by omega) (by omega) h3 e1 hu hv
        · rw [if_neg e3] at hu
          exact h.sorted p q _ _ h1 h2 h3 e1 hu hv
  · rw [g, if_neg h3] at hu
    by_cases e1 : p = j
    · rw [if_pos e1] at hu
      exact h.tags (j - 1) u q z (by omega) (by omega) (by omega) h4 h5 hu hz
    · rw [if_neg e1] at hu
      exact h.tags p u q z h1 h2 e1 h4 h5 hu hz
theorem InsJ.done {cmp : α → α → Int} (hc : Pre cmp) {l c : List (α × Nat)} {a b i j : Nat} (h : InsJ cmp l a b c i j) (hinc : Incr l a b) (hib : i < b) (hil : b ≤ l.length)
    (hstop : j = a ∨ ∃ x y, c[j]? = some x ∧ c[j - 1]? = some y ∧ ¬ cmp x.1 y.1 < 0) : Ins cmp l a b c (i + 1) := by
  have hji := h.ji
  have haj := h.aj
  refine ⟨h.perm, fun p hp => h.out p (by omega), fun p q x y h1 h2 h3 hx hy => ?_, fun p x q z h1 h2 h3 h4 hx hz => ?_⟩
  · by_cases e : q = j
    · subst e
      rcases hstop with h4 | ⟨u, v, hu, hv, hn⟩
      · omega
      · rw [hy] at hu; cases hu
        have hti : tlt cmp v y := by
          refine .inr ⟨by omega, ?_⟩
          have hz := h.at_
          rw [hy] at hz
          exact h.tags (q - 1) v i y (by omega) (by omega) (by omega) (Nat.le_refl _) hib hv hz.symm
        by_cases e2 : p = q - 1
        · subst e2; rw [hx] at hv; cases hv; exact hti
        · exact tlt_trans hc (h.sorted p (q - 1) x v h1 (by omega) (by omega) (by omega) hx hv) hti
    · exact h.sorted p q x y h1 h2 (by omega) e hx hy
  · by_cases e : p = j
    · subst e
      have hz2 := h.at_
      rw [hx] at hz2
      exact hinc i q x z (by omega) (by omega) h4 hz2.symm hz
    · exact h.tags p x q z h1 (by omega) e (by omega) h4 hx hz


end Go.Proofs.YtieccphckobhjaaDoor


namespace Go.Proofs.YtieccphckobhjaaDoor
open Go.RowKit
set_option linter.unusedVariables false

/-! Types. -/
namespace TyT6
theorem ag_46 : AggT Tryd.prog 46 3 := .of (by kernel_rfl)
theorem et_41 : ElemTy Tryd.prog 41 46 3 40 (.agg #[(.int .i64 0), (.string ⟨#[]⟩), (.string ⟨#[]⟩)]) := ⟨by kernel_rfl, by kernel_rfl, by kernel_rfl, by decide⟩
theorem sz_46 : ∀ w, (sizeOf 46).run Tryd.prog w = .ok 3 w := SizeT.of (by kernel_rfl)
end TyT6
open TyT6


theorem ins_end {α : Type} {cmp : α → α → Int} (hc : Pre cmp) {l c : List (α × Nat)} {a b i : Nat} (ht : TagsOk l) (hab : a ≤ b) (h : Ins cmp l a b c i) (hi : b ≤ i) (h2 : i ≤ b ∨ (c = l ∧ b ≤ a)) : c = sortSeg cmp l a b := by
  by_cases h3 : i ≤ b
  · have : i = b := by omega
    subst this
    exact sortSeg_eq hc hab ht h.perm h.out h.sorted
  · obtain ⟨h4, h5⟩ := h2.resolve_left h3
    exact sortSeg_eq hc hab ht h.perm (fun p _ => by rw [h4]) (fun p q x y h6 h7 h8 => by omega)


set_option maxRecDepth 100000 in
set_option maxHeartbeats 1000000 in
theorem c_insSort (l : List (Tsk × Nat)) (a b : Nat) (cmp : Tsk → Tsk → Int) (hc : Pre cmp) (f : Nat) (caps : List D) (hf : ∀ x y : Tsk, ACall Tryd.prog f (.agg x.ds :: .agg y.ds :: caps) (.v (.int .i64 (cmp x y)))) (ht : TagsOk l) (hinc : Incr l a b) (hab : a ≤ b) (hb : b ≤ l.length) (hl : l.length ≤ 4611686018427387904) : RCall Tryd.prog 112 46 3 (l.map tds) ((sortSeg cmp l a b).map tds) [.v (.int .i64 a), .v (.int .i64 b), .clo (.func f) caps] (.tup []) := by
  refine RCall.of1 (chg := fun i => Nat.ble 1000 i) (xcall_of (n := 53) (ds' := []) Tryd.func112 rfl (by kernel_rfl) rfl [] rfl rfl ?_) rfl
  intro B w0 F0 fr ρ0
  refine AWP.seq ?_
  refine AWP.region ?_
  refine AOps.step rfl rfl rfl (AOp.moveD rfl rfl) ?_
  refine AOps.step rfl rfl rfl (AOp.add64 rfl rfl rfl (by omega) (by omega)) ?_
  refine AOps.step rfl rfl rfl (AOp.assignD rfl rfl) ?_
  refine AOps.nil ?_
  refine AWP.block ?_
  refine AWP.loop (G := List (Tsk × Nat) × Nat) (fun g => Env.of [(8, .d (.v (.int .i64 (g.2 : Int)))), (0, .own 1), (1, .d (.v (.int .i64 a))), (2, .d (.v (.int .i64 b))), (3, .d (.clo (.func f) caps))]) (fun g => [(1, .row 46 3 (g.1.map tds))]) (fun g => Ins cmp l a b g.1 g.2 ∧ a < g.2 ∧ (g.2 ≤ b ∨ (g.1 = l ∧ b ≤ a))) (fun g => b - g.2) (l, a + 1) ⟨Ins.start hinc, by dsimp only; omega, by dsimp only; by_cases h : a + 1 ≤ b; exact .inl h; exact .inr ⟨rfl, by omega⟩⟩ (Sub.less ⟨(SLe.i64 (by dsimp only; omega)), SLe.refl _, SLe.refl _, SLe.refl _, SLe.refl _, trivial⟩ (row_same rfl)) ?_
  rintro ⟨c0, i⟩ ⟨hI, hai, hie⟩
  dsimp only at hI hai hie ⊢
  refine AWP.seq ?_
  refine AWP.seq ?_
  refine AWP.region ?_
  refine AOps.step rfl rfl rfl (AOp.moveD rfl rfl) ?_
  refine AOps.step rfl rfl rfl (AOp.moveD rfl rfl) ?_
  refine AOps.step rfl rfl rfl (AOp.lss rfl rfl rfl) ?_
  refine AOps.nil ?_
  refine AWP.cond rfl (fun h1 => ?_) (fun h1 => ?_)
  · replace h1 := of_decide_eq_true h1
    have hib : i < b := by omega
    refine AWP.skip ?_
    refine AWP.seq ?_
    refine AWP.block ?_
    refine AWP.seq ?_
    refine AWP.region ?_
    refine AOps.step rfl rfl rfl (AOp.moveD rfl rfl) ?_
    refine AOps.step rfl rfl rfl (AOp.assignD rfl rfl) ?_
    refine AOps.nil ?_
    refine AWP.block ?_
    refine AWP.loop (G := List (Tsk × Nat) × Nat) (fun g => Env.of [(9, .d (.v (.int .i64 (g.2 : Int)))), (8, .d (.v (.int .i64 (i : Int)))), (0, .own 1), (1, .d (.v (.int .i64 a))), (2, .d (.v (.int .i64 b))), (3, .d (.clo (.func f) caps))]) (fun g => [(1, .row 46 3 (g.1.map tds))]) (fun g => InsJ cmp l a b g.1 i g.2) (fun g => g.2) (c0, i) (hI.down hai) (Sub.less ⟨(SLe.i64 rfl), SLe.refl _, SLe.refl _, SLe.refl _, SLe.refl _, SLe.refl _, trivial⟩ (row_same rfl)) ?_
    rintro ⟨c, j⟩ hj
    dsimp only at hj ⊢
    have hcl := hj.perm.length_eq
    have hji := hj.ji
    have haj := hj.aj
    refine AWP.seq ?_
    refine AWP.seq ?_
    refine AWP.draw (by kernel_rfl) (by kernel_rfl) ?_
    refine DRun.step rfl rfl rfl (AOp.moveD rfl rfl) ?_
    refine DRun.step rfl rfl rfl (AOp.moveD rfl rfl) ?_
    refine DRun.step rfl rfl rfl (AOp.gtr rfl rfl rfl) ?_
    refine DRun.step rfl rfl rfl (AOp.moveD rfl rfl) ?_
    refine DRun.split 21 rfl (fun g2 => ?_) (fun g2 => ?_)
    · replace g2 := of_decide_eq_true g2
      have hja : a < j := by omega
      have hjc : j < c.length := by omega
      refine DRun.step ⟨21, rfl, .inl ⟨_, rfl, rfl⟩⟩ rfl rfl (AOp.moveD rfl rfl) ?_
      refine DRun.step ⟨21, rfl, .inl ⟨_, rfl, rfl⟩⟩ rfl rfl (AOp.moveO rfl rfl) ?_
      refine DRun.step ⟨21, rfl, .inl ⟨_, rfl, rfl⟩⟩ rfl rfl (AOp.moveD rfl rfl) ?_
      refine DRun.step ⟨21, rfl, .inl ⟨_, rfl, rfl⟩⟩ rfl rfl (AOp.indexOwn rfl et_41 rfl rfl (.head _) j rfl (by rw [List.length_map]; omega)) ?_
      refine DRun.step ⟨21, rfl, .inl ⟨_, rfl, rfl⟩⟩ rfl rfl (AOp.loadRowAgg rfl ag_46 rfl (.head _) j rfl (at_list hjc)) ?_
      refine DRun.step ⟨21, rfl, .inl ⟨_, rfl, rfl⟩⟩ rfl rfl (AOp.moveO rfl rfl) ?_
      refine DRun.step ⟨21, rfl, .inl ⟨_, rfl, rfl⟩⟩ rfl rfl (AOp.moveD rfl rfl) ?_
      refine DRun.step ⟨21, rfl, .inl ⟨_, rfl, rfl⟩⟩ rfl rfl (AOp.sub64 rfl rfl rfl (by omega) (by omega)) ?_
      refine DRun.step ⟨21, rfl, .inl ⟨_, rfl, rfl⟩⟩ rfl rfl (AOp.indexOwn rfl et_41 rfl rfl (.head _) (j - 1) (by omega) (by rw [List.length_map]; omega)) ?_
      refine DRun.step ⟨21, rfl, .inl ⟨_, rfl, rfl⟩⟩ rfl rfl (AOp.loadRowAgg rfl ag_46 rfl (.head _) (j - 1) rfl (at_list (by omega))) ?_
      refine DRun.step ⟨21, rfl, .inl ⟨_, rfl, rfl⟩⟩ rfl rfl (AOp.callClo rfl rfl (.cons (ArgOk.rfl' rfl) (.cons (ArgOk.rfl' rfl) .nil)) (hf (c[j]'hjc).1 (c[j-1]'(by omega)).1)) ?_
      refine DRun.step ⟨21, rfl, .inl ⟨_, rfl, rfl⟩⟩ rfl rfl (AOp.lss rfl rfl rfl) ?_
      refine DRun.step rfl rfl rfl (AOp.pickT rfl rfl rfl) ?_
      refine DRun.nil ?_
      refine AWP.cond rfl (fun h3 => ?_) (fun h3 => ?_)
      · replace h3 := of_decide_eq_true h3
        have HS := hj.step hja (by omega) (List.getElem?_eq_getElem hjc) (List.getElem?_eq_getElem (by omega)) (.inl h3)
        refine AWP.skip ?_
        refine AWP.seq ?_
        refine AWP.block ?_
        refine AWP.drawG (fun k => (Nat.beq k 15 || Nat.beq k 17) || (Nat.beq k 8 || Nat.beq k 9 || Nat.beq k 12 || Nat.beq k 13 || Nat.beq k 14 || Nat.beq k 16)) (fun k => Nat.beq k 15 || Nat.beq k 17) (fun k h => Bool.or_eq_true_iff.2 (.inl h)) (by kernel_rfl) (by kernel_rfl) (by kernel_rfl) ?_
        refine GRun.step rfl rfl rfl (fun _ => AOp.moveO rfl rfl) ?_
        refine GRun.step rfl rfl rfl (fun _ => AOp.moveD rfl rfl) ?_
        refine GRun.step rfl rfl rfl (fun _ => AOp.moveO rfl rfl) ?_
        refine GRun.step rfl rfl rfl (fun _ => AOp.moveD rfl rfl) ?_
        refine GRun.step rfl rfl rfl (fun _ => AOp.sub64 rfl rfl rfl (by omega) (by omega)) ?_
        refine GRun.step rfl rfl rfl (fun _ => AOp.moveO rfl rfl) ?_
        refine GRun.step rfl rfl rfl (fun _ => AOp.moveD rfl rfl) ?_
        refine GRun.step rfl rfl rfl (fun _ => AOp.sub64 rfl rfl rfl (by omega) (by omega)) ?_
        refine GRun.stepS rfl rfl rfl rfl (AOp.indexOwn rfl et_41 rfl rfl (.head _) (j - 1) (by omega) (by rw [List.length_map]; omega)) ?_
        refine GRun.stepS rfl rfl rfl rfl (AOp.loadRowAgg rfl ag_46 rfl (.head _) (j - 1) rfl (at_list (by omega))) ?_
        refine GRun.step rfl rfl rfl (fun _ => AOp.moveO rfl rfl) ?_
        refine GRun.step rfl rfl rfl (fun _ => AOp.moveD rfl rfl) ?_
        refine GRun.stepS rfl rfl rfl rfl (AOp.indexOwn rfl et_41 rfl rfl (.head _) j rfl (by rw [List.length_map]; omega)) ?_
        refine GRun.stepS rfl rfl rfl rfl (AOp.loadRowAgg rfl ag_46 rfl (.head _) j rfl (at_list hjc)) ?_
        refine GRun.stepS rfl rfl rfl rfl (AOp.indexOwn rfl et_41 rfl rfl (.head _) j rfl (by rw [List.length_map]; omega)) ?_
        refine GRun.eff rfl rfl rfl (EOp.storeRow rfl rfl sz_46 rfl (.head _) rfl rfl rfl j 0 rfl (at_list hjc) (Nat.le_of_ble_eq_true rfl)) ?_
        refine GRun.stepS rfl rfl rfl rfl (AOp.indexOwn rfl et_41 rfl rfl (.head _) (j - 1) (by omega) (by rw [List.length_set, List.length_map]; omega)) ?_
        refine GRun.eff rfl rfl rfl (EOp.storeRow rfl rfl sz_46 rfl (.head _) rfl rfl rfl (j - 1) 0 rfl (List.getElem?_eq_getElem (by rw [List.length_set, List.length_map]; omega)) (Nat.le_of_ble_eq_true rfl)) ?_
        refine GRun.nil ?_
        refine AWP.region ?_
        refine AOps.step rfl rfl rfl (AOp.moveD rfl rfl) ?_
        refine AOps.step rfl rfl rfl (AOp.sub64 rfl rfl rfl (by omega) (by omega)) ?_
        refine AOps.step rfl rfl rfl (AOp.assignD rfl rfl) ?_
        refine AOps.nil ?_
        refine ⟨(sw c j (j - 1), j - 1), HS, (by dsimp only; omega), Sub.less ⟨(SLe.i64 (by dsimp only; omega)), SLe.refl _, SLe.refl _, SLe.refl _, SLe.refl _, SLe.refl _, trivial⟩ (row_same (row_swap (enc := tds) (size := 3) (cur := c) (i := j) (j := j - 1) (fun _ => rfl) hjc (by omega) rfl (List.getElem?_eq_getElem (by rw [List.length_set, List.length_map]; omega))))⟩
      · replace h3 := of_decide_eq_false h3
        have HD := hj.done hc hinc hib hb (.inr ⟨_, _, List.getElem?_eq_getElem hjc, List.getElem?_eq_getElem (by omega), h3⟩)
        refine AWP.exit ?_
        refine AWP.region ?_
        refine AOps.step rfl rfl rfl (AOp.moveD rfl rfl) ?_
        refine AOps.step rfl rfl rfl (AOp.add64 rfl rfl rfl (by omega) (by omega)) ?_
        refine AOps.step rfl rfl rfl (AOp.assignD rfl rfl) ?_
        refine AOps.nil ?_
        refine ⟨(c, i + 1), ⟨HD, by dsimp only; omega, .inl hib⟩, (by dsimp only; omega), Sub.less ⟨(SLe.i64 (by dsimp only; omega)), SLe.refl _, SLe.refl _, SLe.refl _, SLe.refl _, trivial⟩ (row_same rfl)⟩
    · replace g2 := of_decide_eq_false g2
      have HD := hj.done hc hinc hib hb (.inl (by omega))
      refine DRun.pass ⟨21, rfl, .inl ⟨_, rfl, rfl⟩⟩ rfl rfl ?_
      refine DRun.pass ⟨21, rfl, .inl ⟨_, rfl, rfl⟩⟩ rfl rfl ?_
      refine DRun.pass ⟨21, rfl, .inl ⟨_, rfl, rfl⟩⟩ rfl rfl ?_
      refine DRun.pass ⟨21, rfl, .inl ⟨_, rfl, rfl⟩⟩ rfl rfl ?_
      refine DRun.pass ⟨21, rfl, .inl ⟨_, rfl, rfl⟩⟩ rfl rfl ?_
      refine DRun.pass ⟨21, rfl, .inl ⟨_, rfl, rfl⟩⟩ rfl rfl ?_
      refine DRun.pass ⟨21, rfl, .inl ⟨_, rfl, rfl⟩⟩ rfl rfl ?_
      refine DRun.pass ⟨21, rfl, .inl ⟨_, rfl, rfl⟩⟩ rfl rfl ?_
      refine DRun.pass ⟨21, rfl, .inl ⟨_, rfl, rfl⟩⟩ rfl rfl ?_
      refine DRun.pass ⟨21, rfl, .inl ⟨_, rfl, rfl⟩⟩ rfl rfl ?_
      refine DRun.pass ⟨21, rfl, .inl ⟨_, rfl, rfl⟩⟩ rfl rfl ?_
      refine DRun.pass ⟨21, rfl, .inl ⟨_, rfl, rfl⟩⟩ rfl rfl ?_
      refine DRun.step rfl rfl rfl (AOp.pickF rfl rfl rfl) ?_
      refine DRun.nil ?_
      refine AWP.cond rfl (fun h => nomatch h) (fun _ => ?_)
      refine AWP.exit ?_
      refine AWP.region ?_
      refine AOps.step rfl rfl rfl (AOp.moveD rfl rfl) ?_
      refine AOps.step rfl rfl rfl (AOp.add64 rfl rfl rfl (by omega) (by omega)) ?_
      refine AOps.step rfl rfl rfl (AOp.assignD rfl rfl) ?_
      refine AOps.nil ?_
      refine ⟨(c, i + 1), ⟨HD, by dsimp only; omega, .inl hib⟩, (by dsimp only; omega), Sub.less ⟨(SLe.i64 (by dsimp only; omega)), SLe.refl _, SLe.refl _, SLe.refl _, SLe.refl _, trivial⟩ (row_same rfl)⟩
  · replace h1 := of_decide_eq_false h1
    have HF := ins_end hc ht hab hI (by omega) hie
    refine AWP.exit ?_
    refine ⟨trivial, ⟨mem_row_eq (.head _) ?_, trivial⟩⟩
    all_goals (rw [HF])

end Go.Proofs.YtieccphckobhjaaDoor


namespace Go.Proofs.YtieccphckobhjaaDoor
open Go.RowKit
set_option linter.unusedVariables false
section
variable {P : Program} {B : Nat} {ops : Array Oper} {o : Oper} {e : Env} {σ : Obs}
/-- A number that fits, turned into another kind. -/
theorem AOp.convSame {s t : TypeId} {x : Operand} {k k0 : IntKind} {n : Int} (ho : o.op = .convert s t x) (hc : convB P s t k = true) (hx : e.ev x = .d (.v (.int k0 n))) (hw : k.wrap n = n) : AOp P B ops o e σ (.d (.v (.int k n))) := by
  have := AOp.convInt (P := P) (B := B) (ops := ops) (σ := σ) ho hc hx
  rwa [hw] at this
theorem wrapU64 {n : Int} (h0 : 0 ≤ n) (h1 : n ≤ 9223372036854775807) : IntKind.u64.wrap n = n := by rw [IntKind.wrap_u64]; omega
/-- n >> 1. -/
theorem AOp.half {t ty : TypeId} {x y : Operand} {a : Int} (ho : o.op = .binOp .shr t x y ty) (hx : e.ev x = .d (.v (.int .u64 a))) (hy : e.ev y = .d (.v (.int .u64 1))) : AOp P B ops o e σ (.d (.v (.int .u64 (a / 2)))) :=
  .bin ho hx hy fun w => by
  rw [Sem.run_bind, eqGuard_int]
  simp only [Result.andThen_ok, binOp, Op.shift]
  have h1 : ¬ ((1 : Int) < 0) := by decide
  rw [if_neg h1]
  have h2 : Min.min (1 : Int).toNat IntKind.u64.bits = 1 := by decide
  rw [h2]
  simp only [Sem.run_pure]
  congr 2
  rw [Int.fdiv_eq_ediv_of_nonneg _ (by decide)]
  rfl
end
end Go.Proofs.YtieccphckobhjaaDoor


namespace Go.Proofs.YtieccphckobhjaaDoor
open Go.RowKit
set_option linter.unusedVariables false

/-! Types. -/
namespace TyT7

end TyT7
open TyT7


variable {α : Type}
/-- The tags of the first run lie below those of the second one. -/
def Cross (l : List (α × Nat)) (a m b : Nat) : Prop := ∀ i j x y, a ≤ i → i < m → m ≤ j → j < b → l[i]? = some x → l[j]? = some y → x.2 < y.2
theorem at_some (l : List α) {i : Nat} (h : i < l.length) : l[i]? = some l[i] := List.getElem?_eq_getElem h
/-- Where the tags are so, an element of run 2 is below one of run 1 if it compares so. -/
theorem cross_lt {cmp : α → α → Int} {x y : α × Nat} (ht : x.2 < y.2) : tlt cmp y x ↔ cmp y.1 x.1 < 0 := by
  unfold tlt
  constructor
  · rintro (h | ⟨_, h⟩)
    · exact h
    · omega
  · exact .inl
theorem cross_ge {cmp : α → α → Int} {x y : α × Nat} (ht : x.2 < y.2) (h : ¬ cmp y.1 x.1 < 0) : tlt cmp x y := .inr ⟨by omega, ht⟩
theorem sortSeg_mem {cmp : α → α → Int} {l : List (α × Nat)} {a b : Nat} (hab : a ≤ b) (hb : b ≤ l.length) {p : Nat} (h1 : a ≤ p) (h2 : p < b) {x : α × Nat} (h : (sortSeg cmp l a b)[p]? = some x) : ∃ q, a ≤ q ∧ q < b ∧ l[q]? = some x := by
  rw [sortSeg_get cmp l hab hb, if_neg (by omega), if_pos h2] at h
  have h3 := List.mem_mergeSort.1 (List.mem_of_getElem? h)
  obtain ⟨k, hk, e⟩ := List.mem_iff_getElem.1 h3
  have hk2 : k < b - a := by rw [List.length_take] at hk; omega
  refine ⟨a + k, by omega, by omega, ?_⟩
  rw [← seg_get l hk2, List.getElem?_eq_getElem hk, e]
theorem rotl_id1 {l : List α} {m b : Nat} (h : m ≤ b) : rotl l m m b = l := by
  unfold rotl
  rw [Nat.sub_self, List.take_zero, List.nil_append]
  exact (split3 l h).symm
theorem rotl_id2 {l : List α} {a m : Nat} (h : a ≤ m) : rotl l a m m = l := by
  unfold rotl
  rw [Nat.sub_self, List.take_zero, List.nil_append]
  exact (split3 l h).symm
/-- What the binary search has found. -/
structure Cut (cmp : α → α → Int) (l : List (α × Nat)) (a m b s e : Nat) : Prop where
  has : a ≤ s
  sm : s ≤ m
  me : m ≤ e
  eb : e ≤ b
  low : ∀ i j x y, a ≤ i → i < s → e ≤ j → j < b → l[i]? = some x → l[j]? = some y → tlt cmp x y
  high : ∀ i j x y, s ≤ i → i < m → m ≤ j → j < e → l[i]? = some x → l[j]? = some y → tlt cmp y x
theorem cut_merge {cmp : α → α → Int} (hc : Pre cmp) {l : List (α × Nat)} {a m b s e : Nat} (ht : TagsOk l) (hb : b ≤ l.length) (h1 : SortedOn cmp l a m) (h2 : SortedOn cmp l m b) (hx : Cross l a m b) (hcut : Cut cmp l a m b s e) :
    SortedOn cmp (rotl l s m e) a s ∧ SortedOn cmp (rotl l s m e) s (s + (e - m)) ∧ Cross (rotl l s m e) a s (s + (e - m)) ∧
    SortedOn cmp (sortSeg cmp (rotl l s m e) a (s + (e - m))) (s + (e - m)) e ∧ SortedOn cmp (sortSeg cmp (rotl l s m e) a (s + (e - m))) e b ∧ Cross (sortSeg cmp (rotl l s m e) a (s + (e - m))) (s + (e - m)) e b ∧
    sortSeg cmp (sortSeg cmp (rotl l s m e) a (s + (e - m))) (s + (e - m)) b = sortSeg cmp l a b := by
  obtain ⟨has, sm, me, eb, low, high⟩ := hcut
  have g := fun p => rotl_get (l := l) sm me (by omega) p
  have hrl : (rotl l s m e).length = l.length := rotl_len sm me (by omega)
  have hrp : (rotl l s m e).Perm l := rotl_perm sm me
  have k1 : SortedOn cmp (rotl l s m e) a s := fun i j x y q1 q2 q3 hi hj => by
    rw [g, if_pos (by omega)] at hi hj
    exact h1 i j x y q1 q2 (by omega) hi hj
  have k2 : SortedOn cmp (rotl l s m e) s (s + (e - m)) := fun i j x y q1 q2 q3 hi hj => by
    rw [g, if_neg (by omega), if_pos (by omega)] at hi hj
    exact h2 _ _ x y (by omega) (by omega) (by omega) hi hj
  have k3 : Cross (rotl l s m e) a s (s + (e - m)) := fun i j x y q1 q2 q3 q4 hi hj => by
    rw [g, if_pos (by omega)] at hi
    rw [g, if_neg (by omega), if_pos (by omega)] at hj
    exact hx _ _ x y q1 (by omega) (by omega) (by omega) hi hj
  have hlr : ∀ p q x y, a ≤ p → p < s + (e - m) → s + (e - m) ≤ q → q < b → (rotl l s m e)[p]? = some x → (rotl l s m e)[q]? = some y → tlt cmp x y := fun p q x y q1 q2 q3 q4 hp hq => by
    rw [g] at hp hq
    rw [if_neg (by omega), if_neg (by omega)] at hq
    by_cases c1 : p < s
    · rw [if_pos c1] at hp
      by_cases c2 : q < e
      · rw [if_pos c2] at hq; exact h1 _ _ x y q1 (by omega) (by omega) hp hq
      · rw [if_neg c2] at hq; exact low _ _ x y q1 c1 (by omega) q4 hp hq
    · rw [if_neg c1, if_pos q2] at hp
      by_cases c2 : q < e
      · rw [if_pos c2] at hq; exact high _ _ y x (by omega) (by omega) (by omega) (by omega) hq hp
      · rw [if_neg c2] at hq; exact h2 _ _ x y (by omega) (by omega) q4 hp hq
  have hm1 : a ≤ s + (e - m) := by omega
  have hm2 : s + (e - m) ≤ b := by omega
  have so := fun p hp => sortSeg_out cmp (rotl l s m e) hm1 (by rw [hrl]; omega) p hp
  have k4 : SortedOn cmp (sortSeg cmp (rotl l s m e) a (s + (e - m))) (s + (e - m)) e := fun i j x y q1 q2 q3 hi hj => by
    rw [so _ (by omega), g, if_neg (by omega), if_neg (by omega), if_pos (by omega)] at hi hj
    exact h1 _ _ x y (by omega) (by omega) (by omega) hi hj
  have k5 : SortedOn cmp (sortSeg cmp (rotl l s m e) a (s + (e - m))) e b := fun i j x y q1 q2 q3 hi hj => by
    rw [so _ (by omega), g, if_neg (by omega), if_neg (by omega), if_neg (by omega)] at hi hj
    exact h2 _ _ x y (by omega) q2 q3 hi hj
  have k6 : Cross (sortSeg cmp (rotl l s m e) a (s + (e - m))) (s + (e - m)) e b := fun i j x y q1 q2 q3 q4 hi hj => by
    rw [so _ (by omega), g, if_neg (by omega), if_neg (by omega), if_pos (by omega)] at hi
    rw [so _ (by omega), g, if_neg (by omega), if_neg (by omega), if_neg (by omega)] at hj
    exact hx _ _ x y (by omega) (by omega) (by omega) q4 hi hj
  refine ⟨k1, k2, k3, k4, k5, k6, ?_⟩
  have ht1 : TagsOk (rotl l s m e) := ht.perm hrp
  have hl1 : (sortSeg cmp (rotl l s m e) a (s + (e - m))).length = l.length := by rw [sortSeg_len cmp _ hm1, hrl]
  have ht2 : TagsOk (sortSeg cmp (rotl l s m e) a (s + (e - m))) := ht1.perm (sortSeg_perm cmp _ hm1)
  have so2 := fun p hp => sortSeg_out cmp (sortSeg cmp (rotl l s m e) a (s + (e - m))) hm2 (by rw [hl1]; omega) p hp
  refine sortSeg_eq hc (by omega) ht ((sortSeg_perm cmp _ hm2).trans ((sortSeg_perm cmp _ hm1).trans hrp)) (fun p hp => ?_) (fun p q x y q1 q2 q3 hp hq => ?_)
  · rw [so2 p (by omega), so p (by omega), g]
    rcases hp with hp | hp
    · rw [if_pos (by omega)]
    · rw [if_neg (by omega), if_neg (by omega), if_neg (by omega)]
  · by_cases c1 : s + (e - m) ≤ p
    · exact sortSeg_sorted hc hm2 (by rw [hl1]; omega) ht2 p q x y c1 q2 q3 hp hq
    · rw [so2 p (.inl (by omega))] at hp
      by_cases c2 : q < s + (e - m)
      · rw [so2 q (.inl c2)] at hq
        exact sortSeg_sorted hc hm1 (by rw [hrl]; omega) ht1 p q x y q1 q2 c2 hp hq
      · obtain ⟨p', u1, u2, u3⟩ := sortSeg_mem hm1 (by rw [hrl]; omega) q1 (by omega) hp
        obtain ⟨q', v1, v2, v3⟩ := sortSeg_mem hm2 (by rw [hl1]; omega) (by omega) q3 hq
        rw [so q' (.inr v1)] at v3
        exact hlr p' q' x y u1 u2 v1 v2 u3 v3


end Go.Proofs.YtieccphckobhjaaDoor


namespace Go.Proofs.YtieccphckobhjaaDoor
open Go.RowKit
set_option linter.unusedVariables false

/-! Types. -/
namespace TyT8

end TyT8
open TyT8


variable {α : Type}
theorem rot_up {l : List α} {a k : Nat} (h : a ≤ k) (hk : k + 1 < l.length) : sw (rotl l a (a + 1) (k + 1)) k (k + 1) = rotl l a (a + 1) (k + 2) := by
  apply List.ext_getElem?
  intro p
  have hl : (rotl l a (a + 1) (k + 1)).length = l.length := rotl_len (by omega) (by omega) (by omega)
  rw [sw_get (by omega) (by omega), rotl_get (by omega) (by omega) (by omega) p, rotl_get (by omega) (by omega) (by omega) k, rotl_get (by omega) (by omega) (by omega) (k + 1), rotl_get (by omega) (by omega) (by omega) p]
  by_cases c1 : p = k + 1
  · rw [if_pos c1, if_neg (by omega), if_neg (by omega), if_pos (by omega), if_neg (by omega), if_neg (by omega), if_pos (by omega)]
    congr 1; omega
  · rw [if_neg c1]
    by_cases c2 : p = k
    · rw [if_pos c2, if_neg (by omega), if_neg (by omega), if_neg (by omega), if_neg (by omega), if_pos (by omega)]
      congr 1; omega
    · rw [if_neg c2]
      by_cases c3 : p < a
      · rw [if_pos c3, if_pos c3]
      · rw [if_neg c3, if_neg c3]
        by_cases c4 : p < k
        · rw [if_pos (by omega), if_pos (by omega)]
        · rw [if_neg (by omega), if_neg (by omega), if_neg (by omega), if_neg (by omega)]
theorem rot_down {l : List α} {m k : Nat} (h : k ≤ m) (h0 : 0 < k) (hm : m < l.length) : sw (rotl l k m (m + 1)) k (k - 1) = rotl l (k - 1) m (m + 1) := by
  apply List.ext_getElem?
  intro p
  have hl : (rotl l k m (m + 1)).length = l.length := rotl_len (by omega) (by omega) (by omega)
  rw [sw_get (by omega) (by omega), rotl_get (by omega) (by omega) (by omega) p, rotl_get (by omega) (by omega) (by omega) k, rotl_get (by omega) (by omega) (by omega) (k - 1), rotl_get (by omega) (by omega) (by omega) p]
  by_cases c1 : p = k - 1
  · rw [if_pos c1, if_neg (by omega), if_pos (by omega), if_neg (by omega), if_pos (by omega)]
    congr 1; omega
  · rw [if_neg c1]
    by_cases c2 : p = k
    · rw [if_pos c2, if_pos (by omega), if_neg (by omega), if_neg (by omega), if_pos (by omega)]
      congr 1; omega
    · rw [if_neg c2]
      by_cases c3 : p < k - 1
      · rw [if_pos (by omega), if_pos c3]
      · by_cases c4 : p < m + 1
        · rw [if_neg (by omega), if_neg (by omega), if_pos c4, if_neg (by omega), if_neg (by omega)]
        · rw [if_neg (by omega), if_neg (by omega), if_neg c4, if_neg (by omega), if_neg (by omega)]
/-- One element of run 1, let down among those of run 2. -/
theorem one_up {cmp : α → α → Int} (hc : Pre cmp) {l : List (α × Nat)} {a b i : Nat} (ht : TagsOk l) (hb : b ≤ l.length) (h2 : SortedOn cmp l (a + 1) b) (hi : a + 1 ≤ i) (hib : i ≤ b)
    (hlo : ∀ h x y, a + 1 ≤ h → h < i → l[h]? = some y → l[a]? = some x → tlt cmp y x) (hhi : ∀ h x y, i ≤ h → h < b → l[h]? = some y → l[a]? = some x → tlt cmp x y) : rotl l a (a + 1) i = sortSeg cmp l a b := by
  have g := fun p => rotl_get (l := l) (a := a) (m := a + 1) (b := i) (by omega) hi (by omega) p
  refine sortSeg_eq hc (by omega) ht (rotl_perm (by omega) hi) (fun p hp => ?_) (fun p q x y q1 q2 q3 hp hq => ?_)
  · rw [g]
    rcases hp with hp | hp
    · rw [if_pos hp]
    · rw [if_neg (by omega), if_neg (by omega), if_neg (by omega)]
  · rw [g, if_neg (by omega)] at hp hq
    by_cases c1 : p < a + (i - (a + 1))
    · rw [if_pos c1] at hp
      by_cases c2 : q < a + (i - (a + 1))
      · rw [if_pos c2] at hq; exact h2 _ _ x y (by omega) (by omega) (by omega) hp hq
      · rw [if_neg c2] at hq
        by_cases c3 : q < i
        · rw [if_pos c3, show q - (i - (a + 1)) = a by omega] at hq
          exact hlo _ y x (by omega) (by omega) hp hq
        · rw [if_neg c3] at hq; exact h2 _ _ x y (by omega) (by omega) q3 hp hq
    · rw [if_neg c1] at hp
      rw [if_neg (by omega), if_neg (by omega)] at hq
      by_cases c3 : p < i
      · rw [if_pos c3, show p - (i - (a + 1)) = a by omega] at hp
        exact hhi q x y (by omega) q3 hq hp
      · rw [if_neg c3] at hp; exact h2 _ _ x y (by omega) q2 q3 hp hq
/-- One element of run 2, let up among those of run 1. -/
theorem one_down {cmp : α → α → Int} (hc : Pre cmp) {l : List (α × Nat)} {a m i : Nat} (ht : TagsOk l) (hb : m + 1 ≤ l.length) (h1 : SortedOn cmp l a m) (hi : a ≤ i) (him : i ≤ m)
    (hlo : ∀ h x y, a ≤ h → h < i → l[h]? = some y → l[m]? = some x → tlt cmp y x) (hhi : ∀ h x y, i ≤ h → h < m → l[h]? = some y → l[m]? = some x → tlt cmp x y) : rotl l i m (m + 1) = sortSeg cmp l a (m + 1) := by
  have g := fun p => rotl_get (l := l) (a := i) (m := m) (b := m + 1) him (by omega) (by omega) p
  refine sortSeg_eq hc (by omega) ht (rotl_perm him (by omega)) (fun p hp => ?_) (fun p q x y q1 q2 q3 hp hq => ?_)
  · rw [g]
    rcases hp with hp | hp
    · rw [if_pos (by omega)]
    · rw [if_neg (by omega), if_neg (by omega), if_neg (by omega)]
  · rw [g] at hp hq
    by_cases c1 : p < i
    · rw [if_pos c1] at hp
      by_cases c2 : q < i
      · rw [if_pos c2] at hq; exact h1 _ _ x y q1 q2 (by omega) hp hq
      · rw [if_neg c2] at hq
        by_cases c3 : q < i + (m + 1 - m)
        · rw [if_pos c3, show q + (m - i) = m by omega] at hq
          exact hlo _ y x q1 c1 hp hq
        · rw [if_neg c3, if_pos q3] at hq; exact h1 _ _ x y q1 (by omega) (by omega) hp hq
    · rw [if_neg c1] at hp
      rw [if_neg (by omega), if_neg (by omega), if_pos q3] at hq
      by_cases c3 : p < i + (m + 1 - m)
      · rw [if_pos c3, show p + (m - i) = m by omega] at hp
        exact hhi _ x y (by omega) (by omega) hq hp
      · rw [if_neg c3, if_pos (by omega)] at hp; exact h1 _ _ x y (by omega) (by omega) (by omega) hp hq


end Go.Proofs.YtieccphckobhjaaDoor


namespace Go.Proofs.YtieccphckobhjaaDoor
open Go.RowKit
set_option linter.unusedVariables false

/-! Types. -/
namespace TyT9

end TyT9
open TyT9


/-- The binary search among run 2 for an element x of run 1, or the other way round: who lies before i is said by lo, who lies from j on by hi. -/
structure Srch {β : Type} (l : List β) (lo hi : β → Prop) (a b i j : Nat) : Prop where
  ai : a ≤ i
  ij : i ≤ j
  jb : j ≤ b
  low : ∀ h y, a ≤ h → h < i → l[h]? = some y → lo y
  high : ∀ h y, j ≤ h → h < b → l[h]? = some y → hi y
theorem Srch.start {β : Type} {l : List β} {lo hi : β → Prop} {a b : Nat} (h : a ≤ b) : Srch l lo hi a b a b := ⟨Nat.le_refl _, h, Nat.le_refl _, fun _ _ _ _ => by omega, fun _ _ _ _ => by omega⟩
theorem Srch.up {β : Type} {l : List β} {lo hi : β → Prop} {a b i j h : Nat} (s : Srch l lo hi a b i j) (h1 : i ≤ h) (h2 : h < j) (hl : ∀ k y, a ≤ k → k ≤ h → l[k]? = some y → lo y) : Srch l lo hi a b (h + 1) j :=
  ⟨by have := s.ai; omega, by omega, s.jb, fun k y q1 q2 => hl k y q1 (by omega), s.high⟩
theorem Srch.dn {β : Type} {l : List β} {lo hi : β → Prop} {a b i j h : Nat} (s : Srch l lo hi a b i j) (h1 : i ≤ h) (h2 : h < j) (hh : ∀ k y, h ≤ k → k < b → l[k]? = some y → hi y) : Srch l lo hi a b i h :=
  ⟨s.ai, h1, by have := s.jb; omega, s.low, hh⟩
theorem mono_up {α : Type} {cmp : α → α → Int} (hc : Pre cmp) {l : List (α × Nat)} {a b h : Nat} {x y0 : α × Nat} (hs : SortedOn cmp l a b) (hb : h < b) (hy : l[h]? = some y0) (ht : tlt cmp y0 x) : ∀ k y, a ≤ k → k ≤ h → l[k]? = some y → tlt cmp y x := fun k y h1 h2 h3 => by
  by_cases e : k = h
  · subst e; rw [hy] at h3; cases h3; exact ht
  · exact tlt_trans hc (hs k h y y0 h1 (by omega) hb h3 hy) ht
theorem mono_dn {α : Type} {cmp : α → α → Int} (hc : Pre cmp) {l : List (α × Nat)} {a b h : Nat} {x y0 : α × Nat} (hs : SortedOn cmp l a b) (ha : a ≤ h) (hy : l[h]? = some y0) (ht : tlt cmp x y0) : ∀ k y, h ≤ k → k < b → l[k]? = some y → tlt cmp x y := fun k y h1 h2 h3 => by
  by_cases e : h = k
  · subst e; rw [hy] at h3; cases h3; exact ht
  · exact tlt_trans hc ht (hs h k y0 y ha (by omega) h2 hy h3)
/-- The search for the cut: c from s on has its partner p - c below it, c before s has not. -/
structure CutS (cmp : Tsk → Tsk → Int) (l : List (Tsk × Nat)) (p lo0 hi0 s r : Nat) : Prop where
  ls : lo0 ≤ s
  sr : s ≤ r
  rh : r ≤ hi0
  low : lo0 < s → ∃ x y, l[s - 1]? = some x ∧ l[p - (s - 1)]? = some y ∧ tlt cmp x y
  high : r < hi0 → ∃ x y, l[r]? = some x ∧ l[p - r]? = some y ∧ tlt cmp y x
theorem CutS.cut {cmp : Tsk → Tsk → Int} (hc : Pre cmp) {l : List (Tsk × Nat)} {a m b mid lo0 hi0 s : Nat} (h1 : SortedOn cmp l a m) (h2 : SortedOn cmp l m b) (hmid : mid = (a + b) / 2) (ham : a < m) (hmb : m < b)
    (hl : (mid < m ∧ lo0 + b = mid + m ∧ hi0 = mid) ∨ (m ≤ mid ∧ lo0 = a ∧ hi0 = m)) (h : CutS cmp l (mid + m - 1) lo0 hi0 s s) : Cut cmp l a m b s (mid + m - s) := by
  have ls := h.ls
  have rh := h.rh
  refine ⟨by omega, by omega, by omega, by omega, fun i j x y q1 q2 q3 q4 hx hy => ?_, fun i j x y q1 q2 q3 q4 hx hy => ?_⟩
  · obtain ⟨u, v, hu, hv, ht⟩ := h.low (by omega)
    have hv2 : l[mid + m - s]? = some v := by rw [← hv]; congr 1; omega
    have e1 : tlt cmp x v := mono_up hc h1 (by omega) hu ht i x q1 (by omega) hx
    exact mono_dn hc h2 (by omega) hv2 e1 j y q3 q4 hy
  · obtain ⟨u, v, hu, hv, ht⟩ := h.high (by omega)
    have hv2 : l[mid + m - s - 1]? = some v := by rw [← hv]; congr 1; omega
    have e1 : tlt cmp y u := mono_up hc h2 (by omega) hv2 ht j y q3 (by omega) hy
    exact mono_dn hc h1 (by omega) hu e1 i x q1 q2 hx


end Go.Proofs.YtieccphckobhjaaDoor
