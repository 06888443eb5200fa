/- Walks over abstract values. Printed by tools/gen.py. No statement of the seat. -/
import Derived.Test.YtieccphckobhjaaDoorC4
namespace Go.Proofs.YtieccphckobhjaaDoor
open Go.RowKit
set_option linter.unusedVariables false

/-! Types. -/
namespace TyC5
theorem ag_26 : AggT Tryd.prog 26 3 := .of (by kernel_rfl)
theorem ag_69 : AggT Tryd.prog 69 2 := .of (by kernel_rfl)
theorem ag_73 : AggT Tryd.prog 73 5 := .of (by kernel_rfl)
theorem ag_77 : AggT Tryd.prog 77 7 := .of (by kernel_rfl)
theorem bt_4 : Tryd.prog.underlying 4 = some .bool := by kernel_rfl
theorem et_22 : ElemTy Tryd.prog 22 69 2 24 (.agg #[(.string ⟨#[]⟩), (.int .i64 0)]) := ⟨by kernel_rfl, by kernel_rfl, by kernel_rfl, by decide⟩
theorem et_23 : ElemTy Tryd.prog 23 73 5 64 (.agg #[(.string ⟨#[]⟩), (.string ⟨#[]⟩), (.string ⟨#[]⟩), (.int .i64 0), (.int .i64 0)]) := ⟨by kernel_rfl, by kernel_rfl, by kernel_rfl, by decide⟩
theorem et_24 : ElemTy Tryd.prog 24 77 7 96 (.agg #[(.string ⟨#[]⟩), (.string ⟨#[]⟩), (.string ⟨#[]⟩), (.int .i64 0), (.int .i64 0), (.int .i64 0), (.slice none 0 0)]) := ⟨by kernel_rfl, by kernel_rfl, by kernel_rfl, by decide⟩
theorem et_75 : ElemTy Tryd.prog 75 3 1 8 (.int .i64 0) := ⟨by kernel_rfl, by kernel_rfl, by kernel_rfl, by decide⟩
theorem fo_26_0 : fieldOff Tryd.prog 26 0 = some 0 := by kernel_rfl
theorem fo_26_1 : fieldOff Tryd.prog 26 1 = some 1 := by kernel_rfl
theorem fo_26_2 : fieldOff Tryd.prog 26 2 = some 2 := by kernel_rfl
theorem fo_69_0 : fieldOff Tryd.prog 69 0 = some 0 := by kernel_rfl
theorem fo_69_1 : fieldOff Tryd.prog 69 1 = some 1 := by kernel_rfl
theorem fo_73_0 : fieldOff Tryd.prog 73 0 = some 0 := by kernel_rfl
theorem fo_73_1 : fieldOff Tryd.prog 73 1 = some 1 := by kernel_rfl
theorem fo_73_2 : fieldOff Tryd.prog 73 2 = some 2 := by kernel_rfl
theorem fo_73_3 : fieldOff Tryd.prog 73 3 = some 3 := by kernel_rfl
theorem fo_73_4 : fieldOff Tryd.prog 73 4 = some 4 := by kernel_rfl
theorem fo_77_0 : fieldOff Tryd.prog 77 0 = some 0 := by kernel_rfl
theorem fo_77_1 : fieldOff Tryd.prog 77 1 = some 1 := by kernel_rfl
theorem fo_77_2 : fieldOff Tryd.prog 77 2 = some 2 := by kernel_rfl
theorem fo_77_3 : fieldOff Tryd.prog 77 3 = some 3 := by kernel_rfl
theorem fo_77_4 : fieldOff Tryd.prog 77 4 = some 4 := by kernel_rfl
theorem fo_77_5 : fieldOff Tryd.prog 77 5 = some 5 := by kernel_rfl
theorem fo_77_6 : fieldOff Tryd.prog 77 6 = some 6 := by kernel_rfl
theorem sc_22 : Scal Tryd.prog 22 := .of (by kernel_rfl)
theorem sc_23 : Scal Tryd.prog 23 := .of (by kernel_rfl)
theorem sc_24 : Scal Tryd.prog 24 := .of (by kernel_rfl)
theorem sc_3 : Scal Tryd.prog 3 := .of (by kernel_rfl)
theorem sc_75 : Scal Tryd.prog 75 := .of (by kernel_rfl)
theorem sc_9 : Scal Tryd.prog 9 := .of (by kernel_rfl)
theorem sz_69 : ∀ w, (sizeOf 69).run Tryd.prog w = .ok 2 w := SizeT.of (by kernel_rfl)
theorem sz_73 : ∀ w, (sizeOf 73).run Tryd.prog w = .ok 5 w := SizeT.of (by kernel_rfl)
theorem sz_77 : ∀ w, (sizeOf 77).run Tryd.prog w = .ok 7 w := SizeT.of (by kernel_rfl)
theorem zt_69 : (Tryd.prog.info? 69).bind (·.zero) = some (.agg #[(.string ⟨#[]⟩), (.int .i64 0)]) := by kernel_rfl
theorem zt_73 : (Tryd.prog.info? 73).bind (·.zero) = some (.agg #[(.string ⟨#[]⟩), (.string ⟨#[]⟩), (.string ⟨#[]⟩), (.int .i64 0), (.int .i64 0)]) := by kernel_rfl
theorem zt_77 : (Tryd.prog.info? 77).bind (·.zero) = some (.agg #[(.string ⟨#[]⟩), (.string ⟨#[]⟩), (.string ⟨#[]⟩), (.int .i64 0), (.int .i64 0), (.int .i64 0), (.slice none 0 0)]) := by kernel_rfl
end TyC5
open TyC5

set_option maxRecDepth 100000 in
set_option maxHeartbeats 1000000 in
theorem c_rCopy (v : Vlt) (c : Cpy) (b : Option Cpy) (hv : okItems v) (hA : ¬ (itemIdx v c.item < 0 ∨ carrIdx v c.carrier < 0)) (hB : ¬ (∃ b', b = some b' ∧ 0 ≤ cpyCmp b' c)) (hne : c.carrier ≠ ⟨#[]⟩) : ACall Tryd.prog 38 [.agg v.ds, .agg c.ds] (.v (.int .i64 (cpyFault v c b))) := by
  refine acall_of (n := 90) (ds' := [.v (.int .i64 (cpyFault v c b))]) Tryd.func38 rfl (by kernel_rfl) rfl [4] rfl rfl ?_
  intro B w0 F0 fr
  obtain ⟨ki, hki, eki, _⟩ := idxBy_some (show 0 ≤ itemIdx v c.item by omega)
  have hbi := hv _ (List.getElem_mem hki)
  have hib := itemBlocks_at hki eki
  refine AWP.seq ?_
  refine AWP.region ?_
  refine AOps.step rfl rfl rfl (AOp.box rfl rfl rfl) ?_
  refine AOps.step rfl rfl rfl (AOp.box rfl rfl rfl) ?_
  refine AOps.step rfl rfl rfl (AOp.assignD rfl rfl) ?_
  refine AOps.nil ?_
  refine AWP.seq ?_
  refine AWP.block ?_
  refine AWP.seq ?_
  refine AWP.region ?_
  refine AOps.step rfl rfl rfl (AOp.fieldAddr rfl fo_77_2 rfl) ?_
  refine AOps.step rfl rfl rfl (AOp.load rfl sc_9 rfl) ?_
  refine AOps.step rfl rfl rfl (AOp.sneq rfl rfl rfl) ?_
  refine AOps.step rfl rfl rfl (AOp.moveD rfl rfl) ?_
  refine AOps.split 11 rfl (fun g1 => ?_) (fun g1 => ?_)
  · replace g1 := of_decide_eq_true g1
    refine AOps.step ⟨11, rfl, .inl ⟨_, rfl, rfl⟩⟩ rfl rfl (AOp.loadAgg rfl ag_26 rfl rfl) ?_
    refine AOps.step ⟨11, rfl, .inl ⟨_, rfl, rfl⟩⟩ rfl rfl (AOp.fieldAddr rfl fo_77_2 rfl) ?_
    refine AOps.step ⟨11, rfl, .inl ⟨_, rfl, rfl⟩⟩ rfl rfl (AOp.load rfl sc_9 rfl) ?_
    refine AOps.step ⟨11, rfl, .inl ⟨_, rfl, rfl⟩⟩ rfl rfl (AOp.call rfl (.cons (ArgOk.rfl' rfl) (.cons (ArgOk.rfl' rfl) .nil)) (c_carrierOf _ _)) ?_
    refine AOps.step ⟨11, rfl, .inl ⟨_, rfl, rfl⟩⟩ rfl rfl (AOp.lss rfl rfl rfl) ?_
    refine AOps.step rfl rfl rfl (AOp.pickT rfl rfl rfl) ?_
    refine AOps.step rfl rfl rfl (AOp.assignD rfl rfl) ?_
    refine AOps.nil ?_
    refine AWP.cond rfl (fun h2 => ?_) (fun h2 => ?_)
    · replace h2 := of_decide_eq_true h2
      have HF : cpyFault v c b = 9 := ((if_neg hA).trans ((if_neg hB).trans (if_pos ⟨by assumption, h2⟩)))
      refine AWP.seq ?_
      refine AWP.region ?_
      refine AOps.step rfl rfl rfl (AOp.assignD rfl rfl) ?_
      refine AOps.nil ?_
      refine AWP.ret ?_
      refine ⟨RetD.eq rfl ?_, trivial⟩
      all_goals (rw [HF])
    · replace h2 := of_decide_eq_false h2
      have hC : ¬ (c.frm ≠ ⟨#[]⟩ ∧ carrIdx v c.frm < 0) := fun hh => h2 hh.2
      refine AWP.seq ?_
      refine AWP.region ?_
      refine AOps.step rfl rfl rfl (AOp.fieldAddr rfl fo_77_2 rfl) ?_
      refine AOps.step rfl rfl rfl (AOp.load rfl sc_9 rfl) ?_
      refine AOps.step rfl rfl rfl (AOp.sneq rfl rfl rfl) ?_
      refine AOps.step rfl rfl rfl (AOp.moveD rfl rfl) ?_
      refine AOps.split 22 rfl (fun g3 => ?_) (fun g3 => ?_)
      · replace g3 := of_decide_eq_true g3
        refine AOps.step ⟨22, rfl, .inl ⟨_, rfl, rfl⟩⟩ rfl rfl (AOp.fieldAddr rfl fo_77_2 rfl) ?_
        refine AOps.step ⟨22, rfl, .inl ⟨_, rfl, rfl⟩⟩ rfl rfl (AOp.load rfl sc_9 rfl) ?_
        refine AOps.step ⟨22, rfl, .inl ⟨_, rfl, rfl⟩⟩ rfl rfl (AOp.fieldAddr rfl fo_77_1 rfl) ?_
        refine AOps.step ⟨22, rfl, .inl ⟨_, rfl, rfl⟩⟩ rfl rfl (AOp.load rfl sc_9 rfl) ?_
        refine AOps.step ⟨22, rfl, .inl ⟨_, rfl, rfl⟩⟩ rfl rfl (AOp.seql rfl rfl rfl) ?_
        refine AOps.step rfl rfl rfl (AOp.pickT rfl rfl rfl) ?_
        refine AOps.step rfl rfl rfl (AOp.assignD rfl rfl) ?_
        refine AOps.nil ?_
        refine AWP.cond rfl (fun h4 => ?_) (fun h4 => ?_)
        · replace h4 := of_decide_eq_true h4
          have HF : cpyFault v c b = 12 := ((if_neg hA).trans ((if_neg hB).trans ((if_neg hC).trans (if_pos h4))))
          refine AWP.seq ?_
          refine AWP.region ?_
          refine AOps.step rfl rfl rfl (AOp.assignD rfl rfl) ?_
          refine AOps.nil ?_
          refine AWP.ret ?_
          refine ⟨RetD.eq rfl ?_, trivial⟩
          all_goals (rw [HF])
        · replace h4 := of_decide_eq_false h4
          have hDD := h4
          refine AWP.seq ?_
          refine AWP.region ?_
          refine AOps.step rfl rfl rfl (AOp.fieldAddr rfl fo_77_3 rfl) ?_
          refine AOps.step rfl rfl rfl (AOp.load rfl sc_3 rfl) ?_
          refine AOps.step rfl rfl rfl (AOp.call rfl (.cons (ArgOk.rfl' rfl) .nil) (c_rDay _)) ?_
          refine AOps.step rfl rfl rfl (AOp.not rfl rfl) ?_
          refine AOps.step rfl rfl rfl (AOp.moveD rfl rfl) ?_
          refine AOps.split 34 rfl (fun g5 => ?_) (fun g5 => ?_)
          · replace g5 := bnot_t g5; replace g5 := of_decide_eq_false g5
            have HF : cpyFault v c b = 1 := ((if_neg hA).trans ((if_neg hB).trans ((if_neg hC).trans ((if_neg hDD).trans (if_pos (.inl g5))))))
            refine AOps.pass ⟨34, rfl, .inl ⟨_, rfl, rfl⟩⟩ rfl rfl ?_
            refine AOps.pass ⟨34, rfl, .inl ⟨_, rfl, rfl⟩⟩ rfl rfl ?_
            refine AOps.pass ⟨34, rfl, .inl ⟨_, rfl, rfl⟩⟩ rfl rfl ?_
            refine AOps.pass ⟨34, rfl, .inl ⟨_, rfl, rfl⟩⟩ rfl rfl ?_
            refine AOps.pass ⟨34, rfl, .inl ⟨_, rfl, rfl⟩⟩ rfl rfl ?_
            refine AOps.pass ⟨34, rfl, .inl ⟨_, rfl, rfl⟩⟩ rfl rfl ?_
            refine AOps.step rfl rfl rfl (AOp.pickT rfl rfl rfl) ?_
            refine AOps.step rfl rfl rfl (AOp.moveD rfl rfl) ?_
            refine AOps.pass ⟨42, rfl, .inl ⟨_, rfl, rfl⟩⟩ rfl rfl ?_
            refine AOps.pass ⟨42, rfl, .inl ⟨_, rfl, rfl⟩⟩ rfl rfl ?_
            refine AOps.pass ⟨42, rfl, .inl ⟨_, rfl, rfl⟩⟩ rfl rfl ?_
            refine AOps.pass ⟨42, rfl, .inl ⟨_, rfl, rfl⟩⟩ rfl rfl ?_
            refine AOps.step rfl rfl rfl (AOp.pickT rfl rfl rfl) ?_
            refine AOps.step rfl rfl rfl (AOp.assignD rfl rfl) ?_
            refine AOps.nil ?_
            refine AWP.cond rfl (fun _ => ?_) (fun h => nomatch h)
            refine AWP.seq ?_
            refine AWP.region ?_
            refine AOps.step rfl rfl rfl (AOp.assignD rfl rfl) ?_
            refine AOps.nil ?_
            refine AWP.ret ?_
            refine ⟨RetD.eq rfl ?_, trivial⟩
            all_goals (rw [HF])
          · replace g5 := bnot_f g5; replace g5 := of_decide_eq_true g5
            have he1 := g5
            refine AOps.step ⟨34, rfl, .inl ⟨_, rfl, rfl⟩⟩ rfl rfl (AOp.fieldAddr rfl fo_77_4 rfl) ?_
            refine AOps.step ⟨34, rfl, .inl ⟨_, rfl, rfl⟩⟩ rfl rfl (AOp.load rfl sc_3 rfl) ?_
            refine AOps.step ⟨34, rfl, .inl ⟨_, rfl, rfl⟩⟩ rfl rfl (AOp.fieldAddr rfl fo_77_3 rfl) ?_
            refine AOps.step ⟨34, rfl, .inl ⟨_, rfl, rfl⟩⟩ rfl rfl (AOp.load rfl sc_3 rfl) ?_
            refine AOps.step ⟨34, rfl, .inl ⟨_, rfl, rfl⟩⟩ rfl rfl (AOp.call rfl (.cons (ArgOk.rfl' rfl) (.cons (ArgOk.rfl' rfl) (.cons (ArgOk.rfl' rfl) .nil))) (c_rWithin _ _ _)) ?_
            refine AOps.step ⟨34, rfl, .inl ⟨_, rfl, rfl⟩⟩ rfl rfl (AOp.not rfl rfl) ?_
            refine AOps.step rfl rfl rfl (AOp.pickF rfl rfl rfl) ?_
            refine AOps.step rfl rfl rfl (AOp.moveD rfl rfl) ?_
            refine AOps.split 42 rfl (fun g6 => ?_) (fun g6 => ?_)
            · replace g6 := bnot_t g6; replace g6 := of_decide_eq_false g6
              have HF : cpyFault v c b = 1 := ((if_neg hA).trans ((if_neg hB).trans ((if_neg hC).trans ((if_neg hDD).trans (if_pos (.inr (.inl g6)))))))
              refine AOps.pass ⟨42, rfl, .inl ⟨_, rfl, rfl⟩⟩ rfl rfl ?_
              refine AOps.pass ⟨42, rfl, .inl ⟨_, rfl, rfl⟩⟩ rfl rfl ?_
              refine AOps.pass ⟨42, rfl, .inl ⟨_, rfl, rfl⟩⟩ rfl rfl ?_
              refine AOps.pass ⟨42, rfl, .inl ⟨_, rfl, rfl⟩⟩ rfl rfl ?_
              refine AOps.step rfl rfl rfl (AOp.pickT rfl rfl rfl) ?_
              refine AOps.step rfl rfl rfl (AOp.assignD rfl rfl) ?_
              refine AOps.nil ?_
              refine AWP.cond rfl (fun _ => ?_) (fun h => nomatch h)
              refine AWP.seq ?_
              refine AWP.region ?_
              refine AOps.step rfl rfl rfl (AOp.assignD rfl rfl) ?_
              refine AOps.nil ?_
              refine AWP.ret ?_
              refine ⟨RetD.eq rfl ?_, trivial⟩
              all_goals (rw [HF])
            · replace g6 := bnot_f g6; replace g6 := of_decide_eq_true g6
              have he2 := g6
              refine AOps.step ⟨42, rfl, .inl ⟨_, rfl, rfl⟩⟩ rfl rfl (AOp.fieldAddr rfl fo_77_5 rfl) ?_
              refine AOps.step ⟨42, rfl, .inl ⟨_, rfl, rfl⟩⟩ rfl rfl (AOp.load rfl sc_3 rfl) ?_
              refine AOps.step ⟨42, rfl, .inl ⟨_, rfl, rfl⟩⟩ rfl rfl (AOp.call rfl (.cons (ArgOk.rfl' rfl) (.cons (ArgOk.rfl' rfl) (.cons (ArgOk.rfl' rfl) .nil))) (c_rWithin _ _ _)) ?_
              refine AOps.step ⟨42, rfl, .inl ⟨_, rfl, rfl⟩⟩ rfl rfl (AOp.not rfl rfl) ?_
              refine AOps.step rfl rfl rfl (AOp.pickF rfl rfl rfl) ?_
              refine AOps.step rfl rfl rfl (AOp.assignD rfl rfl) ?_
              refine AOps.nil ?_
              refine AWP.cond rfl (fun h7 => ?_) (fun h7 => ?_)
              · replace h7 := bnot_t h7; replace h7 := of_decide_eq_false h7
                have HF : cpyFault v c b = 1 := ((if_neg hA).trans ((if_neg hB).trans ((if_neg hC).trans ((if_neg hDD).trans (if_pos (.inr (.inr h7)))))))
                refine AWP.seq ?_
                refine AWP.region ?_
                refine AOps.step rfl rfl rfl (AOp.assignD rfl rfl) ?_
                refine AOps.nil ?_
                refine AWP.ret ?_
                refine ⟨RetD.eq rfl ?_, trivial⟩
                all_goals (rw [HF])
              · replace h7 := bnot_f h7; replace h7 := of_decide_eq_true h7
                have hE : ¬ (¬ (0 ≤ c.day ∧ c.day ≤ 200000) ∨ ¬ (c.day ≤ c.last ∧ c.last ≤ 200000) ∨ ¬ (1 ≤ c.gen ∧ c.gen ≤ 100)) := by omega
                refine AWP.seq ?_
                refine AWP.region ?_
                refine AOps.step rfl rfl rfl (AOp.fieldAddr rfl fo_77_5 rfl) ?_
                refine AOps.step rfl rfl rfl (AOp.load rfl sc_3 rfl) ?_
                refine AOps.step rfl rfl rfl (AOp.eql rfl rfl rfl) ?_
                refine AOps.step rfl rfl rfl (AOp.fieldAddr rfl fo_77_2 rfl) ?_
                refine AOps.step rfl rfl rfl (AOp.load rfl sc_9 rfl) ?_
                refine AOps.step rfl rfl rfl (AOp.seql rfl rfl rfl) ?_
                refine AOps.step rfl rfl rfl (AOp.bneq rfl bt_4 rfl rfl) ?_
                refine AOps.step rfl rfl rfl (AOp.assignD rfl rfl) ?_
                refine AOps.nil ?_
                refine AWP.cond rfl (fun h8 => ?_) (fun h8 => ?_)
                · replace h8 := of_decide_eq_true h8
                  have HF : cpyFault v c b = 3 := ((if_neg hA).trans ((if_neg hB).trans ((if_neg hC).trans ((if_neg hDD).trans ((if_neg hE).trans (if_pos h8))))))
                  refine AWP.seq ?_
                  refine AWP.region ?_
                  refine AOps.step rfl rfl rfl (AOp.assignD rfl rfl) ?_
                  refine AOps.nil ?_
                  refine AWP.ret ?_
                  refine ⟨RetD.eq rfl ?_, trivial⟩
                  all_goals (rw [HF])
                · replace h8 := of_decide_eq_false h8
                  have hG := h8
                  have HX : cpyFault v c b = ffst (badFault (itemBlocks v c.item) c.bad) c.bad.length := ((if_neg hA).trans ((if_neg hB).trans ((if_neg hC).trans ((if_neg hDD).trans ((if_neg hE).trans (if_neg hG))))))
                  refine AWP.skip ?_
                  refine AWP.seq ?_
                  refine AWP.seq ?_
                  refine AWP.region ?_
                  refine AOps.step rfl rfl rfl (AOp.fieldAddr rfl fo_77_6 rfl) ?_
                  refine AOps.step rfl rfl rfl (AOp.load rfl sc_75 rfl) ?_
                  refine AOps.step rfl rfl rfl (AOp.lenSl rfl et_75.ht rfl) ?_
                  refine AOps.step rfl rfl rfl (AOp.moveD rfl rfl) ?_
                  refine AOps.nil ?_
                  refine AWP.block ?_
                  refine AWP.bound 57 rfl (fun hbd => ?_)
                  rw [List.length_map] at hbd
                  refine AWP.loop (G := Nat) (fun q => Env.of [(59, .d (.v (.int .i64 (q : Int)))), (57, .d (.sl (c.bad.map intD))), (58, .d (.v (.int .i64 ((c.bad.map intD).length : Int)))), (2, .d (.fp v.ds)), (3, .d (.fp c.ds))]) (fun q => []) (fun q => q ≤ c.bad.length ∧ ffst (badFault (itemBlocks v c.item) c.bad) q = 0) (fun q => c.bad.length - q) 0 ⟨Nat.zero_le _, rfl⟩ (Sub.less ⟨(SLe.of_eq rfl), SLe.refl _, SLe.refl _, SLe.refl _, SLe.refl _, trivial⟩ (fun _ h => h)) ?_
                  intro q hq
                  refine AWP.seq ?_
                  refine AWP.region ?_
                  refine AOps.step rfl rfl rfl (AOp.lss rfl rfl rfl) ?_
                  refine AOps.nil ?_
                  refine AWP.seq ?_
                  refine AWP.cond rfl (fun h9 => ?_) (fun h9 => ?_)
                  · replace h9 := of_decide_eq_true h9
                    rw [List.length_map] at h9
                    have hlt : q < c.bad.length := by omega
                    refine AWP.skip ?_
                    refine AWP.seq ?_
                    refine AWP.block ?_
                    refine AWP.seq ?_
                    refine AWP.region ?_
                    refine AOps.step rfl rfl rfl (AOp.moveD rfl rfl) ?_
                    refine AOps.step rfl rfl rfl (AOp.indexAddr rfl et_75 rfl rfl q rfl (at_list hlt) rfl) ?_
                    refine AOps.step rfl rfl rfl (AOp.load rfl sc_3 rfl) ?_
                    refine AOps.step rfl rfl rfl (AOp.assignD rfl rfl) ?_
                    refine AOps.step rfl rfl rfl (AOp.assignD rfl rfl) ?_
                    refine AOps.nil ?_
                    refine AWP.seq ?_
                    refine AWP.seq ?_
                    refine AWP.draw (by kernel_rfl) (by kernel_rfl) ?_
                    refine DRun.step rfl rfl rfl (AOp.moveD rfl rfl) ?_
                    refine DRun.step rfl rfl rfl (AOp.fieldAddr rfl fo_26_0 rfl) ?_
                    refine DRun.step rfl rfl rfl (AOp.load rfl sc_22 rfl) ?_
                    refine DRun.step rfl rfl rfl (AOp.loadAgg rfl ag_26 rfl rfl) ?_
                    refine DRun.step rfl rfl rfl (AOp.fieldAddr rfl fo_77_0 rfl) ?_
                    refine DRun.step rfl rfl rfl (AOp.load rfl sc_9 rfl) ?_
                    refine DRun.step rfl rfl rfl (AOp.call rfl (.cons (ArgOk.rfl' rfl) (.cons (ArgOk.rfl' rfl) .nil)) (c_itemOf _ _)) ?_
                    refine DRun.step rfl rfl rfl (AOp.indexAddr rfl et_22 rfl rfl ki eki (at_list hki) rfl) ?_
                    refine DRun.step rfl rfl rfl (AOp.fieldAddr rfl fo_69_1 rfl) ?_
                    refine DRun.step rfl rfl rfl (AOp.load rfl sc_3 rfl) ?_
                    refine DRun.step rfl rfl rfl (AOp.sub64 rfl rfl rfl (by omega) (by omega)) ?_
                    refine DRun.step rfl rfl rfl (AOp.call rfl (.cons (ArgOk.rfl' rfl) (.cons (ArgOk.rfl' rfl) (.cons (ArgOk.rfl' rfl) .nil))) (c_rWithin _ _ _)) ?_
                    refine DRun.step rfl rfl rfl (AOp.not rfl rfl) ?_
                    refine DRun.nil ?_
                    refine AWP.cond rfl (fun h10 => ?_) (fun h10 => ?_)
                    · replace h10 := bnot_t h10; replace h10 := of_decide_eq_false h10
                      have H1 := badFault_1 (n := itemBlocks v c.item) hlt (by rw [hib]; exact h10)
                      have HF : cpyFault v c b = 1 := by rw [HX, ffst_hit hq.2 (by rw [H1]; decide) _ hlt, H1]
                      refine AWP.seq ?_
                      refine AWP.region ?_
                      refine AOps.step rfl rfl rfl (AOp.assignD rfl rfl) ?_
                      refine AOps.nil ?_
                      refine AWP.ret ?_
                      refine ⟨RetD.eq rfl ?_, trivial⟩
                      all_goals (rw [HF])
                    · replace h10 := bnot_f h10; replace h10 := of_decide_eq_true h10
                      have h7 : 0 ≤ c.bad[q] ∧ c.bad[q] ≤ itemBlocks v c.item - 1 := by rw [hib]; omega
                      refine AWP.skip ?_
                      refine AWP.seq ?_
                      refine AWP.region ?_
                      refine AOps.step rfl rfl rfl (AOp.moveD rfl rfl) ?_
                      refine AOps.step rfl rfl rfl (AOp.gtr rfl rfl rfl) ?_
                      refine AOps.step rfl rfl rfl (AOp.moveD rfl rfl) ?_
                      refine AOps.split 79 rfl (fun g11 => ?_) (fun g11 => ?_)
                      · replace g11 := of_decide_eq_true g11
                        refine AOps.step ⟨79, rfl, .inl ⟨_, rfl, rfl⟩⟩ rfl rfl (AOp.moveD rfl rfl) ?_
                        refine AOps.step ⟨79, rfl, .inl ⟨_, rfl, rfl⟩⟩ rfl rfl (AOp.fieldAddr rfl fo_77_6 rfl) ?_
                        refine AOps.step ⟨79, rfl, .inl ⟨_, rfl, rfl⟩⟩ rfl rfl (AOp.load rfl sc_75 rfl) ?_
                        refine AOps.step ⟨79, rfl, .inl ⟨_, rfl, rfl⟩⟩ rfl rfl (AOp.moveD rfl rfl) ?_
                        refine AOps.step ⟨79, rfl, .inl ⟨_, rfl, rfl⟩⟩ rfl rfl (AOp.sub64 rfl rfl rfl (by omega) (by omega)) ?_
                        refine AOps.step ⟨79, rfl, .inl ⟨_, rfl, rfl⟩⟩ rfl rfl (AOp.indexAddr rfl et_75 rfl rfl (q - 1) (by omega) (at_list (by omega)) rfl) ?_
                        refine AOps.step ⟨79, rfl, .inl ⟨_, rfl, rfl⟩⟩ rfl rfl (AOp.load rfl sc_3 rfl) ?_
                        refine AOps.step ⟨79, rfl, .inl ⟨_, rfl, rfl⟩⟩ rfl rfl (AOp.leq rfl rfl rfl) ?_
                        refine AOps.step rfl rfl rfl (AOp.pickT rfl rfl rfl) ?_
                        refine AOps.nil ?_
                        refine AWP.cond rfl (fun h12 => ?_) (fun h12 => ?_)
                        · replace h12 := of_decide_eq_true h12
                          have H8 := badFault_8 hlt h7 (by omega) h12
                          have HF : cpyFault v c b = 8 := by rw [HX, ffst_hit hq.2 (by rw [H8]; decide) _ hlt, H8]
                          refine AWP.seq ?_
                          refine AWP.region ?_
                          refine AOps.step rfl rfl rfl (AOp.assignD rfl rfl) ?_
                          refine AOps.nil ?_
                          refine AWP.ret ?_
                          refine ⟨RetD.eq rfl ?_, trivial⟩
                          all_goals (rw [HF])
                        · replace h12 := of_decide_eq_false h12
                          have h8 : 0 < q → ¬ c.bad[q] ≤ c.bad[q-1] := fun _ => h12
                          refine AWP.skip ?_
                          refine AWP.region ?_
                          refine AOps.step rfl rfl rfl (AOp.add64 rfl rfl rfl (by omega) (by omega)) ?_
                          refine AOps.step rfl rfl rfl (AOp.moveD rfl rfl) ?_
                          refine AOps.nil ?_
                          refine ⟨q + 1, ⟨by omega, ffst_next hq.2 (badFault_0 hlt h7 h8)⟩, (by dsimp only; omega), Sub.less ⟨(SLe.of_eq rfl), SLe.refl _, SLe.refl _, SLe.refl _, SLe.refl _, trivial⟩ (fun _ h => h)⟩
                      · replace g11 := of_decide_eq_false g11
                        have h8 : 0 < q → ¬ c.bad[q] ≤ c.bad[q-1] := fun hh => absurd hh (by omega)
                        refine AOps.pass ⟨79, rfl, .inl ⟨_, rfl, rfl⟩⟩ rfl rfl ?_
                        refine AOps.pass ⟨79, rfl, .inl ⟨_, rfl, rfl⟩⟩ rfl rfl ?_
                        refine AOps.pass ⟨79, rfl, .inl ⟨_, rfl, rfl⟩⟩ rfl rfl ?_
                        refine AOps.pass ⟨79, rfl, .inl ⟨_, rfl, rfl⟩⟩ rfl rfl ?_
                        refine AOps.pass ⟨79, rfl, .inl ⟨_, rfl, rfl⟩⟩ rfl rfl ?_
                        refine AOps.pass ⟨79, rfl, .inl ⟨_, rfl, rfl⟩⟩ rfl rfl ?_
                        refine AOps.pass ⟨79, rfl, .inl ⟨_, rfl, rfl⟩⟩ rfl rfl ?_
                        refine AOps.pass ⟨79, rfl, .inl ⟨_, rfl, rfl⟩⟩ rfl rfl ?_
                        refine AOps.step rfl rfl rfl (AOp.pickF rfl rfl rfl) ?_
                        refine AOps.nil ?_
                        refine AWP.cond rfl (fun h => nomatch h) (fun _ => ?_)
                        refine AWP.skip ?_
                        refine AWP.region ?_
                        refine AOps.step rfl rfl rfl (AOp.add64 rfl rfl rfl (by omega) (by omega)) ?_
                        refine AOps.step rfl rfl rfl (AOp.moveD rfl rfl) ?_
                        refine AOps.nil ?_
                        refine ⟨q + 1, ⟨by omega, ffst_next hq.2 (badFault_0 hlt h7 h8)⟩, (by dsimp only; omega), Sub.less ⟨(SLe.of_eq rfl), SLe.refl _, SLe.refl _, SLe.refl _, SLe.refl _, trivial⟩ (fun _ h => h)⟩
                  · replace h9 := of_decide_eq_false h9
                    rw [List.length_map] at h9
                    have HF : cpyFault v c b = 0 := by rw [HX, ← show q = c.bad.length by omega]; exact hq.2
                    refine AWP.exit ?_
                    refine AWP.seq ?_
                    refine AWP.region ?_
                    refine AOps.step rfl rfl rfl (AOp.assignD rfl rfl) ?_
                    refine AOps.nil ?_
                    refine AWP.ret ?_
                    refine ⟨RetD.eq rfl ?_, trivial⟩
                    all_goals (rw [HF])
      · replace g3 := of_decide_eq_false g3
        have hDD : ¬ c.frm = c.carrier := fun hh => g3 (fun h5 => hne (hh.symm.trans h5))
        refine AOps.pass ⟨22, rfl, .inl ⟨_, rfl, rfl⟩⟩ rfl rfl ?_
        refine AOps.pass ⟨22, rfl, .inl ⟨_, rfl, rfl⟩⟩ rfl rfl ?_
        refine AOps.pass ⟨22, rfl, .inl ⟨_, rfl, rfl⟩⟩ rfl rfl ?_
        refine AOps.pass ⟨22, rfl, .inl ⟨_, rfl, rfl⟩⟩ rfl rfl ?_
        refine AOps.pass ⟨22, rfl, .inl ⟨_, rfl, rfl⟩⟩ rfl rfl ?_
        refine AOps.step rfl rfl rfl (AOp.pickF rfl rfl rfl) ?_
        refine AOps.step rfl rfl rfl (AOp.assignD rfl rfl) ?_
        refine AOps.nil ?_
        refine AWP.cond rfl (fun h => nomatch h) (fun _ => ?_)
        refine AWP.seq ?_
        refine AWP.region ?_
        refine AOps.step rfl rfl rfl (AOp.fieldAddr rfl fo_77_3 rfl) ?_
        refine AOps.step rfl rfl rfl (AOp.load rfl sc_3 rfl) ?_
        refine AOps.step rfl rfl rfl (AOp.call rfl (.cons (ArgOk.rfl' rfl) .nil) (c_rDay _)) ?_
        refine AOps.step rfl rfl rfl (AOp.not rfl rfl) ?_
        refine AOps.step rfl rfl rfl (AOp.moveD rfl rfl) ?_
        refine AOps.split 34 rfl (fun g13 => ?_) (fun g13 => ?_)
        · replace g13 := bnot_t g13; replace g13 := of_decide_eq_false g13
          have HF : cpyFault v c b = 1 := ((if_neg hA).trans ((if_neg hB).trans ((if_neg hC).trans ((if_neg hDD).trans (if_pos (.inl g13))))))
          refine AOps.pass ⟨34, rfl, .inl ⟨_, rfl, rfl⟩⟩ rfl rfl ?_
          refine AOps.pass ⟨34, rfl, .inl ⟨_, rfl, rfl⟩⟩ rfl rfl ?_
          refine AOps.pass ⟨34, rfl, .inl ⟨_, rfl, rfl⟩⟩ rfl rfl ?_
          refine AOps.pass ⟨34, rfl, .inl ⟨_, rfl, rfl⟩⟩ rfl rfl ?_
          refine AOps.pass ⟨34, rfl, .inl ⟨_, rfl, rfl⟩⟩ rfl rfl ?_
          refine AOps.pass ⟨34, rfl, .inl ⟨_, rfl, rfl⟩⟩ rfl rfl ?_
          refine AOps.step rfl rfl rfl (AOp.pickT rfl rfl rfl) ?_
          refine AOps.step rfl rfl rfl (AOp.moveD rfl rfl) ?_
          refine AOps.pass ⟨42, rfl, .inl ⟨_, rfl, rfl⟩⟩ rfl rfl ?_
          refine AOps.pass ⟨42, rfl, .inl ⟨_, rfl, rfl⟩⟩ rfl rfl ?_
          refine AOps.pass ⟨42, rfl, .inl ⟨_, rfl, rfl⟩⟩ rfl rfl ?_
          refine AOps.pass ⟨42, rfl, .inl ⟨_, rfl, rfl⟩⟩ rfl rfl ?_
          refine AOps.step rfl rfl rfl (AOp.pickT rfl rfl rfl) ?_
          refine AOps.step rfl rfl rfl (AOp.assignD rfl rfl) ?_
          refine AOps.nil ?_
          refine AWP.cond rfl (fun _ => ?_) (fun h => nomatch h)
          refine AWP.seq ?_
          refine AWP.region ?_
          refine AOps.step rfl rfl rfl (AOp.assignD rfl rfl) ?_
          refine AOps.nil ?_
          refine AWP.ret ?_
          refine ⟨RetD.eq rfl ?_, trivial⟩
          all_goals (rw [HF])
        · replace g13 := bnot_f g13; replace g13 := of_decide_eq_true g13
          have he1 := g13
          refine AOps.step ⟨34, rfl, .inl ⟨_, rfl, rfl⟩⟩ rfl rfl (AOp.fieldAddr rfl fo_77_4 rfl) ?_
          refine AOps.step ⟨34, rfl, .inl ⟨_, rfl, rfl⟩⟩ rfl rfl (AOp.load rfl sc_3 rfl) ?_
          refine AOps.step ⟨34, rfl, .inl ⟨_, rfl, rfl⟩⟩ rfl rfl (AOp.fieldAddr rfl fo_77_3 rfl) ?_
          refine AOps.step ⟨34, rfl, .inl ⟨_, rfl, rfl⟩⟩ rfl rfl (AOp.load rfl sc_3 rfl) ?_
          refine AOps.step ⟨34, rfl, .inl ⟨_, rfl, rfl⟩⟩ rfl rfl (AOp.call rfl (.cons (ArgOk.rfl' rfl) (.cons (ArgOk.rfl' rfl) (.cons (ArgOk.rfl' rfl) .nil))) (c_rWithin _ _ _)) ?_
          refine AOps.step ⟨34, rfl, .inl ⟨_, rfl, rfl⟩⟩ rfl rfl (AOp.not rfl rfl) ?_
          refine AOps.step rfl rfl rfl (AOp.pickF rfl rfl rfl) ?_
          refine AOps.step rfl rfl rfl (AOp.moveD rfl rfl) ?_
          refine AOps.split 42 rfl (fun g14 => ?_) (fun g14 => ?_)
          · replace g14 := bnot_t g14; replace g14 := of_decide_eq_false g14
            have HF : cpyFault v c b = 1 := ((if_neg hA).trans ((if_neg hB).trans ((if_neg hC).trans ((if_neg hDD).trans (if_pos (.inr (.inl g14)))))))
            refine AOps.pass ⟨42, rfl, .inl ⟨_, rfl, rfl⟩⟩ rfl rfl ?_
            refine AOps.pass ⟨42, rfl, .inl ⟨_, rfl, rfl⟩⟩ rfl rfl ?_
            refine AOps.pass ⟨42, rfl, .inl ⟨_, rfl, rfl⟩⟩ rfl rfl ?_
            refine AOps.pass ⟨42, rfl, .inl ⟨_, rfl, rfl⟩⟩ rfl rfl ?_
            refine AOps.step rfl rfl rfl (AOp.pickT rfl rfl rfl) ?_
            refine AOps.step rfl rfl rfl (AOp.assignD rfl rfl) ?_
            refine AOps.nil ?_
            refine AWP.cond rfl (fun _ => ?_) (fun h => nomatch h)
            refine AWP.seq ?_
            refine AWP.region ?_
            refine AOps.step rfl rfl rfl (AOp.assignD rfl rfl) ?_
            refine AOps.nil ?_
            refine AWP.ret ?_
            refine ⟨RetD.eq rfl ?_, trivial⟩
            all_goals (rw [HF])
          · replace g14 := bnot_f g14; replace g14 := of_decide_eq_true g14
            have he2 := g14
            refine AOps.step ⟨42, rfl, .inl ⟨_, rfl, rfl⟩⟩ rfl rfl (AOp.fieldAddr rfl fo_77_5 rfl) ?_
            refine AOps.step ⟨42, rfl, .inl ⟨_, rfl, rfl⟩⟩ rfl rfl (AOp.load rfl sc_3 rfl) ?_
            refine AOps.step ⟨42, rfl, .inl ⟨_, rfl, rfl⟩⟩ rfl rfl (AOp.call rfl (.cons (ArgOk.rfl' rfl) (.cons (ArgOk.rfl' rfl) (.cons (ArgOk.rfl' rfl) .nil))) (c_rWithin _ _ _)) ?_
            refine AOps.step ⟨42, rfl, .inl ⟨_, rfl, rfl⟩⟩ rfl rfl (AOp.not rfl rfl) ?_
            refine AOps.step rfl rfl rfl (AOp.pickF rfl rfl rfl) ?_
            refine AOps.step rfl rfl rfl (AOp.assignD rfl rfl) ?_
            refine AOps.nil ?_
            refine AWP.cond rfl (fun h15 => ?_) (fun h15 => ?_)
            · replace h15 := bnot_t h15; replace h15 := of_decide_eq_false h15
              have HF : cpyFault v c b = 1 := ((if_neg hA).trans ((if_neg hB).trans ((if_neg hC).trans ((if_neg hDD).trans (if_pos (.inr (.inr h15)))))))
              refine AWP.seq ?_
              refine AWP.region ?_
              refine AOps.step rfl rfl rfl (AOp.assignD rfl rfl) ?_
              refine AOps.nil ?_
              refine AWP.ret ?_
              refine ⟨RetD.eq rfl ?_, trivial⟩
              all_goals (rw [HF])
            · replace h15 := bnot_f h15; replace h15 := of_decide_eq_true h15
              have hE : ¬ (¬ (0 ≤ c.day ∧ c.day ≤ 200000) ∨ ¬ (c.day ≤ c.last ∧ c.last ≤ 200000) ∨ ¬ (1 ≤ c.gen ∧ c.gen ≤ 100)) := by omega
              refine AWP.seq ?_
              refine AWP.region ?_
              refine AOps.step rfl rfl rfl (AOp.fieldAddr rfl fo_77_5 rfl) ?_
              refine AOps.step rfl rfl rfl (AOp.load rfl sc_3 rfl) ?_
              refine AOps.step rfl rfl rfl (AOp.eql rfl rfl rfl) ?_
              refine AOps.step rfl rfl rfl (AOp.fieldAddr rfl fo_77_2 rfl) ?_
              refine AOps.step rfl rfl rfl (AOp.load rfl sc_9 rfl) ?_
              refine AOps.step rfl rfl rfl (AOp.seql rfl rfl rfl) ?_
              refine AOps.step rfl rfl rfl (AOp.bneq rfl bt_4 rfl rfl) ?_
              refine AOps.step rfl rfl rfl (AOp.assignD rfl rfl) ?_
              refine AOps.nil ?_
              refine AWP.cond rfl (fun h16 => ?_) (fun h16 => ?_)
              · replace h16 := of_decide_eq_true h16
                have HF : cpyFault v c b = 3 := ((if_neg hA).trans ((if_neg hB).trans ((if_neg hC).trans ((if_neg hDD).trans ((if_neg hE).trans (if_pos h16))))))
                refine AWP.seq ?_
                refine AWP.region ?_
                refine AOps.step rfl rfl rfl (AOp.assignD rfl rfl) ?_
                refine AOps.nil ?_
                refine AWP.ret ?_
                refine ⟨RetD.eq rfl ?_, trivial⟩
                all_goals (rw [HF])
              · replace h16 := of_decide_eq_false h16
                have hG := h16
                have HX : cpyFault v c b = ffst (badFault (itemBlocks v c.item) c.bad) c.bad.length := ((if_neg hA).trans ((if_neg hB).trans ((if_neg hC).trans ((if_neg hDD).trans ((if_neg hE).trans (if_neg hG))))))
                refine AWP.skip ?_
                refine AWP.seq ?_
                refine AWP.seq ?_
                refine AWP.region ?_
                refine AOps.step rfl rfl rfl (AOp.fieldAddr rfl fo_77_6 rfl) ?_
                refine AOps.step rfl rfl rfl (AOp.load rfl sc_75 rfl) ?_
                refine AOps.step rfl rfl rfl (AOp.lenSl rfl et_75.ht rfl) ?_
                refine AOps.step rfl rfl rfl (AOp.moveD rfl rfl) ?_
                refine AOps.nil ?_
                refine AWP.block ?_
                refine AWP.bound 57 rfl (fun hbd => ?_)
                rw [List.length_map] at hbd
                refine AWP.loop (G := Nat) (fun q => Env.of [(59, .d (.v (.int .i64 (q : Int)))), (57, .d (.sl (c.bad.map intD))), (58, .d (.v (.int .i64 ((c.bad.map intD).length : Int)))), (2, .d (.fp v.ds)), (3, .d (.fp c.ds))]) (fun q => []) (fun q => q ≤ c.bad.length ∧ ffst (badFault (itemBlocks v c.item) c.bad) q = 0) (fun q => c.bad.length - q) 0 ⟨Nat.zero_le _, rfl⟩ (Sub.less ⟨(SLe.of_eq rfl), SLe.refl _, SLe.refl _, SLe.refl _, SLe.refl _, trivial⟩ (fun _ h => h)) ?_
                intro q hq
                refine AWP.seq ?_
                refine AWP.region ?_
                refine AOps.step rfl rfl rfl (AOp.lss rfl rfl rfl) ?_
                refine AOps.nil ?_
                refine AWP.seq ?_
                refine AWP.cond rfl (fun h17 => ?_) (fun h17 => ?_)
                · replace h17 := of_decide_eq_true h17
                  rw [List.length_map] at h17
                  have hlt : q < c.bad.length := by omega
                  refine AWP.skip ?_
                  refine AWP.seq ?_
                  refine AWP.block ?_
                  refine AWP.seq ?_
                  refine AWP.region ?_
                  refine AOps.step rfl rfl rfl (AOp.moveD rfl rfl) ?_
                  refine AOps.step rfl rfl rfl (AOp.indexAddr rfl et_75 rfl rfl q rfl (at_list hlt) rfl) ?_
                  refine AOps.step rfl rfl rfl (AOp.load rfl sc_3 rfl) ?_
                  refine AOps.step rfl rfl rfl (AOp.assignD rfl rfl) ?_
                  refine AOps.step rfl rfl rfl (AOp.assignD rfl rfl) ?_
                  refine AOps.nil ?_
                  refine AWP.seq ?_
                  refine AWP.seq ?_
                  refine AWP.draw (by kernel_rfl) (by kernel_rfl) ?_
                  refine DRun.step rfl rfl rfl (AOp.moveD rfl rfl) ?_
                  refine DRun.step rfl rfl rfl (AOp.fieldAddr rfl fo_26_0 rfl) ?_
                  refine DRun.step rfl rfl rfl (AOp.load rfl sc_22 rfl) ?_
                  refine DRun.step rfl rfl rfl (AOp.loadAgg rfl ag_26 rfl rfl) ?_
                  refine DRun.step rfl rfl rfl (AOp.fieldAddr rfl fo_77_0 rfl) ?_
                  refine DRun.step rfl rfl rfl (AOp.load rfl sc_9 rfl) ?_
                  refine DRun.step rfl rfl rfl (AOp.call rfl (.cons (ArgOk.rfl' rfl) (.cons (ArgOk.rfl' rfl) .nil)) (c_itemOf _ _)) ?_
                  refine DRun.step rfl rfl rfl (AOp.indexAddr rfl et_22 rfl rfl ki eki (at_list hki) rfl) ?_
                  refine DRun.step rfl rfl rfl (AOp.fieldAddr rfl fo_69_1 rfl) ?_
                  refine DRun.step rfl rfl rfl (AOp.load rfl sc_3 rfl) ?_
                  refine DRun.step rfl rfl rfl (AOp.sub64 rfl rfl rfl (by omega) (by omega)) ?_
                  refine DRun.step rfl rfl rfl (AOp.call rfl (.cons (ArgOk.rfl' rfl) (.cons (ArgOk.rfl' rfl) (.cons (ArgOk.rfl' rfl) .nil))) (c_rWithin _ _ _)) ?_
                  refine DRun.step rfl rfl rfl (AOp.not rfl rfl) ?_
                  refine DRun.nil ?_
                  refine AWP.cond rfl (fun h18 => ?_) (fun h18 => ?_)
                  · replace h18 := bnot_t h18; replace h18 := of_decide_eq_false h18
                    have H1 := badFault_1 (n := itemBlocks v c.item) hlt (by rw [hib]; exact h18)
                    have HF : cpyFault v c b = 1 := by rw [HX, ffst_hit hq.2 (by rw [H1]; decide) _ hlt, H1]
                    refine AWP.seq ?_
                    refine AWP.region ?_
                    refine AOps.step rfl rfl rfl (AOp.assignD rfl rfl) ?_
                    refine AOps.nil ?_
                    refine AWP.ret ?_
                    refine ⟨RetD.eq rfl ?_, trivial⟩
                    all_goals (rw [HF])
                  · replace h18 := bnot_f h18; replace h18 := of_decide_eq_true h18
                    have h7 : 0 ≤ c.bad[q] ∧ c.bad[q] ≤ itemBlocks v c.item - 1 := by rw [hib]; omega
                    refine AWP.skip ?_
                    refine AWP.seq ?_
                    refine AWP.region ?_
                    refine AOps.step rfl rfl rfl (AOp.moveD rfl rfl) ?_
                    refine AOps.step rfl rfl rfl (AOp.gtr rfl rfl rfl) ?_
                    refine AOps.step rfl rfl rfl (AOp.moveD rfl rfl) ?_
                    refine AOps.split 79 rfl (fun g19 => ?_) (fun g19 => ?_)
                    · replace g19 := of_decide_eq_true g19
                      refine AOps.step ⟨79, rfl, .inl ⟨_, rfl, rfl⟩⟩ rfl rfl (AOp.moveD rfl rfl) ?_
                      refine AOps.step ⟨79, rfl, .inl ⟨_, rfl, rfl⟩⟩ rfl rfl (AOp.fieldAddr rfl fo_77_6 rfl) ?_
                      refine AOps.step ⟨79, rfl, .inl ⟨_, rfl, rfl⟩⟩ rfl rfl (AOp.load rfl sc_75 rfl) ?_
                      refine AOps.step ⟨79, rfl, .inl ⟨_, rfl, rfl⟩⟩ rfl rfl (AOp.moveD rfl rfl) ?_
                      refine AOps.step ⟨79, rfl, .inl ⟨_, rfl, rfl⟩⟩ rfl rfl (AOp.sub64 rfl rfl rfl (by omega) (by omega)) ?_
                      refine AOps.step ⟨79, rfl, .inl ⟨_, rfl, rfl⟩⟩ rfl rfl (AOp.indexAddr rfl et_75 rfl rfl (q - 1) (by omega) (at_list (by omega)) rfl) ?_
                      refine AOps.step ⟨79, rfl, .inl ⟨_, rfl, rfl⟩⟩ rfl rfl (AOp.load rfl sc_3 rfl) ?_
                      refine AOps.step ⟨79, rfl, .inl ⟨_, rfl, rfl⟩⟩ rfl rfl (AOp.leq rfl rfl rfl) ?_
                      refine AOps.step rfl rfl rfl (AOp.pickT rfl rfl rfl) ?_
                      refine AOps.nil ?_
                      refine AWP.cond rfl (fun h20 => ?_) (fun h20 => ?_)
                      · replace h20 := of_decide_eq_true h20
                        have H8 := badFault_8 hlt h7 (by omega) h20
                        have HF : cpyFault v c b = 8 := by rw [HX, ffst_hit hq.2 (by rw [H8]; decide) _ hlt, H8]
                        refine AWP.seq ?_
                        refine AWP.region ?_
                        refine AOps.step rfl rfl rfl (AOp.assignD rfl rfl) ?_
                        refine AOps.nil ?_
                        refine AWP.ret ?_
                        refine ⟨RetD.eq rfl ?_, trivial⟩
                        all_goals (rw [HF])
                      · replace h20 := of_decide_eq_false h20
                        have h8 : 0 < q → ¬ c.bad[q] ≤ c.bad[q-1] := fun _ => h20
                        refine AWP.skip ?_
                        refine AWP.region ?_
                        refine AOps.step rfl rfl rfl (AOp.add64 rfl rfl rfl (by omega) (by omega)) ?_
                        refine AOps.step rfl rfl rfl (AOp.moveD rfl rfl) ?_
                        refine AOps.nil ?_
                        refine ⟨q + 1, ⟨by omega, ffst_next hq.2 (badFault_0 hlt h7 h8)⟩, (by dsimp only; omega), Sub.less ⟨(SLe.of_eq rfl), SLe.refl _, SLe.refl _, SLe.refl _, SLe.refl _, trivial⟩ (fun _ h => h)⟩
                    · replace g19 := of_decide_eq_false g19
                      have h8 : 0 < q → ¬ c.bad[q] ≤ c.bad[q-1] := fun hh => absurd hh (by omega)
                      refine AOps.pass ⟨79, rfl, .inl ⟨_, rfl, rfl⟩⟩ rfl rfl ?_
                      refine AOps.pass ⟨79, rfl, .inl ⟨_, rfl, rfl⟩⟩ rfl rfl ?_
                      refine AOps.pass ⟨79, rfl, .inl ⟨_, rfl, rfl⟩⟩ rfl rfl ?_
                      refine AOps.pass ⟨79, rfl, .inl ⟨_, rfl, rfl⟩⟩ rfl rfl ?_
                      refine AOps.pass ⟨79, rfl, .inl ⟨_, rfl, rfl⟩⟩ rfl rfl ?_
                      refine AOps.pass ⟨79, rfl, .inl ⟨_, rfl, rfl⟩⟩ rfl rfl ?_
                      refine AOps.pass ⟨79, rfl, .inl ⟨_, rfl, rfl⟩⟩ rfl rfl ?_
                      refine AOps.pass ⟨79, rfl, .inl ⟨_, rfl, rfl⟩⟩ rfl rfl ?_
                      refine AOps.step rfl rfl rfl (AOp.pickF rfl rfl rfl) ?_
                      refine AOps.nil ?_
                      refine AWP.cond rfl (fun h => nomatch h) (fun _ => ?_)
                      refine AWP.skip ?_
                      refine AWP.region ?_
                      refine AOps.step rfl rfl rfl (AOp.add64 rfl rfl rfl (by omega) (by omega)) ?_
                      refine AOps.step rfl rfl rfl (AOp.moveD rfl rfl) ?_
                      refine AOps.nil ?_
                      refine ⟨q + 1, ⟨by omega, ffst_next hq.2 (badFault_0 hlt h7 h8)⟩, (by dsimp only; omega), Sub.less ⟨(SLe.of_eq rfl), SLe.refl _, SLe.refl _, SLe.refl _, SLe.refl _, trivial⟩ (fun _ h => h)⟩
                · replace h17 := of_decide_eq_false h17
                  rw [List.length_map] at h17
                  have HF : cpyFault v c b = 0 := by rw [HX, ← show q = c.bad.length by omega]; exact hq.2
                  refine AWP.exit ?_
                  refine AWP.seq ?_
                  refine AWP.region ?_
                  refine AOps.step rfl rfl rfl (AOp.assignD rfl rfl) ?_
                  refine AOps.nil ?_
                  refine AWP.ret ?_
                  refine ⟨RetD.eq rfl ?_, trivial⟩
                  all_goals (rw [HF])
  · replace g1 := of_decide_eq_false g1
    have hC : ¬ (c.frm ≠ ⟨#[]⟩ ∧ carrIdx v c.frm < 0) := fun hh => g1 hh.1
    refine AOps.pass ⟨11, rfl, .inl ⟨_, rfl, rfl⟩⟩ rfl rfl ?_
    refine AOps.pass ⟨11, rfl, .inl ⟨_, rfl, rfl⟩⟩ rfl rfl ?_
    refine AOps.pass ⟨11, rfl, .inl ⟨_, rfl, rfl⟩⟩ rfl rfl ?_
    refine AOps.pass ⟨11, rfl, .inl ⟨_, rfl, rfl⟩⟩ rfl rfl ?_
    refine AOps.pass ⟨11, rfl, .inl ⟨_, rfl, rfl⟩⟩ rfl rfl ?_
    refine AOps.step rfl rfl rfl (AOp.pickF rfl rfl rfl) ?_
    refine AOps.step rfl rfl rfl (AOp.assignD rfl rfl) ?_
    refine AOps.nil ?_
    refine AWP.cond rfl (fun h => nomatch h) (fun _ => ?_)
    refine AWP.seq ?_
    refine AWP.region ?_
    refine AOps.step rfl rfl rfl (AOp.fieldAddr rfl fo_77_2 rfl) ?_
    refine AOps.step rfl rfl rfl (AOp.load rfl sc_9 rfl) ?_
    refine AOps.step rfl rfl rfl (AOp.sneq rfl rfl rfl) ?_
    refine AOps.step rfl rfl rfl (AOp.moveD rfl rfl) ?_
    refine AOps.split 22 rfl (fun g21 => ?_) (fun g21 => ?_)
    · replace g21 := of_decide_eq_true g21
      refine AOps.step ⟨22, rfl, .inl ⟨_, rfl, rfl⟩⟩ rfl rfl (AOp.fieldAddr rfl fo_77_2 rfl) ?_
      refine AOps.step ⟨22, rfl, .inl ⟨_, rfl, rfl⟩⟩ rfl rfl (AOp.load rfl sc_9 rfl) ?_
      refine AOps.step ⟨22, rfl, .inl ⟨_, rfl, rfl⟩⟩ rfl rfl (AOp.fieldAddr rfl fo_77_1 rfl) ?_
      refine AOps.step ⟨22, rfl, .inl ⟨_, rfl, rfl⟩⟩ rfl rfl (AOp.load rfl sc_9 rfl) ?_
      refine AOps.step ⟨22, rfl, .inl ⟨_, rfl, rfl⟩⟩ rfl rfl (AOp.seql rfl rfl rfl) ?_
      refine AOps.step rfl rfl rfl (AOp.pickT rfl rfl rfl) ?_
      refine AOps.step rfl rfl rfl (AOp.assignD rfl rfl) ?_
      refine AOps.nil ?_
      refine AWP.cond rfl (fun h22 => ?_) (fun h22 => ?_)
      · replace h22 := of_decide_eq_true h22
        have HF : cpyFault v c b = 12 := ((if_neg hA).trans ((if_neg hB).trans ((if_neg hC).trans (if_pos h22))))
        refine AWP.seq ?_
        refine AWP.region ?_
        refine AOps.step rfl rfl rfl (AOp.assignD rfl rfl) ?_
        refine AOps.nil ?_
        refine AWP.ret ?_
        refine ⟨RetD.eq rfl ?_, trivial⟩
        all_goals (rw [HF])
      · replace h22 := of_decide_eq_false h22
        have hDD := h22
        refine AWP.seq ?_
        refine AWP.region ?_
        refine AOps.step rfl rfl rfl (AOp.fieldAddr rfl fo_77_3 rfl) ?_
        refine AOps.step rfl rfl rfl (AOp.load rfl sc_3 rfl) ?_
        refine AOps.step rfl rfl rfl (AOp.call rfl (.cons (ArgOk.rfl' rfl) .nil) (c_rDay _)) ?_
        refine AOps.step rfl rfl rfl (AOp.not rfl rfl) ?_
        refine AOps.step rfl rfl rfl (AOp.moveD rfl rfl) ?_
        refine AOps.split 34 rfl (fun g23 => ?_) (fun g23 => ?_)
        · replace g23 := bnot_t g23; replace g23 := of_decide_eq_false g23
          have HF : cpyFault v c b = 1 := ((if_neg hA).trans ((if_neg hB).trans ((if_neg hC).trans ((if_neg hDD).trans (if_pos (.inl g23))))))
          refine AOps.pass ⟨34, rfl, .inl ⟨_, rfl, rfl⟩⟩ rfl rfl ?_
          refine AOps.pass ⟨34, rfl, .inl ⟨_, rfl, rfl⟩⟩ rfl rfl ?_
          refine AOps.pass ⟨34, rfl, .inl ⟨_, rfl, rfl⟩⟩ rfl rfl ?_
          refine AOps.pass ⟨34, rfl, .inl ⟨_, rfl, rfl⟩⟩ rfl rfl ?_
          refine AOps.pass ⟨34, rfl, .inl ⟨_, rfl, rfl⟩⟩ rfl rfl ?_
          refine AOps.pass ⟨34, rfl, .inl ⟨_, rfl, rfl⟩⟩ rfl rfl ?_
          refine AOps.step rfl rfl rfl (AOp.pickT rfl rfl rfl) ?_
          refine AOps.step rfl rfl rfl (AOp.moveD rfl rfl) ?_
          refine AOps.pass ⟨42, rfl, .inl ⟨_, rfl, rfl⟩⟩ rfl rfl ?_
          refine AOps.pass ⟨42, rfl, .inl ⟨_, rfl, rfl⟩⟩ rfl rfl ?_
          refine AOps.pass ⟨42, rfl, .inl ⟨_, rfl, rfl⟩⟩ rfl rfl ?_
          refine AOps.pass ⟨42, rfl, .inl ⟨_, rfl, rfl⟩⟩ rfl rfl ?_
          refine AOps.step rfl rfl rfl (AOp.pickT rfl rfl rfl) ?_
          refine AOps.step rfl rfl rfl (AOp.assignD rfl rfl) ?_
          refine AOps.nil ?_
          refine AWP.cond rfl (fun _ => ?_) (fun h => nomatch h)
          refine AWP.seq ?_
          refine AWP.region ?_
          refine AOps.step rfl rfl rfl (AOp.assignD rfl rfl) ?_
          refine AOps.nil ?_
          refine AWP.ret ?_
          refine ⟨RetD.eq rfl ?_, trivial⟩
          all_goals (rw [HF])
        · replace g23 := bnot_f g23; replace g23 := of_decide_eq_true g23
          have he1 := g23
          refine AOps.step ⟨34, rfl, .inl ⟨_, rfl, rfl⟩⟩ rfl rfl (AOp.fieldAddr rfl fo_77_4 rfl) ?_
          refine AOps.step ⟨34, rfl, .inl ⟨_, rfl, rfl⟩⟩ rfl rfl (AOp.load rfl sc_3 rfl) ?_
          refine AOps.step ⟨34, rfl, .inl ⟨_, rfl, rfl⟩⟩ rfl rfl (AOp.fieldAddr rfl fo_77_3 rfl) ?_
          refine AOps.step ⟨34, rfl, .inl ⟨_, rfl, rfl⟩⟩ rfl rfl (AOp.load rfl sc_3 rfl) ?_
          refine AOps.step ⟨34, rfl, .inl ⟨_, rfl, rfl⟩⟩ rfl rfl (AOp.call rfl (.cons (ArgOk.rfl' rfl) (.cons (ArgOk.rfl' rfl) (.cons (ArgOk.rfl' rfl) .nil))) (c_rWithin _ _ _)) ?_
          refine AOps.step ⟨34, rfl, .inl ⟨_, rfl, rfl⟩⟩ rfl rfl (AOp.not rfl rfl) ?_
          refine AOps.step rfl rfl rfl (AOp.pickF rfl rfl rfl) ?_
          refine AOps.step rfl rfl rfl (AOp.moveD rfl rfl) ?_
          refine AOps.split 42 rfl (fun g24 => ?_) (fun g24 => ?_)
          · replace g24 := bnot_t g24; replace g24 := of_decide_eq_false g24
            have HF : cpyFault v c b = 1 := ((if_neg hA).trans ((if_neg hB).trans ((if_neg hC).trans ((if_neg hDD).trans (if_pos (.inr (.inl g24)))))))
            refine AOps.pass ⟨42, rfl, .inl ⟨_, rfl, rfl⟩⟩ rfl rfl ?_
            refine AOps.pass ⟨42, rfl, .inl ⟨_, rfl, rfl⟩⟩ rfl rfl ?_
            refine AOps.pass ⟨42, rfl, .inl ⟨_, rfl, rfl⟩⟩ rfl rfl ?_
            refine AOps.pass ⟨42, rfl, .inl ⟨_, rfl, rfl⟩⟩ rfl rfl ?_
            refine AOps.step rfl rfl rfl (AOp.pickT rfl rfl rfl) ?_
            refine AOps.step rfl rfl rfl (AOp.assignD rfl rfl) ?_
            refine AOps.nil ?_
            refine AWP.cond rfl (fun _ => ?_) (fun h => nomatch h)
            refine AWP.seq ?_
            refine AWP.region ?_
            refine AOps.step rfl rfl rfl (AOp.assignD rfl rfl) ?_
            refine AOps.nil ?_
            refine AWP.ret ?_
            refine ⟨RetD.eq rfl ?_, trivial⟩
            all_goals (rw [HF])
          · replace g24 := bnot_f g24; replace g24 := of_decide_eq_true g24
            have he2 := g24
            refine AOps.step ⟨42, rfl, .inl ⟨_, rfl, rfl⟩⟩ rfl rfl (AOp.fieldAddr rfl fo_77_5 rfl) ?_
            refine AOps.step ⟨42, rfl, .inl ⟨_, rfl, rfl⟩⟩ rfl rfl (AOp.load rfl sc_3 rfl) ?_
            refine AOps.step ⟨42, rfl, .inl ⟨_, rfl, rfl⟩⟩ rfl rfl (AOp.call rfl (.cons (ArgOk.rfl' rfl) (.cons (ArgOk.rfl' rfl) (.cons (ArgOk.rfl' rfl) .nil))) (c_rWithin _ _ _)) ?_
            refine AOps.step ⟨42, rfl, .inl ⟨_, rfl, rfl⟩⟩ rfl rfl (AOp.not rfl rfl) ?_
            refine AOps.step rfl rfl rfl (AOp.pickF rfl rfl rfl) ?_
            refine AOps.step rfl rfl rfl (AOp.assignD rfl rfl) ?_
            refine AOps.nil ?_
            refine AWP.cond rfl (fun h25 => ?_) (fun h25 => ?_)
            · replace h25 := bnot_t h25; replace h25 := of_decide_eq_false h25
              have HF : cpyFault v c b = 1 := ((if_neg hA).trans ((if_neg hB).trans ((if_neg hC).trans ((if_neg hDD).trans (if_pos (.inr (.inr h25)))))))
              refine AWP.seq ?_
              refine AWP.region ?_
              refine AOps.step rfl rfl rfl (AOp.assignD rfl rfl) ?_
              refine AOps.nil ?_
              refine AWP.ret ?_
              refine ⟨RetD.eq rfl ?_, trivial⟩
              all_goals (rw [HF])
            · replace h25 := bnot_f h25; replace h25 := of_decide_eq_true h25
              have hE : ¬ (¬ (0 ≤ c.day ∧ c.day ≤ 200000) ∨ ¬ (c.day ≤ c.last ∧ c.last ≤ 200000) ∨ ¬ (1 ≤ c.gen ∧ c.gen ≤ 100)) := by omega
              refine AWP.seq ?_
              refine AWP.region ?_
              refine AOps.step rfl rfl rfl (AOp.fieldAddr rfl fo_77_5 rfl) ?_
              refine AOps.step rfl rfl rfl (AOp.load rfl sc_3 rfl) ?_
              refine AOps.step rfl rfl rfl (AOp.eql rfl rfl rfl) ?_
              refine AOps.step rfl rfl rfl (AOp.fieldAddr rfl fo_77_2 rfl) ?_
              refine AOps.step rfl rfl rfl (AOp.load rfl sc_9 rfl) ?_
              refine AOps.step rfl rfl rfl (AOp.seql rfl rfl rfl) ?_
              refine AOps.step rfl rfl rfl (AOp.bneq rfl bt_4 rfl rfl) ?_
              refine AOps.step rfl rfl rfl (AOp.assignD rfl rfl) ?_
              refine AOps.nil ?_
              refine AWP.cond rfl (fun h26 => ?_) (fun h26 => ?_)
              · replace h26 := of_decide_eq_true h26
                have HF : cpyFault v c b = 3 := ((if_neg hA).trans ((if_neg hB).trans ((if_neg hC).trans ((if_neg hDD).trans ((if_neg hE).trans (if_pos h26))))))
                refine AWP.seq ?_
                refine AWP.region ?_
                refine AOps.step rfl rfl rfl (AOp.assignD rfl rfl) ?_
                refine AOps.nil ?_
                refine AWP.ret ?_
                refine ⟨RetD.eq rfl ?_, trivial⟩
                all_goals (rw [HF])
              · replace h26 := of_decide_eq_false h26
                have hG := h26
                have HX : cpyFault v c b = ffst (badFault (itemBlocks v c.item) c.bad) c.bad.length := ((if_neg hA).trans ((if_neg hB).trans ((if_neg hC).trans ((if_neg hDD).trans ((if_neg hE).trans (if_neg hG))))))
                refine AWP.skip ?_
                refine AWP.seq ?_
                refine AWP.seq ?_
                refine AWP.region ?_
                refine AOps.step rfl rfl rfl (AOp.fieldAddr rfl fo_77_6 rfl) ?_
                refine AOps.step rfl rfl rfl (AOp.load rfl sc_75 rfl) ?_
                refine AOps.step rfl rfl rfl (AOp.lenSl rfl et_75.ht rfl) ?_
                refine AOps.step rfl rfl rfl (AOp.moveD rfl rfl) ?_
                refine AOps.nil ?_
                refine AWP.block ?_
                refine AWP.bound 57 rfl (fun hbd => ?_)
                rw [List.length_map] at hbd
                refine AWP.loop (G := Nat) (fun q => Env.of [(59, .d (.v (.int .i64 (q : Int)))), (57, .d (.sl (c.bad.map intD))), (58, .d (.v (.int .i64 ((c.bad.map intD).length : Int)))), (2, .d (.fp v.ds)), (3, .d (.fp c.ds))]) (fun q => []) (fun q => q ≤ c.bad.length ∧ ffst (badFault (itemBlocks v c.item) c.bad) q = 0) (fun q => c.bad.length - q) 0 ⟨Nat.zero_le _, rfl⟩ (Sub.less ⟨(SLe.of_eq rfl), SLe.refl _, SLe.refl _, SLe.refl _, SLe.refl _, trivial⟩ (fun _ h => h)) ?_
                intro q hq
                refine AWP.seq ?_
                refine AWP.region ?_
                refine AOps.step rfl rfl rfl (AOp.lss rfl rfl rfl) ?_
                refine AOps.nil ?_
                refine AWP.seq ?_
                refine AWP.cond rfl (fun h27 => ?_) (fun h27 => ?_)
                · replace h27 := of_decide_eq_true h27
                  rw [List.length_map] at h27
                  have hlt : q < c.bad.length := by omega
                  refine AWP.skip ?_
                  refine AWP.seq ?_
                  refine AWP.block ?_
                  refine AWP.seq ?_
                  refine AWP.region ?_
                  refine AOps.step rfl rfl rfl (AOp.moveD rfl rfl) ?_
                  refine AOps.step rfl rfl rfl (AOp.indexAddr rfl et_75 rfl rfl q rfl (at_list hlt) rfl) ?_
                  refine AOps.step rfl rfl rfl (AOp.load rfl sc_3 rfl) ?_
                  refine AOps.step rfl rfl rfl (AOp.assignD rfl rfl) ?_
                  refine AOps.step rfl rfl rfl (AOp.assignD rfl rfl) ?_
                  refine AOps.nil ?_
                  refine AWP.seq ?_
                  refine AWP.seq ?_
                  refine AWP.draw (by kernel_rfl) (by kernel_rfl) ?_
                  refine DRun.step rfl rfl rfl (AOp.moveD rfl rfl) ?_
                  refine DRun.step rfl rfl rfl (AOp.fieldAddr rfl fo_26_0 rfl) ?_
                  refine DRun.step rfl rfl rfl (AOp.load rfl sc_22 rfl) ?_
                  refine DRun.step rfl rfl rfl (AOp.loadAgg rfl ag_26 rfl rfl) ?_
                  refine DRun.step rfl rfl rfl (AOp.fieldAddr rfl fo_77_0 rfl) ?_
                  refine DRun.step rfl rfl rfl (AOp.load rfl sc_9 rfl) ?_
                  refine DRun.step rfl rfl rfl (AOp.call rfl (.cons (ArgOk.rfl' rfl) (.cons (ArgOk.rfl' rfl) .nil)) (c_itemOf _ _)) ?_
                  refine DRun.step rfl rfl rfl (AOp.indexAddr rfl et_22 rfl rfl ki eki (at_list hki) rfl) ?_
                  refine DRun.step rfl rfl rfl (AOp.fieldAddr rfl fo_69_1 rfl) ?_
                  refine DRun.step rfl rfl rfl (AOp.load rfl sc_3 rfl) ?_
                  refine DRun.step rfl rfl rfl (AOp.sub64 rfl rfl rfl (by omega) (by omega)) ?_
                  refine DRun.step rfl rfl rfl (AOp.call rfl (.cons (ArgOk.rfl' rfl) (.cons (ArgOk.rfl' rfl) (.cons (ArgOk.rfl' rfl) .nil))) (c_rWithin _ _ _)) ?_
                  refine DRun.step rfl rfl rfl (AOp.not rfl rfl) ?_
                  refine DRun.nil ?_
                  refine AWP.cond rfl (fun h28 => ?_) (fun h28 => ?_)
                  · replace h28 := bnot_t h28; replace h28 := of_decide_eq_false h28
                    have H1 := badFault_1 (n := itemBlocks v c.item) hlt (by rw [hib]; exact h28)
                    have HF : cpyFault v c b = 1 := by rw [HX, ffst_hit hq.2 (by rw [H1]; decide) _ hlt, H1]
                    refine AWP.seq ?_
                    refine AWP.region ?_
                    refine AOps.step rfl rfl rfl (AOp.assignD rfl rfl) ?_
                    refine AOps.nil ?_
                    refine AWP.ret ?_
                    refine ⟨RetD.eq rfl ?_, trivial⟩
                    all_goals (rw [HF])
                  · replace h28 := bnot_f h28; replace h28 := of_decide_eq_true h28
                    have h7 : 0 ≤ c.bad[q] ∧ c.bad[q] ≤ itemBlocks v c.item - 1 := by rw [hib]; omega
                    refine AWP.skip ?_
                    refine AWP.seq ?_
                    refine AWP.region ?_
                    refine AOps.step rfl rfl rfl (AOp.moveD rfl rfl) ?_
                    refine AOps.step rfl rfl rfl (AOp.gtr rfl rfl rfl) ?_
                    refine AOps.step rfl rfl rfl (AOp.moveD rfl rfl) ?_
                    refine AOps.split 79 rfl (fun g29 => ?_) (fun g29 => ?_)
                    · replace g29 := of_decide_eq_true g29
                      refine AOps.step ⟨79, rfl, .inl ⟨_, rfl, rfl⟩⟩ rfl rfl (AOp.moveD rfl rfl) ?_
                      refine AOps.step ⟨79, rfl, .inl ⟨_, rfl, rfl⟩⟩ rfl rfl (AOp.fieldAddr rfl fo_77_6 rfl) ?_
                      refine AOps.step ⟨79, rfl, .inl ⟨_, rfl, rfl⟩⟩ rfl rfl (AOp.load rfl sc_75 rfl) ?_
                      refine AOps.step ⟨79, rfl, .inl ⟨_, rfl, rfl⟩⟩ rfl rfl (AOp.moveD rfl rfl) ?_
                      refine AOps.step ⟨79, rfl, .inl ⟨_, rfl, rfl⟩⟩ rfl rfl (AOp.sub64 rfl rfl rfl (by omega) (by omega)) ?_
                      refine AOps.step ⟨79, rfl, .inl ⟨_, rfl, rfl⟩⟩ rfl rfl (AOp.indexAddr rfl et_75 rfl rfl (q - 1) (by omega) (at_list (by omega)) rfl) ?_
                      refine AOps.step ⟨79, rfl, .inl ⟨_, rfl, rfl⟩⟩ rfl rfl (AOp.load rfl sc_3 rfl) ?_
                      refine AOps.step ⟨79, rfl, .inl ⟨_, rfl, rfl⟩⟩ rfl rfl (AOp.leq rfl rfl rfl) ?_
                      refine AOps.step rfl rfl rfl (AOp.pickT rfl rfl rfl) ?_
                      refine AOps.nil ?_
                      refine AWP.cond rfl (fun h30 => ?_) (fun h30 => ?_)
                      · replace h30 := of_decide_eq_true h30
                        have H8 := badFault_8 hlt h7 (by omega) h30
                        have HF : cpyFault v c b = 8 := by rw [HX, ffst_hit hq.2 (by rw [H8]; decide) _ hlt, H8]
                        refine AWP.seq ?_
                        refine AWP.region ?_
                        refine AOps.step rfl rfl rfl (AOp.assignD rfl rfl) ?_
                        refine AOps.nil ?_
                        refine AWP.ret ?_
                        refine ⟨RetD.eq rfl ?_, trivial⟩
                        all_goals (rw [HF])
                      · replace h30 := of_decide_eq_false h30
                        have h8 : 0 < q → ¬ c.bad[q] ≤ c.bad[q-1] := fun _ => h30
                        refine AWP.skip ?_
                        refine AWP.region ?_
                        refine AOps.step rfl rfl rfl (AOp.add64 rfl rfl rfl (by omega) (by omega)) ?_
                        refine AOps.step rfl rfl rfl (AOp.moveD rfl rfl) ?_
                        refine AOps.nil ?_
                        refine ⟨q + 1, ⟨by omega, ffst_next hq.2 (badFault_0 hlt h7 h8)⟩, (by dsimp only; omega), Sub.less ⟨(SLe.of_eq rfl), SLe.refl _, SLe.refl _, SLe.refl _, SLe.refl _, trivial⟩ (fun _ h => h)⟩
                    · replace g29 := of_decide_eq_false g29
                      have h8 : 0 < q → ¬ c.bad[q] ≤ c.bad[q-1] := fun hh => absurd hh (by omega)
                      refine AOps.pass ⟨79, rfl, .inl ⟨_, rfl, rfl⟩⟩ rfl rfl ?_
                      refine AOps.pass ⟨79, rfl, .inl ⟨_, rfl, rfl⟩⟩ rfl rfl ?_
                      refine AOps.pass ⟨79, rfl, .inl ⟨_, rfl, rfl⟩⟩ rfl rfl ?_
                      refine AOps.pass ⟨79, rfl, .inl ⟨_, rfl, rfl⟩⟩ rfl rfl ?_
                      refine AOps.pass ⟨79, rfl, .inl ⟨_, rfl, rfl⟩⟩ rfl rfl ?_
                      refine AOps.pass ⟨79, rfl, .inl ⟨_, rfl, rfl⟩⟩ rfl rfl ?_
                      refine AOps.pass ⟨79, rfl, .inl ⟨_, rfl, rfl⟩⟩ rfl rfl ?_
                      refine AOps.pass ⟨79, rfl, .inl ⟨_, rfl, rfl⟩⟩ rfl rfl ?_
                      refine AOps.step rfl rfl rfl (AOp.pickF rfl rfl rfl) ?_
                      refine AOps.nil ?_
                      refine AWP.cond rfl (fun h => nomatch h) (fun _ => ?_)
                      refine AWP.skip ?_
                      refine AWP.region ?_
                      refine AOps.step rfl rfl rfl (AOp.add64 rfl rfl rfl (by omega) (by omega)) ?_
                      refine AOps.step rfl rfl rfl (AOp.moveD rfl rfl) ?_
                      refine AOps.nil ?_
                      refine ⟨q + 1, ⟨by omega, ffst_next hq.2 (badFault_0 hlt h7 h8)⟩, (by dsimp only; omega), Sub.less ⟨(SLe.of_eq rfl), SLe.refl _, SLe.refl _, SLe.refl _, SLe.refl _, trivial⟩ (fun _ h => h)⟩
                · replace h27 := of_decide_eq_false h27
                  rw [List.length_map] at h27
                  have HF : cpyFault v c b = 0 := by rw [HX, ← show q = c.bad.length by omega]; exact hq.2
                  refine AWP.exit ?_
                  refine AWP.seq ?_
                  refine AWP.region ?_
                  refine AOps.step rfl rfl rfl (AOp.assignD rfl rfl) ?_
                  refine AOps.nil ?_
                  refine AWP.ret ?_
                  refine ⟨RetD.eq rfl ?_, trivial⟩
                  all_goals (rw [HF])
    · replace g21 := of_decide_eq_false g21
      have hDD : ¬ c.frm = c.carrier := fun hh => g21 (fun h5 => hne (hh.symm.trans h5))
      refine AOps.pass ⟨22, rfl, .inl ⟨_, rfl, rfl⟩⟩ rfl rfl ?_
      refine AOps.pass ⟨22, rfl, .inl ⟨_, rfl, rfl⟩⟩ rfl rfl ?_
      refine AOps.pass ⟨22, rfl, .inl ⟨_, rfl, rfl⟩⟩ rfl rfl ?_
      refine AOps.pass ⟨22, rfl, .inl ⟨_, rfl, rfl⟩⟩ rfl rfl ?_
      refine AOps.pass ⟨22, rfl, .inl ⟨_, rfl, rfl⟩⟩ rfl rfl ?_
      refine AOps.step rfl rfl rfl (AOp.pickF rfl rfl rfl) ?_
      refine AOps.step rfl rfl rfl (AOp.assignD rfl rfl) ?_
      refine AOps.nil ?_
      refine AWP.cond rfl (fun h => nomatch h) (fun _ => ?_)
      refine AWP.seq ?_
      refine AWP.region ?_
      refine AOps.step rfl rfl rfl (AOp.fieldAddr rfl fo_77_3 rfl) ?_
      refine AOps.step rfl rfl rfl (AOp.load rfl sc_3 rfl) ?_
      refine AOps.step rfl rfl rfl (AOp.call rfl (.cons (ArgOk.rfl' rfl) .nil) (c_rDay _)) ?_
      refine AOps.step rfl rfl rfl (AOp.not rfl rfl) ?_
      refine AOps.step rfl rfl rfl (AOp.moveD rfl rfl) ?_
      refine AOps.split 34 rfl (fun g31 => ?_) (fun g31 => ?_)
      · replace g31 := bnot_t g31; replace g31 := of_decide_eq_false g31
        have HF : cpyFault v c b = 1 := ((if_neg hA).trans ((if_neg hB).trans ((if_neg hC).trans ((if_neg hDD).trans (if_pos (.inl g31))))))
        refine AOps.pass ⟨34, rfl, .inl ⟨_, rfl, rfl⟩⟩ rfl rfl ?_
        refine AOps.pass ⟨34, rfl, .inl ⟨_, rfl, rfl⟩⟩ rfl rfl ?_
        refine AOps.pass ⟨34, rfl, .inl ⟨_, rfl, rfl⟩⟩ rfl rfl ?_
        refine AOps.pass ⟨34, rfl, .inl ⟨_, rfl, rfl⟩⟩ rfl rfl ?_
        refine AOps.pass ⟨34, rfl, .inl ⟨_, rfl, rfl⟩⟩ rfl rfl ?_
        refine AOps.pass ⟨34, rfl, .inl ⟨_, rfl, rfl⟩⟩ rfl rfl ?_
        refine AOps.step rfl rfl rfl (AOp.pickT rfl rfl rfl) ?_
        refine AOps.step rfl rfl rfl (AOp.moveD rfl rfl) ?_
        refine AOps.pass ⟨42, rfl, .inl ⟨_, rfl, rfl⟩⟩ rfl rfl ?_
        refine AOps.pass ⟨42, rfl, .inl ⟨_, rfl, rfl⟩⟩ rfl rfl ?_
        refine AOps.pass ⟨42, rfl, .inl ⟨_, rfl, rfl⟩⟩ rfl rfl ?_
        refine AOps.pass ⟨42, rfl, .inl ⟨_, rfl, rfl⟩⟩ rfl rfl ?_
        refine AOps.step rfl rfl rfl (AOp.pickT rfl rfl rfl) ?_
        refine AOps.step rfl rfl rfl (AOp.assignD rfl rfl) ?_
        refine AOps.nil ?_
        refine AWP.cond rfl (fun _ => ?_) (fun h => nomatch h)
        refine AWP.seq ?_
        refine AWP.region ?_
        refine AOps.step rfl rfl rfl (AOp.assignD rfl rfl) ?_
        refine AOps.nil ?_
        refine AWP.ret ?_
        refine ⟨RetD.eq rfl ?_, trivial⟩
        all_goals (rw [HF])
      · replace g31 := bnot_f g31; replace g31 := of_decide_eq_true g31
        have he1 := g31
        refine AOps.step ⟨34, rfl, .inl ⟨_, rfl, rfl⟩⟩ rfl rfl (AOp.fieldAddr rfl fo_77_4 rfl) ?_
        refine AOps.step ⟨34, rfl, .inl ⟨_, rfl, rfl⟩⟩ rfl rfl (AOp.load rfl sc_3 rfl) ?_
        refine AOps.step ⟨34, rfl, .inl ⟨_, rfl, rfl⟩⟩ rfl rfl (AOp.fieldAddr rfl fo_77_3 rfl) ?_
        refine AOps.step ⟨34, rfl, .inl ⟨_, rfl, rfl⟩⟩ rfl rfl (AOp.load rfl sc_3 rfl) ?_
        refine AOps.step ⟨34, rfl, .inl ⟨_, rfl, rfl⟩⟩ rfl rfl (AOp.call rfl (.cons (ArgOk.rfl' rfl) (.cons (ArgOk.rfl' rfl) (.cons (ArgOk.rfl' rfl) .nil))) (c_rWithin _ _ _)) ?_
        refine AOps.step ⟨34, rfl, .inl ⟨_, rfl, rfl⟩⟩ rfl rfl (AOp.not rfl rfl) ?_
        refine AOps.step rfl rfl rfl (AOp.pickF rfl rfl rfl) ?_
        refine AOps.step rfl rfl rfl (AOp.moveD rfl rfl) ?_
        refine AOps.split 42 rfl (fun g32 => ?_) (fun g32 => ?_)
        · replace g32 := bnot_t g32; replace g32 := of_decide_eq_false g32
          have HF : cpyFault v c b = 1 := ((if_neg hA).trans ((if_neg hB).trans ((if_neg hC).trans ((if_neg hDD).trans (if_pos (.inr (.inl g32)))))))
          refine AOps.pass ⟨42, rfl, .inl ⟨_, rfl, rfl⟩⟩ rfl rfl ?_
          refine AOps.pass ⟨42, rfl, .inl ⟨_, rfl, rfl⟩⟩ rfl rfl ?_
          refine AOps.pass ⟨42, rfl, .inl ⟨_, rfl, rfl⟩⟩ rfl rfl ?_
          refine AOps.pass ⟨42, rfl, .inl ⟨_, rfl, rfl⟩⟩ rfl rfl ?_
          refine AOps.step rfl rfl rfl (AOp.pickT rfl rfl rfl) ?_
          refine AOps.step rfl rfl rfl (AOp.assignD rfl rfl) ?_
          refine AOps.nil ?_
          refine AWP.cond rfl (fun _ => ?_) (fun h => nomatch h)
          refine AWP.seq ?_
          refine AWP.region ?_
          refine AOps.step rfl rfl rfl (AOp.assignD rfl rfl) ?_
          refine AOps.nil ?_
          refine AWP.ret ?_
          refine ⟨RetD.eq rfl ?_, trivial⟩
          all_goals (rw [HF])
        · replace g32 := bnot_f g32; replace g32 := of_decide_eq_true g32
          have he2 := g32
          refine AOps.step ⟨42, rfl, .inl ⟨_, rfl, rfl⟩⟩ rfl rfl (AOp.fieldAddr rfl fo_77_5 rfl) ?_
          refine AOps.step ⟨42, rfl, .inl ⟨_, rfl, rfl⟩⟩ rfl rfl (AOp.load rfl sc_3 rfl) ?_
          refine AOps.step ⟨42, rfl, .inl ⟨_, rfl, rfl⟩⟩ rfl rfl (AOp.call rfl (.cons (ArgOk.rfl' rfl) (.cons (ArgOk.rfl' rfl) (.cons (ArgOk.rfl' rfl) .nil))) (c_rWithin _ _ _)) ?_
          refine AOps.step ⟨42, rfl, .inl ⟨_, rfl, rfl⟩⟩ rfl rfl (AOp.not rfl rfl) ?_
          refine AOps.step rfl rfl rfl (AOp.pickF rfl rfl rfl) ?_
          refine AOps.step rfl rfl rfl (AOp.assignD rfl rfl) ?_
          refine AOps.nil ?_
          refine AWP.cond rfl (fun h33 => ?_) (fun h33 => ?_)
          · replace h33 := bnot_t h33; replace h33 := of_decide_eq_false h33
            have HF : cpyFault v c b = 1 := ((if_neg hA).trans ((if_neg hB).trans ((if_neg hC).trans ((if_neg hDD).trans (if_pos (.inr (.inr h33)))))))
            refine AWP.seq ?_
            refine AWP.region ?_
            refine AOps.step rfl rfl rfl (AOp.assignD rfl rfl) ?_
            refine AOps.nil ?_
            refine AWP.ret ?_
            refine ⟨RetD.eq rfl ?_, trivial⟩
            all_goals (rw [HF])
          · replace h33 := bnot_f h33; replace h33 := of_decide_eq_true h33
            have hE : ¬ (¬ (0 ≤ c.day ∧ c.day ≤ 200000) ∨ ¬ (c.day ≤ c.last ∧ c.last ≤ 200000) ∨ ¬ (1 ≤ c.gen ∧ c.gen ≤ 100)) := by omega
            refine AWP.seq ?_
            refine AWP.region ?_
            refine AOps.step rfl rfl rfl (AOp.fieldAddr rfl fo_77_5 rfl) ?_
            refine AOps.step rfl rfl rfl (AOp.load rfl sc_3 rfl) ?_
            refine AOps.step rfl rfl rfl (AOp.eql rfl rfl rfl) ?_
            refine AOps.step rfl rfl rfl (AOp.fieldAddr rfl fo_77_2 rfl) ?_
            refine AOps.step rfl rfl rfl (AOp.load rfl sc_9 rfl) ?_
            refine AOps.step rfl rfl rfl (AOp.seql rfl rfl rfl) ?_
            refine AOps.step rfl rfl rfl (AOp.bneq rfl bt_4 rfl rfl) ?_
            refine AOps.step rfl rfl rfl (AOp.assignD rfl rfl) ?_
            refine AOps.nil ?_
            refine AWP.cond rfl (fun h34 => ?_) (fun h34 => ?_)
            · replace h34 := of_decide_eq_true h34
              have HF : cpyFault v c b = 3 := ((if_neg hA).trans ((if_neg hB).trans ((if_neg hC).trans ((if_neg hDD).trans ((if_neg hE).trans (if_pos h34))))))
              refine AWP.seq ?_
              refine AWP.region ?_
              refine AOps.step rfl rfl rfl (AOp.assignD rfl rfl) ?_
              refine AOps.nil ?_
              refine AWP.ret ?_
              refine ⟨RetD.eq rfl ?_, trivial⟩
              all_goals (rw [HF])
            · replace h34 := of_decide_eq_false h34
              have hG := h34
              have HX : cpyFault v c b = ffst (badFault (itemBlocks v c.item) c.bad) c.bad.length := ((if_neg hA).trans ((if_neg hB).trans ((if_neg hC).trans ((if_neg hDD).trans ((if_neg hE).trans (if_neg hG))))))
              refine AWP.skip ?_
              refine AWP.seq ?_
              refine AWP.seq ?_
              refine AWP.region ?_
              refine AOps.step rfl rfl rfl (AOp.fieldAddr rfl fo_77_6 rfl) ?_
              refine AOps.step rfl rfl rfl (AOp.load rfl sc_75 rfl) ?_
              refine AOps.step rfl rfl rfl (AOp.lenSl rfl et_75.ht rfl) ?_
              refine AOps.step rfl rfl rfl (AOp.moveD rfl rfl) ?_
              refine AOps.nil ?_
              refine AWP.block ?_
              refine AWP.bound 57 rfl (fun hbd => ?_)
              rw [List.length_map] at hbd
              refine AWP.loop (G := Nat) (fun q => Env.of [(59, .d (.v (.int .i64 (q : Int)))), (57, .d (.sl (c.bad.map intD))), (58, .d (.v (.int .i64 ((c.bad.map intD).length : Int)))), (2, .d (.fp v.ds)), (3, .d (.fp c.ds))]) (fun q => []) (fun q => q ≤ c.bad.length ∧ ffst (badFault (itemBlocks v c.item) c.bad) q = 0) (fun q => c.bad.length - q) 0 ⟨Nat.zero_le _, rfl⟩ (Sub.less ⟨(SLe.of_eq rfl), SLe.refl _, SLe.refl _, SLe.refl _, SLe.refl _, trivial⟩ (fun _ h => h)) ?_
              intro q hq
              refine AWP.seq ?_
              refine AWP.region ?_
              refine AOps.step rfl rfl rfl (AOp.lss rfl rfl rfl) ?_
              refine AOps.nil ?_
              refine AWP.seq ?_
              refine AWP.cond rfl (fun h35 => ?_) (fun h35 => ?_)
              · replace h35 := of_decide_eq_true h35
                rw [List.length_map] at h35
                have hlt : q < c.bad.length := by omega
                refine AWP.skip ?_
                refine AWP.seq ?_
                refine AWP.block ?_
                refine AWP.seq ?_
                refine AWP.region ?_
                refine AOps.step rfl rfl rfl (AOp.moveD rfl rfl) ?_
                refine AOps.step rfl rfl rfl (AOp.indexAddr rfl et_75 rfl rfl q rfl (at_list hlt) rfl) ?_
                refine AOps.step rfl rfl rfl (AOp.load rfl sc_3 rfl) ?_
                refine AOps.step rfl rfl rfl (AOp.assignD rfl rfl) ?_
                refine AOps.step rfl rfl rfl (AOp.assignD rfl rfl) ?_
                refine AOps.nil ?_
                refine AWP.seq ?_
                refine AWP.seq ?_
                refine AWP.draw (by kernel_rfl) (by kernel_rfl) ?_
                refine DRun.step rfl rfl rfl (AOp.moveD rfl rfl) ?_
                refine DRun.step rfl rfl rfl (AOp.fieldAddr rfl fo_26_0 rfl) ?_
                refine DRun.step rfl rfl rfl (AOp.load rfl sc_22 rfl) ?_
                refine DRun.step rfl rfl rfl (AOp.loadAgg rfl ag_26 rfl rfl) ?_
                refine DRun.step rfl rfl rfl (AOp.fieldAddr rfl fo_77_0 rfl) ?_
                refine DRun.step rfl rfl rfl (AOp.load rfl sc_9 rfl) ?_
                refine DRun.step rfl rfl rfl (AOp.call rfl (.cons (ArgOk.rfl' rfl) (.cons (ArgOk.rfl' rfl) .nil)) (c_itemOf _ _)) ?_
                refine DRun.step rfl rfl rfl (AOp.indexAddr rfl et_22 rfl rfl ki eki (at_list hki) rfl) ?_
                refine DRun.step rfl rfl rfl (AOp.fieldAddr rfl fo_69_1 rfl) ?_
                refine DRun.step rfl rfl rfl (AOp.load rfl sc_3 rfl) ?_
                refine DRun.step rfl rfl rfl (AOp.sub64 rfl rfl rfl (by omega) (by omega)) ?_
                refine DRun.step rfl rfl rfl (AOp.call rfl (.cons (ArgOk.rfl' rfl) (.cons (ArgOk.rfl' rfl) (.cons (ArgOk.rfl' rfl) .nil))) (c_rWithin _ _ _)) ?_
                refine DRun.step rfl rfl rfl (AOp.not rfl rfl) ?_
                refine DRun.nil ?_
                refine AWP.cond rfl (fun h36 => ?_) (fun h36 => ?_)
                · replace h36 := bnot_t h36; replace h36 := of_decide_eq_false h36
                  have H1 := badFault_1 (n := itemBlocks v c.item) hlt (by rw [hib]; exact h36)
                  have HF : cpyFault v c b = 1 := by rw [HX, ffst_hit hq.2 (by rw [H1]; decide) _ hlt, H1]
                  refine AWP.seq ?_
                  refine AWP.region ?_
                  refine AOps.step rfl rfl rfl (AOp.assignD rfl rfl) ?_
                  refine AOps.nil ?_
                  refine AWP.ret ?_
                  refine ⟨RetD.eq rfl ?_, trivial⟩
                  all_goals (rw [HF])
                · replace h36 := bnot_f h36; replace h36 := of_decide_eq_true h36
                  have h7 : 0 ≤ c.bad[q] ∧ c.bad[q] ≤ itemBlocks v c.item - 1 := by rw [hib]; omega
                  refine AWP.skip ?_
                  refine AWP.seq ?_
                  refine AWP.region ?_
                  refine AOps.step rfl rfl rfl (AOp.moveD rfl rfl) ?_
                  refine AOps.step rfl rfl rfl (AOp.gtr rfl rfl rfl) ?_
                  refine AOps.step rfl rfl rfl (AOp.moveD rfl rfl) ?_
                  refine AOps.split 79 rfl (fun g37 => ?_) (fun g37 => ?_)
                  · replace g37 := of_decide_eq_true g37
                    refine AOps.step ⟨79, rfl, .inl ⟨_, rfl, rfl⟩⟩ rfl rfl (AOp.moveD rfl rfl) ?_
                    refine AOps.step ⟨79, rfl, .inl ⟨_, rfl, rfl⟩⟩ rfl rfl (AOp.fieldAddr rfl fo_77_6 rfl) ?_
                    refine AOps.step ⟨79, rfl, .inl ⟨_, rfl, rfl⟩⟩ rfl rfl (AOp.load rfl sc_75 rfl) ?_
                    refine AOps.step ⟨79, rfl, .inl ⟨_, rfl, rfl⟩⟩ rfl rfl (AOp.moveD rfl rfl) ?_
                    refine AOps.step ⟨79, rfl, .inl ⟨_, rfl, rfl⟩⟩ rfl rfl (AOp.sub64 rfl rfl rfl (by omega) (by omega)) ?_
                    refine AOps.step ⟨79, rfl, .inl ⟨_, rfl, rfl⟩⟩ rfl rfl (AOp.indexAddr rfl et_75 rfl rfl (q - 1) (by omega) (at_list (by omega)) rfl) ?_
                    refine AOps.step ⟨79, rfl, .inl ⟨_, rfl, rfl⟩⟩ rfl rfl (AOp.load rfl sc_3 rfl) ?_
                    refine AOps.step ⟨79, rfl, .inl ⟨_, rfl, rfl⟩⟩ rfl rfl (AOp.leq rfl rfl rfl) ?_
                    refine AOps.step rfl rfl rfl (AOp.pickT rfl rfl rfl) ?_
                    refine AOps.nil ?_
                    refine AWP.cond rfl (fun h38 => ?_) (fun h38 => ?_)
                    · replace h38 := of_decide_eq_true h38
                      have H8 := badFault_8 hlt h7 (by omega) h38
                      have HF : cpyFault v c b = 8 := by rw [HX, ffst_hit hq.2 (by rw [H8]; decide) _ hlt, H8]
                      refine AWP.seq ?_
                      refine AWP.region ?_
                      refine AOps.step rfl rfl rfl (AOp.assignD rfl rfl) ?_
                      refine AOps.nil ?_
                      refine AWP.ret ?_
                      refine ⟨RetD.eq rfl ?_, trivial⟩
                      all_goals (rw [HF])
                    · replace h38 := of_decide_eq_false h38
                      have h8 : 0 < q → ¬ c.bad[q] ≤ c.bad[q-1] := fun _ => h38
                      refine AWP.skip ?_
                      refine AWP.region ?_
                      refine AOps.step rfl rfl rfl (AOp.add64 rfl rfl rfl (by omega) (by omega)) ?_
                      refine AOps.step rfl rfl rfl (AOp.moveD rfl rfl) ?_
                      refine AOps.nil ?_
                      refine ⟨q + 1, ⟨by omega, ffst_next hq.2 (badFault_0 hlt h7 h8)⟩, (by dsimp only; omega), Sub.less ⟨(SLe.of_eq rfl), SLe.refl _, SLe.refl _, SLe.refl _, SLe.refl _, trivial⟩ (fun _ h => h)⟩
                  · replace g37 := of_decide_eq_false g37
                    have h8 : 0 < q → ¬ c.bad[q] ≤ c.bad[q-1] := fun hh => absurd hh (by omega)
                    refine AOps.pass ⟨79, rfl, .inl ⟨_, rfl, rfl⟩⟩ rfl rfl ?_
                    refine AOps.pass ⟨79, rfl, .inl ⟨_, rfl, rfl⟩⟩ rfl rfl ?_
                    refine AOps.pass ⟨79, rfl, .inl ⟨_, rfl, rfl⟩⟩ rfl rfl ?_
                    refine AOps.pass ⟨79, rfl, .inl ⟨_, rfl, rfl⟩⟩ rfl rfl ?_
                    refine AOps.pass ⟨79, rfl, .inl ⟨_, rfl, rfl⟩⟩ rfl rfl ?_
                    refine AOps.pass ⟨79, rfl, .inl ⟨_, rfl, rfl⟩⟩ rfl rfl ?_
                    refine AOps.pass ⟨79, rfl, .inl ⟨_, rfl, rfl⟩⟩ rfl rfl ?_
                    refine AOps.pass ⟨79, rfl, .inl ⟨_, rfl, rfl⟩⟩ rfl rfl ?_
                    refine AOps.step rfl rfl rfl (AOp.pickF rfl rfl rfl) ?_
                    refine AOps.nil ?_
                    refine AWP.cond rfl (fun h => nomatch h) (fun _ => ?_)
                    refine AWP.skip ?_
                    refine AWP.region ?_
                    refine AOps.step rfl rfl rfl (AOp.add64 rfl rfl rfl (by omega) (by omega)) ?_
                    refine AOps.step rfl rfl rfl (AOp.moveD rfl rfl) ?_
                    refine AOps.nil ?_
                    refine ⟨q + 1, ⟨by omega, ffst_next hq.2 (badFault_0 hlt h7 h8)⟩, (by dsimp only; omega), Sub.less ⟨(SLe.of_eq rfl), SLe.refl _, SLe.refl _, SLe.refl _, SLe.refl _, trivial⟩ (fun _ h => h)⟩
              · replace h35 := of_decide_eq_false h35
                rw [List.length_map] at h35
                have HF : cpyFault v c b = 0 := by rw [HX, ← show q = c.bad.length by omega]; exact hq.2
                refine AWP.exit ?_
                refine AWP.seq ?_
                refine AWP.region ?_
                refine AOps.step rfl rfl rfl (AOp.assignD rfl rfl) ?_
                refine AOps.nil ?_
                refine AWP.ret ?_
                refine ⟨RetD.eq rfl ?_, trivial⟩
                all_goals (rw [HF])

set_option maxRecDepth 100000 in
set_option maxHeartbeats 1000000 in
theorem c_pCheck (v : Vlt) (hs : smallV v) : ACall Tryd.prog 9 [.agg v.ds] (.v (.int .i64 (checkV v))) := by
  refine acall_of (n := 150) (ds' := [.v (.int .i64 (checkV v))]) Tryd.func9 rfl (by kernel_rfl) rfl [2] rfl rfl ?_
  intro B w0 F0 fr
  refine AWP.seq ?_
  refine AWP.region ?_
  refine AOps.step rfl rfl rfl (AOp.box rfl rfl rfl) ?_
  refine AOps.step rfl rfl rfl (AOp.assignD rfl rfl) ?_
  refine AOps.nil ?_
  refine AWP.seq ?_
  refine AWP.seq ?_
  refine AWP.region ?_
  refine AOps.step rfl rfl rfl (AOp.fieldAddr rfl fo_26_0 rfl) ?_
  refine AOps.step rfl rfl rfl (AOp.load rfl sc_22 rfl) ?_
  refine AOps.step rfl rfl rfl (AOp.lenSl rfl et_22.ht rfl) ?_
  refine AOps.step rfl rfl rfl (AOp.gtr rfl rfl rfl) ?_
  refine AOps.step rfl rfl rfl (AOp.moveD rfl rfl) ?_
  refine AOps.split 17 rfl (fun g1 => ?_) (fun g1 => ?_)
  · replace g1 := of_decide_eq_true g1
    refine AOps.pass ⟨17, rfl, .inl ⟨_, rfl, rfl⟩⟩ rfl rfl ?_
    refine AOps.pass ⟨17, rfl, .inl ⟨_, rfl, rfl⟩⟩ rfl rfl ?_
    refine AOps.pass ⟨17, rfl, .inl ⟨_, rfl, rfl⟩⟩ rfl rfl ?_
    refine AOps.pass ⟨17, rfl, .inl ⟨_, rfl, rfl⟩⟩ rfl rfl ?_
    refine AOps.step rfl rfl rfl (AOp.pickT rfl rfl rfl) ?_
    refine AOps.step rfl rfl rfl (AOp.moveD rfl rfl) ?_
    refine AOps.pass ⟨23, rfl, .inl ⟨_, rfl, rfl⟩⟩ rfl rfl ?_
    refine AOps.pass ⟨23, rfl, .inl ⟨_, rfl, rfl⟩⟩ rfl rfl ?_
    refine AOps.pass ⟨23, rfl, .inl ⟨_, rfl, rfl⟩⟩ rfl rfl ?_
    refine AOps.pass ⟨23, rfl, .inl ⟨_, rfl, rfl⟩⟩ rfl rfl ?_
    refine AOps.step rfl rfl rfl (AOp.pickT rfl rfl rfl) ?_
    refine AOps.nil ?_
    refine AWP.cond rfl (fun _ => ?_) (fun h => nomatch h)
    refine AWP.seq ?_
    refine AWP.region ?_
    refine AOps.step rfl rfl rfl (AOp.assignD rfl rfl) ?_
    refine AOps.nil ?_
    refine AWP.ret ?_
    refine ⟨RetD.eq rfl ?_, trivial⟩
    all_goals (first | rw [HF] | rw [show checkV v = 2 from if_pos (by unfold largeV; simp only [List.length_map] at *; omega)])
  · replace g1 := of_decide_eq_false g1
    refine AOps.step ⟨17, rfl, .inl ⟨_, rfl, rfl⟩⟩ rfl rfl (AOp.fieldAddr rfl fo_26_1 rfl) ?_
    refine AOps.step ⟨17, rfl, .inl ⟨_, rfl, rfl⟩⟩ rfl rfl (AOp.load rfl sc_23 rfl) ?_
    refine AOps.step ⟨17, rfl, .inl ⟨_, rfl, rfl⟩⟩ rfl rfl (AOp.lenSl rfl et_23.ht rfl) ?_
    refine AOps.step ⟨17, rfl, .inl ⟨_, rfl, rfl⟩⟩ rfl rfl (AOp.gtr rfl rfl rfl) ?_
    refine AOps.step rfl rfl rfl (AOp.pickF rfl rfl rfl) ?_
    refine AOps.step rfl rfl rfl (AOp.moveD rfl rfl) ?_
    refine AOps.split 23 rfl (fun g2 => ?_) (fun g2 => ?_)
    · replace g2 := of_decide_eq_true g2
      refine AOps.pass ⟨23, rfl, .inl ⟨_, rfl, rfl⟩⟩ rfl rfl ?_
      refine AOps.pass ⟨23, rfl, .inl ⟨_, rfl, rfl⟩⟩ rfl rfl ?_
      refine AOps.pass ⟨23, rfl, .inl ⟨_, rfl, rfl⟩⟩ rfl rfl ?_
      refine AOps.pass ⟨23, rfl, .inl ⟨_, rfl, rfl⟩⟩ rfl rfl ?_
      refine AOps.step rfl rfl rfl (AOp.pickT rfl rfl rfl) ?_
      refine AOps.nil ?_
      refine AWP.cond rfl (fun _ => ?_) (fun h => nomatch h)
      refine AWP.seq ?_
      refine AWP.region ?_
      refine AOps.step rfl rfl rfl (AOp.assignD rfl rfl) ?_
      refine AOps.nil ?_
      refine AWP.ret ?_
      refine ⟨RetD.eq rfl ?_, trivial⟩
      all_goals (first | rw [HF] | rw [show checkV v = 2 from if_pos (by unfold largeV; simp only [List.length_map] at *; omega)])
    · replace g2 := of_decide_eq_false g2
      refine AOps.step ⟨23, rfl, .inl ⟨_, rfl, rfl⟩⟩ rfl rfl (AOp.fieldAddr rfl fo_26_2 rfl) ?_
      refine AOps.step ⟨23, rfl, .inl ⟨_, rfl, rfl⟩⟩ rfl rfl (AOp.load rfl sc_24 rfl) ?_
      refine AOps.step ⟨23, rfl, .inl ⟨_, rfl, rfl⟩⟩ rfl rfl (AOp.lenSl rfl et_24.ht rfl) ?_
      refine AOps.step ⟨23, rfl, .inl ⟨_, rfl, rfl⟩⟩ rfl rfl (AOp.gtr rfl rfl rfl) ?_
      refine AOps.step rfl rfl rfl (AOp.pickF rfl rfl rfl) ?_
      refine AOps.nil ?_
      refine AWP.cond rfl (fun h3 => ?_) (fun h3 => ?_)
      · replace h3 := of_decide_eq_true h3
        refine AWP.seq ?_
        refine AWP.region ?_
        refine AOps.step rfl rfl rfl (AOp.assignD rfl rfl) ?_
        refine AOps.nil ?_
        refine AWP.ret ?_
        refine ⟨RetD.eq rfl ?_, trivial⟩
        all_goals (first | rw [HF] | rw [show checkV v = 2 from if_pos (by unfold largeV; simp only [List.length_map] at *; omega)])
      · replace h3 := of_decide_eq_false h3
        have hlg : ¬ largeV v := by unfold largeV; simp only [List.length_map] at *; omega
        refine AWP.skip ?_
        refine AWP.seq ?_
        refine AWP.seq ?_
        refine AWP.region ?_
        refine AOps.step rfl rfl rfl (AOp.fieldAddr rfl fo_26_0 rfl) ?_
        refine AOps.step rfl rfl rfl (AOp.load rfl sc_22 rfl) ?_
        refine AOps.step rfl rfl rfl (AOp.lenSl rfl et_22.ht rfl) ?_
        refine AOps.step rfl rfl rfl (AOp.moveD rfl rfl) ?_
        refine AOps.nil ?_
        refine AWP.block ?_
        have hb30 : v.items.length ≤ 30 := by unfold largeV at hlg; omega
        refine AWP.loop (G := Nat) (fun k => Env.of [(32, .d (.v (.int .i64 (k : Int)))), (30, .d (.sl (v.items.map Item.ds))), (31, .d (.v (.int .i64 ((v.items.map Item.ds).length : Int)))), (1, .d (.fp v.ds))]) (fun k => []) (fun k => k ≤ v.items.length ∧ ffst (itemFault v.items) k = 0) (fun k => v.items.length - k) 0 ⟨Nat.zero_le _, rfl⟩ (Sub.less ⟨(SLe.of_eq rfl), SLe.refl _, SLe.refl _, SLe.refl _, trivial⟩ (fun _ h => h)) ?_
        intro k hk
        refine AWP.seq ?_
        refine AWP.region ?_
        refine AOps.step rfl rfl rfl (AOp.lss rfl rfl rfl) ?_
        refine AOps.nil ?_
        refine AWP.seq ?_
        refine AWP.cond rfl (fun h4 => ?_) (fun h4 => ?_)
        · replace h4 := of_decide_eq_true h4
          rw [List.length_map] at h4
          have hlt : k < v.items.length := by omega
          have hsz := hs.1 _ (List.getElem_mem hlt)
          refine AWP.skip ?_
          refine AWP.seq ?_
          refine AWP.block ?_
          refine AWP.seq ?_
          refine AWP.region ?_
          refine AOps.step rfl rfl rfl (AOp.moveD rfl rfl) ?_
          refine AOps.step rfl rfl rfl (AOp.indexAddr rfl et_22 rfl rfl k rfl (at_list hlt) rfl) ?_
          refine AOps.step rfl rfl rfl (AOp.loadAgg rfl ag_69 rfl rfl) ?_
          refine AOps.alloc 101 rfl rfl rfl rfl zt_69 rfl rfl rfl ?_
          refine AOps.step rfl rfl rfl (AOp.assignD rfl rfl) ?_
          refine AOps.store rfl rfl rfl sz_69 rfl (.head _) rfl rfl rfl (Nat.le_of_ble_eq_true rfl) ?_
          refine AOps.nil ?_
          refine AWP.block ?_
          refine AWP.seq ?_
          refine AWP.region ?_
          refine AOps.step rfl rfl rfl (AOp.fieldAddrP rfl fo_69_0 rfl) ?_
          refine AOps.step rfl rfl rfl (AOp.loadP rfl sc_9 rfl (.head _) rfl) ?_
          refine AOps.step rfl rfl rfl (AOp.call rfl (.cons (ArgOk.rfl' rfl) .nil) (c_pName _ (by assumption))) ?_
          refine AOps.step rfl rfl rfl (AOp.not rfl rfl) ?_
          refine AOps.step rfl rfl rfl (AOp.assignD rfl rfl) ?_
          refine AOps.nil ?_
          refine AWP.cond rfl (fun h5 => ?_) (fun h5 => ?_)
          · replace h5 := bnot_t h5
            have HF := check_items hlg hlt hk.2 (itemFault_5 hlt h5) (by decide)
            refine AWP.seq ?_
            refine AWP.region ?_
            refine AOps.step rfl rfl rfl (AOp.assignD rfl rfl) ?_
            refine AOps.nil ?_
            refine AWP.ret ?_
            refine ⟨RetD.eq rfl ?_, trivial⟩
            all_goals (first | rw [HF] | rw [show checkV v = 2 from if_pos (by unfold largeV; simp only [List.length_map] at *; omega)])
          · replace h5 := bnot_f h5
            have hnm : nameOk v.items[k].name = true := h5
            refine AWP.seq ?_
            refine AWP.draw (by kernel_rfl) (by kernel_rfl) ?_
            refine DRun.step rfl rfl rfl (AOp.moveD rfl rfl) ?_
            refine DRun.step rfl rfl rfl (AOp.gtr rfl rfl rfl) ?_
            refine DRun.step rfl rfl rfl (AOp.moveD rfl rfl) ?_
            refine DRun.split 45 rfl (fun g6 => ?_) (fun g6 => ?_)
            · replace g6 := of_decide_eq_true g6
              refine DRun.step ⟨45, rfl, .inl ⟨_, rfl, rfl⟩⟩ rfl rfl (AOp.fieldAddrP rfl fo_69_0 rfl) ?_
              refine DRun.step ⟨45, rfl, .inl ⟨_, rfl, rfl⟩⟩ rfl rfl (AOp.loadP rfl sc_9 rfl (.head _) rfl) ?_
              refine DRun.step ⟨45, rfl, .inl ⟨_, rfl, rfl⟩⟩ rfl rfl (AOp.fieldAddr rfl fo_26_0 rfl) ?_
              refine DRun.step ⟨45, rfl, .inl ⟨_, rfl, rfl⟩⟩ rfl rfl (AOp.load rfl sc_22 rfl) ?_
              refine DRun.step ⟨45, rfl, .inl ⟨_, rfl, rfl⟩⟩ rfl rfl (AOp.moveD rfl rfl) ?_
              refine DRun.step ⟨45, rfl, .inl ⟨_, rfl, rfl⟩⟩ rfl rfl (AOp.sub64 rfl rfl rfl (by omega) (by omega)) ?_
              refine DRun.step ⟨45, rfl, .inl ⟨_, rfl, rfl⟩⟩ rfl rfl (AOp.indexAddr rfl et_22 rfl rfl (k - 1) (by omega) (at_list (by omega)) rfl) ?_
              refine DRun.step ⟨45, rfl, .inl ⟨_, rfl, rfl⟩⟩ rfl rfl (AOp.fieldAddr rfl fo_69_0 rfl) ?_
              refine DRun.step ⟨45, rfl, .inl ⟨_, rfl, rfl⟩⟩ rfl rfl (AOp.load rfl sc_9 rfl) ?_
              refine DRun.step ⟨45, rfl, .inl ⟨_, rfl, rfl⟩⟩ rfl rfl (AOp.sleq rfl rfl rfl) ?_
              refine DRun.step rfl rfl rfl (AOp.pickT rfl rfl rfl) ?_
              refine DRun.step rfl rfl rfl (AOp.assignD rfl rfl) ?_
              refine DRun.nil ?_
              refine AWP.cond rfl (fun h7 => ?_) (fun h7 => ?_)
              · skip
                have HF := check_items hlg hlt hk.2 (itemFault_8 hlt hnm (by omega) h7) (by decide)
                refine AWP.seq ?_
                refine AWP.region ?_
                refine AOps.step rfl rfl rfl (AOp.assignD rfl rfl) ?_
                refine AOps.nil ?_
                refine AWP.ret ?_
                refine ⟨RetD.eq rfl ?_, trivial⟩
                all_goals (first | rw [HF] | rw [show checkV v = 2 from if_pos (by unfold largeV; simp only [List.length_map] at *; omega)])
              · skip
                have hs := h7
                refine AWP.seq ?_
                refine AWP.region ?_
                refine AOps.step rfl rfl rfl (AOp.fieldAddrP rfl fo_69_1 rfl) ?_
                refine AOps.step rfl rfl rfl (AOp.loadP rfl sc_3 rfl (.head _) rfl) ?_
                refine AOps.step rfl rfl rfl (AOp.call rfl (.cons (ArgOk.rfl' rfl) (.cons (ArgOk.rfl' rfl) (.cons (ArgOk.rfl' rfl) .nil))) (c_pWithin _ _ _)) ?_
                refine AOps.step rfl rfl rfl (AOp.not rfl rfl) ?_
                refine AOps.step rfl rfl rfl (AOp.assignD rfl rfl) ?_
                refine AOps.nil ?_
                refine AWP.cond rfl (fun h8 => ?_) (fun h8 => ?_)
                · replace h8 := bnot_t h8; replace h8 := of_decide_eq_false h8
                  have HF := check_items hlg hlt hk.2 (itemFault_1 hlt hnm (by first | exact fun _ => hs | exact fun h => absurd h (by omega)) h8) (by decide)
                  refine AWP.seq ?_
                  refine AWP.region ?_
                  refine AOps.step rfl rfl rfl (AOp.assignD rfl rfl) ?_
                  refine AOps.nil ?_
                  refine AWP.ret ?_
                  refine ⟨RetD.eq rfl ?_, trivial⟩
                  all_goals (first | rw [HF] | rw [show checkV v = 2 from if_pos (by unfold largeV; simp only [List.length_map] at *; omega)])
                · replace h8 := bnot_f h8; replace h8 := of_decide_eq_true h8
                  have H0 := itemFault_0 hlt hnm (by first | exact fun _ => hs | exact fun h => absurd h (by omega)) h8
                  refine AWP.skip ?_
                  refine AWP.region ?_
                  refine AOps.step rfl rfl rfl (AOp.add64 rfl rfl rfl (by omega) (by omega)) ?_
                  refine AOps.step rfl rfl rfl (AOp.moveD rfl rfl) ?_
                  refine AOps.nil ?_
                  refine ⟨k + 1, ⟨by omega, ffst_next hk.2 H0⟩, (by dsimp only; omega), Sub.less ⟨(SLe.of_eq rfl), SLe.refl _, SLe.refl _, SLe.refl _, trivial⟩ (fun _ h => by cases h)⟩
            · replace g6 := of_decide_eq_false g6
              refine DRun.pass ⟨45, rfl, .inl ⟨_, rfl, rfl⟩⟩ rfl rfl ?_
              refine DRun.pass ⟨45, rfl, .inl ⟨_, rfl, rfl⟩⟩ rfl rfl ?_
              refine DRun.pass ⟨45, rfl, .inl ⟨_, rfl, rfl⟩⟩ rfl rfl ?_
              refine DRun.pass ⟨45, rfl, .inl ⟨_, rfl, rfl⟩⟩ rfl rfl ?_
              refine DRun.pass ⟨45, rfl, .inl ⟨_, rfl, rfl⟩⟩ rfl rfl ?_
              refine DRun.pass ⟨45, rfl, .inl ⟨_, rfl, rfl⟩⟩ rfl rfl ?_
              refine DRun.pass ⟨45, rfl, .inl ⟨_, rfl, rfl⟩⟩ rfl rfl ?_
              refine DRun.pass ⟨45, rfl, .inl ⟨_, rfl, rfl⟩⟩ rfl rfl ?_
              refine DRun.pass ⟨45, rfl, .inl ⟨_, rfl, rfl⟩⟩ rfl rfl ?_
              refine DRun.pass ⟨45, rfl, .inl ⟨_, rfl, rfl⟩⟩ rfl rfl ?_
              refine DRun.step rfl rfl rfl (AOp.pickF rfl rfl rfl) ?_
              refine DRun.step rfl rfl rfl (AOp.assignD rfl rfl) ?_
              refine DRun.nil ?_
              refine AWP.cond rfl (fun h => nomatch h) (fun _ => ?_)
              refine AWP.seq ?_
              refine AWP.region ?_
              refine AOps.step rfl rfl rfl (AOp.fieldAddrP rfl fo_69_1 rfl) ?_
              refine AOps.step rfl rfl rfl (AOp.loadP rfl sc_3 rfl (.head _) rfl) ?_
              refine AOps.step rfl rfl rfl (AOp.call rfl (.cons (ArgOk.rfl' rfl) (.cons (ArgOk.rfl' rfl) (.cons (ArgOk.rfl' rfl) .nil))) (c_pWithin _ _ _)) ?_
              refine AOps.step rfl rfl rfl (AOp.not rfl rfl) ?_
              refine AOps.step rfl rfl rfl (AOp.assignD rfl rfl) ?_
              refine AOps.nil ?_
              refine AWP.cond rfl (fun h9 => ?_) (fun h9 => ?_)
              · replace h9 := bnot_t h9; replace h9 := of_decide_eq_false h9
                have HF := check_items hlg hlt hk.2 (itemFault_1 hlt hnm (by first | exact fun _ => hs | exact fun h => absurd h (by omega)) h9) (by decide)
                refine AWP.seq ?_
                refine AWP.region ?_
                refine AOps.step rfl rfl rfl (AOp.assignD rfl rfl) ?_
                refine AOps.nil ?_
                refine AWP.ret ?_
                refine ⟨RetD.eq rfl ?_, trivial⟩
                all_goals (first | rw [HF] | rw [show checkV v = 2 from if_pos (by unfold largeV; simp only [List.length_map] at *; omega)])
              · replace h9 := bnot_f h9; replace h9 := of_decide_eq_true h9
                have H0 := itemFault_0 hlt hnm (by first | exact fun _ => hs | exact fun h => absurd h (by omega)) h9
                refine AWP.skip ?_
                refine AWP.region ?_
                refine AOps.step rfl rfl rfl (AOp.add64 rfl rfl rfl (by omega) (by omega)) ?_
                refine AOps.step rfl rfl rfl (AOp.moveD rfl rfl) ?_
                refine AOps.nil ?_
                refine ⟨k + 1, ⟨by omega, ffst_next hk.2 H0⟩, (by dsimp only; omega), Sub.less ⟨(SLe.of_eq rfl), SLe.refl _, SLe.refl _, SLe.refl _, trivial⟩ (fun _ h => by cases h)⟩
        · replace h4 := of_decide_eq_false h4
          rw [List.length_map] at h4
          have hI : ffst (itemFault v.items) v.items.length = 0 := by rw [← show k = v.items.length by omega]; exact hk.2
          refine AWP.exit ?_
          refine AWP.seq ?_
          refine AWP.seq ?_
          refine AWP.region ?_
          refine AOps.step rfl rfl rfl (AOp.fieldAddr rfl fo_26_1 rfl) ?_
          refine AOps.step rfl rfl rfl (AOp.load rfl sc_23 rfl) ?_
          refine AOps.step rfl rfl rfl (AOp.lenSl rfl et_23.ht rfl) ?_
          refine AOps.step rfl rfl rfl (AOp.moveD rfl rfl) ?_
          refine AOps.nil ?_
          refine AWP.block ?_
          have hb16 : v.carrs.length ≤ 16 := by unfold largeV at hlg; omega
          refine AWP.loop (G := Nat) (fun j => Env.of [(66, .d (.v (.int .i64 (j : Int)))), (64, .d (.sl (v.carrs.map Carr.ds))), (65, .d (.v (.int .i64 ((v.carrs.map Carr.ds).length : Int)))), (1, .d (.fp v.ds))]) (fun j => []) (fun j => j ≤ v.carrs.length ∧ ffst (carrFault v.carrs) j = 0) (fun j => v.carrs.length - j) 0 ⟨Nat.zero_le _, rfl⟩ (Sub.less ⟨(SLe.of_eq rfl), SLe.refl _, SLe.refl _, SLe.refl _, trivial⟩ (fun _ h => h)) ?_
          intro j hj
          refine AWP.seq ?_
          refine AWP.region ?_
          refine AOps.step rfl rfl rfl (AOp.lss rfl rfl rfl) ?_
          refine AOps.nil ?_
          refine AWP.seq ?_
          refine AWP.cond rfl (fun h10 => ?_) (fun h10 => ?_)
          · replace h10 := of_decide_eq_true h10
            rw [List.length_map] at h10
            have hlt : j < v.carrs.length := by omega
            obtain ⟨hsz1, hsz2, hsz3⟩ := hs.2 _ (List.getElem_mem hlt)
            refine AWP.skip ?_
            refine AWP.seq ?_
            refine AWP.block ?_
            refine AWP.seq ?_
            refine AWP.region ?_
            refine AOps.step rfl rfl rfl (AOp.moveD rfl rfl) ?_
            refine AOps.step rfl rfl rfl (AOp.indexAddr rfl et_23 rfl rfl j rfl (at_list hlt) rfl) ?_
            refine AOps.step rfl rfl rfl (AOp.loadAgg rfl ag_73 rfl rfl) ?_
            refine AOps.alloc 102 rfl rfl rfl rfl zt_73 rfl rfl rfl ?_
            refine AOps.step rfl rfl rfl (AOp.assignD rfl rfl) ?_
            refine AOps.store rfl rfl rfl sz_73 rfl (.head _) rfl rfl rfl (Nat.le_of_ble_eq_true rfl) ?_
            refine AOps.nil ?_
            refine AWP.block ?_
            refine AWP.seq ?_
            refine AWP.region ?_
            refine AOps.step rfl rfl rfl (AOp.fieldAddrP rfl fo_73_0 rfl) ?_
            refine AOps.step rfl rfl rfl (AOp.loadP rfl sc_9 rfl (.head _) rfl) ?_
            refine AOps.step rfl rfl rfl (AOp.call rfl (.cons (ArgOk.rfl' rfl) .nil) (c_pName _ (by assumption))) ?_
            refine AOps.step rfl rfl rfl (AOp.not rfl rfl) ?_
            refine AOps.step rfl rfl rfl (AOp.moveD rfl rfl) ?_
            refine AOps.split 76 rfl (fun g11 => ?_) (fun g11 => ?_)
            · replace g11 := bnot_t g11
              have HF := check_carrs hlg hI hlt hj.2 (carrFault_5 hlt (.inl g11)) (by decide)
              refine AOps.pass ⟨76, rfl, .inl ⟨_, rfl, rfl⟩⟩ rfl rfl ?_
              refine AOps.pass ⟨76, rfl, .inl ⟨_, rfl, rfl⟩⟩ rfl rfl ?_
              refine AOps.pass ⟨76, rfl, .inl ⟨_, rfl, rfl⟩⟩ rfl rfl ?_
              refine AOps.pass ⟨76, rfl, .inl ⟨_, rfl, rfl⟩⟩ rfl rfl ?_
              refine AOps.step rfl rfl rfl (AOp.pickT rfl rfl rfl) ?_
              refine AOps.step rfl rfl rfl (AOp.moveD rfl rfl) ?_
              refine AOps.pass ⟨82, rfl, .inl ⟨_, rfl, rfl⟩⟩ rfl rfl ?_
              refine AOps.pass ⟨82, rfl, .inl ⟨_, rfl, rfl⟩⟩ rfl rfl ?_
              refine AOps.pass ⟨82, rfl, .inl ⟨_, rfl, rfl⟩⟩ rfl rfl ?_
              refine AOps.pass ⟨82, rfl, .inl ⟨_, rfl, rfl⟩⟩ rfl rfl ?_
              refine AOps.step rfl rfl rfl (AOp.pickT rfl rfl rfl) ?_
              refine AOps.step rfl rfl rfl (AOp.assignD rfl rfl) ?_
              refine AOps.nil ?_
              refine AWP.cond rfl (fun _ => ?_) (fun h => nomatch h)
              refine AWP.seq ?_
              refine AWP.region ?_
              refine AOps.step rfl rfl rfl (AOp.assignD rfl rfl) ?_
              refine AOps.nil ?_
              refine AWP.ret ?_
              refine ⟨RetD.eq rfl ?_, trivial⟩
              all_goals (first | rw [HF] | rw [show checkV v = 2 from if_pos (by unfold largeV; simp only [List.length_map] at *; omega)])
            · replace g11 := bnot_f g11
              have hn1 := g11
              refine AOps.step ⟨76, rfl, .inl ⟨_, rfl, rfl⟩⟩ rfl rfl (AOp.fieldAddrP rfl fo_73_1 rfl) ?_
              refine AOps.step ⟨76, rfl, .inl ⟨_, rfl, rfl⟩⟩ rfl rfl (AOp.loadP rfl sc_9 rfl (.head _) rfl) ?_
              refine AOps.step ⟨76, rfl, .inl ⟨_, rfl, rfl⟩⟩ rfl rfl (AOp.call rfl (.cons (ArgOk.rfl' rfl) .nil) (c_pName _ (by assumption))) ?_
              refine AOps.step ⟨76, rfl, .inl ⟨_, rfl, rfl⟩⟩ rfl rfl (AOp.not rfl rfl) ?_
              refine AOps.step rfl rfl rfl (AOp.pickF rfl rfl rfl) ?_
              refine AOps.step rfl rfl rfl (AOp.moveD rfl rfl) ?_
              refine AOps.split 82 rfl (fun g12 => ?_) (fun g12 => ?_)
              · replace g12 := bnot_t g12
                have HF := check_carrs hlg hI hlt hj.2 (carrFault_5 hlt (.inr (.inl g12))) (by decide)
                refine AOps.pass ⟨82, rfl, .inl ⟨_, rfl, rfl⟩⟩ rfl rfl ?_
                refine AOps.pass ⟨82, rfl, .inl ⟨_, rfl, rfl⟩⟩ rfl rfl ?_
                refine AOps.pass ⟨82, rfl, .inl ⟨_, rfl, rfl⟩⟩ rfl rfl ?_
                refine AOps.pass ⟨82, rfl, .inl ⟨_, rfl, rfl⟩⟩ rfl rfl ?_
                refine AOps.step rfl rfl rfl (AOp.pickT rfl rfl rfl) ?_
                refine AOps.step rfl rfl rfl (AOp.assignD rfl rfl) ?_
                refine AOps.nil ?_
                refine AWP.cond rfl (fun _ => ?_) (fun h => nomatch h)
                refine AWP.seq ?_
                refine AWP.region ?_
                refine AOps.step rfl rfl rfl (AOp.assignD rfl rfl) ?_
                refine AOps.nil ?_
                refine AWP.ret ?_
                refine ⟨RetD.eq rfl ?_, trivial⟩
                all_goals (first | rw [HF] | rw [show checkV v = 2 from if_pos (by unfold largeV; simp only [List.length_map] at *; omega)])
              · replace g12 := bnot_f g12
                have hn2 := g12
                refine AOps.step ⟨82, rfl, .inl ⟨_, rfl, rfl⟩⟩ rfl rfl (AOp.fieldAddrP rfl fo_73_2 rfl) ?_
                refine AOps.step ⟨82, rfl, .inl ⟨_, rfl, rfl⟩⟩ rfl rfl (AOp.loadP rfl sc_9 rfl (.head _) rfl) ?_
                refine AOps.step ⟨82, rfl, .inl ⟨_, rfl, rfl⟩⟩ rfl rfl (AOp.call rfl (.cons (ArgOk.rfl' rfl) .nil) (c_pName _ (by assumption))) ?_
                refine AOps.step ⟨82, rfl, .inl ⟨_, rfl, rfl⟩⟩ rfl rfl (AOp.not rfl rfl) ?_
                refine AOps.step rfl rfl rfl (AOp.pickF rfl rfl rfl) ?_
                refine AOps.step rfl rfl rfl (AOp.assignD rfl rfl) ?_
                refine AOps.nil ?_
                refine AWP.cond rfl (fun h13 => ?_) (fun h13 => ?_)
                · replace h13 := bnot_t h13
                  have HF := check_carrs hlg hI hlt hj.2 (carrFault_5 hlt (.inr (.inr h13))) (by decide)
                  refine AWP.seq ?_
                  refine AWP.region ?_
                  refine AOps.step rfl rfl rfl (AOp.assignD rfl rfl) ?_
                  refine AOps.nil ?_
                  refine AWP.ret ?_
                  refine ⟨RetD.eq rfl ?_, trivial⟩
                  all_goals (first | rw [HF] | rw [show checkV v = 2 from if_pos (by unfold largeV; simp only [List.length_map] at *; omega)])
                · replace h13 := bnot_f h13
                  have hnm : nameOk v.carrs[j].name = true ∧ nameOk v.carrs[j].place = true ∧ nameOk v.carrs[j].kind = true := ⟨hn1, hn2, h13⟩
                  refine AWP.seq ?_
                  refine AWP.draw (by kernel_rfl) (by kernel_rfl) ?_
                  refine DRun.step rfl rfl rfl (AOp.moveD rfl rfl) ?_
                  refine DRun.step rfl rfl rfl (AOp.gtr rfl rfl rfl) ?_
                  refine DRun.step rfl rfl rfl (AOp.moveD rfl rfl) ?_
                  refine DRun.split 91 rfl (fun g14 => ?_) (fun g14 => ?_)
                  · replace g14 := of_decide_eq_true g14
                    refine DRun.step ⟨91, rfl, .inl ⟨_, rfl, rfl⟩⟩ rfl rfl (AOp.fieldAddrP rfl fo_73_0 rfl) ?_
                    refine DRun.step ⟨91, rfl, .inl ⟨_, rfl, rfl⟩⟩ rfl rfl (AOp.loadP rfl sc_9 rfl (.head _) rfl) ?_
                    refine DRun.step ⟨91, rfl, .inl ⟨_, rfl, rfl⟩⟩ rfl rfl (AOp.fieldAddr rfl fo_26_1 rfl) ?_
                    refine DRun.step ⟨91, rfl, .inl ⟨_, rfl, rfl⟩⟩ rfl rfl (AOp.load rfl sc_23 rfl) ?_
                    refine DRun.step ⟨91, rfl, .inl ⟨_, rfl, rfl⟩⟩ rfl rfl (AOp.moveD rfl rfl) ?_
                    refine DRun.step ⟨91, rfl, .inl ⟨_, rfl, rfl⟩⟩ rfl rfl (AOp.sub64 rfl rfl rfl (by omega) (by omega)) ?_
                    refine DRun.step ⟨91, rfl, .inl ⟨_, rfl, rfl⟩⟩ rfl rfl (AOp.indexAddr rfl et_23 rfl rfl (j - 1) (by omega) (at_list (by omega)) rfl) ?_
                    refine DRun.step ⟨91, rfl, .inl ⟨_, rfl, rfl⟩⟩ rfl rfl (AOp.fieldAddr rfl fo_73_0 rfl) ?_
                    refine DRun.step ⟨91, rfl, .inl ⟨_, rfl, rfl⟩⟩ rfl rfl (AOp.load rfl sc_9 rfl) ?_
                    refine DRun.step ⟨91, rfl, .inl ⟨_, rfl, rfl⟩⟩ rfl rfl (AOp.sleq rfl rfl rfl) ?_
                    refine DRun.step rfl rfl rfl (AOp.pickT rfl rfl rfl) ?_
                    refine DRun.step rfl rfl rfl (AOp.assignD rfl rfl) ?_
                    refine DRun.nil ?_
                    refine AWP.cond rfl (fun h15 => ?_) (fun h15 => ?_)
                    · skip
                      have HF := check_carrs hlg hI hlt hj.2 (carrFault_8 hlt hnm (by omega) h15) (by decide)
                      refine AWP.seq ?_
                      refine AWP.region ?_
                      refine AOps.step rfl rfl rfl (AOp.assignD rfl rfl) ?_
                      refine AOps.nil ?_
                      refine AWP.ret ?_
                      refine ⟨RetD.eq rfl ?_, trivial⟩
                      all_goals (first | rw [HF] | rw [show checkV v = 2 from if_pos (by unfold largeV; simp only [List.length_map] at *; omega)])
                    · skip
                      have hs := h15
                      refine AWP.seq ?_
                      refine AWP.region ?_
                      refine AOps.step rfl rfl rfl (AOp.fieldAddrP rfl fo_73_3 rfl) ?_
                      refine AOps.step rfl rfl rfl (AOp.loadP rfl sc_3 rfl (.head _) rfl) ?_
                      refine AOps.step rfl rfl rfl (AOp.call rfl (.cons (ArgOk.rfl' rfl) .nil) (c_pDay _)) ?_
                      refine AOps.step rfl rfl rfl (AOp.not rfl rfl) ?_
                      refine AOps.step rfl rfl rfl (AOp.moveD rfl rfl) ?_
                      refine AOps.split 108 rfl (fun g16 => ?_) (fun g16 => ?_)
                      · replace g16 := bnot_t g16; replace g16 := of_decide_eq_false g16
                        have HF := check_carrs hlg hI hlt hj.2 (carrFault_1 hlt hnm (by first | exact fun _ => hs | exact fun h => absurd h (by omega)) (.inl g16)) (by decide)
                        refine AOps.pass ⟨108, rfl, .inl ⟨_, rfl, rfl⟩⟩ rfl rfl ?_
                        refine AOps.pass ⟨108, rfl, .inl ⟨_, rfl, rfl⟩⟩ rfl rfl ?_
                        refine AOps.pass ⟨108, rfl, .inl ⟨_, rfl, rfl⟩⟩ rfl rfl ?_
                        refine AOps.pass ⟨108, rfl, .inl ⟨_, rfl, rfl⟩⟩ rfl rfl ?_
                        refine AOps.step rfl rfl rfl (AOp.pickT rfl rfl rfl) ?_
                        refine AOps.step rfl rfl rfl (AOp.assignD rfl rfl) ?_
                        refine AOps.nil ?_
                        refine AWP.cond rfl (fun _ => ?_) (fun h => nomatch h)
                        refine AWP.seq ?_
                        refine AWP.region ?_
                        refine AOps.step rfl rfl rfl (AOp.assignD rfl rfl) ?_
                        refine AOps.nil ?_
                        refine AWP.ret ?_
                        refine ⟨RetD.eq rfl ?_, trivial⟩
                        all_goals (first | rw [HF] | rw [show checkV v = 2 from if_pos (by unfold largeV; simp only [List.length_map] at *; omega)])
                      · replace g16 := bnot_f g16; replace g16 := of_decide_eq_true g16
                        have hd := g16
                        refine AOps.step ⟨108, rfl, .inl ⟨_, rfl, rfl⟩⟩ rfl rfl (AOp.fieldAddrP rfl fo_73_4 rfl) ?_
                        refine AOps.step ⟨108, rfl, .inl ⟨_, rfl, rfl⟩⟩ rfl rfl (AOp.loadP rfl sc_3 rfl (.head _) rfl) ?_
                        refine AOps.step ⟨108, rfl, .inl ⟨_, rfl, rfl⟩⟩ rfl rfl (AOp.call rfl (.cons (ArgOk.rfl' rfl) (.cons (ArgOk.rfl' rfl) (.cons (ArgOk.rfl' rfl) .nil))) (c_pWithin _ _ _)) ?_
                        refine AOps.step ⟨108, rfl, .inl ⟨_, rfl, rfl⟩⟩ rfl rfl (AOp.not rfl rfl) ?_
                        refine AOps.step rfl rfl rfl (AOp.pickF rfl rfl rfl) ?_
                        refine AOps.step rfl rfl rfl (AOp.assignD rfl rfl) ?_
                        refine AOps.nil ?_
                        refine AWP.cond rfl (fun h17 => ?_) (fun h17 => ?_)
                        · replace h17 := bnot_t h17; replace h17 := of_decide_eq_false h17
                          have HF := check_carrs hlg hI hlt hj.2 (carrFault_1 hlt hnm (by first | exact fun _ => hs | exact fun h => absurd h (by omega)) (.inr h17)) (by decide)
                          refine AWP.seq ?_
                          refine AWP.region ?_
                          refine AOps.step rfl rfl rfl (AOp.assignD rfl rfl) ?_
                          refine AOps.nil ?_
                          refine AWP.ret ?_
                          refine ⟨RetD.eq rfl ?_, trivial⟩
                          all_goals (first | rw [HF] | rw [show checkV v = 2 from if_pos (by unfold largeV; simp only [List.length_map] at *; omega)])
                        · replace h17 := bnot_f h17; replace h17 := of_decide_eq_true h17
                          have H0 := carrFault_0 hlt hnm (by first | exact fun _ => hs | exact fun h => absurd h (by omega)) hd h17
                          refine AWP.skip ?_
                          refine AWP.region ?_
                          refine AOps.step rfl rfl rfl (AOp.add64 rfl rfl rfl (by omega) (by omega)) ?_
                          refine AOps.step rfl rfl rfl (AOp.moveD rfl rfl) ?_
                          refine AOps.nil ?_
                          refine ⟨j + 1, ⟨by omega, ffst_next hj.2 H0⟩, (by dsimp only; omega), Sub.less ⟨(SLe.of_eq rfl), SLe.refl _, SLe.refl _, SLe.refl _, trivial⟩ (fun _ h => by cases h)⟩
                  · replace g14 := of_decide_eq_false g14
                    refine DRun.pass ⟨91, rfl, .inl ⟨_, rfl, rfl⟩⟩ rfl rfl ?_
                    refine DRun.pass ⟨91, rfl, .inl ⟨_, rfl, rfl⟩⟩ rfl rfl ?_
                    refine DRun.pass ⟨91, rfl, .inl ⟨_, rfl, rfl⟩⟩ rfl rfl ?_
                    refine DRun.pass ⟨91, rfl, .inl ⟨_, rfl, rfl⟩⟩ rfl rfl ?_
                    refine DRun.pass ⟨91, rfl, .inl ⟨_, rfl, rfl⟩⟩ rfl rfl ?_
                    refine DRun.pass ⟨91, rfl, .inl ⟨_, rfl, rfl⟩⟩ rfl rfl ?_
                    refine DRun.pass ⟨91, rfl, .inl ⟨_, rfl, rfl⟩⟩ rfl rfl ?_
                    refine DRun.pass ⟨91, rfl, .inl ⟨_, rfl, rfl⟩⟩ rfl rfl ?_
                    refine DRun.pass ⟨91, rfl, .inl ⟨_, rfl, rfl⟩⟩ rfl rfl ?_
                    refine DRun.pass ⟨91, rfl, .inl ⟨_, rfl, rfl⟩⟩ rfl rfl ?_
                    refine DRun.step rfl rfl rfl (AOp.pickF rfl rfl rfl) ?_
                    refine DRun.step rfl rfl rfl (AOp.assignD rfl rfl) ?_
                    refine DRun.nil ?_
                    refine AWP.cond rfl (fun h => nomatch h) (fun _ => ?_)
                    refine AWP.seq ?_
                    refine AWP.region ?_
                    refine AOps.step rfl rfl rfl (AOp.fieldAddrP rfl fo_73_3 rfl) ?_
                    refine AOps.step rfl rfl rfl (AOp.loadP rfl sc_3 rfl (.head _) rfl) ?_
                    refine AOps.step rfl rfl rfl (AOp.call rfl (.cons (ArgOk.rfl' rfl) .nil) (c_pDay _)) ?_
                    refine AOps.step rfl rfl rfl (AOp.not rfl rfl) ?_
                    refine AOps.step rfl rfl rfl (AOp.moveD rfl rfl) ?_
                    refine AOps.split 108 rfl (fun g18 => ?_) (fun g18 => ?_)
                    · replace g18 := bnot_t g18; replace g18 := of_decide_eq_false g18
                      have HF := check_carrs hlg hI hlt hj.2 (carrFault_1 hlt hnm (by first | exact fun _ => hs | exact fun h => absurd h (by omega)) (.inl g18)) (by decide)
                      refine AOps.pass ⟨108, rfl, .inl ⟨_, rfl, rfl⟩⟩ rfl rfl ?_
                      refine AOps.pass ⟨108, rfl, .inl ⟨_, rfl, rfl⟩⟩ rfl rfl ?_
                      refine AOps.pass ⟨108, rfl, .inl ⟨_, rfl, rfl⟩⟩ rfl rfl ?_
                      refine AOps.pass ⟨108, rfl, .inl ⟨_, rfl, rfl⟩⟩ rfl rfl ?_
                      refine AOps.step rfl rfl rfl (AOp.pickT rfl rfl rfl) ?_
                      refine AOps.step rfl rfl rfl (AOp.assignD rfl rfl) ?_
                      refine AOps.nil ?_
                      refine AWP.cond rfl (fun _ => ?_) (fun h => nomatch h)
                      refine AWP.seq ?_
                      refine AWP.region ?_
                      refine AOps.step rfl rfl rfl (AOp.assignD rfl rfl) ?_
                      refine AOps.nil ?_
                      refine AWP.ret ?_
                      refine ⟨RetD.eq rfl ?_, trivial⟩
                      all_goals (first | rw [HF] | rw [show checkV v = 2 from if_pos (by unfold largeV; simp only [List.length_map] at *; omega)])
                    · replace g18 := bnot_f g18; replace g18 := of_decide_eq_true g18
                      have hd := g18
                      refine AOps.step ⟨108, rfl, .inl ⟨_, rfl, rfl⟩⟩ rfl rfl (AOp.fieldAddrP rfl fo_73_4 rfl) ?_
                      refine AOps.step ⟨108, rfl, .inl ⟨_, rfl, rfl⟩⟩ rfl rfl (AOp.loadP rfl sc_3 rfl (.head _) rfl) ?_
                      refine AOps.step ⟨108, rfl, .inl ⟨_, rfl, rfl⟩⟩ rfl rfl (AOp.call rfl (.cons (ArgOk.rfl' rfl) (.cons (ArgOk.rfl' rfl) (.cons (ArgOk.rfl' rfl) .nil))) (c_pWithin _ _ _)) ?_
                      refine AOps.step ⟨108, rfl, .inl ⟨_, rfl, rfl⟩⟩ rfl rfl (AOp.not rfl rfl) ?_
                      refine AOps.step rfl rfl rfl (AOp.pickF rfl rfl rfl) ?_
                      refine AOps.step rfl rfl rfl (AOp.assignD rfl rfl) ?_
                      refine AOps.nil ?_
                      refine AWP.cond rfl (fun h19 => ?_) (fun h19 => ?_)
                      · replace h19 := bnot_t h19; replace h19 := of_decide_eq_false h19
                        have HF := check_carrs hlg hI hlt hj.2 (carrFault_1 hlt hnm (by first | exact fun _ => hs | exact fun h => absurd h (by omega)) (.inr h19)) (by decide)
                        refine AWP.seq ?_
                        refine AWP.region ?_
                        refine AOps.step rfl rfl rfl (AOp.assignD rfl rfl) ?_
                        refine AOps.nil ?_
                        refine AWP.ret ?_
                        refine ⟨RetD.eq rfl ?_, trivial⟩
                        all_goals (first | rw [HF] | rw [show checkV v = 2 from if_pos (by unfold largeV; simp only [List.length_map] at *; omega)])
                      · replace h19 := bnot_f h19; replace h19 := of_decide_eq_true h19
                        have H0 := carrFault_0 hlt hnm (by first | exact fun _ => hs | exact fun h => absurd h (by omega)) hd h19
                        refine AWP.skip ?_
                        refine AWP.region ?_
                        refine AOps.step rfl rfl rfl (AOp.add64 rfl rfl rfl (by omega) (by omega)) ?_
                        refine AOps.step rfl rfl rfl (AOp.moveD rfl rfl) ?_
                        refine AOps.nil ?_
                        refine ⟨j + 1, ⟨by omega, ffst_next hj.2 H0⟩, (by dsimp only; omega), Sub.less ⟨(SLe.of_eq rfl), SLe.refl _, SLe.refl _, SLe.refl _, trivial⟩ (fun _ h => by cases h)⟩
          · replace h10 := of_decide_eq_false h10
            rw [List.length_map] at h10
            have hC : ffst (carrFault v.carrs) v.carrs.length = 0 := by rw [← show j = v.carrs.length by omega]; exact hj.2
            refine AWP.exit ?_
            refine AWP.seq ?_
            refine AWP.seq ?_
            refine AWP.region ?_
            refine AOps.step rfl rfl rfl (AOp.fieldAddr rfl fo_26_2 rfl) ?_
            refine AOps.step rfl rfl rfl (AOp.load rfl sc_24 rfl) ?_
            refine AOps.step rfl rfl rfl (AOp.lenSl rfl et_24.ht rfl) ?_
            refine AOps.step rfl rfl rfl (AOp.moveD rfl rfl) ?_
            refine AOps.nil ?_
            refine AWP.block ?_
            have hb200 : v.copies.length ≤ 200 := by unfold largeV at hlg; omega
            refine AWP.loop (G := Nat) (fun i => Env.of [(118, .d (.v (.int .i64 (i : Int)))), (116, .d (.sl (v.copies.map Cpy.ds))), (117, .d (.v (.int .i64 ((v.copies.map Cpy.ds).length : Int)))), (1, .d (.fp v.ds))]) (fun i => []) (fun i => i ≤ v.copies.length ∧ ffst (cpyFaultAt v) i = 0) (fun i => v.copies.length - i) 0 ⟨Nat.zero_le _, rfl⟩ (Sub.less ⟨(SLe.of_eq rfl), SLe.refl _, SLe.refl _, SLe.refl _, trivial⟩ (fun _ h => h)) ?_
            intro i hi
            refine AWP.seq ?_
            refine AWP.region ?_
            refine AOps.step rfl rfl rfl (AOp.lss rfl rfl rfl) ?_
            refine AOps.nil ?_
            refine AWP.seq ?_
            refine AWP.cond rfl (fun h20 => ?_) (fun h20 => ?_)
            · replace h20 := of_decide_eq_true h20
              rw [List.length_map] at h20
              have hlt : i < v.copies.length := by omega
              refine AWP.skip ?_
              refine AWP.seq ?_
              refine AWP.block ?_
              refine AWP.seq ?_
              refine AWP.region ?_
              refine AOps.step rfl rfl rfl (AOp.moveD rfl rfl) ?_
              refine AOps.step rfl rfl rfl (AOp.indexAddr rfl et_24 rfl rfl i rfl (at_list hlt) rfl) ?_
              refine AOps.step rfl rfl rfl (AOp.loadAgg rfl ag_77 rfl rfl) ?_
              refine AOps.alloc 103 rfl rfl rfl rfl zt_77 rfl rfl rfl ?_
              refine AOps.step rfl rfl rfl (AOp.assignD rfl rfl) ?_
              refine AOps.store rfl rfl rfl sz_77 rfl (.head _) rfl rfl rfl (Nat.le_of_ble_eq_true rfl) ?_
              refine AOps.nil ?_
              refine AWP.seq ?_
              refine AWP.region ?_
              refine AOps.step rfl rfl rfl (AOp.assignD rfl rfl) ?_
              refine AOps.nil ?_
              refine AWP.seq ?_
              refine AWP.seq ?_
              refine AWP.region ?_
              refine AOps.step rfl rfl rfl (AOp.moveD rfl rfl) ?_
              refine AOps.step rfl rfl rfl (AOp.gtr rfl rfl rfl) ?_
              refine AOps.nil ?_
              refine AWP.cond rfl (fun h21 => ?_) (fun h21 => ?_)
              · replace h21 := of_decide_eq_true h21
                have ha := cpyFaultAt_some hlt (show 0 < i by omega)
                refine AWP.region ?_
                refine AOps.step rfl rfl rfl (AOp.fieldAddr rfl fo_26_2 rfl) ?_
                refine AOps.step rfl rfl rfl (AOp.load rfl sc_24 rfl) ?_
                refine AOps.step rfl rfl rfl (AOp.moveD rfl rfl) ?_
                refine AOps.step rfl rfl rfl (AOp.sub64 rfl rfl rfl (by omega) (by omega)) ?_
                refine AOps.step rfl rfl rfl (AOp.indexAddr rfl et_24 rfl rfl (i - 1) (by omega) (at_list (by omega)) rfl) ?_
                refine AOps.step rfl rfl rfl (AOp.assignD rfl rfl) ?_
                refine AOps.nil ?_
                refine AWP.seq ?_
                refine AWP.region ?_
                refine AOps.step rfl rfl rfl (AOp.loadAgg rfl ag_26 rfl rfl) ?_
                refine AOps.step rfl rfl rfl (AOp.loadPU rfl ag_77 rfl (.head _) rfl rfl) ?_
                refine AOps.step rfl rfl rfl (AOp.moveD rfl rfl) ?_
                refine AOps.step rfl rfl rfl (AOp.call rfl (.cons (ArgOk.rfl' rfl) (.cons (ArgOk.rfl' rfl) (.cons (ArgOk.rfl' rfl) .nil))) (c_pCopyS v v.copies[i] v.copies[i-1] (okItems_of hI))) ?_
                refine AOps.step rfl rfl rfl (AOp.assignD rfl rfl) ?_
                refine AOps.nil ?_
                refine AWP.seq ?_
                refine AWP.region ?_
                refine AOps.step rfl rfl rfl (AOp.moveD rfl rfl) ?_
                refine AOps.step rfl rfl rfl (AOp.neq rfl rfl rfl) ?_
                refine AOps.nil ?_
                refine AWP.cond rfl (fun h22 => ?_) (fun h22 => ?_)
                · replace h22 := of_decide_eq_true h22
                  have HF := check_copies hlg hI hC hlt hi.2 ha h22
                  refine AWP.seq ?_
                  refine AWP.region ?_
                  refine AOps.step rfl rfl rfl (AOp.moveD rfl rfl) ?_
                  refine AOps.step rfl rfl rfl (AOp.assignD rfl rfl) ?_
                  refine AOps.nil ?_
                  refine AWP.ret ?_
                  refine ⟨RetD.eq rfl ?_, trivial⟩
                  all_goals (first | rw [HF] | rw [show checkV v = 2 from if_pos (by unfold largeV; simp only [List.length_map] at *; omega)])
                · replace h22 := of_decide_eq_false h22
                  have H0 := ha.trans (Decidable.not_not.1 h22)
                  refine AWP.skip ?_
                  refine AWP.region ?_
                  refine AOps.step rfl rfl rfl (AOp.add64 rfl rfl rfl (by omega) (by omega)) ?_
                  refine AOps.step rfl rfl rfl (AOp.moveD rfl rfl) ?_
                  refine AOps.nil ?_
                  refine ⟨i + 1, ⟨by omega, ffst_next hi.2 H0⟩, (by dsimp only; omega), Sub.less ⟨(SLe.of_eq rfl), SLe.refl _, SLe.refl _, SLe.refl _, trivial⟩ (fun _ h => by cases h)⟩
              · replace h21 := of_decide_eq_false h21
                have ha := cpyFaultAt_none hlt (show ¬ 0 < i by omega)
                refine AWP.skip ?_
                refine AWP.seq ?_
                refine AWP.region ?_
                refine AOps.step rfl rfl rfl (AOp.loadAgg rfl ag_26 rfl rfl) ?_
                refine AOps.step rfl rfl rfl (AOp.loadPU rfl ag_77 rfl (.head _) rfl rfl) ?_
                refine AOps.step rfl rfl rfl (AOp.moveD rfl rfl) ?_
                refine AOps.step rfl rfl rfl (AOp.call rfl (.cons (ArgOk.rfl' rfl) (.cons (ArgOk.rfl' rfl) (.cons (ArgOk.rfl' rfl) .nil))) (c_pCopyN v v.copies[i] (okItems_of hI))) ?_
                refine AOps.step rfl rfl rfl (AOp.assignD rfl rfl) ?_
                refine AOps.nil ?_
                refine AWP.seq ?_
                refine AWP.region ?_
                refine AOps.step rfl rfl rfl (AOp.moveD rfl rfl) ?_
                refine AOps.step rfl rfl rfl (AOp.neq rfl rfl rfl) ?_
                refine AOps.nil ?_
                refine AWP.cond rfl (fun h23 => ?_) (fun h23 => ?_)
                · replace h23 := of_decide_eq_true h23
                  have HF := check_copies hlg hI hC hlt hi.2 ha h23
                  refine AWP.seq ?_
                  refine AWP.region ?_
                  refine AOps.step rfl rfl rfl (AOp.moveD rfl rfl) ?_
                  refine AOps.step rfl rfl rfl (AOp.assignD rfl rfl) ?_
                  refine AOps.nil ?_
                  refine AWP.ret ?_
                  refine ⟨RetD.eq rfl ?_, trivial⟩
                  all_goals (first | rw [HF] | rw [show checkV v = 2 from if_pos (by unfold largeV; simp only [List.length_map] at *; omega)])
                · replace h23 := of_decide_eq_false h23
                  have H0 := ha.trans (Decidable.not_not.1 h23)
                  refine AWP.skip ?_
                  refine AWP.region ?_
                  refine AOps.step rfl rfl rfl (AOp.add64 rfl rfl rfl (by omega) (by omega)) ?_
                  refine AOps.step rfl rfl rfl (AOp.moveD rfl rfl) ?_
                  refine AOps.nil ?_
                  refine ⟨i + 1, ⟨by omega, ffst_next hi.2 H0⟩, (by dsimp only; omega), Sub.less ⟨(SLe.of_eq rfl), SLe.refl _, SLe.refl _, SLe.refl _, trivial⟩ (fun _ h => by cases h)⟩
            · replace h20 := of_decide_eq_false h20
              rw [List.length_map] at h20
              have hP : ffst (cpyFaultAt v) v.copies.length = 0 := by rw [← show i = v.copies.length by omega]; exact hi.2
              refine AWP.exit ?_
              refine AWP.seq ?_
              refine AWP.seq ?_
              refine AWP.region ?_
              refine AOps.step rfl rfl rfl (AOp.fieldAddr rfl fo_26_1 rfl) ?_
              refine AOps.step rfl rfl rfl (AOp.load rfl sc_23 rfl) ?_
              refine AOps.step rfl rfl rfl (AOp.lenSl rfl et_23.ht rfl) ?_
              refine AOps.step rfl rfl rfl (AOp.moveD rfl rfl) ?_
              refine AOps.nil ?_
              refine AWP.block ?_
              refine AWP.loop (G := Nat) (fun n => Env.of [(141, .d (.v (.int .i64 (n : Int)))), (139, .d (.sl (v.carrs.map Carr.ds))), (140, .d (.v (.int .i64 ((v.carrs.map Carr.ds).length : Int)))), (1, .d (.fp v.ds))]) (fun n => []) (fun n => n ≤ v.carrs.length ∧ ∀ c ∈ v.carrs.take n, decide (c.room < usedOn v c.name) = false) (fun n => v.carrs.length - n) 0 ⟨Nat.zero_le _, fun c h => by simp at h⟩ (Sub.less ⟨(SLe.of_eq rfl), SLe.refl _, SLe.refl _, SLe.refl _, trivial⟩ (fun _ h => h)) ?_
              intro n hn
              refine AWP.seq ?_
              refine AWP.region ?_
              refine AOps.step rfl rfl rfl (AOp.lss rfl rfl rfl) ?_
              refine AOps.nil ?_
              refine AWP.seq ?_
              refine AWP.cond rfl (fun h24 => ?_) (fun h24 => ?_)
              · replace h24 := of_decide_eq_true h24
                rw [List.length_map] at h24
                have hlt : n < v.carrs.length := by omega
                refine AWP.skip ?_
                refine AWP.seq ?_
                refine AWP.block ?_
                refine AWP.seq ?_
                refine AWP.region ?_
                refine AOps.step rfl rfl rfl (AOp.indexAddr rfl et_23 rfl rfl n rfl (at_list hlt) rfl) ?_
                refine AOps.step rfl rfl rfl (AOp.loadAgg rfl ag_73 rfl rfl) ?_
                refine AOps.alloc 104 rfl rfl rfl rfl zt_73 rfl rfl rfl ?_
                refine AOps.store rfl rfl rfl sz_73 rfl (.head _) rfl rfl rfl (Nat.le_of_ble_eq_true rfl) ?_
                refine AOps.nil ?_
                refine AWP.seq ?_
                refine AWP.region ?_
                refine AOps.step rfl rfl rfl (AOp.loadAgg rfl ag_26 rfl rfl) ?_
                refine AOps.step rfl rfl rfl (AOp.loadPU rfl ag_73 rfl (.head _) rfl rfl) ?_
                refine AOps.step rfl rfl rfl (AOp.call rfl (.cons (ArgOk.rfl' rfl) (.cons (ArgOk.rfl' rfl) .nil)) (c_left v v.carrs[n] (okItems_of hI) (okCopies_of hP) (by unfold largeV at hlg; omega) (carrFault_ok hlt (ffst_all _ hC n hlt)).2.2)) ?_
                refine AOps.step rfl rfl rfl (AOp.lss rfl rfl rfl) ?_
                refine AOps.nil ?_
                refine AWP.cond rfl (fun h25 => ?_) (fun h25 => ?_)
                · replace h25 := of_decide_eq_true h25
                  have HF : checkV v = 2 := by rw [check_over hlg hI hC hP, if_pos (overFull_yes hlt (by omega))]
                  refine AWP.seq ?_
                  refine AWP.region ?_
                  refine AOps.step rfl rfl rfl (AOp.assignD rfl rfl) ?_
                  refine AOps.nil ?_
                  refine AWP.ret ?_
                  refine ⟨RetD.eq rfl ?_, trivial⟩
                  all_goals (first | rw [HF] | rw [show checkV v = 2 from if_pos (by unfold largeV; simp only [List.length_map] at *; omega)])
                · replace h25 := of_decide_eq_false h25
                  have hT := take_false' (p := fun x : Carr => decide (x.room < usedOn v x.name)) hlt hn.2 (decide_eq_false (by omega))
                  refine AWP.skip ?_
                  refine AWP.region ?_
                  refine AOps.step rfl rfl rfl (AOp.add64 rfl rfl rfl (by omega) (by omega)) ?_
                  refine AOps.step rfl rfl rfl (AOp.moveD rfl rfl) ?_
                  refine AOps.nil ?_
                  refine ⟨n + 1, ⟨by omega, hT⟩, (by dsimp only; omega), Sub.less ⟨(SLe.of_eq rfl), SLe.refl _, SLe.refl _, SLe.refl _, trivial⟩ (fun _ h => by cases h)⟩
              · replace h24 := of_decide_eq_false h24
                rw [List.length_map] at h24
                have HF : checkV v = 0 := by rw [check_over hlg hI hC hP, overFull_no (by rw [← show n = v.carrs.length by omega]; exact hn.2)]; rfl
                refine AWP.exit ?_
                refine AWP.seq ?_
                refine AWP.region ?_
                refine AOps.step rfl rfl rfl (AOp.assignD rfl rfl) ?_
                refine AOps.nil ?_
                refine AWP.ret ?_
                refine ⟨RetD.eq rfl ?_, trivial⟩
                all_goals (first | rw [HF] | rw [show checkV v = 2 from if_pos (by unfold largeV; simp only [List.length_map] at *; omega)])

set_option maxRecDepth 100000 in
set_option maxHeartbeats 1000000 in
theorem c_rCheck (v : Vlt) (hs : smallV v) : ACall Tryd.prog 10 [.agg v.ds] (.v (.int .i64 (checkV v))) := by
  refine acall_of (n := 93) (ds' := [.v (.int .i64 (checkV v))]) Tryd.func10 rfl (by kernel_rfl) rfl [2] rfl rfl ?_
  intro B w0 F0 fr
  refine AWP.seq ?_
  refine AWP.region ?_
  refine AOps.step rfl rfl rfl (AOp.box rfl rfl rfl) ?_
  refine AOps.step rfl rfl rfl (AOp.assignD rfl rfl) ?_
  refine AOps.nil ?_
  refine AWP.seq ?_
  refine AWP.seq ?_
  refine AWP.region ?_
  refine AOps.step rfl rfl rfl (AOp.fieldAddr rfl fo_26_0 rfl) ?_
  refine AOps.step rfl rfl rfl (AOp.load rfl sc_22 rfl) ?_
  refine AOps.step rfl rfl rfl (AOp.lenSl rfl et_22.ht rfl) ?_
  refine AOps.step rfl rfl rfl (AOp.gtr rfl rfl rfl) ?_
  refine AOps.step rfl rfl rfl (AOp.moveD rfl rfl) ?_
  refine AOps.split 14 rfl (fun g1 => ?_) (fun g1 => ?_)
  · replace g1 := of_decide_eq_true g1
    refine AOps.pass ⟨14, rfl, .inl ⟨_, rfl, rfl⟩⟩ rfl rfl ?_
    refine AOps.pass ⟨14, rfl, .inl ⟨_, rfl, rfl⟩⟩ rfl rfl ?_
    refine AOps.pass ⟨14, rfl, .inl ⟨_, rfl, rfl⟩⟩ rfl rfl ?_
    refine AOps.pass ⟨14, rfl, .inl ⟨_, rfl, rfl⟩⟩ rfl rfl ?_
    refine AOps.step rfl rfl rfl (AOp.pickT rfl rfl rfl) ?_
    refine AOps.step rfl rfl rfl (AOp.moveD rfl rfl) ?_
    refine AOps.pass ⟨20, rfl, .inl ⟨_, rfl, rfl⟩⟩ rfl rfl ?_
    refine AOps.pass ⟨20, rfl, .inl ⟨_, rfl, rfl⟩⟩ rfl rfl ?_
    refine AOps.pass ⟨20, rfl, .inl ⟨_, rfl, rfl⟩⟩ rfl rfl ?_
    refine AOps.pass ⟨20, rfl, .inl ⟨_, rfl, rfl⟩⟩ rfl rfl ?_
    refine AOps.step rfl rfl rfl (AOp.pickT rfl rfl rfl) ?_
    refine AOps.nil ?_
    refine AWP.cond rfl (fun _ => ?_) (fun h => nomatch h)
    refine AWP.seq ?_
    refine AWP.region ?_
    refine AOps.step rfl rfl rfl (AOp.assignD rfl rfl) ?_
    refine AOps.nil ?_
    refine AWP.ret ?_
    refine ⟨RetD.eq rfl ?_, trivial⟩
    all_goals (first | rw [HF] | rw [show checkV v = 2 from if_pos (by unfold largeV; simp only [List.length_map] at *; omega)])
  · replace g1 := of_decide_eq_false g1
    refine AOps.step ⟨14, rfl, .inl ⟨_, rfl, rfl⟩⟩ rfl rfl (AOp.fieldAddr rfl fo_26_1 rfl) ?_
    refine AOps.step ⟨14, rfl, .inl ⟨_, rfl, rfl⟩⟩ rfl rfl (AOp.load rfl sc_23 rfl) ?_
    refine AOps.step ⟨14, rfl, .inl ⟨_, rfl, rfl⟩⟩ rfl rfl (AOp.lenSl rfl et_23.ht rfl) ?_
    refine AOps.step ⟨14, rfl, .inl ⟨_, rfl, rfl⟩⟩ rfl rfl (AOp.gtr rfl rfl rfl) ?_
    refine AOps.step rfl rfl rfl (AOp.pickF rfl rfl rfl) ?_
    refine AOps.step rfl rfl rfl (AOp.moveD rfl rfl) ?_
    refine AOps.split 20 rfl (fun g2 => ?_) (fun g2 => ?_)
    · replace g2 := of_decide_eq_true g2
      refine AOps.pass ⟨20, rfl, .inl ⟨_, rfl, rfl⟩⟩ rfl rfl ?_
      refine AOps.pass ⟨20, rfl, .inl ⟨_, rfl, rfl⟩⟩ rfl rfl ?_
      refine AOps.pass ⟨20, rfl, .inl ⟨_, rfl, rfl⟩⟩ rfl rfl ?_
      refine AOps.pass ⟨20, rfl, .inl ⟨_, rfl, rfl⟩⟩ rfl rfl ?_
      refine AOps.step rfl rfl rfl (AOp.pickT rfl rfl rfl) ?_
      refine AOps.nil ?_
      refine AWP.cond rfl (fun _ => ?_) (fun h => nomatch h)
      refine AWP.seq ?_
      refine AWP.region ?_
      refine AOps.step rfl rfl rfl (AOp.assignD rfl rfl) ?_
      refine AOps.nil ?_
      refine AWP.ret ?_
      refine ⟨RetD.eq rfl ?_, trivial⟩
      all_goals (first | rw [HF] | rw [show checkV v = 2 from if_pos (by unfold largeV; simp only [List.length_map] at *; omega)])
    · replace g2 := of_decide_eq_false g2
      refine AOps.step ⟨20, rfl, .inl ⟨_, rfl, rfl⟩⟩ rfl rfl (AOp.fieldAddr rfl fo_26_2 rfl) ?_
      refine AOps.step ⟨20, rfl, .inl ⟨_, rfl, rfl⟩⟩ rfl rfl (AOp.load rfl sc_24 rfl) ?_
      refine AOps.step ⟨20, rfl, .inl ⟨_, rfl, rfl⟩⟩ rfl rfl (AOp.lenSl rfl et_24.ht rfl) ?_
      refine AOps.step ⟨20, rfl, .inl ⟨_, rfl, rfl⟩⟩ rfl rfl (AOp.gtr rfl rfl rfl) ?_
      refine AOps.step rfl rfl rfl (AOp.pickF rfl rfl rfl) ?_
      refine AOps.nil ?_
      refine AWP.cond rfl (fun h3 => ?_) (fun h3 => ?_)
      · replace h3 := of_decide_eq_true h3
        refine AWP.seq ?_
        refine AWP.region ?_
        refine AOps.step rfl rfl rfl (AOp.assignD rfl rfl) ?_
        refine AOps.nil ?_
        refine AWP.ret ?_
        refine ⟨RetD.eq rfl ?_, trivial⟩
        all_goals (first | rw [HF] | rw [show checkV v = 2 from if_pos (by unfold largeV; simp only [List.length_map] at *; omega)])
      · replace h3 := of_decide_eq_false h3
        have hlg : ¬ largeV v := by unfold largeV; simp only [List.length_map] at *; omega
        refine AWP.skip ?_
        refine AWP.seq ?_
        refine AWP.seq ?_
        refine AWP.region ?_
        refine AOps.step rfl rfl rfl (AOp.fieldAddr rfl fo_26_0 rfl) ?_
        refine AOps.step rfl rfl rfl (AOp.load rfl sc_22 rfl) ?_
        refine AOps.step rfl rfl rfl (AOp.call rfl (.cons (ArgOk.rfl' rfl) .nil) (c_rItems v.items hs.1)) ?_
        refine AOps.step rfl rfl rfl (AOp.assignD rfl rfl) ?_
        refine AOps.nil ?_
        refine AWP.seq ?_
        refine AWP.region ?_
        refine AOps.step rfl rfl rfl (AOp.moveD rfl rfl) ?_
        refine AOps.step rfl rfl rfl (AOp.neq rfl rfl rfl) ?_
        refine AOps.nil ?_
        refine AWP.cond rfl (fun h4 => ?_) (fun h4 => ?_)
        · replace h4 := of_decide_eq_true h4
          have HF : checkV v = ffst (itemFault v.items) v.items.length := by unfold checkV; rw [if_neg hlg, if_pos h4]
          refine AWP.seq ?_
          refine AWP.region ?_
          refine AOps.step rfl rfl rfl (AOp.moveD rfl rfl) ?_
          refine AOps.step rfl rfl rfl (AOp.assignD rfl rfl) ?_
          refine AOps.nil ?_
          refine AWP.ret ?_
          refine ⟨RetD.eq rfl ?_, trivial⟩
          all_goals (first | rw [HF] | rw [show checkV v = 2 from if_pos (by unfold largeV; simp only [List.length_map] at *; omega)])
        · replace h4 := of_decide_eq_false h4
          have hI := Decidable.not_not.1 h4
          refine AWP.skip ?_
          refine AWP.seq ?_
          refine AWP.seq ?_
          refine AWP.region ?_
          refine AOps.step rfl rfl rfl (AOp.fieldAddr rfl fo_26_1 rfl) ?_
          refine AOps.step rfl rfl rfl (AOp.load rfl sc_23 rfl) ?_
          refine AOps.step rfl rfl rfl (AOp.call rfl (.cons (ArgOk.rfl' rfl) .nil) (c_rCarrs v.carrs hs.2)) ?_
          refine AOps.step rfl rfl rfl (AOp.assignD rfl rfl) ?_
          refine AOps.nil ?_
          refine AWP.seq ?_
          refine AWP.region ?_
          refine AOps.step rfl rfl rfl (AOp.moveD rfl rfl) ?_
          refine AOps.step rfl rfl rfl (AOp.neq rfl rfl rfl) ?_
          refine AOps.nil ?_
          refine AWP.cond rfl (fun h5 => ?_) (fun h5 => ?_)
          · replace h5 := of_decide_eq_true h5
            have HF : checkV v = ffst (carrFault v.carrs) v.carrs.length := by unfold checkV; rw [if_neg hlg, hI, if_neg (by decide), if_pos h5]
            refine AWP.seq ?_
            refine AWP.region ?_
            refine AOps.step rfl rfl rfl (AOp.moveD rfl rfl) ?_
            refine AOps.step rfl rfl rfl (AOp.assignD rfl rfl) ?_
            refine AOps.nil ?_
            refine AWP.ret ?_
            refine ⟨RetD.eq rfl ?_, trivial⟩
            all_goals (first | rw [HF] | rw [show checkV v = 2 from if_pos (by unfold largeV; simp only [List.length_map] at *; omega)])
          · replace h5 := of_decide_eq_false h5
            have hC := Decidable.not_not.1 h5
            refine AWP.skip ?_
            refine AWP.seq ?_
            refine AWP.seq ?_
            refine AWP.region ?_
            refine AOps.step rfl rfl rfl (AOp.fieldAddr rfl fo_26_2 rfl) ?_
            refine AOps.step rfl rfl rfl (AOp.load rfl sc_24 rfl) ?_
            refine AOps.step rfl rfl rfl (AOp.lenSl rfl et_24.ht rfl) ?_
            refine AOps.step rfl rfl rfl (AOp.moveD rfl rfl) ?_
            refine AOps.nil ?_
            refine AWP.block ?_
            have hb200 : v.copies.length ≤ 200 := by unfold largeV at hlg; omega
            refine AWP.loop (G := Nat) (fun i => Env.of [(41, .d (.v (.int .i64 (i : Int)))), (39, .d (.sl (v.copies.map Cpy.ds))), (40, .d (.v (.int .i64 ((v.copies.map Cpy.ds).length : Int)))), (1, .d (.fp v.ds))]) (fun i => []) (fun i => i ≤ v.copies.length ∧ ffst (cpyFaultAt v) i = 0) (fun i => v.copies.length - i) 0 ⟨Nat.zero_le _, rfl⟩ (Sub.less ⟨(SLe.of_eq rfl), SLe.refl _, SLe.refl _, SLe.refl _, trivial⟩ (fun _ h => h)) ?_
            intro i hi
            refine AWP.seq ?_
            refine AWP.region ?_
            refine AOps.step rfl rfl rfl (AOp.lss rfl rfl rfl) ?_
            refine AOps.nil ?_
            refine AWP.seq ?_
            refine AWP.cond rfl (fun h6 => ?_) (fun h6 => ?_)
            · replace h6 := of_decide_eq_true h6
              rw [List.length_map] at h6
              have hlt : i < v.copies.length := by omega
              refine AWP.skip ?_
              refine AWP.seq ?_
              refine AWP.block ?_
              refine AWP.seq ?_
              refine AWP.region ?_
              refine AOps.step rfl rfl rfl (AOp.moveD rfl rfl) ?_
              refine AOps.step rfl rfl rfl (AOp.indexAddr rfl et_24 rfl rfl i rfl (at_list hlt) rfl) ?_
              refine AOps.step rfl rfl rfl (AOp.loadAgg rfl ag_77 rfl rfl) ?_
              refine AOps.alloc 101 rfl rfl rfl rfl zt_77 rfl rfl rfl ?_
              refine AOps.step rfl rfl rfl (AOp.assignD rfl rfl) ?_
              refine AOps.store rfl rfl rfl sz_77 rfl (.head _) rfl rfl rfl (Nat.le_of_ble_eq_true rfl) ?_
              refine AOps.nil ?_
              refine AWP.seq ?_
              refine AWP.seq ?_
              refine AWP.region ?_
              refine AOps.step rfl rfl rfl (AOp.loadAgg rfl ag_26 rfl rfl) ?_
              refine AOps.step rfl rfl rfl (AOp.fieldAddrP rfl fo_77_0 rfl) ?_
              refine AOps.step rfl rfl rfl (AOp.loadP rfl sc_9 rfl (.head _) rfl) ?_
              refine AOps.step rfl rfl rfl (AOp.call rfl (.cons (ArgOk.rfl' rfl) (.cons (ArgOk.rfl' rfl) .nil)) (c_itemOf _ _)) ?_
              refine AOps.step rfl rfl rfl (AOp.lss rfl rfl rfl) ?_
              refine AOps.step rfl rfl rfl (AOp.moveD rfl rfl) ?_
              refine AOps.split 51 rfl (fun g7 => ?_) (fun g7 => ?_)
              · replace g7 := of_decide_eq_true g7
                have h9 : ∀ b, cpyFault v v.copies[i] b = 9 := fun b => if_pos (.inl g7)
                have HF := check_copies hlg hI hC hlt hi.2 (show cpyFaultAt v i = 9 by unfold cpyFaultAt; rw [dif_pos hlt, h9]) (by decide)
                refine AOps.pass ⟨51, rfl, .inl ⟨_, rfl, rfl⟩⟩ rfl rfl ?_
                refine AOps.pass ⟨51, rfl, .inl ⟨_, rfl, rfl⟩⟩ rfl rfl ?_
                refine AOps.pass ⟨51, rfl, .inl ⟨_, rfl, rfl⟩⟩ rfl rfl ?_
                refine AOps.pass ⟨51, rfl, .inl ⟨_, rfl, rfl⟩⟩ rfl rfl ?_
                refine AOps.pass ⟨51, rfl, .inl ⟨_, rfl, rfl⟩⟩ rfl rfl ?_
                refine AOps.step rfl rfl rfl (AOp.pickT rfl rfl rfl) ?_
                refine AOps.nil ?_
                refine AWP.cond rfl (fun _ => ?_) (fun h => nomatch h)
                refine AWP.seq ?_
                refine AWP.region ?_
                refine AOps.step rfl rfl rfl (AOp.assignD rfl rfl) ?_
                refine AOps.nil ?_
                refine AWP.ret ?_
                refine ⟨RetD.eq rfl ?_, trivial⟩
                all_goals (first | rw [HF] | rw [show checkV v = 2 from if_pos (by unfold largeV; simp only [List.length_map] at *; omega)])
              · replace g7 := of_decide_eq_false g7
                have h91 := g7
                refine AOps.step ⟨51, rfl, .inl ⟨_, rfl, rfl⟩⟩ rfl rfl (AOp.loadAgg rfl ag_26 rfl rfl) ?_
                refine AOps.step ⟨51, rfl, .inl ⟨_, rfl, rfl⟩⟩ rfl rfl (AOp.fieldAddrP rfl fo_77_1 rfl) ?_
                refine AOps.step ⟨51, rfl, .inl ⟨_, rfl, rfl⟩⟩ rfl rfl (AOp.loadP rfl sc_9 rfl (.head _) rfl) ?_
                refine AOps.step ⟨51, rfl, .inl ⟨_, rfl, rfl⟩⟩ rfl rfl (AOp.call rfl (.cons (ArgOk.rfl' rfl) (.cons (ArgOk.rfl' rfl) .nil)) (c_carrierOf _ _)) ?_
                refine AOps.step ⟨51, rfl, .inl ⟨_, rfl, rfl⟩⟩ rfl rfl (AOp.lss rfl rfl rfl) ?_
                refine AOps.step rfl rfl rfl (AOp.pickF rfl rfl rfl) ?_
                refine AOps.nil ?_
                refine AWP.cond rfl (fun h8 => ?_) (fun h8 => ?_)
                · replace h8 := of_decide_eq_true h8
                  have h9 : ∀ b, cpyFault v v.copies[i] b = 9 := fun b => if_pos (.inr h8)
                  have HF := check_copies hlg hI hC hlt hi.2 (show cpyFaultAt v i = 9 by unfold cpyFaultAt; rw [dif_pos hlt, h9]) (by decide)
                  refine AWP.seq ?_
                  refine AWP.region ?_
                  refine AOps.step rfl rfl rfl (AOp.assignD rfl rfl) ?_
                  refine AOps.nil ?_
                  refine AWP.ret ?_
                  refine ⟨RetD.eq rfl ?_, trivial⟩
                  all_goals (first | rw [HF] | rw [show checkV v = 2 from if_pos (by unfold largeV; simp only [List.length_map] at *; omega)])
                · replace h8 := of_decide_eq_false h8
                  have hA : ¬ (itemIdx v v.copies[i].item < 0 ∨ carrIdx v v.copies[i].carrier < 0) := by omega
                  refine AWP.skip ?_
                  refine AWP.seq ?_
                  refine AWP.seq ?_
                  refine AWP.draw (by kernel_rfl) (by kernel_rfl) ?_
                  refine DRun.step rfl rfl rfl (AOp.moveD rfl rfl) ?_
                  refine DRun.step rfl rfl rfl (AOp.gtr rfl rfl rfl) ?_
                  refine DRun.step rfl rfl rfl (AOp.moveD rfl rfl) ?_
                  refine DRun.split 60 rfl (fun g9 => ?_) (fun g9 => ?_)
                  · replace g9 := of_decide_eq_true g9
                    have ha := cpyFaultAt_some hlt (show 0 < i by omega)
                    refine DRun.step ⟨60, rfl, .inl ⟨_, rfl, rfl⟩⟩ rfl rfl (AOp.fieldAddr rfl fo_26_2 rfl) ?_
                    refine DRun.step ⟨60, rfl, .inl ⟨_, rfl, rfl⟩⟩ rfl rfl (AOp.load rfl sc_24 rfl) ?_
                    refine DRun.step ⟨60, rfl, .inl ⟨_, rfl, rfl⟩⟩ rfl rfl (AOp.moveD rfl rfl) ?_
                    refine DRun.step ⟨60, rfl, .inl ⟨_, rfl, rfl⟩⟩ rfl rfl (AOp.sub64 rfl rfl rfl (by omega) (by omega)) ?_
                    refine DRun.step ⟨60, rfl, .inl ⟨_, rfl, rfl⟩⟩ rfl rfl (AOp.indexAddr rfl et_24 rfl rfl (i - 1) (by omega) (at_list (by omega)) rfl) ?_
                    refine DRun.step ⟨60, rfl, .inl ⟨_, rfl, rfl⟩⟩ rfl rfl (AOp.loadAgg rfl ag_77 rfl rfl) ?_
                    refine DRun.step ⟨60, rfl, .inl ⟨_, rfl, rfl⟩⟩ rfl rfl (AOp.loadPU rfl ag_77 rfl (.head _) rfl rfl) ?_
                    refine DRun.step ⟨60, rfl, .inl ⟨_, rfl, rfl⟩⟩ rfl rfl (AOp.call rfl (.cons (ArgOk.rfl' rfl) (.cons (ArgOk.rfl' rfl) .nil)) (c_order _ _)) ?_
                    refine DRun.step ⟨60, rfl, .inl ⟨_, rfl, rfl⟩⟩ rfl rfl (AOp.geq rfl rfl rfl) ?_
                    refine DRun.step rfl rfl rfl (AOp.pickT rfl rfl rfl) ?_
                    refine DRun.nil ?_
                    refine AWP.cond rfl (fun h10 => ?_) (fun h10 => ?_)
                    · replace h10 := of_decide_eq_true h10
                      have h8 : cpyFault v v.copies[i] (some v.copies[i-1]) = 8 := (if_neg hA).trans (if_pos ⟨_, rfl, h10⟩)
                      have HF := check_copies hlg hI hC hlt hi.2 (ha.trans h8) (by decide)
                      refine AWP.seq ?_
                      refine AWP.region ?_
                      refine AOps.step rfl rfl rfl (AOp.assignD rfl rfl) ?_
                      refine AOps.nil ?_
                      refine AWP.ret ?_
                      refine ⟨RetD.eq rfl ?_, trivial⟩
                      all_goals (first | rw [HF] | rw [show checkV v = 2 from if_pos (by unfold largeV; simp only [List.length_map] at *; omega)])
                    · replace h10 := of_decide_eq_false h10
                      have hB : ¬ (∃ b', some v.copies[i-1] = some b' ∧ 0 ≤ cpyCmp b' v.copies[i]) := by rintro ⟨_, e, hh⟩; cases e; exact h10 hh
                      refine AWP.skip ?_
                      refine AWP.seq ?_
                      refine AWP.region ?_
                      refine AOps.step rfl rfl rfl (AOp.loadAgg rfl ag_26 rfl rfl) ?_
                      refine AOps.step rfl rfl rfl (AOp.loadPU rfl ag_77 rfl (.head _) rfl rfl) ?_
                      refine AOps.step rfl rfl rfl (AOp.call rfl (.cons (ArgOk.rfl' rfl) (.cons (ArgOk.rfl' rfl) .nil)) (c_rCopy v v.copies[i] (some v.copies[i-1]) (okItems_of hI) hA hB (carr_ne (carrNames hC) (by omega)))) ?_
                      refine AOps.step rfl rfl rfl (AOp.assignD rfl rfl) ?_
                      refine AOps.nil ?_
                      refine AWP.seq ?_
                      refine AWP.region ?_
                      refine AOps.step rfl rfl rfl (AOp.moveD rfl rfl) ?_
                      refine AOps.step rfl rfl rfl (AOp.neq rfl rfl rfl) ?_
                      refine AOps.nil ?_
                      refine AWP.cond rfl (fun h11 => ?_) (fun h11 => ?_)
                      · replace h11 := of_decide_eq_true h11
                        have HF := check_copies hlg hI hC hlt hi.2 ha h11
                        refine AWP.seq ?_
                        refine AWP.region ?_
                        refine AOps.step rfl rfl rfl (AOp.moveD rfl rfl) ?_
                        refine AOps.step rfl rfl rfl (AOp.assignD rfl rfl) ?_
                        refine AOps.nil ?_
                        refine AWP.ret ?_
                        refine ⟨RetD.eq rfl ?_, trivial⟩
                        all_goals (first | rw [HF] | rw [show checkV v = 2 from if_pos (by unfold largeV; simp only [List.length_map] at *; omega)])
                      · replace h11 := of_decide_eq_false h11
                        have H0 := ha.trans (Decidable.not_not.1 h11)
                        refine AWP.skip ?_
                        refine AWP.region ?_
                        refine AOps.step rfl rfl rfl (AOp.add64 rfl rfl rfl (by omega) (by omega)) ?_
                        refine AOps.step rfl rfl rfl (AOp.moveD rfl rfl) ?_
                        refine AOps.nil ?_
                        refine ⟨i + 1, ⟨by omega, ffst_next hi.2 H0⟩, (by dsimp only; omega), Sub.less ⟨(SLe.of_eq rfl), SLe.refl _, SLe.refl _, SLe.refl _, trivial⟩ (fun _ h => by cases h)⟩
                  · replace g9 := of_decide_eq_false g9
                    have ha := cpyFaultAt_none hlt (show ¬ 0 < i by omega)
                    refine DRun.pass ⟨60, rfl, .inl ⟨_, rfl, rfl⟩⟩ rfl rfl ?_
                    refine DRun.pass ⟨60, rfl, .inl ⟨_, rfl, rfl⟩⟩ rfl rfl ?_
                    refine DRun.pass ⟨60, rfl, .inl ⟨_, rfl, rfl⟩⟩ rfl rfl ?_
                    refine DRun.pass ⟨60, rfl, .inl ⟨_, rfl, rfl⟩⟩ rfl rfl ?_
                    refine DRun.pass ⟨60, rfl, .inl ⟨_, rfl, rfl⟩⟩ rfl rfl ?_
                    refine DRun.pass ⟨60, rfl, .inl ⟨_, rfl, rfl⟩⟩ rfl rfl ?_
                    refine DRun.pass ⟨60, rfl, .inl ⟨_, rfl, rfl⟩⟩ rfl rfl ?_
                    refine DRun.pass ⟨60, rfl, .inl ⟨_, rfl, rfl⟩⟩ rfl rfl ?_
                    refine DRun.pass ⟨60, rfl, .inl ⟨_, rfl, rfl⟩⟩ rfl rfl ?_
                    refine DRun.step rfl rfl rfl (AOp.pickF rfl rfl rfl) ?_
                    refine DRun.nil ?_
                    refine AWP.cond rfl (fun h => nomatch h) (fun _ => ?_)
                    refine AWP.skip ?_
                    refine AWP.seq ?_
                    refine AWP.region ?_
                    refine AOps.step rfl rfl rfl (AOp.loadAgg rfl ag_26 rfl rfl) ?_
                    refine AOps.step rfl rfl rfl (AOp.loadPU rfl ag_77 rfl (.head _) rfl rfl) ?_
                    refine AOps.step rfl rfl rfl (AOp.call rfl (.cons (ArgOk.rfl' rfl) (.cons (ArgOk.rfl' rfl) .nil)) (c_rCopy v v.copies[i] none (okItems_of hI) hA (by simp) (carr_ne (carrNames hC) (by omega)))) ?_
                    refine AOps.step rfl rfl rfl (AOp.assignD rfl rfl) ?_
                    refine AOps.nil ?_
                    refine AWP.seq ?_
                    refine AWP.region ?_
                    refine AOps.step rfl rfl rfl (AOp.moveD rfl rfl) ?_
                    refine AOps.step rfl rfl rfl (AOp.neq rfl rfl rfl) ?_
                    refine AOps.nil ?_
                    refine AWP.cond rfl (fun h12 => ?_) (fun h12 => ?_)
                    · replace h12 := of_decide_eq_true h12
                      have HF := check_copies hlg hI hC hlt hi.2 ha h12
                      refine AWP.seq ?_
                      refine AWP.region ?_
                      refine AOps.step rfl rfl rfl (AOp.moveD rfl rfl) ?_
                      refine AOps.step rfl rfl rfl (AOp.assignD rfl rfl) ?_
                      refine AOps.nil ?_
                      refine AWP.ret ?_
                      refine ⟨RetD.eq rfl ?_, trivial⟩
                      all_goals (first | rw [HF] | rw [show checkV v = 2 from if_pos (by unfold largeV; simp only [List.length_map] at *; omega)])
                    · replace h12 := of_decide_eq_false h12
                      have H0 := ha.trans (Decidable.not_not.1 h12)
                      refine AWP.skip ?_
                      refine AWP.region ?_
                      refine AOps.step rfl rfl rfl (AOp.add64 rfl rfl rfl (by omega) (by omega)) ?_
                      refine AOps.step rfl rfl rfl (AOp.moveD rfl rfl) ?_
                      refine AOps.nil ?_
                      refine ⟨i + 1, ⟨by omega, ffst_next hi.2 H0⟩, (by dsimp only; omega), Sub.less ⟨(SLe.of_eq rfl), SLe.refl _, SLe.refl _, SLe.refl _, trivial⟩ (fun _ h => by cases h)⟩
            · replace h6 := of_decide_eq_false h6
              rw [List.length_map] at h6
              have hP : ffst (cpyFaultAt v) v.copies.length = 0 := by rw [← show i = v.copies.length by omega]; exact hi.2
              refine AWP.exit ?_
              refine AWP.seq ?_
              refine AWP.seq ?_
              refine AWP.region ?_
              refine AOps.step rfl rfl rfl (AOp.fieldAddr rfl fo_26_1 rfl) ?_
              refine AOps.step rfl rfl rfl (AOp.load rfl sc_23 rfl) ?_
              refine AOps.step rfl rfl rfl (AOp.lenSl rfl et_23.ht rfl) ?_
              refine AOps.step rfl rfl rfl (AOp.moveD rfl rfl) ?_
              refine AOps.nil ?_
              refine AWP.block ?_
              have hb16 : v.carrs.length ≤ 16 := by unfold largeV at hlg; omega
              refine AWP.loop (G := Nat) (fun n => Env.of [(81, .d (.v (.int .i64 (n : Int)))), (79, .d (.sl (v.carrs.map Carr.ds))), (80, .d (.v (.int .i64 ((v.carrs.map Carr.ds).length : Int)))), (1, .d (.fp v.ds))]) (fun n => []) (fun n => n ≤ v.carrs.length ∧ ∀ c ∈ v.carrs.take n, decide (c.room < usedOn v c.name) = false) (fun n => v.carrs.length - n) 0 ⟨Nat.zero_le _, fun c h => by simp at h⟩ (Sub.less ⟨(SLe.of_eq rfl), SLe.refl _, SLe.refl _, SLe.refl _, trivial⟩ (fun _ h => h)) ?_
              intro n hn
              refine AWP.seq ?_
              refine AWP.region ?_
              refine AOps.step rfl rfl rfl (AOp.lss rfl rfl rfl) ?_
              refine AOps.nil ?_
              refine AWP.seq ?_
              refine AWP.cond rfl (fun h13 => ?_) (fun h13 => ?_)
              · replace h13 := of_decide_eq_true h13
                rw [List.length_map] at h13
                have hlt : n < v.carrs.length := by omega
                refine AWP.skip ?_
                refine AWP.seq ?_
                refine AWP.block ?_
                refine AWP.seq ?_
                refine AWP.region ?_
                refine AOps.step rfl rfl rfl (AOp.indexAddr rfl et_23 rfl rfl n rfl (at_list hlt) rfl) ?_
                refine AOps.step rfl rfl rfl (AOp.loadAgg rfl ag_73 rfl rfl) ?_
                refine AOps.alloc 102 rfl rfl rfl rfl zt_73 rfl rfl rfl ?_
                refine AOps.store rfl rfl rfl sz_73 rfl (.head _) rfl rfl rfl (Nat.le_of_ble_eq_true rfl) ?_
                refine AOps.nil ?_
                refine AWP.seq ?_
                refine AWP.draw (by kernel_rfl) (by kernel_rfl) ?_
                refine DRun.step rfl rfl rfl (AOp.loadAgg rfl ag_26 rfl rfl) ?_
                refine DRun.step rfl rfl rfl (AOp.fieldAddrP rfl fo_73_0 rfl) ?_
                refine DRun.step rfl rfl rfl (AOp.loadP rfl sc_9 rfl (.head _) rfl) ?_
                refine DRun.step rfl rfl rfl (AOp.call rfl (.cons (ArgOk.rfl' rfl) (.cons (ArgOk.rfl' rfl) .nil)) (c_used v v.carrs[n].name (okItems_of hI) (okCopies_of hP) (by unfold largeV at hlg; omega))) ?_
                refine DRun.step rfl rfl rfl (AOp.fieldAddrP rfl fo_73_4 rfl) ?_
                refine DRun.step rfl rfl rfl (AOp.loadP rfl sc_3 rfl (.head _) rfl) ?_
                refine DRun.step rfl rfl rfl (AOp.gtr rfl rfl rfl) ?_
                refine DRun.nil ?_
                refine AWP.cond rfl (fun h14 => ?_) (fun h14 => ?_)
                · replace h14 := of_decide_eq_true h14
                  have HF : checkV v = 2 := by rw [check_over hlg hI hC hP, if_pos (overFull_yes hlt h14)]
                  refine AWP.seq ?_
                  refine AWP.region ?_
                  refine AOps.step rfl rfl rfl (AOp.assignD rfl rfl) ?_
                  refine AOps.nil ?_
                  refine AWP.ret ?_
                  refine ⟨RetD.eq rfl ?_, trivial⟩
                  all_goals (first | rw [HF] | rw [show checkV v = 2 from if_pos (by unfold largeV; simp only [List.length_map] at *; omega)])
                · replace h14 := of_decide_eq_false h14
                  have hT := take_false' (p := fun x : Carr => decide (x.room < usedOn v x.name)) hlt hn.2 (decide_eq_false h14)
                  refine AWP.skip ?_
                  refine AWP.region ?_
                  refine AOps.step rfl rfl rfl (AOp.add64 rfl rfl rfl (by omega) (by omega)) ?_
                  refine AOps.step rfl rfl rfl (AOp.moveD rfl rfl) ?_
                  refine AOps.nil ?_
                  refine ⟨n + 1, ⟨by omega, hT⟩, (by dsimp only; omega), Sub.less ⟨(SLe.of_eq rfl), SLe.refl _, SLe.refl _, SLe.refl _, trivial⟩ (fun _ h => by cases h)⟩
              · replace h13 := of_decide_eq_false h13
                rw [List.length_map] at h13
                have HF : checkV v = 0 := by rw [check_over hlg hI hC hP, overFull_no (by rw [← show n = v.carrs.length by omega]; exact hn.2)]; rfl
                refine AWP.exit ?_
                refine AWP.seq ?_
                refine AWP.region ?_
                refine AOps.step rfl rfl rfl (AOp.assignD rfl rfl) ?_
                refine AOps.nil ?_
                refine AWP.ret ?_
                refine ⟨RetD.eq rfl ?_, trivial⟩
                all_goals (first | rw [HF] | rw [show checkV v = 2 from if_pos (by unfold largeV; simp only [List.length_map] at *; omega)])

end Go.Proofs.YtieccphckobhjaaDoor
