/- Walks and laws over abstract values, merged by tools/merge.py. No statement of the seat. -/
import Derived.Test.YtieccphckobhjaaDoorXJ7

namespace Go.Proofs.YtieccphckobhjaaDoor
open Go.RowKit
set_option linter.unusedVariables false

/-! Types. -/
namespace TyL4
theorem ag_26 : AggT Tryd.prog 26 3 := .of (by kernel_rfl)
theorem ag_28 : AggT Tryd.prog 28 6 := .of (by kernel_rfl)
theorem ag_39 : AggT Tryd.prog 39 4 := .of (by kernel_rfl)
theorem ag_73 : AggT Tryd.prog 73 5 := .of (by kernel_rfl)
theorem bu_39 : StructT Tryd.prog 39 (fun i => (#[(0, 1), (1, 1), (2, 1), (3, 1)] : Array (Nat × Nat))[i]?) [(.string ⟨#[]⟩), (.string ⟨#[]⟩), (.int .i64 0), (.int .i64 0)] := .of (by kernel_rfl) (by kernel_rfl) (by decide)
theorem et_23 : ElemTy Tryd.prog 23 73 5 64 (.agg #[(.string ⟨#[]⟩), (.string ⟨#[]⟩), (.string ⟨#[]⟩), (.int .i64 0), (.int .i64 0)]) := ⟨by kernel_rfl, by kernel_rfl, by kernel_rfl, by decide⟩
theorem et_34 : ElemTy Tryd.prog 34 39 4 48 (.agg #[(.string ⟨#[]⟩), (.string ⟨#[]⟩), (.int .i64 0), (.int .i64 0)]) := ⟨by kernel_rfl, by kernel_rfl, by kernel_rfl, by decide⟩
theorem et_75 : ElemTy Tryd.prog 75 3 1 8 (.int .i64 0) := ⟨by kernel_rfl, by kernel_rfl, by kernel_rfl, by decide⟩
theorem fo_26_1 : fieldOff Tryd.prog 26 1 = some 1 := by kernel_rfl
theorem fo_28_3 : fieldOff Tryd.prog 28 3 = some 3 := by kernel_rfl
theorem fo_28_5 : fieldOff Tryd.prog 28 5 = some 5 := by kernel_rfl
theorem fo_77_0 : fieldOff Tryd.prog 77 0 = some 0 := by kernel_rfl
theorem fo_77_1 : fieldOff Tryd.prog 77 1 = some 1 := by kernel_rfl
theorem fo_77_4 : fieldOff Tryd.prog 77 4 = some 4 := by kernel_rfl
theorem fo_77_5 : fieldOff Tryd.prog 77 5 = some 5 := by kernel_rfl
theorem fo_77_6 : fieldOff Tryd.prog 77 6 = some 6 := by kernel_rfl
theorem sc_23 : Scal Tryd.prog 23 := .of (by kernel_rfl)
theorem sc_3 : Scal Tryd.prog 3 := .of (by kernel_rfl)
theorem sc_75 : Scal Tryd.prog 75 := .of (by kernel_rfl)
theorem sc_9 : Scal Tryd.prog 9 := .of (by kernel_rfl)
end TyL4
open TyL4


end Go.Proofs.YtieccphckobhjaaDoor


namespace Go.Proofs.YtieccphckobhjaaDoor
open Go.RowKit
set_option linter.unusedVariables false

/-! Types. -/
namespace TyL5
theorem ag_26 : AggT Tryd.prog 26 3 := .of (by kernel_rfl)
theorem ag_28 : AggT Tryd.prog 28 6 := .of (by kernel_rfl)
theorem ag_69 : AggT Tryd.prog 69 2 := .of (by kernel_rfl)
theorem ag_77 : AggT Tryd.prog 77 7 := .of (by kernel_rfl)
theorem bu_39 : StructT Tryd.prog 39 (fun i => (#[(0, 1), (1, 1), (2, 1), (3, 1)] : Array (Nat × Nat))[i]?) [(.string ⟨#[]⟩), (.string ⟨#[]⟩), (.int .i64 0), (.int .i64 0)] := .of (by kernel_rfl) (by kernel_rfl) (by decide)
theorem et_22 : ElemTy Tryd.prog 22 69 2 24 (.agg #[(.string ⟨#[]⟩), (.int .i64 0)]) := ⟨by kernel_rfl, by kernel_rfl, by kernel_rfl, by decide⟩
theorem et_24 : ElemTy Tryd.prog 24 77 7 96 (.agg #[(.string ⟨#[]⟩), (.string ⟨#[]⟩), (.string ⟨#[]⟩), (.int .i64 0), (.int .i64 0), (.int .i64 0), (.slice none 0 0)]) := ⟨by kernel_rfl, by kernel_rfl, by kernel_rfl, by decide⟩
theorem et_34 : ElemTy Tryd.prog 34 39 4 48 (.agg #[(.string ⟨#[]⟩), (.string ⟨#[]⟩), (.int .i64 0), (.int .i64 0)]) := ⟨by kernel_rfl, by kernel_rfl, by kernel_rfl, by decide⟩
theorem et_75 : ElemTy Tryd.prog 75 3 1 8 (.int .i64 0) := ⟨by kernel_rfl, by kernel_rfl, by kernel_rfl, by decide⟩
theorem fo_26_0 : fieldOff Tryd.prog 26 0 = some 0 := by kernel_rfl
theorem fo_26_2 : fieldOff Tryd.prog 26 2 = some 2 := by kernel_rfl
theorem fo_28_3 : fieldOff Tryd.prog 28 3 = some 3 := by kernel_rfl
theorem fo_28_5 : fieldOff Tryd.prog 28 5 = some 5 := by kernel_rfl
theorem fo_69_0 : fieldOff Tryd.prog 69 0 = some 0 := by kernel_rfl
theorem fo_77_0 : fieldOff Tryd.prog 77 0 = some 0 := by kernel_rfl
theorem fo_77_1 : fieldOff Tryd.prog 77 1 = some 1 := by kernel_rfl
theorem fo_77_4 : fieldOff Tryd.prog 77 4 = some 4 := by kernel_rfl
theorem fo_77_5 : fieldOff Tryd.prog 77 5 = some 5 := by kernel_rfl
theorem fo_77_6 : fieldOff Tryd.prog 77 6 = some 6 := by kernel_rfl
theorem sc_22 : Scal Tryd.prog 22 := .of (by kernel_rfl)
theorem sc_24 : Scal Tryd.prog 24 := .of (by kernel_rfl)
theorem sc_3 : Scal Tryd.prog 3 := .of (by kernel_rfl)
theorem sc_34 : Scal Tryd.prog 34 := .of (by kernel_rfl)
theorem sc_75 : Scal Tryd.prog 75 := .of (by kernel_rfl)
theorem sc_9 : Scal Tryd.prog 9 := .of (by kernel_rfl)
theorem sz_34 : ∀ w, (sizeOf 34).run Tryd.prog w = .ok 1 w := SizeT.of (by kernel_rfl)
theorem sz_69 : ∀ w, (sizeOf 69).run Tryd.prog w = .ok 2 w := SizeT.of (by kernel_rfl)
theorem sz_77 : ∀ w, (sizeOf 77).run Tryd.prog w = .ok 7 w := SizeT.of (by kernel_rfl)
theorem zt_34 : (Tryd.prog.info? 34).bind (·.zero) = some (.slice none 0 0) := by kernel_rfl
theorem zt_69 : (Tryd.prog.info? 69).bind (·.zero) = some (.agg #[(.string ⟨#[]⟩), (.int .i64 0)]) := by kernel_rfl
theorem zt_77 : (Tryd.prog.info? 77).bind (·.zero) = some (.agg #[(.string ⟨#[]⟩), (.string ⟨#[]⟩), (.string ⟨#[]⟩), (.int .i64 0), (.int .i64 0), (.int .i64 0), (.slice none 0 0)]) := by kernel_rfl
end TyL5
open TyL5


theorem lack_app2 {v : Vlt} {p : Pol} {day : Int} {c : Cpy} {E : List Lck} {nm : ByteArray} (h : c.item = nm) : addL (addL (addL (addL E (decide (((c.bad.map intD).length : Int) > 0)) ⟨nm, c.carrier, 4, ((c.bad.map intD).length : Int)⟩) (oldB p day (carrAt v c.carrier)) ⟨nm, c.carrier, 5, 0⟩) (decide (c.gen > p.gens)) ⟨nm, c.carrier, 6, 0⟩) (decide (day - c.last > p.every)) ⟨nm, c.carrier, 7, 0⟩ = E ++ lackCpy v p day c := by
  subst h; rw [List.length_map]; exact lack_app v p day c E


set_option maxRecDepth 100000 in
set_option maxHeartbeats 1000000 in
theorem c_pLacks (v : Vlt) (p : Pol) (day : Int) (hs : smallV v) : ACall Tryd.prog 14 [.agg v.ds, .agg p.ds, .v (.int .i64 day)] (.tup [.sl ((lacksR v p day).map Lck.ds), .v (.int .i64 (dayFault v p day))]) := by
  refine acall_of (n := 116) (ds' := [.sl ((lacksR v p day).map Lck.ds), .v (.int .i64 (dayFault v p day))]) Tryd.func14 rfl (by kernel_rfl) rfl [6, 7] rfl rfl ?_
  intro B w0 F0 fr
  refine AWP.seq (AWP.region ?_)
  refine AOps.step rfl rfl rfl (AOp.box rfl rfl rfl) ?_
  refine AOps.step rfl rfl rfl (AOp.box rfl rfl rfl) ?_
  refine AOps.aD rfl rfl rfl rfl rfl ?_
  refine AOps.aD rfl rfl rfl rfl rfl (.nil ?_)
  refine AWP.seq ?_
  refine AWP.seq (AWP.region ?_)
  refine AOps.step rfl rfl rfl (AOp.loadAgg rfl ag_26 rfl rfl) ?_
  refine AOps.step rfl rfl rfl (AOp.loadAgg rfl ag_28 rfl rfl) ?_
  refine AOps.mD rfl rfl rfl rfl rfl ?_
  refine AOps.step rfl rfl rfl (AOp.call rfl (.cons (ArgOk.rfl' rfl) (.cons (ArgOk.rfl' rfl) (.cons (ArgOk.rfl' rfl) .nil))) (c_pDayF v p day hs)) ?_
  refine AOps.aD rfl rfl rfl rfl rfl (.nil ?_)
  refine AWP.seq (AWP.region ?_)
  refine AOps.mD rfl rfl rfl rfl rfl ?_
  refine AOps.step rfl rfl rfl (AOp.neq rfl rfl rfl) (.nil ?_)
  refine AWP.cond rfl (fun h1 => ?_) (fun h1 => ?_)
  · replace h1 := of_decide_eq_true h1
    have HF : lacksR v p day = [] := lacksR_bad h1
    rw [HF]
    refine AWP.seq (AWP.region ?_)
    refine AOps.mD rfl rfl rfl rfl rfl ?_
    refine AOps.aD rfl rfl rfl rfl rfl ?_
    refine AOps.aD rfl rfl rfl rfl rfl (.nil ?_)
    refine AWP.ret ?_
    refine ⟨RetD.nil rfl, RetD.eq rfl ?_, trivial⟩
    all_goals (rfl)
  replace h1 := of_decide_eq_false h1
  have hd0 := Decidable.not_not.1 h1
  obtain ⟨hb0, hd⟩ := day_ok hd0
  obtain ⟨vo, po⟩ := both_ok hb0
  have hnp := vo.np
  have hni := vo.ni
  rw [hd0, lacksR_ok hd0]
  refine AWP.skip ?_
  refine AWP.seq (AWP.region ?_)
  refine AOps.alloc 101 rfl rfl rfl rfl zt_34 rfl rfl rfl ?_
  refine AOps.adoptCell 1 39 4 101 0 (.head _) rfl rfl ?_
  refine AOps.nil ?_
  refine AWP.seq ?_
  refine AWP.seq (AWP.region ?_)
  refine AOps.step rfl rfl rfl (AOp.fieldAddr rfl fo_26_0 rfl) ?_
  refine AOps.step rfl rfl rfl (AOp.load rfl sc_22 rfl) ?_
  refine AOps.step rfl rfl rfl (AOp.lenSl rfl et_22.ht rfl) ?_
  refine AOps.mD rfl rfl rfl rfl rfl (.nil ?_)
  refine AWP.block ?_
  refine AWP.loop (G := Nat) (fun i => Env.of [(30, .d (.v (.int .i64 (i : Int)))), (28, .d (.sl (v.items.map Item.ds))), (29, .d (.v (.int .i64 ((v.items.map Item.ds).length : Int)))), (9, .ptr 101 0), (3, .d (.fp v.ds)), (4, .d (.fp p.ds)), (2, .d (.v (.int .i64 day)))]) (fun i => [(1, .row 39 4 ((itemsTo v p day i).map Lck.ds)), (101, .cells [.own 1])]) (fun i => i ≤ v.items.length) (fun i => v.items.length - i) 0 (Nat.zero_le _) (Sub.less ⟨(SLe.of_eq rfl), SLe.refl _, SLe.refl _, SLe.refl _, SLe.refl _, SLe.refl _, SLe.refl _, trivial⟩ (row_cell2 rfl)) ?_
  intro i hi
  refine AWP.seq (AWP.region ?_)
  refine AOps.step rfl rfl rfl (AOp.lss rfl rfl rfl) (.nil ?_)
  refine AWP.seq ?_
  refine AWP.cond rfl (fun h2 => ?_) (fun h2 => ?_)
  · replace h2 := of_decide_eq_true h2
    rw [List.length_map] at h2
    have hlt : i < v.items.length := by omega
    have hIn := itemsTo_next (p := p) (day := day) hlt
    have hIl := itemsTo_len hnp hni p day i
    have hgl : (goodOnes v v.items[i].name p day).length ≤ 200 := by have := goodTo_len v v.items[i].name p day (copiesOf v v.items[i].name).length; rw [goodTo_all] at this; omega
    refine AWP.skip ?_
    refine AWP.seq ?_
    refine AWP.block ?_
    refine AWP.seq (AWP.region ?_)
    refine AOps.step rfl rfl rfl (AOp.indexAddr rfl et_22 rfl rfl i rfl (at_list hlt) rfl) ?_
    refine AOps.step rfl rfl rfl (AOp.loadAgg rfl ag_69 rfl rfl) ?_
    refine AOps.alloc 102 rfl rfl rfl rfl zt_69 rfl rfl rfl ?_
    refine AOps.store rfl rfl rfl sz_69 rfl (.head _) rfl rfl rfl (Nat.le_of_ble_eq_true rfl) ?_
    refine AOps.freezeCells 11 (ds := v.items[i].ds) rfl (.head _) (.nil ?_)
    refine AWP.seq ?_
    refine AWP.draw (by kernel_rfl) (by kernel_rfl) ?_
    refine DRun.step rfl rfl rfl (AOp.loadAgg rfl ag_26 rfl rfl) ?_
    refine DRun.step rfl rfl rfl (AOp.fieldAddr rfl fo_69_0 rfl) ?_
    refine DRun.step rfl rfl rfl (AOp.load rfl sc_9 rfl) ?_
    refine DRun.step rfl rfl rfl (AOp.loadAgg rfl ag_28 rfl rfl) ?_
    refine DRun.step rfl rfl rfl (AOp.moveD rfl rfl) ?_
    refine DRun.step rfl rfl rfl (AOp.call rfl (.cons (ArgOk.rfl' rfl) (.cons (ArgOk.rfl' rfl) (.cons (ArgOk.rfl' rfl) (.cons (ArgOk.rfl' rfl) .nil)))) (c_goodOnes v _ p day vo po hd)) ?_
    refine DRun.step rfl rfl rfl (AOp.call rfl (.cons (ArgOk.rfl' rfl) .nil) (c_spreadOf (goodOnes v v.items[i].name p day) (by omega))) ?_
    refine DRun.step rfl rfl rfl (AOp.loadAgg rfl ag_28 rfl rfl) ?_
    refine DRun.step rfl rfl rfl (AOp.call rfl (.cons (ArgOk.rfl' rfl) (.cons (ArgOk.rfl' rfl) .nil)) (c_lacking (goodOnes v v.items[i].name p day) p po (by omega))) ?_
    refine DRun.step rfl rfl rfl (AOp.moveD rfl rfl) ?_
    refine DRun.step rfl rfl rfl (AOp.extract rfl rfl rfl) ?_
    refine DRun.step rfl rfl rfl (AOp.extract rfl rfl rfl) ?_
    refine DRun.step rfl rfl rfl (AOp.extract rfl rfl rfl) ?_
    refine DRun.step rfl rfl rfl (AOp.assignD rfl rfl) ?_
    refine DRun.step rfl rfl rfl (AOp.assignD rfl rfl) ?_
    refine DRun.step rfl rfl rfl (AOp.assignD rfl rfl) ?_
    refine DRun.nil ?_
    refine AWP.seq ?_
    refine AWP.seq (AWP.region ?_)
    refine AOps.mD rfl rfl rfl rfl rfl ?_
    refine AOps.mD rfl rfl rfl rfl rfl ?_
    refine AOps.mD rfl rfl rfl rfl rfl ?_
    refine AOps.step rfl rfl rfl (AOp.buildSlice rfl et_75 (.cons rfl rfl rfl (.cons rfl rfl rfl (.cons rfl rfl rfl .nil))) rfl (by decide)) ?_
    refine AOps.step rfl rfl rfl (AOp.lenSl rfl et_75.ht rfl) ?_
    refine AOps.mD rfl rfl rfl rfl rfl (.nil ?_)
    refine AWP.block ?_
    refine AWP.loop (G := Nat) (fun q => Env.of [(52, .d (.v (.int .i64 (q : Int)))), (50, .d (.sl ((numsOf p (goodOnes v v.items[i].name p day)).map intD))), (51, .d (.v (.int .i64 3))), (11, .d (.fp v.items[i].ds)), (30, .d (.v (.int .i64 (i : Int)))), (28, .d (.sl (v.items.map Item.ds))), (29, .d (.v (.int .i64 ((v.items.map Item.ds).length : Int)))), (9, .ptr 101 0), (3, .d (.fp v.ds)), (4, .d (.fp p.ds)), (2, .d (.v (.int .i64 day)))]) (fun q => [(1, .row 39 4 ((itemsTo v p day i ++ headTo v.items[i].name (numsOf p (goodOnes v v.items[i].name p day)) q).map Lck.ds)), (101, .cells [.own 1])]) (fun q => q ≤ 3) (fun q => 3 - q) 0 (Nat.zero_le _) (Sub.less ⟨(SLe.of_eq rfl), (SLe.of_eq rfl), (SLe.of_eq rfl), SLe.refl _, SLe.refl _, SLe.refl _, SLe.refl _, SLe.refl _, SLe.refl _, SLe.refl _, SLe.refl _, trivial⟩ (row_cell2 (by rw [show headTo v.items[i].name (numsOf p (goodOnes v v.items[i].name p day)) 0 = [] from rfl, List.append_nil]))) ?_
    intro q hq3
    refine AWP.seq (AWP.region ?_)
    refine AOps.step rfl rfl rfl (AOp.lss rfl rfl rfl) (.nil ?_)
    refine AWP.seq ?_
    refine AWP.cond rfl (fun h3 => ?_) (fun h3 => ?_)
    · replace h3 := of_decide_eq_true h3
      have hq : q < (numsOf p (goodOnes v v.items[i].name p day)).length := by show q < 3; omega
      have hHl := headTo_len v.items[i].name (numsOf p (goodOnes v v.items[i].name p day)) q
      refine AWP.skip ?_
      refine AWP.seq ?_
      refine AWP.block ?_
      refine AWP.seq (AWP.region ?_)
      refine AOps.mD rfl rfl rfl rfl rfl ?_
      refine AOps.step rfl rfl rfl (AOp.indexAddr rfl et_75 rfl rfl q rfl (at_list hq) rfl) ?_
      refine AOps.step rfl rfl rfl (AOp.load rfl sc_3 rfl) ?_
      refine AOps.aD rfl rfl rfl rfl rfl ?_
      refine AOps.aD rfl rfl rfl rfl rfl (.nil ?_)
      refine AWP.seq (AWP.region ?_)
      refine AOps.mD rfl rfl rfl rfl rfl ?_
      refine AOps.step rfl rfl rfl (AOp.gtr rfl rfl rfl) (.nil ?_)
      refine AWP.cond rfl (fun h4 => ?_) (fun h4 => ?_)
      · replace h4 := of_decide_eq_true h4
        have HH := headTo_yes (nm := v.items[i].name) hq h4
        refine AWP.region ?_
        refine AOps.step rfl rfl rfl (AOp.loadP rfl sc_34 rfl (.tail _ (.head _)) rfl) ?_
        refine AOps.step rfl rfl rfl (AOp.fieldAddr rfl fo_69_0 rfl) ?_
        refine AOps.step rfl rfl rfl (AOp.load rfl sc_9 rfl) ?_
        refine AOps.mD rfl rfl rfl rfl rfl ?_
        refine AOps.step rfl rfl rfl (AOp.add64 rfl rfl rfl (by omega) (by omega)) ?_
        refine AOps.mD rfl rfl rfl rfl rfl ?_
        refine AOps.step rfl rfl rfl (AOp.build rfl bu_39 (.cons rfl rfl (.cons rfl rfl (.cons rfl rfl .nil))) rfl) ?_
        refine AOps.step rfl rfl rfl (AOp.buildSlice rfl et_34 (.cons rfl rfl rfl .nil) rfl (by decide)) ?_
        -- append 67
        refine AOps.append rfl rfl rfl rfl et_34 rfl (.head _) rfl (by simp [D.parts]) (by simp; omega) (by simp; omega) ?_
        refine AOps.storeS rfl rfl rfl sz_34 rfl (.tail _ (.head _)) rfl (.head _) (Nat.le_of_ble_eq_true rfl) (.nil ?_)
        refine AWP.region ?_
        refine AOps.step rfl rfl rfl (AOp.add64 rfl rfl rfl (by omega) (by omega)) ?_
        refine AOps.mD rfl rfl rfl rfl rfl (.nil ?_)
        refine ⟨q + 1, (by omega), (by dsimp only; omega), Sub.less ⟨(SLe.of_eq rfl), SLe.refl _, SLe.refl _, SLe.refl _, SLe.refl _, SLe.refl _, SLe.refl _, SLe.refl _, SLe.refl _, SLe.refl _, SLe.refl _, trivial⟩ (row_cell2 (by first | (rw [HH]; done) | (rw [HH, ← List.append_assoc]; simp only [List.map_append]; rfl)))⟩
      replace h4 := of_decide_eq_false h4
      have HH := headTo_no (nm := v.items[i].name) hq h4
      refine AWP.skip ?_
      refine AWP.region ?_
      refine AOps.step rfl rfl rfl (AOp.add64 rfl rfl rfl (by omega) (by omega)) ?_
      refine AOps.mD rfl rfl rfl rfl rfl (.nil ?_)
      refine ⟨q + 1, (by omega), (by dsimp only; omega), Sub.less ⟨(SLe.of_eq rfl), SLe.refl _, SLe.refl _, SLe.refl _, SLe.refl _, SLe.refl _, SLe.refl _, SLe.refl _, SLe.refl _, SLe.refl _, SLe.refl _, trivial⟩ (row_cell2 (by first | (rw [HH]; done) | (rw [HH, ← List.append_assoc]; simp only [List.map_append]; rfl)))⟩
    replace h3 := of_decide_eq_false h3
    obtain rfl : q = 3 := by omega
    refine AWP.exit ?_
    refine AWP.seq (AWP.region ?_)
    refine AOps.step rfl rfl rfl (AOp.loadAgg rfl ag_26 rfl rfl) ?_
    refine AOps.step rfl rfl rfl (AOp.fieldAddr rfl fo_69_0 rfl) ?_
    refine AOps.step rfl rfl rfl (AOp.load rfl sc_9 rfl) ?_
    refine AOps.step rfl rfl rfl (AOp.call rfl (.cons (ArgOk.rfl' rfl) (.cons (ArgOk.rfl' rfl) .nil)) (c_copiesOf v _ hnp)) ?_
    refine AOps.step rfl rfl rfl (AOp.lenSl rfl et_24.ht rfl) ?_
    refine AOps.mD rfl rfl rfl rfl rfl (.nil ?_)
    refine AWP.block ?_
    refine AWP.loop (G := Nat) (fun k => Env.of [(74, .d (.v (.int .i64 (k : Int)))), (72, .d (.sl ((copiesOf v v.items[i].name).map Cpy.ds))), (73, .d (.v (.int .i64 (((copiesOf v v.items[i].name).map Cpy.ds).length : Int)))), (11, .d (.fp v.items[i].ds)), (30, .d (.v (.int .i64 (i : Int)))), (28, .d (.sl (v.items.map Item.ds))), (29, .d (.v (.int .i64 ((v.items.map Item.ds).length : Int)))), (9, .ptr 101 0), (3, .d (.fp v.ds)), (4, .d (.fp p.ds)), (2, .d (.v (.int .i64 day)))]) (fun k => [(1, .row 39 4 (((itemsTo v p day i ++ headTo v.items[i].name (numsOf p (goodOnes v v.items[i].name p day)) 3) ++ cpyTo v p day v.items[i].name k).map Lck.ds)), (101, .cells [.own 1])]) (fun k => k ≤ (copiesOf v v.items[i].name).length) (fun k => (copiesOf v v.items[i].name).length - k) 0 (Nat.zero_le _) (Sub.less ⟨(SLe.of_eq rfl), SLe.refl _, SLe.refl _, SLe.refl _, SLe.refl _, SLe.refl _, SLe.refl _, SLe.refl _, SLe.refl _, SLe.refl _, SLe.refl _, trivial⟩ (row_cell2 (by rw [show cpyTo v p day v.items[i].name 0 = [] from rfl, List.append_nil]))) ?_
    intro k hk
    refine AWP.seq (AWP.region ?_)
    refine AOps.step rfl rfl rfl (AOp.lss rfl rfl rfl) (.nil ?_)
    refine AWP.seq ?_
    refine AWP.cond rfl (fun h5 => ?_) (fun h5 => ?_)
    · replace h5 := of_decide_eq_true h5
      rw [List.length_map] at h5
      have hkl : k < (copiesOf v v.items[i].name).length := by omega
      have hcm := copiesOf_mem (List.getElem_mem hkl)
      have hco := vo.cpy _ hcm.1
      have hcb := vo.carr (carrAt_mem hco.carr)
      have hla := hco.last
      have hda := hco.day
      have hcol := copiesOf_len v v.items[i].name
      have hcl := cpyTo_len v p day v.items[i].name k
      have hHl := headTo_len v.items[i].name (numsOf p (goodOnes v v.items[i].name p day)) 3
      have b1 : ((itemsTo v p day i ++ headTo v.items[i].name (numsOf p (goodOnes v v.items[i].name p day)) 3) ++ cpyTo v p day v.items[i].name k).length ≤ 25000 := by rw [List.length_append, List.length_append]; omega
      have b2 : (addL ((itemsTo v p day i ++ headTo v.items[i].name (numsOf p (goodOnes v v.items[i].name p day)) 3) ++ cpyTo v p day v.items[i].name k) (decide ((((copiesOf v v.items[i].name)[k].bad.map intD).length : Int) > 0)) ⟨v.items[i].name, (copiesOf v v.items[i].name)[k].carrier, 4, (((copiesOf v v.items[i].name)[k].bad.map intD).length : Int)⟩).length ≤ 25001 := Nat.le_trans (addL_len _ _ _) (by omega)
      have b3 : (addL (addL ((itemsTo v p day i ++ headTo v.items[i].name (numsOf p (goodOnes v v.items[i].name p day)) 3) ++ cpyTo v p day v.items[i].name k) (decide ((((copiesOf v v.items[i].name)[k].bad.map intD).length : Int) > 0)) ⟨v.items[i].name, (copiesOf v v.items[i].name)[k].carrier, 4, (((copiesOf v v.items[i].name)[k].bad.map intD).length : Int)⟩) (oldB p day (carrAt v (copiesOf v v.items[i].name)[k].carrier)) ⟨v.items[i].name, (copiesOf v v.items[i].name)[k].carrier, 5, 0⟩).length ≤ 25002 := Nat.le_trans (addL_len _ _ _) (by omega)
      have b4 : (addL (addL (addL ((itemsTo v p day i ++ headTo v.items[i].name (numsOf p (goodOnes v v.items[i].name p day)) 3) ++ cpyTo v p day v.items[i].name k) (decide ((((copiesOf v v.items[i].name)[k].bad.map intD).length : Int) > 0)) ⟨v.items[i].name, (copiesOf v v.items[i].name)[k].carrier, 4, (((copiesOf v v.items[i].name)[k].bad.map intD).length : Int)⟩) (oldB p day (carrAt v (copiesOf v v.items[i].name)[k].carrier)) ⟨v.items[i].name, (copiesOf v v.items[i].name)[k].carrier, 5, 0⟩) (decide ((copiesOf v v.items[i].name)[k].gen > p.gens)) ⟨v.items[i].name, (copiesOf v v.items[i].name)[k].carrier, 6, 0⟩).length ≤ 25003 := Nat.le_trans (addL_len _ _ _) (by omega)
      have HC : (addL (addL (addL (addL ((itemsTo v p day i ++ headTo v.items[i].name (numsOf p (goodOnes v v.items[i].name p day)) 3) ++ cpyTo v p day v.items[i].name k) (decide ((((copiesOf v v.items[i].name)[k].bad.map intD).length : Int) > 0)) ⟨v.items[i].name, (copiesOf v v.items[i].name)[k].carrier, 4, (((copiesOf v v.items[i].name)[k].bad.map intD).length : Int)⟩) (oldB p day (carrAt v (copiesOf v v.items[i].name)[k].carrier)) ⟨v.items[i].name, (copiesOf v v.items[i].name)[k].carrier, 5, 0⟩) (decide ((copiesOf v v.items[i].name)[k].gen > p.gens)) ⟨v.items[i].name, (copiesOf v v.items[i].name)[k].carrier, 6, 0⟩) (decide (day - (copiesOf v v.items[i].name)[k].last > p.every)) ⟨v.items[i].name, (copiesOf v v.items[i].name)[k].carrier, 7, 0⟩) = itemsTo v p day i ++ headTo v.items[i].name (numsOf p (goodOnes v v.items[i].name p day)) 3 ++ cpyTo v p day v.items[i].name (k + 1) := by
        rw [lack_app2 hcm.2, List.append_assoc]
        congr 1
        exact (flat_snoc _ hkl).symm
      refine AWP.skip ?_
      refine AWP.seq ?_
      refine AWP.block ?_
      refine AWP.seq (AWP.region ?_)
      refine AOps.step rfl rfl rfl (AOp.indexAddr rfl et_24 rfl rfl k rfl (at_list hkl) rfl) ?_
      refine AOps.step rfl rfl rfl (AOp.loadAgg rfl ag_77 rfl rfl) ?_
      refine AOps.alloc 103 rfl rfl rfl rfl zt_77 rfl rfl rfl ?_
      refine AOps.store rfl rfl rfl sz_77 rfl (.head _) rfl rfl rfl (Nat.le_of_ble_eq_true rfl) ?_
      refine AOps.freezeCells 18 (ds := (copiesOf v v.items[i].name)[k].ds) rfl (.head _) (.nil ?_)
      refine AWP.seq (AWP.region ?_)
      refine AOps.step rfl rfl rfl (AOp.makeClo rfl (CapsOk.p rfl (CapsOk.d rfl (CapsOk.d rfl CapsOk.nil)))) ?_
      refine AOps.step rfl rfl rfl (AOp.assignC rfl rfl) (.nil ?_)
      refine AWP.seq (AWP.region ?_)
      refine AOps.step rfl rfl rfl (AOp.moveC rfl rfl) ?_
      refine AOps.step rfl rfl rfl (AOp.fieldAddr rfl fo_77_6 rfl) ?_
      refine AOps.step rfl rfl rfl (AOp.load rfl sc_75 rfl) ?_
      refine AOps.step rfl rfl rfl (AOp.lenSl rfl et_75.ht rfl) ?_
      refine AOps.step rfl rfl rfl (AOp.gtr rfl rfl rfl) ?_
      refine AOps.step rfl rfl rfl (AOp.fieldAddr rfl fo_77_6 rfl) ?_
      refine AOps.step rfl rfl rfl (AOp.load rfl sc_75 rfl) ?_
      refine AOps.step rfl rfl rfl (AOp.lenSl rfl et_75.ht rfl) ?_
      -- calls a closure
      refine AOps.callXC rfl rfl rfl rfl (.cons (SLe.refl _) (.cons (SLe.refl _) (.cons (SLe.refl _) .nil))) (c_add v.items[i] (copiesOf v v.items[i].name)[k] _ _ _ ((itemsTo v p day i ++ headTo v.items[i].name (numsOf p (goodOnes v v.items[i].name p day)) 3) ++ cpyTo v p day v.items[i].name k) (Nat.le_trans b1 (by decide))) ⟨(.head _), (.tail _ (.head _)), trivial⟩ rfl rfl (fun _ h => rfl) ?_
      refine AOps.nil ?_
      refine AWP.seq ?_
      refine AWP.drawTail 8 (by kernel_rfl) (by kernel_rfl) (by kernel_rfl) ?_
      refine DRun.step rfl rfl rfl (AOp.moveC rfl rfl) ?_
      refine DRun.step rfl rfl rfl (AOp.loadAgg rfl ag_26 rfl rfl) ?_
      refine DRun.step rfl rfl rfl (AOp.fieldAddr rfl fo_77_1 rfl) ?_
      refine DRun.step rfl rfl rfl (AOp.load rfl sc_9 rfl) ?_
      refine DRun.step rfl rfl rfl (AOp.call rfl (.cons (ArgOk.rfl' rfl) (.cons (ArgOk.rfl' rfl) .nil)) (c_carrier v _ hco.carr)) ?_
      refine DRun.step rfl rfl rfl (AOp.loadAgg rfl ag_28 rfl rfl) ?_
      refine DRun.step rfl rfl rfl (AOp.moveD rfl rfl) ?_
      refine DRun.step rfl rfl rfl (AOp.call rfl (.cons (ArgOk.rfl' rfl) (.cons (ArgOk.rfl' rfl) (.cons (ArgOk.rfl' rfl) .nil))) (c_old _ p day hcb.2.1 (by omega))) ?_
      refine DRun.nil ?_
      -- calls a closure
      refine AOps.callXC rfl rfl rfl rfl (.cons (SLe.refl _) (.cons (SLe.refl _) (.cons (SLe.refl _) .nil))) (c_add v.items[i] (copiesOf v v.items[i].name)[k] _ _ _ (addL ((itemsTo v p day i ++ headTo v.items[i].name (numsOf p (goodOnes v v.items[i].name p day)) 3) ++ cpyTo v p day v.items[i].name k) (decide ((((copiesOf v v.items[i].name)[k].bad.map intD).length : Int) > 0)) ⟨v.items[i].name, (copiesOf v v.items[i].name)[k].carrier, 4, (((copiesOf v v.items[i].name)[k].bad.map intD).length : Int)⟩) (Nat.le_trans b2 (by decide))) ⟨(.head _), (.tail _ (.head _)), trivial⟩ rfl rfl (fun _ h => rfl) ?_
      refine AOps.nil ?_
      refine AWP.seq (AWP.region ?_)
      refine AOps.step rfl rfl rfl (AOp.moveC rfl rfl) ?_
      refine AOps.step rfl rfl rfl (AOp.fieldAddr rfl fo_77_5 rfl) ?_
      refine AOps.step rfl rfl rfl (AOp.load rfl sc_3 rfl) ?_
      refine AOps.step rfl rfl rfl (AOp.fieldAddr rfl fo_28_5 rfl) ?_
      refine AOps.step rfl rfl rfl (AOp.load rfl sc_3 rfl) ?_
      refine AOps.step rfl rfl rfl (AOp.gtr rfl rfl rfl) ?_
      -- calls a closure
      refine AOps.callXC rfl rfl rfl rfl (.cons (SLe.refl _) (.cons (SLe.refl _) (.cons (SLe.refl _) .nil))) (c_add v.items[i] (copiesOf v v.items[i].name)[k] _ _ _ (addL (addL ((itemsTo v p day i ++ headTo v.items[i].name (numsOf p (goodOnes v v.items[i].name p day)) 3) ++ cpyTo v p day v.items[i].name k) (decide ((((copiesOf v v.items[i].name)[k].bad.map intD).length : Int) > 0)) ⟨v.items[i].name, (copiesOf v v.items[i].name)[k].carrier, 4, (((copiesOf v v.items[i].name)[k].bad.map intD).length : Int)⟩) (oldB p day (carrAt v (copiesOf v v.items[i].name)[k].carrier)) ⟨v.items[i].name, (copiesOf v v.items[i].name)[k].carrier, 5, 0⟩) (Nat.le_trans b3 (by decide))) ⟨(.head _), (.tail _ (.head _)), trivial⟩ rfl rfl (fun _ h => rfl) ?_
      refine AOps.nil ?_
      refine AWP.region ?_
      refine AOps.step rfl rfl rfl (AOp.moveC rfl rfl) ?_
      refine AOps.mD rfl rfl rfl rfl rfl ?_
      refine AOps.step rfl rfl rfl (AOp.fieldAddr rfl fo_77_4 rfl) ?_
      refine AOps.step rfl rfl rfl (AOp.load rfl sc_3 rfl) ?_
      refine AOps.step rfl rfl rfl (AOp.sub64 rfl rfl rfl (by omega) (by omega)) ?_
      refine AOps.step rfl rfl rfl (AOp.fieldAddr rfl fo_28_3 rfl) ?_
      refine AOps.step rfl rfl rfl (AOp.load rfl sc_3 rfl) ?_
      refine AOps.step rfl rfl rfl (AOp.gtr rfl rfl rfl) ?_
      -- calls a closure
      refine AOps.callXC rfl rfl rfl rfl (.cons (SLe.refl _) (.cons (SLe.refl _) (.cons (SLe.refl _) .nil))) (c_add v.items[i] (copiesOf v v.items[i].name)[k] _ _ _ (addL (addL (addL ((itemsTo v p day i ++ headTo v.items[i].name (numsOf p (goodOnes v v.items[i].name p day)) 3) ++ cpyTo v p day v.items[i].name k) (decide ((((copiesOf v v.items[i].name)[k].bad.map intD).length : Int) > 0)) ⟨v.items[i].name, (copiesOf v v.items[i].name)[k].carrier, 4, (((copiesOf v v.items[i].name)[k].bad.map intD).length : Int)⟩) (oldB p day (carrAt v (copiesOf v v.items[i].name)[k].carrier)) ⟨v.items[i].name, (copiesOf v v.items[i].name)[k].carrier, 5, 0⟩) (decide ((copiesOf v v.items[i].name)[k].gen > p.gens)) ⟨v.items[i].name, (copiesOf v v.items[i].name)[k].carrier, 6, 0⟩) (Nat.le_trans b4 (by decide))) ⟨(.head _), (.tail _ (.head _)), trivial⟩ rfl rfl (fun _ h => rfl) ?_
      refine AOps.nil ?_
      refine AWP.region ?_
      refine AOps.step rfl rfl rfl (AOp.add64 rfl rfl rfl (by omega) (by omega)) ?_
      refine AOps.mD rfl rfl rfl rfl rfl (.nil ?_)
      refine ⟨k + 1, (by omega), (by dsimp only; omega), Sub.less ⟨(SLe.of_eq rfl), SLe.refl _, SLe.refl _, SLe.refl _, SLe.refl _, SLe.refl _, SLe.refl _, SLe.refl _, SLe.refl _, SLe.refl _, SLe.refl _, trivial⟩ (row_cell2 (by rw [HC]))⟩
    replace h5 := of_decide_eq_false h5
    rw [List.length_map] at h5
    obtain rfl : k = (copiesOf v v.items[i].name).length := by omega
    refine AWP.exit ?_
    refine AWP.region ?_
    refine AOps.step rfl rfl rfl (AOp.add64 rfl rfl rfl (by omega) (by omega)) ?_
    refine AOps.mD rfl rfl rfl rfl rfl (.nil ?_)
    refine ⟨i + 1, (by omega), (by dsimp only; omega), Sub.less ⟨(SLe.of_eq rfl), SLe.refl _, SLe.refl _, SLe.refl _, SLe.refl _, SLe.refl _, SLe.refl _, trivial⟩ (row_cell2 (by rw [hIn, cpyTo_all, List.append_assoc]))⟩
  replace h2 := of_decide_eq_false h2
  rw [List.length_map] at h2
  obtain rfl : i = v.items.length := by omega
  refine AWP.exit ?_
  refine AWP.seq (AWP.region ?_)
  refine AOps.step rfl rfl rfl (AOp.loadP rfl sc_34 rfl (.tail _ (.head _)) rfl) ?_
  refine AOps.step rfl rfl rfl (AOp.assignO rfl rfl) ?_
  refine AOps.aD rfl rfl rfl rfl rfl (.nil ?_)
  refine AWP.ret ?_
  refine ⟨RetD.own rfl (.head _) ?_, RetD.eq rfl ?_, trivial⟩
  all_goals (rfl)

end Go.Proofs.YtieccphckobhjaaDoor


namespace Go.Proofs.YtieccphckobhjaaDoor
open Go.RowKit
set_option linter.unusedVariables false

/-! Types. -/
namespace TyY1
theorem ag_26 : AggT Tryd.prog 26 3 := .of (by kernel_rfl)
theorem ag_28 : AggT Tryd.prog 28 6 := .of (by kernel_rfl)
theorem ag_39 : AggT Tryd.prog 39 4 := .of (by kernel_rfl)
theorem et_34 : ElemTy Tryd.prog 34 39 4 48 (.agg #[(.string ⟨#[]⟩), (.string ⟨#[]⟩), (.int .i64 0), (.int .i64 0)]) := ⟨by kernel_rfl, by kernel_rfl, by kernel_rfl, by decide⟩
theorem et_62 : ElemTy Tryd.prog 62 130 3 48 (.agg #[(.string ⟨#[]⟩), (.string ⟨#[]⟩), (.string ⟨#[]⟩)]) := ⟨by kernel_rfl, by kernel_rfl, by kernel_rfl, by decide⟩
theorem fo_39_0 : fieldOff Tryd.prog 39 0 = some 0 := by kernel_rfl
theorem fo_39_1 : fieldOff Tryd.prog 39 1 = some 1 := by kernel_rfl
theorem fo_39_2 : fieldOff Tryd.prog 39 2 = some 2 := by kernel_rfl
theorem sc_3 : Scal Tryd.prog 3 := .of (by kernel_rfl)
theorem sc_9 : Scal Tryd.prog 9 := .of (by kernel_rfl)
theorem sz_26 : ∀ w, (sizeOf 26).run Tryd.prog w = .ok 3 w := SizeT.of (by kernel_rfl)
theorem sz_39 : ∀ w, (sizeOf 39).run Tryd.prog w = .ok 4 w := SizeT.of (by kernel_rfl)
theorem zt_26 : (Tryd.prog.info? 26).bind (·.zero) = some (.agg #[(.slice none 0 0), (.slice none 0 0), (.slice none 0 0)]) := by kernel_rfl
theorem zt_39 : (Tryd.prog.info? 39).bind (·.zero) = some (.agg #[(.string ⟨#[]⟩), (.string ⟨#[]⟩), (.int .i64 0), (.int .i64 0)]) := by kernel_rfl
end TyY1
open TyY1


def hasLk (l : List Lck) (it : ByteArray) (w : Int) : Bool := l.any fun z => decide (z.item = it) && decide (z.what = w)
theorem hasLk_at {l : List Lck} {it : ByteArray} {w : Int} {k : Nat} (hk : k < l.length) (h1 : l[k].item = it) (h2 : l[k].what = w) : hasLk l it w = true := List.any_eq_true.2 ⟨_, List.getElem_mem hk, by simp [h1, h2]⟩
theorem hasLk_no {l : List Lck} {it : ByteArray} {w : Int} (h : ∀ k (hk : k < l.length), ¬ (l[k].item = it ∧ l[k].what = w)) : hasLk l it w = false := by
  unfold hasLk
  rw [List.any_eq_false]
  intro z hz
  obtain ⟨k, hk, rfl⟩ := List.mem_iff_getElem.1 hz
  simpa using h k hk
theorem lacksR_len (v : Vlt) (p : Pol) (day : Int) : (lacksR v p day).length ≤ 24090 := by
  by_cases h : dayFault v p day = 0
  · rw [lacksR_ok h]
    obtain ⟨vo, _⟩ := both_ok (day_ok h).1
    exact itemsTo_len vo.np vo.ni p day _
  · rw [lacksR_bad h]; exact Nat.zero_le _


set_option maxRecDepth 100000 in
set_option maxHeartbeats 1000000 in
theorem c_lacksWhat (l : List Lck) (it : ByteArray) (w : Int) (hl : l.length ≤ 100000) : ACall Tryd.prog 27 [.sl (l.map Lck.ds), .v (.string it), .v (.int .i64 w)] (.v (.bool (hasLk l it w))) := by
  refine acall_of (n := 26) (ds' := [.v (.bool (hasLk l it w))]) Tryd.func27 rfl (by kernel_rfl) rfl [6] rfl rfl ?_
  intro B w0 F0 fr
  refine AWP.seq (AWP.region ?_)
  refine AOps.aD rfl rfl rfl rfl rfl (.nil ?_)
  refine AWP.seq ?_
  refine AWP.seq (AWP.region ?_)
  refine AOps.mD rfl rfl rfl rfl rfl ?_
  refine AOps.step rfl rfl rfl (AOp.lenSl rfl et_34.ht rfl) ?_
  refine AOps.mD rfl rfl rfl rfl rfl (.nil ?_)
  refine AWP.block ?_
  refine AWP.loop (G := Nat) (fun k => Env.of [(11, .d (.v (.int .i64 (k : Int)))), (9, .d (.sl (l.map Lck.ds))), (10, .d (.v (.int .i64 ((l.map Lck.ds).length : Int)))), (1, .d (.v (.string it))), (2, .d (.v (.int .i64 w)))]) (fun k => []) (fun k => k ≤ l.length ∧ ∀ j (hj : j < l.length), j < k → ¬ (l[j].item = it ∧ l[j].what = w)) (fun k => l.length - k) 0 ⟨Nat.zero_le _, fun j hj h => by omega⟩ (Sub.less ⟨(SLe.of_eq rfl), SLe.refl _, SLe.refl _, SLe.refl _, SLe.refl _, trivial⟩ (fun _ h => h)) ?_
  intro k hk
  refine AWP.seq (AWP.region ?_)
  refine AOps.step rfl rfl rfl (AOp.lss rfl rfl rfl) (.nil ?_)
  refine AWP.seq ?_
  refine AWP.cond rfl (fun h1 => ?_) (fun h1 => ?_)
  · replace h1 := of_decide_eq_true h1
    rw [List.length_map] at h1
    have hlt : k < l.length := by omega
    refine AWP.skip ?_
    refine AWP.seq ?_
    refine AWP.block ?_
    refine AWP.seq (AWP.region ?_)
    refine AOps.step rfl rfl rfl (AOp.indexAddr rfl et_34 rfl rfl k rfl (at_list hlt) rfl) ?_
    refine AOps.step rfl rfl rfl (AOp.loadAgg rfl ag_39 rfl rfl) ?_
    refine AOps.alloc 101 rfl rfl rfl rfl zt_39 rfl rfl rfl ?_
    refine AOps.store rfl rfl rfl sz_39 rfl (.head _) rfl rfl rfl (Nat.le_of_ble_eq_true rfl) ?_
    refine AOps.freezeCells 8 (ds := l[k].ds) rfl (.head _) (.nil ?_)
    refine AWP.seq (AWP.region ?_)
    refine AOps.step rfl rfl rfl (AOp.fieldAddr rfl fo_39_0 rfl) ?_
    refine AOps.step rfl rfl rfl (AOp.load rfl sc_9 rfl) ?_
    refine AOps.mD rfl rfl rfl rfl rfl ?_
    refine AOps.step rfl rfl rfl (AOp.seql rfl rfl rfl) ?_
    refine AOps.mD rfl rfl rfl rfl rfl ?_
    refine AOps.split 19 rfl (fun g2 => ?_) (fun g2 => ?_)
    · replace g2 := of_decide_eq_true g2
      have hI := g2
      refine AOps.step ⟨19, rfl, .inl ⟨_, rfl, rfl⟩⟩ rfl rfl (AOp.fieldAddr rfl fo_39_2 rfl) ?_
      refine AOps.step ⟨19, rfl, .inl ⟨_, rfl, rfl⟩⟩ rfl rfl (AOp.load rfl sc_3 rfl) ?_
      refine AOps.step ⟨19, rfl, .inl ⟨_, rfl, rfl⟩⟩ rfl rfl (AOp.moveD rfl rfl) ?_
      refine AOps.step ⟨19, rfl, .inl ⟨_, rfl, rfl⟩⟩ rfl rfl (AOp.eql rfl rfl rfl) ?_
      refine AOps.step rfl rfl rfl (AOp.pickT rfl rfl rfl) (.nil ?_)
      refine AWP.cond rfl (fun h3 => ?_) (fun h3 => ?_)
      · replace h3 := of_decide_eq_true h3
        rw [hasLk_at hlt hI h3]
        refine AWP.seq (AWP.region ?_)
        refine AOps.aD rfl rfl rfl rfl rfl (.nil ?_)
        refine AWP.ret ?_
        refine ⟨RetD.eq rfl ?_, trivial⟩
        all_goals (rfl)
      replace h3 := of_decide_eq_false h3
      have hT : ∀ j (hj : j < l.length), j < k + 1 → ¬ (l[j].item = it ∧ l[j].what = w) := fun j hj hjk => by
        by_cases e : j = k
        · subst e; exact fun hh => h3 hh.2
        exact hk.2 j hj (by omega)
      refine AWP.skip ?_
      refine AWP.region ?_
      refine AOps.step rfl rfl rfl (AOp.add64 rfl rfl rfl (by omega) (by omega)) ?_
      refine AOps.mD rfl rfl rfl rfl rfl (.nil ?_)
      refine ⟨k + 1, ⟨by omega, hT⟩, (by dsimp only; omega), Sub.less ⟨(SLe.of_eq rfl), SLe.refl _, SLe.refl _, SLe.refl _, SLe.refl _, trivial⟩ (fun _ h => by cases h)⟩
    replace g2 := of_decide_eq_false g2
    have hT : ∀ j (hj : j < l.length), j < k + 1 → ¬ (l[j].item = it ∧ l[j].what = w) := fun j hj hjk => by
      by_cases e : j = k
      · subst e; exact fun hh => g2 hh.1
      exact hk.2 j hj (by omega)
    refine AOps.pass ⟨19, rfl, .inl ⟨_, rfl, rfl⟩⟩ rfl rfl ?_
    refine AOps.pass ⟨19, rfl, .inl ⟨_, rfl, rfl⟩⟩ rfl rfl ?_
    refine AOps.pass ⟨19, rfl, .inl ⟨_, rfl, rfl⟩⟩ rfl rfl ?_
    refine AOps.pass ⟨19, rfl, .inl ⟨_, rfl, rfl⟩⟩ rfl rfl ?_
    refine AOps.step rfl rfl rfl (AOp.pickF rfl rfl rfl) (.nil ?_)
    refine AWP.cond rfl (fun h => nomatch h) (fun _ => ?_)
    refine AWP.skip ?_
    refine AWP.region ?_
    refine AOps.step rfl rfl rfl (AOp.add64 rfl rfl rfl (by omega) (by omega)) ?_
    refine AOps.mD rfl rfl rfl rfl rfl (.nil ?_)
    refine ⟨k + 1, ⟨by omega, hT⟩, (by dsimp only; omega), Sub.less ⟨(SLe.of_eq rfl), SLe.refl _, SLe.refl _, SLe.refl _, SLe.refl _, trivial⟩ (fun _ h => by cases h)⟩
  replace h1 := of_decide_eq_false h1
  rw [List.length_map] at h1
  obtain rfl : k = l.length := by omega
  rw [hasLk_no fun j hj => hk.2 j hj hj]
  refine AWP.exit ?_
  refine AWP.seq (AWP.region ?_)
  refine AOps.aD rfl rfl rfl rfl rfl (.nil ?_)
  refine AWP.ret ?_
  refine ⟨RetD.eq rfl ?_, trivial⟩
  all_goals (rfl)

set_option maxRecDepth 100000 in
set_option maxHeartbeats 4000000 in
theorem lawEnough (v : Vlt) (p : Pol) (day : Int) (hsm : smallV v) : ACall Tryd.prog 8 [.agg v.ds, .agg p.ds, .v (.int .i64 day)] (.v (.bool true)) := by
  refine acall_of (n := 101) (ds' := [.v (.bool true)]) Tryd.func8 rfl (by kernel_rfl) rfl [6] rfl rfl ?_
  intro B w0 F0 fr
  refine AWP.seq (AWP.region ?_)
  refine AOps.step rfl rfl rfl (AOp.box rfl rfl rfl) ?_
  refine AOps.step rfl rfl rfl (AOp.box rfl rfl rfl) ?_
  refine AOps.aD rfl rfl rfl rfl rfl (.nil ?_)
  refine AWP.seq (AWP.region ?_)
  refine AOps.step rfl rfl rfl (AOp.loadAgg rfl ag_26 rfl rfl) ?_
  refine AOps.step rfl rfl rfl (AOp.loadAgg rfl ag_28 rfl rfl) ?_
  refine AOps.mD rfl rfl rfl rfl rfl ?_
  refine AOps.step rfl rfl rfl (AOp.call rfl (.cons (ArgOk.rfl' rfl) (.cons (ArgOk.rfl' rfl) (.cons (ArgOk.rfl' rfl) .nil))) (c_pPlan v p day hsm)) ?_
  refine AOps.mD rfl rfl rfl rfl rfl ?_
  refine AOps.step rfl rfl rfl (AOp.extract rfl rfl rfl) ?_
  refine AOps.step rfl rfl rfl (AOp.extract rfl rfl rfl) ?_
  refine AOps.aD rfl rfl rfl rfl rfl ?_
  refine AOps.aD rfl rfl rfl rfl rfl (.nil ?_)
  refine AWP.seq (AWP.region ?_)
  refine AOps.step rfl rfl rfl (AOp.loadAgg rfl ag_26 rfl rfl) ?_
  refine AOps.step rfl rfl rfl (AOp.loadAgg rfl ag_28 rfl rfl) ?_
  refine AOps.mD rfl rfl rfl rfl rfl ?_
  refine AOps.step rfl rfl rfl (AOp.call rfl (.cons (ArgOk.rfl' rfl) (.cons (ArgOk.rfl' rfl) (.cons (ArgOk.rfl' rfl) .nil))) (c_pLacks v p day hsm)) ?_
  refine AOps.mD rfl rfl rfl rfl rfl ?_
  refine AOps.step rfl rfl rfl (AOp.extract rfl rfl rfl) ?_
  refine AOps.step rfl rfl rfl (AOp.extract rfl rfl rfl) ?_
  refine AOps.aD rfl rfl rfl rfl rfl ?_
  refine AOps.aD rfl rfl rfl rfl rfl (.nil ?_)
  refine AWP.seq ?_
  refine AWP.seq (AWP.region ?_)
  refine AOps.mD rfl rfl rfl rfl rfl ?_
  refine AOps.mD rfl rfl rfl rfl rfl ?_
  refine AOps.step rfl rfl rfl (AOp.neq rfl rfl rfl) ?_
  refine AOps.mD rfl rfl rfl rfl rfl ?_
  refine AOps.split 33 rfl (fun g1 => ?_) (fun g1 => ?_)
  · replace g1 := of_decide_eq_true g1
    exact absurd rfl g1
  replace g1 := of_decide_eq_false g1
  refine AOps.step ⟨33, rfl, .inl ⟨_, rfl, rfl⟩⟩ rfl rfl (AOp.call rfl .nil c_awake) ?_
  refine AOps.step ⟨33, rfl, .inl ⟨_, rfl, rfl⟩⟩ rfl rfl (AOp.not rfl rfl) ?_
  refine AOps.step rfl rfl rfl (AOp.pickF rfl rfl rfl) (.nil ?_)
  refine AWP.cond rfl (fun h => nomatch h) (fun _ => ?_)
  refine AWP.skip ?_
  refine AWP.seq ?_
  refine AWP.seq (AWP.region ?_)
  refine AOps.mD rfl rfl rfl rfl rfl ?_
  refine AOps.step rfl rfl rfl (AOp.neq rfl rfl rfl) (.nil ?_)
  refine AWP.cond rfl (fun h2 => ?_) (fun h2 => ?_)
  · replace h2 := of_decide_eq_true h2
    have HR : planR v p day = [] := by unfold planR; rw [if_neg h2]
    rw [HR]
    refine AWP.seq (AWP.region ?_)
    refine AOps.mD rfl rfl rfl rfl rfl ?_
    refine AOps.step rfl rfl rfl (AOp.lenSl rfl et_62.ht rfl) ?_
    refine AOps.step rfl rfl rfl (AOp.eql rfl rfl rfl) ?_
    refine AOps.aD rfl rfl rfl rfl rfl (.nil ?_)
    refine AWP.ret ?_
    refine ⟨RetD.eq rfl ?_, trivial⟩
    all_goals (first | rfl | simp)
  replace h2 := of_decide_eq_false h2
  have hd0 := Decidable.not_not.1 h2
  refine AWP.skip ?_
  refine AWP.seq (AWP.region ?_)
  refine AOps.step rfl rfl rfl (AOp.loadAgg rfl ag_26 rfl rfl) ?_
  refine AOps.mD rfl rfl rfl rfl rfl ?_
  refine AOps.mD rfl rfl rfl rfl rfl ?_
  refine AOps.step rfl rfl rfl (AOp.call rfl (.cons (ArgOk.rfl' rfl) (.cons (ArgOk.rfl' rfl) (.cons (ArgOk.rfl' rfl) .nil))) (c_pApply v (planR v p day) day hsm)) ?_
  refine AOps.mD rfl rfl rfl rfl rfl ?_
  refine AOps.step rfl rfl rfl (AOp.extract rfl rfl rfl) ?_
  refine AOps.step rfl rfl rfl (AOp.extract rfl rfl rfl) ?_
  refine AOps.alloc 101 rfl rfl rfl rfl zt_26 rfl rfl rfl ?_
  refine AOps.store rfl rfl rfl sz_26 rfl (.head _) rfl rfl rfl (Nat.le_of_ble_eq_true rfl) ?_
  refine AOps.freezeCells 11 (ds := (applyV v (planR v p day) day).ds) rfl (.head _) ?_
  refine AOps.aD rfl rfl rfl rfl rfl (.nil ?_)
  refine AWP.seq ?_
  refine AWP.seq (AWP.region ?_)
  refine AOps.mD rfl rfl rfl rfl rfl ?_
  refine AOps.step rfl rfl rfl (AOp.neq rfl rfl rfl) (.nil ?_)
  refine AWP.cond rfl (fun h3 => ?_) (fun h3 => ?_)
  · replace h3 := of_decide_eq_true h3
    have hf0 := h3
    refine AWP.seq (AWP.region ?_)
    refine AOps.mD rfl rfl rfl rfl rfl ?_
    refine AOps.step rfl rfl rfl (AOp.eql rfl rfl rfl) ?_
    refine AOps.mD rfl rfl rfl rfl rfl ?_
    refine AOps.split 53 rfl (fun g4 => ?_) (fun g4 => ?_)
    · replace g4 := of_decide_eq_true g4
      refine AOps.pass ⟨53, rfl, .inl ⟨_, rfl, rfl⟩⟩ rfl rfl ?_
      refine AOps.pass ⟨53, rfl, .inl ⟨_, rfl, rfl⟩⟩ rfl rfl ?_
      refine AOps.step rfl rfl rfl (AOp.pickT rfl rfl rfl) ?_
      refine AOps.aD rfl rfl rfl rfl rfl (.nil ?_)
      refine AWP.ret ?_
      refine ⟨RetD.eq rfl ?_, trivial⟩
      all_goals (first | rfl | simp)
    replace g4 := of_decide_eq_false g4
    have h2 : applyFault v (planR v p day) day = 2 := by
      rcases plan_fault hd0 with hh | hh | hh
      · exact absurd hh hf0
      · exact absurd hh g4
      exact hh
    rw [h2]
    refine AOps.step ⟨53, rfl, .inl ⟨_, rfl, rfl⟩⟩ rfl rfl (AOp.moveD rfl rfl) ?_
    refine AOps.step ⟨53, rfl, .inl ⟨_, rfl, rfl⟩⟩ rfl rfl (AOp.eql rfl rfl rfl) ?_
    refine AOps.step rfl rfl rfl (AOp.pickF rfl rfl rfl) ?_
    refine AOps.aD rfl rfl rfl rfl rfl (.nil ?_)
    refine AWP.ret ?_
    refine ⟨RetD.eq rfl ?_, trivial⟩
    all_goals (first | rfl | simp)
  replace h3 := of_decide_eq_false h3
  have hf0 := Decidable.not_not.1 h3
  obtain ⟨⟨l, hVl⟩, hdw, hpw, hlw⟩ := plan_end hd0 hf0
  have hsw : smallV (applyV v (planR v p day) day) := by rw [hVl]; exact hsm
  have hll : (lacksR v p day).length ≤ 100000 := Nat.le_trans (lacksR_len v p day) (by decide)
  have hwl := lacksR_len (applyV v (planR v p day) day) p day
  refine AWP.skip ?_
  refine AWP.seq (AWP.region ?_)
  refine AOps.step rfl rfl rfl (AOp.loadAgg rfl ag_26 rfl rfl) ?_
  refine AOps.step rfl rfl rfl (AOp.loadAgg rfl ag_28 rfl rfl) ?_
  refine AOps.mD rfl rfl rfl rfl rfl ?_
  refine AOps.step rfl rfl rfl (AOp.call rfl (.cons (ArgOk.rfl' rfl) (.cons (ArgOk.rfl' rfl) (.cons (ArgOk.rfl' rfl) .nil))) (c_pPlan (applyV v (planR v p day) day) p day hsw)) ?_
  rw [hpw, hdw]
  refine AOps.mD rfl rfl rfl rfl rfl ?_
  refine AOps.step rfl rfl rfl (AOp.extract rfl rfl rfl) ?_
  refine AOps.step rfl rfl rfl (AOp.extract rfl rfl rfl) ?_
  refine AOps.aD rfl rfl rfl rfl rfl ?_
  refine AOps.aD rfl rfl rfl rfl rfl (.nil ?_)
  refine AWP.seq (AWP.region ?_)
  refine AOps.step rfl rfl rfl (AOp.loadAgg rfl ag_26 rfl rfl) ?_
  refine AOps.step rfl rfl rfl (AOp.loadAgg rfl ag_28 rfl rfl) ?_
  refine AOps.mD rfl rfl rfl rfl rfl ?_
  refine AOps.step rfl rfl rfl (AOp.call rfl (.cons (ArgOk.rfl' rfl) (.cons (ArgOk.rfl' rfl) (.cons (ArgOk.rfl' rfl) .nil))) (c_pLacks (applyV v (planR v p day) day) p day hsw)) ?_
  rw [hdw]
  refine AOps.mD rfl rfl rfl rfl rfl ?_
  refine AOps.step rfl rfl rfl (AOp.extract rfl rfl rfl) ?_
  refine AOps.step rfl rfl rfl (AOp.extract rfl rfl rfl) ?_
  refine AOps.aD rfl rfl rfl rfl rfl ?_
  refine AOps.aD rfl rfl rfl rfl rfl (.nil ?_)
  refine AWP.seq ?_
  refine AWP.seq (AWP.region ?_)
  refine AOps.mD rfl rfl rfl rfl rfl ?_
  refine AOps.step rfl rfl rfl (AOp.neq rfl rfl rfl) ?_
  refine AOps.mD rfl rfl rfl rfl rfl ?_
  refine AOps.split 73 rfl (fun g5 => ?_) (fun g5 => ?_)
  · replace g5 := of_decide_eq_true g5
    exact absurd rfl g5
  replace g5 := of_decide_eq_false g5
  refine AOps.step ⟨73, rfl, .inl ⟨_, rfl, rfl⟩⟩ rfl rfl (AOp.moveD rfl rfl) ?_
  refine AOps.step ⟨73, rfl, .inl ⟨_, rfl, rfl⟩⟩ rfl rfl (AOp.neq rfl rfl rfl) ?_
  refine AOps.step rfl rfl rfl (AOp.pickF rfl rfl rfl) ?_
  refine AOps.mD rfl rfl rfl rfl rfl ?_
  refine AOps.split 77 rfl (fun g6 => ?_) (fun g6 => ?_)
  · replace g6 := of_decide_eq_true g6
    exact absurd rfl g6
  replace g6 := of_decide_eq_false g6
  refine AOps.step ⟨77, rfl, .inl ⟨_, rfl, rfl⟩⟩ rfl rfl (AOp.moveD rfl rfl) ?_
  refine AOps.step ⟨77, rfl, .inl ⟨_, rfl, rfl⟩⟩ rfl rfl (AOp.lenSl rfl et_62.ht rfl) ?_
  refine AOps.step ⟨77, rfl, .inl ⟨_, rfl, rfl⟩⟩ rfl rfl (AOp.neq rfl rfl rfl) ?_
  refine AOps.step rfl rfl rfl (AOp.pickF rfl rfl rfl) (.nil ?_)
  refine AWP.cond rfl (fun h7 => ?_) (fun h7 => ?_)
  · replace h7 := of_decide_eq_true h7
    exact absurd rfl h7
  replace h7 := of_decide_eq_false h7
  refine AWP.skip ?_
  refine AWP.seq ?_
  refine AWP.seq (AWP.region ?_)
  refine AOps.mD rfl rfl rfl rfl rfl ?_
  refine AOps.step rfl rfl rfl (AOp.lenSl rfl et_34.ht rfl) ?_
  refine AOps.mD rfl rfl rfl rfl rfl (.nil ?_)
  refine AWP.block ?_
  refine AWP.loop (G := Nat) (fun k => Env.of [(84, .d (.v (.int .i64 (k : Int)))), (82, .d (.sl ((lacksR (applyV v (planR v p day) day) p day).map Lck.ds))), (83, .d (.v (.int .i64 (((lacksR (applyV v (planR v p day) day) p day).map Lck.ds).length : Int)))), (9, .d (.sl ((lacksR v p day).map Lck.ds)))]) (fun k => []) (fun k => k ≤ (lacksR (applyV v (planR v p day) day) p day).length) (fun k => (lacksR (applyV v (planR v p day) day) p day).length - k) 0 (Nat.zero_le _) (Sub.less ⟨(SLe.of_eq rfl), SLe.refl _, SLe.refl _, SLe.refl _, trivial⟩ (fun _ h => h)) ?_
  intro k hk
  refine AWP.seq (AWP.region ?_)
  refine AOps.step rfl rfl rfl (AOp.lss rfl rfl rfl) (.nil ?_)
  refine AWP.seq ?_
  refine AWP.cond rfl (fun h8 => ?_) (fun h8 => ?_)
  · replace h8 := of_decide_eq_true h8
    rw [List.length_map] at h8
    have hlt : k < (lacksR (applyV v (planR v p day) day) p day).length := by omega
    refine AWP.skip ?_
    refine AWP.seq ?_
    refine AWP.block ?_
    refine AWP.seq (AWP.region ?_)
    refine AOps.step rfl rfl rfl (AOp.indexAddr rfl et_34 rfl rfl k rfl (at_list hlt) rfl) ?_
    refine AOps.step rfl rfl rfl (AOp.loadAgg rfl ag_39 rfl rfl) ?_
    refine AOps.alloc 102 rfl rfl rfl rfl zt_39 rfl rfl rfl ?_
    refine AOps.store rfl rfl rfl sz_39 rfl (.head _) rfl rfl rfl (Nat.le_of_ble_eq_true rfl) ?_
    refine AOps.freezeCells 15 (ds := (lacksR (applyV v (planR v p day) day) p day)[k].ds) rfl (.head _) (.nil ?_)
    refine AWP.seq (AWP.region ?_)
    refine AOps.step rfl rfl rfl (AOp.fieldAddr rfl fo_39_1 rfl) ?_
    refine AOps.step rfl rfl rfl (AOp.load rfl sc_9 rfl) ?_
    refine AOps.step rfl rfl rfl (AOp.seql rfl rfl rfl) ?_
    refine AOps.mD rfl rfl rfl rfl rfl ?_
    refine AOps.split 91 rfl (fun g9 => ?_) (fun g9 => ?_)
    · replace g9 := of_decide_eq_true g9
      have hcy := g9
      refine AOps.step ⟨91, rfl, .inl ⟨_, rfl, rfl⟩⟩ rfl rfl (AOp.moveD rfl rfl) ?_
      refine AOps.step ⟨91, rfl, .inl ⟨_, rfl, rfl⟩⟩ rfl rfl (AOp.fieldAddr rfl fo_39_0 rfl) ?_
      refine AOps.step ⟨91, rfl, .inl ⟨_, rfl, rfl⟩⟩ rfl rfl (AOp.load rfl sc_9 rfl) ?_
      refine AOps.step ⟨91, rfl, .inl ⟨_, rfl, rfl⟩⟩ rfl rfl (AOp.fieldAddr rfl fo_39_2 rfl) ?_
      refine AOps.step ⟨91, rfl, .inl ⟨_, rfl, rfl⟩⟩ rfl rfl (AOp.load rfl sc_3 rfl) ?_
      refine AOps.step ⟨91, rfl, .inl ⟨_, rfl, rfl⟩⟩ rfl rfl (AOp.call rfl (.cons (ArgOk.rfl' rfl) (.cons (ArgOk.rfl' rfl) (.cons (ArgOk.rfl' rfl) .nil))) (c_lacksWhat (lacksR v p day) _ _ hll)) ?_
      refine AOps.step ⟨91, rfl, .inl ⟨_, rfl, rfl⟩⟩ rfl rfl (AOp.not rfl rfl) ?_
      refine AOps.step rfl rfl rfl (AOp.pickT rfl rfl rfl) (.nil ?_)
      refine AWP.cond rfl (fun h10 => ?_) (fun h10 => ?_)
      · replace h10 := bnot_t h10
        obtain ⟨z, hz, z1, z2⟩ := hlw _ (List.getElem_mem hlt) hcy
        obtain ⟨j, hj, rfl⟩ := List.mem_iff_getElem.1 hz
        rw [hasLk_at hj z1 z2] at h10
        cases h10
      replace h10 := bnot_f h10
      refine AWP.skip ?_
      refine AWP.region ?_
      refine AOps.step rfl rfl rfl (AOp.add64 rfl rfl rfl (by omega) (by omega)) ?_
      refine AOps.mD rfl rfl rfl rfl rfl (.nil ?_)
      refine ⟨k + 1, (by omega), (by dsimp only; omega), Sub.less ⟨(SLe.of_eq rfl), SLe.refl _, SLe.refl _, SLe.refl _, trivial⟩ (fun _ h => by cases h)⟩
    replace g9 := of_decide_eq_false g9
    refine AOps.pass ⟨91, rfl, .inl ⟨_, rfl, rfl⟩⟩ rfl rfl ?_
    refine AOps.pass ⟨91, rfl, .inl ⟨_, rfl, rfl⟩⟩ rfl rfl ?_
    refine AOps.pass ⟨91, rfl, .inl ⟨_, rfl, rfl⟩⟩ rfl rfl ?_
    refine AOps.pass ⟨91, rfl, .inl ⟨_, rfl, rfl⟩⟩ rfl rfl ?_
    refine AOps.pass ⟨91, rfl, .inl ⟨_, rfl, rfl⟩⟩ rfl rfl ?_
    refine AOps.pass ⟨91, rfl, .inl ⟨_, rfl, rfl⟩⟩ rfl rfl ?_
    refine AOps.pass ⟨91, rfl, .inl ⟨_, rfl, rfl⟩⟩ rfl rfl ?_
    refine AOps.step rfl rfl rfl (AOp.pickF rfl rfl rfl) (.nil ?_)
    refine AWP.cond rfl (fun h => nomatch h) (fun _ => ?_)
    refine AWP.skip ?_
    refine AWP.region ?_
    refine AOps.step rfl rfl rfl (AOp.add64 rfl rfl rfl (by omega) (by omega)) ?_
    refine AOps.mD rfl rfl rfl rfl rfl (.nil ?_)
    refine ⟨k + 1, (by omega), (by dsimp only; omega), Sub.less ⟨(SLe.of_eq rfl), SLe.refl _, SLe.refl _, SLe.refl _, trivial⟩ (fun _ h => by cases h)⟩
  replace h8 := of_decide_eq_false h8
  rw [List.length_map] at h8
  obtain rfl : k = (lacksR (applyV v (planR v p day) day) p day).length := by omega
  refine AWP.exit ?_
  refine AWP.seq (AWP.region ?_)
  refine AOps.aD rfl rfl rfl rfl rfl (.nil ?_)
  refine AWP.ret ?_
  refine ⟨RetD.eq rfl ?_, trivial⟩
  all_goals (first | rfl | simp)

end Go.Proofs.YtieccphckobhjaaDoor
