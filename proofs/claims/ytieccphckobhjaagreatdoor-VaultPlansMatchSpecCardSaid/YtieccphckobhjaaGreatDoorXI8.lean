/- Walks and laws over abstract values, merged by tools/merge.py. No statement of the seat. -/
import Derived.Shelf.Spec.SlicesInsertGrow
import Derived.Deep.RegionLaw
import Derived.Laws.NewBlocks
import Derived.Test.YtieccphckobhjaaGreatDoorXI7

namespace Go.Proofs.YtieccphckobhjaaGreatDoor
open Go.RowKit
set_option linter.unusedVariables false

/-! Types. -/
namespace TyL2
theorem ag_26 : AggT Tryz.prog 26 3 := .of (by kernel_rfl)
theorem ag_28 : AggT Tryz.prog 28 6 := .of (by kernel_rfl)
theorem ag_59 : AggT Tryz.prog 59 5 := .of (by kernel_rfl)
theorem ag_65 : AggT Tryz.prog 65 7 := .of (by kernel_rfl)
theorem ag_70 : AggT Tryz.prog 70 3 := .of (by kernel_rfl)
theorem bu_70 : StructT Tryz.prog 70 (fun i => (#[(0, 1), (1, 1), (2, 1)] : Array (Nat × Nat))[i]?) [(.int .i64 0), (.int .i64 0), (.int .i64 0)] := .of (by kernel_rfl) (by kernel_rfl) (by decide)
theorem et_159 : ElemTy Tryz.prog 159 9 1 16 (.string ⟨#[]⟩) := ⟨by kernel_rfl, by kernel_rfl, by kernel_rfl, by decide⟩
theorem et_23 : ElemTy Tryz.prog 23 59 5 64 (.agg #[(.string ⟨#[]⟩), (.string ⟨#[]⟩), (.string ⟨#[]⟩), (.int .i64 0), (.int .i64 0)]) := ⟨by kernel_rfl, by kernel_rfl, by kernel_rfl, by decide⟩
theorem et_24 : ElemTy Tryz.prog 24 65 7 96 (.agg #[(.string ⟨#[]⟩), (.string ⟨#[]⟩), (.string ⟨#[]⟩), (.int .i64 0), (.int .i64 0), (.int .i64 0), (.slice none 0 0)]) := ⟨by kernel_rfl, by kernel_rfl, by kernel_rfl, by decide⟩
theorem et_63 : ElemTy Tryz.prog 63 3 1 8 (.int .i64 0) := ⟨by kernel_rfl, by kernel_rfl, by kernel_rfl, by decide⟩
theorem fo_28_0 : fieldOff Tryz.prog 28 0 = some 0 := by kernel_rfl
theorem fo_28_1 : fieldOff Tryz.prog 28 1 = some 1 := by kernel_rfl
theorem fo_28_2 : fieldOff Tryz.prog 28 2 = some 2 := by kernel_rfl
theorem fo_28_5 : fieldOff Tryz.prog 28 5 = some 5 := by kernel_rfl
theorem fo_59_1 : fieldOff Tryz.prog 59 1 = some 1 := by kernel_rfl
theorem fo_59_2 : fieldOff Tryz.prog 59 2 = some 2 := by kernel_rfl
theorem fo_65_1 : fieldOff Tryz.prog 65 1 = some 1 := by kernel_rfl
theorem fo_65_5 : fieldOff Tryz.prog 65 5 = some 5 := by kernel_rfl
theorem fo_65_6 : fieldOff Tryz.prog 65 6 = some 6 := by kernel_rfl
theorem fo_70_0 : fieldOff Tryz.prog 70 0 = some 0 := by kernel_rfl
theorem fo_70_1 : fieldOff Tryz.prog 70 1 = some 1 := by kernel_rfl
theorem fo_70_2 : fieldOff Tryz.prog 70 2 = some 2 := by kernel_rfl
theorem kk_9 : Tryz.prog.underlying 9 = some .string := by kernel_rfl
theorem mt_127 : Tryz.prog.underlying 127 = some (.map 9 4) := by kernel_rfl
theorem sc_3 : Scal Tryz.prog 3 := .of (by kernel_rfl)
theorem sc_63 : Scal Tryz.prog 63 := .of (by kernel_rfl)
theorem sc_9 : Scal Tryz.prog 9 := .of (by kernel_rfl)
theorem sz_59 : ∀ w, (sizeOf 59).run Tryz.prog w = .ok 5 w := SizeT.of (by kernel_rfl)
theorem sz_65 : ∀ w, (sizeOf 65).run Tryz.prog w = .ok 7 w := SizeT.of (by kernel_rfl)
theorem sz_70 : ∀ w, (sizeOf 70).run Tryz.prog w = .ok 3 w := SizeT.of (by kernel_rfl)
theorem zt_59 : (Tryz.prog.info? 59).bind (·.zero) = some (.agg #[(.string ⟨#[]⟩), (.string ⟨#[]⟩), (.string ⟨#[]⟩), (.int .i64 0), (.int .i64 0)]) := by kernel_rfl
theorem zt_65 : (Tryz.prog.info? 65).bind (·.zero) = some (.agg #[(.string ⟨#[]⟩), (.string ⟨#[]⟩), (.string ⟨#[]⟩), (.int .i64 0), (.int .i64 0), (.int .i64 0), (.slice none 0 0)]) := by kernel_rfl
theorem zt_70 : (Tryz.prog.info? 70).bind (·.zero) = some (.agg #[(.int .i64 0), (.int .i64 0), (.int .i64 0)]) := by kernel_rfl
end TyL2
open TyL2


theorem idxBy_mem {α : Type} {p : α → Bool} {l : List α} : 0 ≤ idxBy p l ↔ ∃ x ∈ l, p x = true := by
  constructor
  · intro h
    obtain ⟨k, hk, _, hp⟩ := idxBy_some h
    exact ⟨_, List.getElem_mem hk, hp⟩
  · rintro ⟨x, hx, hp⟩
    unfold idxBy
    rw [if_pos (List.any_eq_true.2 ⟨x, hx, hp⟩)]
    omega
theorem idx_str {l : List ByteArray} {s : ByteArray} : idxBy (fun x => decide (s = x)) l ≥ 0 ↔ s ∈ l := by
  rw [ge_iff_le, idxBy_mem]
  constructor
  · rintro ⟨x, hx, hp⟩
    rw [of_decide_eq_true hp]; exact hx
  · exact fun h => ⟨s, h, decide_eq_true rfl⟩
theorem place_next {l : List Carr} {k : Nat} (hk : k < l.length) : uniq ((l.take (k + 1)).map Carr.place) = addS (uniq ((l.take k).map Carr.place)) l[k].place := by rw [take_snoc_map Carr.place hk, uniq_snoc]
theorem kind_next {l : List Carr} {k : Nat} (hk : k < l.length) : uniq ((l.take (k + 1)).map Carr.kind) = addS (uniq ((l.take k).map Carr.kind)) l[k].kind := by rw [take_snoc_map Carr.kind hk, uniq_snoc]
theorem row_map2 {i j k2 : Nat} {A A' B B' : List (Value × D)} {o : Ob} {τ : Obs} (h1 : A = A') (h2 : B = B') : ∀ p ∈ [(i, Ob.map A'), (j, Ob.map B'), (k2, o)], p ∈ (i, Ob.map A) :: (j, Ob.map B) :: (k2, o) :: τ := fun p hp => by
  subst h1; subst h2
  rcases List.mem_cons.1 hp with rfl | hp
  · exact .head _
  · rcases List.mem_cons.1 hp with rfl | hp
    · exact .tail _ (.head _)
    · rw [List.mem_singleton] at hp; subst hp; exact .tail _ (.tail _ (.head _))
theorem uniqP_len (l : List Carr) : (uniq (l.map Carr.place)).length ≤ l.length := by have := uniq_len (l.map Carr.place); simpa using this
theorem uniqK_len (l : List Carr) : (uniq (l.map Carr.kind)).length ≤ l.length := by have := uniq_len (l.map Carr.kind); simpa using this
theorem setM_len (l : List ByteArray) : (setM l).length = l.length := by unfold setM; simp
set_option maxRecDepth 100000 in
set_option maxHeartbeats 1000000 in
theorem c_good (v : Vlt) (c : Cpy) (p : Pol) (day : Int) (vo : VOk v) (hc : 0 ≤ carrIdx v c.carrier) (hd : 0 ≤ day ∧ day ≤ 200000) : ACall Tryz.prog 77 [.agg v.ds, .agg c.ds, .agg p.ds, .v (.int .i64 day)] (.v (.bool (goodB v p day c))) := by
  refine acall_of (n := 30) (ds' := [.v (.bool (goodB v p day c))]) Tryz.func77 rfl (by kernel_rfl) rfl [8] rfl rfl ?_
  intro B w0 F0 fr
  have hcb := vo.carr (carrAt_mem hc)
  refine AWP.seq (AWP.region ?_)
  refine AOps.step rfl rfl rfl (AOp.box rfl rfl rfl) ?_
  refine AOps.step rfl rfl rfl (AOp.box rfl rfl rfl) ?_
  refine AOps.step rfl rfl rfl (AOp.box rfl rfl rfl) ?_
  refine AOps.aD rfl rfl rfl rfl rfl (.nil ?_)
  refine AWP.seq ?_
  refine AWP.draw (by kernel_rfl) (by kernel_rfl) ?_
  refine DRun.step rfl rfl rfl (AOp.fieldAddr rfl fo_65_6 rfl) ?_
  refine DRun.step rfl rfl rfl (AOp.load rfl sc_63 rfl) ?_
  refine DRun.step rfl rfl rfl (AOp.lenSl rfl et_63.ht rfl) ?_
  refine DRun.step rfl rfl rfl (AOp.eql rfl rfl rfl) ?_
  refine DRun.step rfl rfl rfl (AOp.moveD rfl rfl) ?_
  refine DRun.split 13 rfl (fun g1 => ?_) (fun g1 => ?_)
  · replace g1 := of_decide_eq_true g1
    rw [List.length_map] at g1
    have hA := g1
    refine DRun.step ⟨13, rfl, .inl ⟨_, rfl, rfl⟩⟩ rfl rfl (AOp.fieldAddr rfl fo_65_5 rfl) ?_
    refine DRun.step ⟨13, rfl, .inl ⟨_, rfl, rfl⟩⟩ rfl rfl (AOp.load rfl sc_3 rfl) ?_
    refine DRun.step ⟨13, rfl, .inl ⟨_, rfl, rfl⟩⟩ rfl rfl (AOp.fieldAddr rfl fo_28_5 rfl) ?_
    refine DRun.step ⟨13, rfl, .inl ⟨_, rfl, rfl⟩⟩ rfl rfl (AOp.load rfl sc_3 rfl) ?_
    refine DRun.step ⟨13, rfl, .inl ⟨_, rfl, rfl⟩⟩ rfl rfl (AOp.leq rfl rfl rfl) ?_
    refine DRun.step rfl rfl rfl (AOp.pickT rfl rfl rfl) ?_
    refine DRun.step rfl rfl rfl (AOp.moveD rfl rfl) ?_
    refine DRun.split 20 rfl (fun g2 => ?_) (fun g2 => ?_)
    · replace g2 := of_decide_eq_true g2
      have HG : goodB v p day c = !oldB p day (carrAt v c.carrier) := by unfold goodB; rw [decide_eq_true hA, decide_eq_true g2]; rfl
      rw [HG]
      refine DRun.step ⟨20, rfl, .inl ⟨_, rfl, rfl⟩⟩ rfl rfl (AOp.loadAgg rfl ag_26 rfl rfl) ?_
      refine DRun.step ⟨20, rfl, .inl ⟨_, rfl, rfl⟩⟩ rfl rfl (AOp.fieldAddr rfl fo_65_1 rfl) ?_
      refine DRun.step ⟨20, rfl, .inl ⟨_, rfl, rfl⟩⟩ rfl rfl (AOp.load rfl sc_9 rfl) ?_
      refine DRun.step ⟨20, rfl, .inl ⟨_, rfl, rfl⟩⟩ rfl rfl (AOp.call rfl (.cons (ArgOk.rfl' rfl) (.cons (ArgOk.rfl' rfl) .nil)) (c_carrier v _ hc)) ?_
      refine DRun.step ⟨20, rfl, .inl ⟨_, rfl, rfl⟩⟩ rfl rfl (AOp.loadAgg rfl ag_28 rfl rfl) ?_
      refine DRun.step ⟨20, rfl, .inl ⟨_, rfl, rfl⟩⟩ rfl rfl (AOp.moveD rfl rfl) ?_
      refine DRun.step ⟨20, rfl, .inl ⟨_, rfl, rfl⟩⟩ rfl rfl (AOp.call rfl (.cons (ArgOk.rfl' rfl) (.cons (ArgOk.rfl' rfl) (.cons (ArgOk.rfl' rfl) .nil))) (c_old _ p day hcb.2.1 (by omega))) ?_
      refine DRun.step ⟨20, rfl, .inl ⟨_, rfl, rfl⟩⟩ rfl rfl (AOp.not rfl rfl) ?_
      refine DRun.step rfl rfl rfl (AOp.pickT rfl rfl rfl) ?_
      refine DRun.step rfl rfl rfl (AOp.assignD rfl rfl) ?_
      refine DRun.nil ?_
      refine AWP.ret ?_
      refine ⟨RetD.eq rfl ?_, trivial⟩
      all_goals (rfl)
    replace g2 := of_decide_eq_false g2
    have HG : goodB v p day c = false := by unfold goodB; rw [decide_eq_true hA, decide_eq_false g2]; rfl
    rw [HG]
    refine DRun.pass ⟨20, rfl, .inl ⟨_, rfl, rfl⟩⟩ rfl rfl ?_
    refine DRun.pass ⟨20, rfl, .inl ⟨_, rfl, rfl⟩⟩ rfl rfl ?_
    refine DRun.pass ⟨20, rfl, .inl ⟨_, rfl, rfl⟩⟩ rfl rfl ?_
    refine DRun.pass ⟨20, rfl, .inl ⟨_, rfl, rfl⟩⟩ rfl rfl ?_
    refine DRun.pass ⟨20, rfl, .inl ⟨_, rfl, rfl⟩⟩ rfl rfl ?_
    refine DRun.pass ⟨20, rfl, .inl ⟨_, rfl, rfl⟩⟩ rfl rfl ?_
    refine DRun.pass ⟨20, rfl, .inl ⟨_, rfl, rfl⟩⟩ rfl rfl ?_
    refine DRun.pass ⟨20, rfl, .inl ⟨_, rfl, rfl⟩⟩ rfl rfl ?_
    refine DRun.step rfl rfl rfl (AOp.pickF rfl rfl rfl) ?_
    refine DRun.step rfl rfl rfl (AOp.assignD rfl rfl) ?_
    refine DRun.nil ?_
    refine AWP.ret ?_
    refine ⟨RetD.eq rfl ?_, trivial⟩
    all_goals (rfl)
  replace g1 := of_decide_eq_false g1
  rw [List.length_map] at g1
  have HG : goodB v p day c = false := by unfold goodB; rw [decide_eq_false g1]; rfl
  rw [HG]
  refine DRun.pass ⟨13, rfl, .inl ⟨_, rfl, rfl⟩⟩ rfl rfl ?_
  refine DRun.pass ⟨13, rfl, .inl ⟨_, rfl, rfl⟩⟩ rfl rfl ?_
  refine DRun.pass ⟨13, rfl, .inl ⟨_, rfl, rfl⟩⟩ rfl rfl ?_
  refine DRun.pass ⟨13, rfl, .inl ⟨_, rfl, rfl⟩⟩ rfl rfl ?_
  refine DRun.pass ⟨13, rfl, .inl ⟨_, rfl, rfl⟩⟩ rfl rfl ?_
  refine DRun.step rfl rfl rfl (AOp.pickF rfl rfl rfl) ?_
  refine DRun.step rfl rfl rfl (AOp.moveD rfl rfl) ?_
  refine DRun.pass ⟨20, rfl, .inl ⟨_, rfl, rfl⟩⟩ rfl rfl ?_
  refine DRun.pass ⟨20, rfl, .inl ⟨_, rfl, rfl⟩⟩ rfl rfl ?_
  refine DRun.pass ⟨20, rfl, .inl ⟨_, rfl, rfl⟩⟩ rfl rfl ?_
  refine DRun.pass ⟨20, rfl, .inl ⟨_, rfl, rfl⟩⟩ rfl rfl ?_
  refine DRun.pass ⟨20, rfl, .inl ⟨_, rfl, rfl⟩⟩ rfl rfl ?_
  refine DRun.pass ⟨20, rfl, .inl ⟨_, rfl, rfl⟩⟩ rfl rfl ?_
  refine DRun.pass ⟨20, rfl, .inl ⟨_, rfl, rfl⟩⟩ rfl rfl ?_
  refine DRun.pass ⟨20, rfl, .inl ⟨_, rfl, rfl⟩⟩ rfl rfl ?_
  refine DRun.step rfl rfl rfl (AOp.pickF rfl rfl rfl) ?_
  refine DRun.step rfl rfl rfl (AOp.assignD rfl rfl) ?_
  refine DRun.nil ?_
  refine AWP.ret ?_
  refine ⟨RetD.eq rfl ?_, trivial⟩
  all_goals (rfl)

set_option maxRecDepth 100000 in
set_option maxHeartbeats 1000000 in
theorem c_goodOnes (v : Vlt) (it : ByteArray) (p : Pol) (day : Int) (vo : VOk v) (po : POk p) (hd : 0 ≤ day ∧ day ≤ 200000) : ACall Tryz.prog 22 [.agg v.ds, .v (.string it), .agg p.ds, .v (.int .i64 day)] (.sl ((goodOnes v it p day).map Carr.ds)) := by
  refine acall_of (n := 34) (ds' := [.sl ((goodOnes v it p day).map Carr.ds)]) Tryz.func22 rfl (by kernel_rfl) rfl [8] rfl rfl ?_
  intro B w0 F0 fr
  have hnp := vo.np
  have hol := copiesOf_len v it
  refine AWP.seq (AWP.region ?_)
  refine AOps.step rfl rfl rfl (AOp.box rfl rfl rfl) ?_
  refine AOps.step rfl rfl rfl (AOp.box rfl rfl rfl) ?_
  refine AOps.aD rfl rfl rfl rfl rfl (.nil ?_)
  refine AWP.seq (AWP.region ?_)
  refine AOps.aD rfl rfl rfl rfl rfl (.nil ?_)
  refine AWP.seq ?_
  refine AWP.seq (AWP.region ?_)
  refine AOps.step rfl rfl rfl (AOp.loadAgg rfl ag_26 rfl rfl) ?_
  refine AOps.mD rfl rfl rfl rfl rfl ?_
  refine AOps.step rfl rfl rfl (AOp.call rfl (.cons (ArgOk.rfl' rfl) (.cons (ArgOk.rfl' rfl) .nil)) (c_copiesOf v it vo.np)) ?_
  refine AOps.step rfl rfl rfl (AOp.lenSl rfl et_24.ht rfl) ?_
  refine AOps.mD rfl rfl rfl rfl rfl (.nil ?_)
  refine AWP.block ?_
  refine AWP.adopt 9 1 59 5 rfl rfl ?_
  refine AWP.loop (G := Nat) (fun k => Env.of [(16, .d (.v (.int .i64 (k : Int)))), (14, .d (.sl ((copiesOf v it).map Cpy.ds))), (15, .d (.v (.int .i64 (((copiesOf v it).map Cpy.ds).length : Int)))), (4, .d (.fp v.ds)), (6, .d (.fp p.ds)), (3, .d (.v (.int .i64 day))), (9, .own 1)]) (fun k => [(1, .row 59 5 ((goodTo v it p day k).map Carr.ds))]) (fun k => k ≤ (copiesOf v it).length) (fun k => (copiesOf v it).length - k) 0 (Nat.zero_le _) (Sub.less ⟨(SLe.of_eq rfl), SLe.refl _, SLe.refl _, SLe.refl _, SLe.refl _, SLe.refl _, SLe.refl _, trivial⟩ (row_same rfl)) ?_
  intro k hk
  refine AWP.seq (AWP.region ?_)
  refine AOps.step rfl rfl rfl (AOp.lss rfl rfl rfl) (.nil ?_)
  refine AWP.seq ?_
  refine AWP.cond rfl (fun h1 => ?_) (fun h1 => ?_)
  · replace h1 := of_decide_eq_true h1
    rw [List.length_map] at h1
    have hlt : k < (copiesOf v it).length := by omega
    have hcl := goodTo_len v it p day k
    have hco := vo.cpy _ (copiesOf_mem (List.getElem_mem hlt)).1
    refine AWP.skip ?_
    refine AWP.seq ?_
    refine AWP.block ?_
    refine AWP.seq (AWP.region ?_)
    refine AOps.step rfl rfl rfl (AOp.indexAddr rfl et_24 rfl rfl k rfl (at_list hlt) rfl) ?_
    refine AOps.step rfl rfl rfl (AOp.loadAgg rfl ag_65 rfl rfl) ?_
    refine AOps.alloc 101 rfl rfl rfl rfl zt_65 rfl rfl rfl ?_
    refine AOps.store rfl rfl rfl sz_65 rfl (.head _) rfl rfl rfl (Nat.le_of_ble_eq_true rfl) ?_
    refine AOps.freezeCells 11 (ds := (copiesOf v it)[k].ds) rfl (.head _) (.nil ?_)
    refine AWP.seq (AWP.region ?_)
    refine AOps.step rfl rfl rfl (AOp.loadAgg rfl ag_26 rfl rfl) ?_
    refine AOps.step rfl rfl rfl (AOp.loadAgg rfl ag_65 rfl rfl) ?_
    refine AOps.step rfl rfl rfl (AOp.loadAgg rfl ag_28 rfl rfl) ?_
    refine AOps.mD rfl rfl rfl rfl rfl ?_
    refine AOps.step rfl rfl rfl (AOp.call rfl (.cons (ArgOk.rfl' rfl) (.cons (ArgOk.rfl' rfl) (.cons (ArgOk.rfl' rfl) (.cons (ArgOk.rfl' rfl) .nil)))) (c_good v _ p day vo hco.carr hd)) (.nil ?_)
    refine AWP.cond rfl (fun h2 => ?_) (fun h2 => ?_)
    · skip
      have HY := goodTo_yes hlt h2
      refine AWP.region ?_
      refine AOps.step rfl rfl rfl (AOp.moveO rfl rfl) ?_
      refine AOps.step rfl rfl rfl (AOp.loadAgg rfl ag_26 rfl rfl) ?_
      refine AOps.step rfl rfl rfl (AOp.fieldAddr rfl fo_65_1 rfl) ?_
      refine AOps.step rfl rfl rfl (AOp.load rfl sc_9 rfl) ?_
      refine AOps.step rfl rfl rfl (AOp.call rfl (.cons (ArgOk.rfl' rfl) (.cons (ArgOk.rfl' rfl) .nil)) (c_carrier v _ hco.carr)) ?_
      refine AOps.step rfl rfl rfl (AOp.buildSlice rfl et_23 (.cons rfl rfl rfl .nil) rfl (by decide)) ?_
      -- append 31
      refine AOps.append rfl rfl rfl rfl et_23 rfl (.head _) rfl (by simp [D.parts]; rfl) (by simp; omega) (by simp; omega) ?_
      refine AOps.step rfl rfl rfl (AOp.assignO rfl rfl) (.nil ?_)
      refine AWP.region ?_
      refine AOps.step rfl rfl rfl (AOp.add64 rfl rfl rfl (by omega) (by omega)) ?_
      refine AOps.mD rfl rfl rfl rfl rfl (.nil ?_)
      refine ⟨k + 1, (by omega), (by dsimp only; omega), Sub.less ⟨(SLe.of_eq rfl), SLe.refl _, SLe.refl _, SLe.refl _, SLe.refl _, SLe.refl _, SLe.refl _, trivial⟩ (row_same (by rw [HY, List.map_append]; rfl))⟩
    have HY := goodTo_no hlt h2
    refine AWP.skip ?_
    refine AWP.region ?_
    refine AOps.step rfl rfl rfl (AOp.add64 rfl rfl rfl (by omega) (by omega)) ?_
    refine AOps.mD rfl rfl rfl rfl rfl (.nil ?_)
    refine ⟨k + 1, (by omega), (by dsimp only; omega), Sub.less ⟨(SLe.of_eq rfl), SLe.refl _, SLe.refl _, SLe.refl _, SLe.refl _, SLe.refl _, SLe.refl _, trivial⟩ (row_same (by rw [HY]))⟩
  replace h1 := of_decide_eq_false h1
  rw [List.length_map] at h1
  obtain rfl : k = (copiesOf v it).length := by omega
  have HE := goodTo_all v it p day
  refine AWP.exit ?_
  refine AWP.seq (AWP.region ?_)
  refine AOps.step rfl rfl rfl (AOp.moveO rfl rfl) ?_
  refine AOps.step rfl rfl rfl (AOp.assignO rfl rfl) (.nil ?_)
  refine AWP.ret ?_
  refine ⟨RetD.own rfl (.head _) ?_, trivial⟩
  all_goals (rw [HE])

set_option maxRecDepth 100000 in
set_option maxHeartbeats 1000000 in
theorem c_spreadOf (l : List Carr) (hl : l.length ≤ 1000) : ACall Tryz.prog 23 [.sl (l.map Carr.ds)] (.agg (spreadDs l)) := by
  refine acall_ofR (n := 29) (ds' := [.agg (spreadDs l)]) Tryz.func23 rfl (by kernel_rfl) rfl [.cell 2 70] rfl rfl ?_
  intro B w0 F0 fr
  refine AWP.seq (AWP.region ?_)
  refine AOps.alloc 101 rfl rfl rfl rfl zt_70 rfl rfl rfl (.nil ?_)
  refine AWP.seq (AWP.region ?_)
  refine AOps.makeMap 102 rfl rfl rfl rfl rfl ?_
  refine AOps.makeMap 103 rfl rfl rfl rfl rfl ?_
  refine AOps.step rfl rfl rfl (AOp.assignO rfl rfl) ?_
  refine AOps.step rfl rfl rfl (AOp.assignO rfl rfl) (.nil ?_)
  refine AWP.seq ?_
  refine AWP.seq (AWP.region ?_)
  refine AOps.mD rfl rfl rfl rfl rfl ?_
  refine AOps.step rfl rfl rfl (AOp.lenSl rfl et_23.ht rfl) ?_
  refine AOps.mD rfl rfl rfl rfl rfl (.nil ?_)
  refine AWP.block ?_
  refine AWP.loop (G := Nat) (fun k => Env.of [(11, .d (.v (.int .i64 (k : Int)))), (9, .d (.sl (l.map Carr.ds))), (10, .d (.v (.int .i64 ((l.map Carr.ds).length : Int)))), (0, .d (.sl (l.map Carr.ds))), (3, .own 102), (4, .own 103), (2, .ptr 101 0)]) (fun k => [(103, .map (setM (uniq ((l.take k).map Carr.kind)))), (102, .map (setM (uniq ((l.take k).map Carr.place)))), (101, .cells [.d (.v (.int .i64 0)), .d (.v (.int .i64 0)), .d (.v (.int .i64 0))])]) (fun k => k ≤ l.length) (fun k => l.length - k) 0 (Nat.zero_le _) (Sub.less ⟨(SLe.of_eq rfl), SLe.refl _, SLe.refl _, SLe.refl _, SLe.refl _, SLe.refl _, SLe.refl _, trivial⟩ (fun _ h => h)) ?_
  intro k hk
  refine AWP.seq (AWP.region ?_)
  refine AOps.step rfl rfl rfl (AOp.lss rfl rfl rfl) (.nil ?_)
  refine AWP.seq ?_
  refine AWP.cond rfl (fun h1 => ?_) (fun h1 => ?_)
  · replace h1 := of_decide_eq_true h1
    rw [List.length_map] at h1
    have hlt : k < l.length := by omega
    have hP := place_next hlt
    have hK := kind_next hlt
    refine AWP.skip ?_
    refine AWP.seq ?_
    refine AWP.block ?_
    refine AWP.seq (AWP.region ?_)
    refine AOps.step rfl rfl rfl (AOp.indexAddr rfl et_23 rfl rfl k rfl (at_list hlt) rfl) ?_
    refine AOps.step rfl rfl rfl (AOp.loadAgg rfl ag_59 rfl rfl) ?_
    refine AOps.alloc 104 rfl rfl rfl rfl zt_59 rfl rfl rfl ?_
    refine AOps.store rfl rfl rfl sz_59 rfl (.head _) rfl rfl rfl (Nat.le_of_ble_eq_true rfl) ?_
    refine AOps.freezeCells 6 (ds := l[k].ds) rfl (.head _) (.nil ?_)
    refine AWP.drawG (fun k => (Nat.beq k 6 || Nat.beq k 7) || (false)) (fun k => Nat.beq k 6 || Nat.beq k 7) (fun k h => Bool.or_eq_true_iff.2 (.inl h)) (by kernel_rfl) (by kernel_rfl) (by kernel_rfl) ?_
    refine GRun.step rfl rfl rfl (fun _ => AOp.moveO rfl rfl) ?_
    refine GRun.step rfl rfl rfl (fun _ => AOp.fieldAddr rfl fo_59_1 rfl) ?_
    refine GRun.step rfl rfl rfl (fun _ => AOp.load rfl sc_9 rfl) ?_
    refine GRun.step rfl rfl rfl (fun _ => AOp.moveO rfl rfl) ?_
    refine GRun.step rfl rfl rfl (fun _ => AOp.fieldAddr rfl fo_59_2 rfl) ?_
    refine GRun.step rfl rfl rfl (fun _ => AOp.load rfl sc_9 rfl) ?_
    refine GRun.eff rfl rfl rfl (EOp.mapUpdate rfl rfl mt_127 kk_9 rfl (.tail _ (.head _)) rfl rfl trivial setM_keys (setM_put (s := l[k].place) (uniq_nodup _))) ?_
    refine GRun.eff rfl rfl rfl (EOp.mapUpdate rfl rfl mt_127 kk_9 rfl (.head _) rfl rfl trivial setM_keys (setM_put (s := l[k].kind) (uniq_nodup _))) ?_
    refine GRun.nil ?_
    refine AWP.region ?_
    refine AOps.step rfl rfl rfl (AOp.add64 rfl rfl rfl (by omega) (by omega)) ?_
    refine AOps.mD rfl rfl rfl rfl rfl (.nil ?_)
    refine ⟨k + 1, (by omega), (by dsimp only; omega), Sub.less ⟨(SLe.of_eq rfl), SLe.refl _, SLe.refl _, SLe.refl _, SLe.refl _, SLe.refl _, SLe.refl _, trivial⟩ (row_map2 (by rw [hK]) (by rw [hP]))⟩
  replace h1 := of_decide_eq_false h1
  rw [List.length_map] at h1
  obtain rfl : k = l.length := by omega
  rw [List.take_length]
  refine AWP.exit ?_
  refine AWP.seq (AWP.region ?_)
  refine AOps.mD rfl rfl rfl rfl rfl ?_
  refine AOps.step rfl rfl rfl (AOp.lenSl rfl et_23.ht rfl) ?_
  refine AOps.step rfl rfl rfl (AOp.moveO rfl rfl) ?_
  refine AOps.step rfl rfl rfl (AOp.lenMap rfl mt_127 rfl (.tail _ (.head _))) ?_
  refine AOps.step rfl rfl rfl (AOp.moveO rfl rfl) ?_
  refine AOps.step rfl rfl rfl (AOp.lenMap rfl mt_127 rfl (.head _)) ?_
  refine AOps.step rfl rfl rfl (AOp.build rfl bu_70 (.cons rfl rfl (.cons rfl rfl (.cons rfl rfl .nil))) rfl) ?_
  refine AOps.store rfl rfl rfl sz_70 rfl (.tail _ (.tail _ (.head _))) rfl rfl rfl (Nat.le_of_ble_eq_true rfl) (.nil ?_)
  refine AWP.ret ?_
  refine ⟨RetR.agg rfl (.tail _ (.tail _ (.head _))) ag_70 rfl (.cons (by first | exact CellD.nil | exact CellD.d | exact CellD.eq (by first | (simp; done) | simp [setM_len]) | (refine CellD.own (by first | exact .head _ | exact .tail _ (.head _)) ?_; rfl)) (.cons (by first | exact CellD.nil | exact CellD.d | exact CellD.eq (by first | (simp; done) | simp [setM_len]) | (refine CellD.own (by first | exact .head _ | exact .tail _ (.head _)) ?_; rfl)) (.cons (by first | exact CellD.nil | exact CellD.d | exact CellD.eq (by first | (simp; done) | simp [setM_len]) | (refine CellD.own (by first | exact .head _ | exact .tail _ (.head _)) ?_; rfl)) .nil))), trivial⟩
  all_goals (rfl)

set_option maxRecDepth 100000 in
set_option maxHeartbeats 1000000 in
theorem c_lacking (l : List Carr) (p : Pol) (po : POk p) (hl : l.length ≤ 1000) : ACall Tryz.prog 78 [.agg (spreadDs l), .agg p.ds] (.tup [.v (.int .i64 (lackC p l)), .v (.int .i64 (lackP p l)), .v (.int .i64 (lackK p l))]) := by
  refine acall_of (n := 25) (ds' := [.v (.int .i64 (lackC p l)), .v (.int .i64 (lackP p l)), .v (.int .i64 (lackK p l))]) Tryz.func78 rfl (by kernel_rfl) rfl [4, 5, 6] rfl rfl ?_
  intro B w0 F0 fr
  have h1 := po.copies
  have h2 := po.places
  have h3 := po.kinds
  have h4 := uniqP_len l
  have h5 := uniqK_len l
  refine AWP.seq (AWP.region ?_)
  refine AOps.step rfl rfl rfl (AOp.box rfl rfl rfl) ?_
  refine AOps.step rfl rfl rfl (AOp.box rfl rfl rfl) ?_
  refine AOps.aD rfl rfl rfl rfl rfl ?_
  refine AOps.aD rfl rfl rfl rfl rfl ?_
  refine AOps.aD rfl rfl rfl rfl rfl (.nil ?_)
  refine AWP.seq ?_
  refine AWP.draw (by kernel_rfl) (by kernel_rfl) ?_
  refine DRun.step rfl rfl rfl (AOp.fieldAddr rfl fo_28_0 rfl) ?_
  refine DRun.step rfl rfl rfl (AOp.load rfl sc_3 rfl) ?_
  refine DRun.step rfl rfl rfl (AOp.fieldAddr rfl fo_70_0 rfl) ?_
  refine DRun.step rfl rfl rfl (AOp.load rfl sc_3 rfl) ?_
  refine DRun.step rfl rfl rfl (AOp.sub64 rfl rfl rfl (by omega) (by omega)) ?_
  refine DRun.step rfl rfl rfl (AOp.max rfl rfl rfl) ?_
  refine DRun.step rfl rfl rfl (AOp.fieldAddr rfl fo_28_1 rfl) ?_
  refine DRun.step rfl rfl rfl (AOp.load rfl sc_3 rfl) ?_
  refine DRun.step rfl rfl rfl (AOp.fieldAddr rfl fo_70_1 rfl) ?_
  refine DRun.step rfl rfl rfl (AOp.load rfl sc_3 rfl) ?_
  refine DRun.step rfl rfl rfl (AOp.sub64 rfl rfl rfl (by omega) (by omega)) ?_
  refine DRun.step rfl rfl rfl (AOp.max rfl rfl rfl) ?_
  refine DRun.step rfl rfl rfl (AOp.fieldAddr rfl fo_28_2 rfl) ?_
  refine DRun.step rfl rfl rfl (AOp.load rfl sc_3 rfl) ?_
  refine DRun.step rfl rfl rfl (AOp.fieldAddr rfl fo_70_2 rfl) ?_
  refine DRun.step rfl rfl rfl (AOp.load rfl sc_3 rfl) ?_
  refine DRun.step rfl rfl rfl (AOp.sub64 rfl rfl rfl (by omega) (by omega)) ?_
  refine DRun.step rfl rfl rfl (AOp.max rfl rfl rfl) ?_
  refine DRun.step rfl rfl rfl (AOp.assignD rfl rfl) ?_
  refine DRun.step rfl rfl rfl (AOp.assignD rfl rfl) ?_
  refine DRun.step rfl rfl rfl (AOp.assignD rfl rfl) ?_
  refine DRun.nil ?_
  refine AWP.ret ?_
  refine ⟨RetD.eq rfl ?_, RetD.eq rfl ?_, RetD.eq rfl ?_, trivial⟩
  all_goals (rfl)

set_option maxRecDepth 100000 in
set_option maxHeartbeats 1000000 in
theorem c_indexStr (l : List ByteArray) (s : ByteArray) : ACall Tryz.prog 172 [.sl (l.map strD), .v (.string s)] (.v (.int .i64 (idxBy (fun x => decide (s = x)) l))) := by
  refine acall_of (n := 19) (ds' := [.v (.int .i64 (idxBy (fun x => decide (s = x)) l))]) Tryz.func172 rfl (by kernel_rfl) rfl [4] rfl rfl ?_
  intro B w0 F0 fr
  refine AWP.bound 0 rfl (fun hbd0 => ?_)
  rw [List.length_map] at hbd0
  refine AWP.seq (AWP.region ?_)
  refine AOps.aD rfl rfl rfl rfl rfl (.nil ?_)
  refine AWP.seq ?_
  refine AWP.seq (AWP.region ?_)
  refine AOps.mD rfl rfl rfl rfl rfl ?_
  refine AOps.step rfl rfl rfl (AOp.lenSl rfl et_159.ht rfl) ?_
  refine AOps.mD rfl rfl rfl rfl rfl (.nil ?_)
  refine AWP.block ?_
  refine AWP.loop (G := Nat) (fun k => Env.of [(8, .d (.v (.int .i64 (k : Int)))), (0, .d (.sl (l.map strD))), (1, .d (.v (.string s))), (7, .d (.v (.int .i64 ((l.map strD).length : Int))))]) (fun k => []) (fun k => k ≤ l.length ∧ ∀ c ∈ l.take k, decide (s = c) = false) (fun k => l.length - k) 0 ⟨Nat.zero_le _, fun c h => by simp at h⟩ (Sub.less ⟨(SLe.of_eq rfl), SLe.refl _, SLe.refl _, SLe.refl _, trivial⟩ (fun _ h => h)) ?_
  intro k hk
  refine AWP.seq (AWP.region ?_)
  refine AOps.step rfl rfl rfl (AOp.lss rfl rfl rfl) (.nil ?_)
  refine AWP.seq ?_
  refine AWP.cond rfl (fun h1 => ?_) (fun h1 => ?_)
  · replace h1 := of_decide_eq_true h1
    rw [List.length_map] at h1
    have hlt : k < l.length := by omega
    refine AWP.skip ?_
    refine AWP.seq ?_
    refine AWP.block ?_
    refine AWP.seq (AWP.region ?_)
    refine AOps.mD rfl rfl rfl rfl rfl ?_
    refine AOps.aD rfl rfl rfl rfl rfl (.nil ?_)
    refine AWP.seq (AWP.region ?_)
    refine AOps.mD rfl rfl rfl rfl rfl ?_
    refine AOps.mD rfl rfl rfl rfl rfl ?_
    refine AOps.mD rfl rfl rfl rfl rfl ?_
    refine AOps.step rfl rfl rfl (AOp.indexAddr rfl et_159 rfl rfl k rfl (at_list hlt) rfl) ?_
    refine AOps.step rfl rfl rfl (AOp.load rfl sc_9 rfl) ?_
    refine AOps.step rfl rfl rfl (AOp.seql rfl rfl rfl) (.nil ?_)
    refine AWP.cond rfl (fun h2 => ?_) (fun h2 => ?_)
    · replace h2 := of_decide_eq_true h2
      rw [idxBy_yes hlt hk.2 (decide_eq_true h2)]
      refine AWP.seq (AWP.region ?_)
      refine AOps.mD rfl rfl rfl rfl rfl ?_
      refine AOps.aD rfl rfl rfl rfl rfl (.nil ?_)
      refine AWP.ret ?_
      refine ⟨RetD.eq rfl ?_, trivial⟩
      all_goals (rfl)
    replace h2 := of_decide_eq_false h2
    have hT := take_false' (p := fun x : ByteArray => decide (s = x)) hlt hk.2 (decide_eq_false h2)
    refine AWP.skip ?_
    refine AWP.region ?_
    refine AOps.step rfl rfl rfl (AOp.add64 rfl rfl rfl (by omega) (by omega)) ?_
    refine AOps.mD rfl rfl rfl rfl rfl (.nil ?_)
    refine ⟨k + 1, ⟨by omega, hT⟩, (by dsimp only; omega), Sub.less ⟨(SLe.of_eq rfl), SLe.refl _, SLe.refl _, SLe.refl _, trivial⟩ (fun _ h => h)⟩
  replace h1 := of_decide_eq_false h1
  rw [List.length_map] at h1
  obtain rfl : k = l.length := by omega
  rw [idxBy_no hk.2]
  refine AWP.exit ?_
  refine AWP.seq (AWP.region ?_)
  refine AOps.aD rfl rfl rfl rfl rfl (.nil ?_)
  refine AWP.ret ?_
  refine ⟨RetD.eq rfl ?_, trivial⟩
  all_goals (rfl)

set_option maxRecDepth 100000 in
set_option maxHeartbeats 1000000 in
theorem c_containsStr (l : List ByteArray) (s : ByteArray) : ACall Tryz.prog 140 [.sl (l.map strD), .v (.string s)] (.v (.bool (decide (s ∈ l)))) := by
  refine acall_of (n := 9) (ds' := [.v (.bool (decide (s ∈ l)))]) Tryz.func140 rfl (by kernel_rfl) rfl [4] rfl rfl ?_
  intro B w0 F0 fr
  refine AWP.seq (AWP.region ?_)
  refine AOps.aD rfl rfl rfl rfl rfl (.nil ?_)
  refine AWP.seq (AWP.region ?_)
  refine AOps.mD rfl rfl rfl rfl rfl ?_
  refine AOps.mD rfl rfl rfl rfl rfl ?_
  refine AOps.step rfl rfl rfl (AOp.call rfl (.cons (ArgOk.rfl' rfl) (.cons (ArgOk.rfl' rfl) .nil)) (c_indexStr _ _)) ?_
  refine AOps.step rfl rfl rfl (AOp.geq rfl rfl rfl) ?_
  refine AOps.aD rfl rfl rfl rfl rfl (.nil ?_)
  refine AWP.ret ?_
  refine ⟨RetD.eq rfl ?_, trivial⟩
  all_goals (rw [decide_eq_decide.2 idx_str])

set_option maxRecDepth 100000 in
set_option maxHeartbeats 1000000 in
theorem c_missing (l : List Carr) (p : Pol) (po : POk p) (hl : l.length ≤ 1000) : ACall Tryz.prog 115 [.sl (l.map Carr.ds), .agg p.ds] (.tup [.v (.int .i64 (lackC p l)), .v (.int .i64 (lackP p l)), .v (.int .i64 (lackK p l))]) := by
  refine acall_of (n := 56) (ds' := [.v (.int .i64 (lackC p l)), .v (.int .i64 (lackP p l)), .v (.int .i64 (lackK p l))]) Tryz.func115 rfl (by kernel_rfl) rfl [4, 5, 6] rfl rfl ?_
  intro B w0 F0 fr
  have h1 := po.copies
  have h2 := po.places
  have h3 := po.kinds
  have h4 := uniqP_len l
  have h5 := uniqK_len l
  refine AWP.seq (AWP.region ?_)
  refine AOps.step rfl rfl rfl (AOp.box rfl rfl rfl) ?_
  refine AOps.aD rfl rfl rfl rfl rfl ?_
  refine AOps.aD rfl rfl rfl rfl rfl ?_
  refine AOps.aD rfl rfl rfl rfl rfl (.nil ?_)
  refine AWP.seq (AWP.region ?_)
  refine AOps.aD rfl rfl rfl rfl rfl ?_
  refine AOps.aD rfl rfl rfl rfl rfl (.nil ?_)
  refine AWP.seq ?_
  refine AWP.seq (AWP.region ?_)
  refine AOps.mD rfl rfl rfl rfl rfl ?_
  refine AOps.step rfl rfl rfl (AOp.lenSl rfl et_23.ht rfl) ?_
  refine AOps.mD rfl rfl rfl rfl rfl (.nil ?_)
  refine AWP.block ?_
  refine AWP.adopt 7 1 9 1 rfl rfl ?_
  refine AWP.adopt 8 2 9 1 rfl rfl ?_
  refine AWP.loop (G := Nat) (fun k => Env.of [(13, .d (.v (.int .i64 (k : Int)))), (11, .d (.sl (l.map Carr.ds))), (12, .d (.v (.int .i64 ((l.map Carr.ds).length : Int)))), (0, .d (.sl (l.map Carr.ds))), (3, .d (.fp p.ds)), (7, .own 1), (8, .own 2)]) (fun k => [(2, .row 9 1 ((uniq ((l.take k).map Carr.kind)).map strD)), (1, .row 9 1 ((uniq ((l.take k).map Carr.place)).map strD))]) (fun k => k ≤ l.length) (fun k => l.length - k) 0 (Nat.zero_le _) (Sub.less ⟨(SLe.of_eq rfl), SLe.refl _, SLe.refl _, SLe.refl _, SLe.refl _, SLe.refl _, SLe.refl _, trivial⟩ (rows_both rfl rfl)) ?_
  intro k hk
  refine AWP.seq (AWP.region ?_)
  refine AOps.step rfl rfl rfl (AOp.lss rfl rfl rfl) (.nil ?_)
  refine AWP.seq ?_
  refine AWP.cond rfl (fun h1 => ?_) (fun h1 => ?_)
  · replace h1 := of_decide_eq_true h1
    rw [List.length_map] at h1
    have hlt : k < l.length := by omega
    have hP := place_next hlt
    have hK := kind_next hlt
    have hPl := uniqP_len (l.take k)
    have hKl := uniqK_len (l.take k)
    rw [List.length_take] at hPl hKl
    refine AWP.skip ?_
    refine AWP.seq ?_
    refine AWP.block ?_
    refine AWP.seq (AWP.region ?_)
    refine AOps.step rfl rfl rfl (AOp.indexAddr rfl et_23 rfl rfl k rfl (at_list hlt) rfl) ?_
    refine AOps.step rfl rfl rfl (AOp.loadAgg rfl ag_59 rfl rfl) ?_
    refine AOps.alloc 101 rfl rfl rfl rfl zt_59 rfl rfl rfl ?_
    refine AOps.store rfl rfl rfl sz_59 rfl (.head _) rfl rfl rfl (Nat.le_of_ble_eq_true rfl) ?_
    refine AOps.freezeCells 10 (ds := l[k].ds) rfl (.head _) (.nil ?_)
    refine AWP.seq ?_
    refine AWP.seq (AWP.region ?_)
    refine AOps.step rfl rfl rfl (AOp.moveO rfl rfl) ?_
    refine AOps.step rfl rfl rfl (AOp.fieldAddr rfl fo_59_1 rfl) ?_
    refine AOps.step rfl rfl rfl (AOp.load rfl sc_9 rfl) ?_
    refine AOps.step rfl rfl rfl (AOp.callV rfl (.cons (.own rfl (.tail _ (.head _))) (.cons (.d rfl) .nil)) (c_containsStr _ _)) ?_
    refine AOps.step rfl rfl rfl (AOp.not rfl rfl) (.nil ?_)
    refine AWP.cond rfl (fun h2 => ?_) (fun h2 => ?_)
    · replace h2 := bnot_t h2; replace h2 := of_decide_eq_false h2
      have HP := hP.trans (addS_out h2)
      refine AWP.region ?_
      refine AOps.step rfl rfl rfl (AOp.moveO rfl rfl) ?_
      refine AOps.step rfl rfl rfl (AOp.fieldAddr rfl fo_59_1 rfl) ?_
      refine AOps.step rfl rfl rfl (AOp.load rfl sc_9 rfl) ?_
      refine AOps.step rfl rfl rfl (AOp.buildSlice rfl et_159 (.cons rfl rfl rfl .nil) rfl (by decide)) ?_
      -- append 26
      refine AOps.append rfl rfl rfl rfl et_159 rfl (.tail _ (.head _)) rfl (by simp [D.parts]) (by simp only [List.length_map, List.length_cons, List.length_nil]; omega) (by simp only [List.length_map, List.length_cons, List.length_nil]; omega) ?_
      refine AOps.step rfl rfl rfl (AOp.assignO rfl rfl) (.nil ?_)
      refine AWP.seq (AWP.region ?_)
      refine AOps.step rfl rfl rfl (AOp.moveO rfl rfl) ?_
      refine AOps.step rfl rfl rfl (AOp.fieldAddr rfl fo_59_2 rfl) ?_
      refine AOps.step rfl rfl rfl (AOp.load rfl sc_9 rfl) ?_
      refine AOps.step rfl rfl rfl (AOp.callV rfl (.cons (.own rfl (.head _)) (.cons (.d rfl) .nil)) (c_containsStr _ _)) ?_
      refine AOps.step rfl rfl rfl (AOp.not rfl rfl) (.nil ?_)
      refine AWP.cond rfl (fun h3 => ?_) (fun h3 => ?_)
      · replace h3 := bnot_t h3; replace h3 := of_decide_eq_false h3
        have HK := hK.trans (addS_out h3)
        refine AWP.region ?_
        refine AOps.step rfl rfl rfl (AOp.moveO rfl rfl) ?_
        refine AOps.step rfl rfl rfl (AOp.fieldAddr rfl fo_59_2 rfl) ?_
        refine AOps.step rfl rfl rfl (AOp.load rfl sc_9 rfl) ?_
        refine AOps.step rfl rfl rfl (AOp.buildSlice rfl et_159 (.cons rfl rfl rfl .nil) rfl (by decide)) ?_
        -- append 36
        refine AOps.append rfl rfl rfl rfl et_159 rfl (.head _) rfl (by simp [D.parts]) (by simp only [List.length_map, List.length_cons, List.length_nil]; omega) (by simp only [List.length_map, List.length_cons, List.length_nil]; omega) ?_
        refine AOps.step rfl rfl rfl (AOp.assignO rfl rfl) (.nil ?_)
        refine AWP.region ?_
        refine AOps.step rfl rfl rfl (AOp.add64 rfl rfl rfl (by omega) (by omega)) ?_
        refine AOps.mD rfl rfl rfl rfl rfl (.nil ?_)
        refine ⟨k + 1, (by omega), (by dsimp only; omega), Sub.less ⟨(SLe.of_eq rfl), SLe.refl _, SLe.refl _, SLe.refl _, SLe.refl _, SLe.refl _, SLe.refl _, trivial⟩ (rows_both (by first | (rw [HK]; done) | (rw [HK, List.map_append]; rfl)) (by first | (rw [HP]; done) | (rw [HP, List.map_append]; rfl)))⟩
      replace h3 := bnot_f h3; replace h3 := of_decide_eq_true h3
      have HK := hK.trans (addS_in h3)
      refine AWP.skip ?_
      refine AWP.region ?_
      refine AOps.step rfl rfl rfl (AOp.add64 rfl rfl rfl (by omega) (by omega)) ?_
      refine AOps.mD rfl rfl rfl rfl rfl (.nil ?_)
      refine ⟨k + 1, (by omega), (by dsimp only; omega), Sub.less ⟨(SLe.of_eq rfl), SLe.refl _, SLe.refl _, SLe.refl _, SLe.refl _, SLe.refl _, SLe.refl _, trivial⟩ (rows_both (by first | (rw [HK]; done) | (rw [HK, List.map_append]; rfl)) (by first | (rw [HP]; done) | (rw [HP, List.map_append]; rfl)))⟩
    replace h2 := bnot_f h2; replace h2 := of_decide_eq_true h2
    have HP := hP.trans (addS_in h2)
    refine AWP.skip ?_
    refine AWP.seq (AWP.region ?_)
    refine AOps.step rfl rfl rfl (AOp.moveO rfl rfl) ?_
    refine AOps.step rfl rfl rfl (AOp.fieldAddr rfl fo_59_2 rfl) ?_
    refine AOps.step rfl rfl rfl (AOp.load rfl sc_9 rfl) ?_
    refine AOps.step rfl rfl rfl (AOp.callV rfl (.cons (.own rfl (.head _)) (.cons (.d rfl) .nil)) (c_containsStr _ _)) ?_
    refine AOps.step rfl rfl rfl (AOp.not rfl rfl) (.nil ?_)
    refine AWP.cond rfl (fun h4 => ?_) (fun h4 => ?_)
    · replace h4 := bnot_t h4; replace h4 := of_decide_eq_false h4
      have HK := hK.trans (addS_out h4)
      refine AWP.region ?_
      refine AOps.step rfl rfl rfl (AOp.moveO rfl rfl) ?_
      refine AOps.step rfl rfl rfl (AOp.fieldAddr rfl fo_59_2 rfl) ?_
      refine AOps.step rfl rfl rfl (AOp.load rfl sc_9 rfl) ?_
      refine AOps.step rfl rfl rfl (AOp.buildSlice rfl et_159 (.cons rfl rfl rfl .nil) rfl (by decide)) ?_
      -- append 36
      refine AOps.append rfl rfl rfl rfl et_159 rfl (.head _) rfl (by simp [D.parts]) (by simp only [List.length_map, List.length_cons, List.length_nil]; omega) (by simp only [List.length_map, List.length_cons, List.length_nil]; omega) ?_
      refine AOps.step rfl rfl rfl (AOp.assignO rfl rfl) (.nil ?_)
      refine AWP.region ?_
      refine AOps.step rfl rfl rfl (AOp.add64 rfl rfl rfl (by omega) (by omega)) ?_
      refine AOps.mD rfl rfl rfl rfl rfl (.nil ?_)
      refine ⟨k + 1, (by omega), (by dsimp only; omega), Sub.less ⟨(SLe.of_eq rfl), SLe.refl _, SLe.refl _, SLe.refl _, SLe.refl _, SLe.refl _, SLe.refl _, trivial⟩ (rows_both (by first | (rw [HK]; done) | (rw [HK, List.map_append]; rfl)) (by first | (rw [HP]; done) | (rw [HP, List.map_append]; rfl)))⟩
    replace h4 := bnot_f h4; replace h4 := of_decide_eq_true h4
    have HK := hK.trans (addS_in h4)
    refine AWP.skip ?_
    refine AWP.region ?_
    refine AOps.step rfl rfl rfl (AOp.add64 rfl rfl rfl (by omega) (by omega)) ?_
    refine AOps.mD rfl rfl rfl rfl rfl (.nil ?_)
    refine ⟨k + 1, (by omega), (by dsimp only; omega), Sub.less ⟨(SLe.of_eq rfl), SLe.refl _, SLe.refl _, SLe.refl _, SLe.refl _, SLe.refl _, SLe.refl _, trivial⟩ (rows_both (by first | (rw [HK]; done) | (rw [HK, List.map_append]; rfl)) (by first | (rw [HP]; done) | (rw [HP, List.map_append]; rfl)))⟩
  replace h1 := of_decide_eq_false h1
  rw [List.length_map] at h1
  obtain rfl : k = l.length := by omega
  rw [List.take_length]
  refine AWP.exit ?_
  refine AWP.seq ?_
  refine AWP.draw (by kernel_rfl) (by kernel_rfl) ?_
  refine DRun.step rfl rfl rfl (AOp.fieldAddr rfl fo_28_0 rfl) ?_
  refine DRun.step rfl rfl rfl (AOp.load rfl sc_3 rfl) ?_
  refine DRun.step rfl rfl rfl (AOp.moveD rfl rfl) ?_
  refine DRun.step rfl rfl rfl (AOp.lenSl rfl et_23.ht rfl) ?_
  refine DRun.step rfl rfl rfl (AOp.sub64 rfl rfl rfl (by simp only [List.length_map]; omega) (by simp only [List.length_map]; omega)) ?_
  refine DRun.step rfl rfl rfl (AOp.max rfl rfl rfl) ?_
  refine DRun.step rfl rfl rfl (AOp.fieldAddr rfl fo_28_1 rfl) ?_
  refine DRun.step rfl rfl rfl (AOp.load rfl sc_3 rfl) ?_
  refine DRun.step rfl rfl rfl (AOp.moveO rfl rfl) ?_
  refine DRun.step rfl rfl rfl (AOp.lenOwn rfl et_159.ht rfl (.tail _ (.head _))) ?_
  refine DRun.step rfl rfl rfl (AOp.sub64 rfl rfl rfl (by simp only [List.length_map]; omega) (by simp only [List.length_map]; omega)) ?_
  refine DRun.step rfl rfl rfl (AOp.max rfl rfl rfl) ?_
  refine DRun.step rfl rfl rfl (AOp.fieldAddr rfl fo_28_2 rfl) ?_
  refine DRun.step rfl rfl rfl (AOp.load rfl sc_3 rfl) ?_
  refine DRun.step rfl rfl rfl (AOp.moveO rfl rfl) ?_
  refine DRun.step rfl rfl rfl (AOp.lenOwn rfl et_159.ht rfl (.head _)) ?_
  refine DRun.step rfl rfl rfl (AOp.sub64 rfl rfl rfl (by simp only [List.length_map]; omega) (by simp only [List.length_map]; omega)) ?_
  refine DRun.step rfl rfl rfl (AOp.max rfl rfl rfl) ?_
  refine DRun.step rfl rfl rfl (AOp.assignD rfl rfl) ?_
  refine DRun.step rfl rfl rfl (AOp.assignD rfl rfl) ?_
  refine DRun.step rfl rfl rfl (AOp.assignD rfl rfl) ?_
  refine DRun.nil ?_
  refine AWP.ret ?_
  refine ⟨RetD.eq rfl ?_, RetD.eq rfl ?_, RetD.eq rfl ?_, trivial⟩
  all_goals (first | rfl | (simp only [List.length_map]; rfl))

end Go.Proofs.YtieccphckobhjaaGreatDoor


namespace Go.Proofs.YtieccphckobhjaaGreatDoor
open Go.RowKit
set_option linter.unusedVariables false

/-! Types. -/
namespace TyL3
theorem ag_26 : AggT Tryz.prog 26 3 := .of (by kernel_rfl)
theorem ag_28 : AggT Tryz.prog 28 6 := .of (by kernel_rfl)
end TyL3
open TyL3


def addL (E : List Lck) (b : Bool) (y : Lck) : List Lck := if b = true then E ++ [y] else E
def lackCpy (v : Vlt) (p : Pol) (day : Int) (c : Cpy) : List Lck :=
  addL (addL (addL (addL [] (decide ((c.bad.length : Int) > 0)) ⟨c.item, c.carrier, 4, (c.bad.length : Int)⟩) (oldB p day (carrAt v c.carrier)) ⟨c.item, c.carrier, 5, 0⟩) (decide (c.gen > p.gens)) ⟨c.item, c.carrier, 6, 0⟩) (decide (day - c.last > p.every)) ⟨c.item, c.carrier, 7, 0⟩
def cpyTo (v : Vlt) (p : Pol) (day : Int) (it : ByteArray) (k : Nat) : List Lck := ((copiesOf v it).take k).flatMap (lackCpy v p day)
def cpyAll (v : Vlt) (p : Pol) (day : Int) (it : ByteArray) : List Lck := (copiesOf v it).flatMap (lackCpy v p day)
def rCpyTo (v : Vlt) (p : Pol) (day : Int) (it : ByteArray) (k : Nat) : List Lck := (v.copies.take k).flatMap fun c => if c.item = it then lackCpy v p day c else []
def numsOf (p : Pol) (l : List Carr) : List Int := [lackC p l, lackP p l, lackK p l]
def headE (nm : ByteArray) (x : Int × Nat) : List Lck := if x.1 > 0 then [⟨nm, ⟨#[]⟩, 1 + (x.2 : Int), x.1⟩] else []
def headTo (nm : ByteArray) (l : List Int) (k : Nat) : List Lck := (l.zipIdx.take k).flatMap (headE nm)
def itemL (v : Vlt) (p : Pol) (day : Int) (x : Item) : List Lck := headTo x.name (numsOf p (goodOnes v x.name p day)) 3 ++ cpyAll v p day x.name
def itemsTo (v : Vlt) (p : Pol) (day : Int) (k : Nat) : List Lck := (v.items.take k).flatMap (itemL v p day)
def lacksR (v : Vlt) (p : Pol) (day : Int) : List Lck := if dayFault v p day = 0 then itemsTo v p day v.items.length else []
theorem day_ok {v : Vlt} {p : Pol} {day : Int} (h : dayFault v p day = 0) : bothFault v p = 0 ∧ 0 ≤ day ∧ day ≤ 200000 := by
  unfold dayFault at h
  by_cases h1 : bothFault v p ≠ 0
  · rw [if_pos h1] at h; exact absurd h h1
  · rw [if_neg h1] at h
    by_cases h2 : 0 ≤ day ∧ day ≤ 200000
    · exact ⟨Decidable.not_not.1 h1, h2⟩
    · rw [if_neg h2] at h; simp at h
set_option maxRecDepth 100000 in
set_option maxHeartbeats 1000000 in
theorem c_pDayF (v : Vlt) (p : Pol) (day : Int) (hs : smallV v) : ACall Tryz.prog 19 [.agg v.ds, .agg p.ds, .v (.int .i64 day)] (.v (.int .i64 (dayFault v p day))) := by
  refine acall_of (n := 17) (ds' := [.v (.int .i64 (dayFault v p day))]) Tryz.func19 rfl (by kernel_rfl) rfl [6] rfl rfl ?_
  intro B w0 F0 fr
  refine AWP.seq (AWP.region ?_)
  refine AOps.step rfl rfl rfl (AOp.box rfl rfl rfl) ?_
  refine AOps.step rfl rfl rfl (AOp.box rfl rfl rfl) ?_
  refine AOps.aD rfl rfl rfl rfl rfl (.nil ?_)
  refine AWP.seq ?_
  refine AWP.seq (AWP.region ?_)
  refine AOps.step rfl rfl rfl (AOp.loadAgg rfl ag_26 rfl rfl) ?_
  refine AOps.step rfl rfl rfl (AOp.loadAgg rfl ag_28 rfl rfl) ?_
  refine AOps.step rfl rfl rfl (AOp.call rfl (.cons (ArgOk.rfl' rfl) (.cons (ArgOk.rfl' rfl) .nil)) (c_pBoth v p hs)) ?_
  refine AOps.aD rfl rfl rfl rfl rfl (.nil ?_)
  refine AWP.seq (AWP.region ?_)
  refine AOps.mD rfl rfl rfl rfl rfl ?_
  refine AOps.step rfl rfl rfl (AOp.neq rfl rfl rfl) (.nil ?_)
  refine AWP.cond rfl (fun h1 => ?_) (fun h1 => ?_)
  · replace h1 := of_decide_eq_true h1
    have HR : dayFault v p day = bothFault v p := if_pos h1
    rw [HR]
    refine AWP.seq (AWP.region ?_)
    refine AOps.mD rfl rfl rfl rfl rfl ?_
    refine AOps.aD rfl rfl rfl rfl rfl (.nil ?_)
    refine AWP.ret ?_
    refine ⟨RetD.eq rfl ?_, trivial⟩
    all_goals (rfl)
  replace h1 := of_decide_eq_false h1
  have hb := h1
  refine AWP.skip ?_
  refine AWP.seq ?_
  refine AWP.seq (AWP.region ?_)
  refine AOps.mD rfl rfl rfl rfl rfl ?_
  refine AOps.step rfl rfl rfl (AOp.call rfl (.cons (ArgOk.rfl' rfl) .nil) (c_pDay _)) ?_
  refine AOps.step rfl rfl rfl (AOp.not rfl rfl) (.nil ?_)
  refine AWP.cond rfl (fun h2 => ?_) (fun h2 => ?_)
  · replace h2 := bnot_t h2; replace h2 := of_decide_eq_false h2
    have HR : dayFault v p day = 1 := (if_neg hb).trans (if_neg h2)
    rw [HR]
    refine AWP.seq (AWP.region ?_)
    refine AOps.aD rfl rfl rfl rfl rfl (.nil ?_)
    refine AWP.ret ?_
    refine ⟨RetD.eq rfl ?_, trivial⟩
    all_goals (rfl)
  replace h2 := bnot_f h2; replace h2 := of_decide_eq_true h2
  have HR : dayFault v p day = 0 := (if_neg hb).trans (if_pos h2)
  rw [HR]
  refine AWP.skip ?_
  refine AWP.seq (AWP.region ?_)
  refine AOps.aD rfl rfl rfl rfl rfl (.nil ?_)
  refine AWP.ret ?_
  refine ⟨RetD.eq rfl ?_, trivial⟩
  all_goals (rfl)

set_option maxRecDepth 100000 in
set_option maxHeartbeats 1000000 in
theorem c_ask (v : Vlt) (p : Pol) (day : Int) (hs : smallV v) : ACall Tryz.prog 30 [.agg v.ds, .agg p.ds, .v (.int .i64 day)] (.v (.int .i64 (dayFault v p day))) := by
  refine acall_of (n := 22) (ds' := [.v (.int .i64 (dayFault v p day))]) Tryz.func30 rfl (by kernel_rfl) rfl [6] rfl rfl ?_
  intro B w0 F0 fr
  refine AWP.seq (AWP.region ?_)
  refine AOps.step rfl rfl rfl (AOp.box rfl rfl rfl) ?_
  refine AOps.step rfl rfl rfl (AOp.box rfl rfl rfl) ?_
  refine AOps.aD rfl rfl rfl rfl rfl (.nil ?_)
  refine AWP.seq ?_
  refine AWP.seq (AWP.region ?_)
  refine AOps.step rfl rfl rfl (AOp.loadAgg rfl ag_26 rfl rfl) ?_
  refine AOps.step rfl rfl rfl (AOp.call rfl (.cons (ArgOk.rfl' rfl) .nil) (c_rCheck v hs)) ?_
  refine AOps.aD rfl rfl rfl rfl rfl (.nil ?_)
  refine AWP.seq (AWP.region ?_)
  refine AOps.mD rfl rfl rfl rfl rfl ?_
  refine AOps.step rfl rfl rfl (AOp.neq rfl rfl rfl) (.nil ?_)
  refine AWP.cond rfl (fun h1 => ?_) (fun h1 => ?_)
  · replace h1 := of_decide_eq_true h1
    have HB := both_v (p := p) h1
    have HR : dayFault v p day = checkV v := by unfold dayFault; rw [HB, if_pos h1]
    rw [HR]
    refine AWP.seq (AWP.region ?_)
    refine AOps.mD rfl rfl rfl rfl rfl ?_
    refine AOps.aD rfl rfl rfl rfl rfl (.nil ?_)
    refine AWP.ret ?_
    refine ⟨RetD.eq rfl ?_, trivial⟩
    all_goals (rfl)
  replace h1 := of_decide_eq_false h1
  have HB := both_p (p := p) (Decidable.not_not.1 h1)
  refine AWP.skip ?_
  refine AWP.seq ?_
  refine AWP.seq (AWP.region ?_)
  refine AOps.step rfl rfl rfl (AOp.loadAgg rfl ag_28 rfl rfl) ?_
  refine AOps.step rfl rfl rfl (AOp.call rfl (.cons (ArgOk.rfl' rfl) .nil) (c_rPol p)) ?_
  refine AOps.aD rfl rfl rfl rfl rfl (.nil ?_)
  refine AWP.seq (AWP.region ?_)
  refine AOps.mD rfl rfl rfl rfl rfl ?_
  refine AOps.step rfl rfl rfl (AOp.neq rfl rfl rfl) (.nil ?_)
  refine AWP.cond rfl (fun h2 => ?_) (fun h2 => ?_)
  · replace h2 := of_decide_eq_true h2
    have HR : dayFault v p day = polFault p := by unfold dayFault; rw [HB, if_pos h2]
    rw [HR]
    refine AWP.seq (AWP.region ?_)
    refine AOps.mD rfl rfl rfl rfl rfl ?_
    refine AOps.aD rfl rfl rfl rfl rfl (.nil ?_)
    refine AWP.ret ?_
    refine ⟨RetD.eq rfl ?_, trivial⟩
    all_goals (rfl)
  replace h2 := of_decide_eq_false h2
  have hb := h2
  refine AWP.skip ?_
  refine AWP.seq ?_
  refine AWP.seq (AWP.region ?_)
  refine AOps.mD rfl rfl rfl rfl rfl ?_
  refine AOps.step rfl rfl rfl (AOp.call rfl (.cons (ArgOk.rfl' rfl) .nil) (c_rDay _)) ?_
  refine AOps.step rfl rfl rfl (AOp.not rfl rfl) (.nil ?_)
  refine AWP.cond rfl (fun h3 => ?_) (fun h3 => ?_)
  · replace h3 := bnot_t h3; replace h3 := of_decide_eq_false h3
    have HR : dayFault v p day = 1 := by unfold dayFault; rw [HB, if_neg hb, if_neg h3]
    rw [HR]
    refine AWP.seq (AWP.region ?_)
    refine AOps.aD rfl rfl rfl rfl rfl (.nil ?_)
    refine AWP.ret ?_
    refine ⟨RetD.eq rfl ?_, trivial⟩
    all_goals (rfl)
  replace h3 := bnot_f h3; replace h3 := of_decide_eq_true h3
  have HR : dayFault v p day = 0 := by unfold dayFault; rw [HB, if_neg hb, if_pos h3]
  rw [HR]
  refine AWP.skip ?_
  refine AWP.seq (AWP.region ?_)
  refine AOps.aD rfl rfl rfl rfl rfl (.nil ?_)
  refine AWP.ret ?_
  refine ⟨RetD.eq rfl ?_, trivial⟩
  all_goals (rfl)

end Go.Proofs.YtieccphckobhjaaGreatDoor


namespace Go.Proofs.YtieccphckobhjaaGreatDoor
open Go.RowKit
set_option linter.unusedVariables false

/-! Types. -/
namespace TyL4a
theorem ag_26 : AggT Tryz.prog 26 3 := .of (by kernel_rfl)
theorem ag_28 : AggT Tryz.prog 28 6 := .of (by kernel_rfl)
theorem ag_59 : AggT Tryz.prog 59 5 := .of (by kernel_rfl)
theorem ag_65 : AggT Tryz.prog 65 7 := .of (by kernel_rfl)
theorem et_23 : ElemTy Tryz.prog 23 59 5 64 (.agg #[(.string ⟨#[]⟩), (.string ⟨#[]⟩), (.string ⟨#[]⟩), (.int .i64 0), (.int .i64 0)]) := ⟨by kernel_rfl, by kernel_rfl, by kernel_rfl, by decide⟩
theorem et_24 : ElemTy Tryz.prog 24 65 7 96 (.agg #[(.string ⟨#[]⟩), (.string ⟨#[]⟩), (.string ⟨#[]⟩), (.int .i64 0), (.int .i64 0), (.int .i64 0), (.slice none 0 0)]) := ⟨by kernel_rfl, by kernel_rfl, by kernel_rfl, by decide⟩
theorem et_63 : ElemTy Tryz.prog 63 3 1 8 (.int .i64 0) := ⟨by kernel_rfl, by kernel_rfl, by kernel_rfl, by decide⟩
theorem fo_26_1 : fieldOff Tryz.prog 26 1 = some 1 := by kernel_rfl
theorem fo_26_2 : fieldOff Tryz.prog 26 2 = some 2 := by kernel_rfl
theorem fo_28_5 : fieldOff Tryz.prog 28 5 = some 5 := by kernel_rfl
theorem fo_65_0 : fieldOff Tryz.prog 65 0 = some 0 := by kernel_rfl
theorem fo_65_1 : fieldOff Tryz.prog 65 1 = some 1 := by kernel_rfl
theorem fo_65_5 : fieldOff Tryz.prog 65 5 = some 5 := by kernel_rfl
theorem fo_65_6 : fieldOff Tryz.prog 65 6 = some 6 := by kernel_rfl
theorem sc_23 : Scal Tryz.prog 23 := .of (by kernel_rfl)
theorem sc_24 : Scal Tryz.prog 24 := .of (by kernel_rfl)
theorem sc_3 : Scal Tryz.prog 3 := .of (by kernel_rfl)
theorem sc_63 : Scal Tryz.prog 63 := .of (by kernel_rfl)
theorem sc_9 : Scal Tryz.prog 9 := .of (by kernel_rfl)
theorem sz_59 : ∀ w, (sizeOf 59).run Tryz.prog w = .ok 5 w := SizeT.of (by kernel_rfl)
theorem sz_65 : ∀ w, (sizeOf 65).run Tryz.prog w = .ok 7 w := SizeT.of (by kernel_rfl)
theorem zt_59 : (Tryz.prog.info? 59).bind (·.zero) = some (.agg #[(.string ⟨#[]⟩), (.string ⟨#[]⟩), (.string ⟨#[]⟩), (.int .i64 0), (.int .i64 0)]) := by kernel_rfl
theorem zt_65 : (Tryz.prog.info? 65).bind (·.zero) = some (.agg #[(.string ⟨#[]⟩), (.string ⟨#[]⟩), (.string ⟨#[]⟩), (.int .i64 0), (.int .i64 0), (.int .i64 0), (.slice none 0 0)]) := by kernel_rfl
end TyL4a
open TyL4a

set_option maxRecDepth 100000 in
set_option maxHeartbeats 1000000 in
theorem c_goodOn (v : Vlt) (it : ByteArray) (p : Pol) (day : Int) (vo : VOk v) (po : POk p) (hd : 0 ≤ day ∧ day ≤ 200000) : ACall Tryz.prog 81 [.agg v.ds, .agg p.ds, .v (.string it), .v (.int .i64 day)] (.sl ((goodOnes v it p day).map Carr.ds)) := by
  refine acall_of (n := 58) (ds' := [.sl ((goodOnes v it p day).map Carr.ds)]) Tryz.func81 rfl (by kernel_rfl) rfl [8] rfl rfl ?_
  intro B w0 F0 fr
  have hnp := vo.np
  refine AWP.seq (AWP.region ?_)
  refine AOps.step rfl rfl rfl (AOp.box rfl rfl rfl) ?_
  refine AOps.step rfl rfl rfl (AOp.box rfl rfl rfl) ?_
  refine AOps.aD rfl rfl rfl rfl rfl (.nil ?_)
  refine AWP.seq (AWP.region ?_)
  refine AOps.aD rfl rfl rfl rfl rfl (.nil ?_)
  refine AWP.seq ?_
  refine AWP.seq (AWP.region ?_)
  refine AOps.step rfl rfl rfl (AOp.fieldAddr rfl fo_26_2 rfl) ?_
  refine AOps.step rfl rfl rfl (AOp.load rfl sc_24 rfl) ?_
  refine AOps.step rfl rfl rfl (AOp.lenSl rfl et_24.ht rfl) ?_
  refine AOps.mD rfl rfl rfl rfl rfl (.nil ?_)
  refine AWP.block ?_
  refine AWP.adopt 9 1 59 5 rfl rfl ?_
  refine AWP.loop (G := Nat) (fun k => Env.of [(16, .d (.v (.int .i64 (k : Int)))), (14, .d (.sl (v.copies.map Cpy.ds))), (15, .d (.v (.int .i64 ((v.copies.map Cpy.ds).length : Int)))), (4, .d (.fp v.ds)), (5, .d (.fp p.ds)), (2, .d (.v (.string it))), (3, .d (.v (.int .i64 day))), (9, .own 1)]) (fun k => [(1, .row 59 5 ((rGoodTo v it p day k).map Carr.ds))]) (fun k => k ≤ v.copies.length) (fun k => v.copies.length - k) 0 (Nat.zero_le _) (Sub.less ⟨(SLe.of_eq rfl), SLe.refl _, SLe.refl _, SLe.refl _, SLe.refl _, SLe.refl _, SLe.refl _, SLe.refl _, trivial⟩ (row_same rfl)) ?_
  intro k hk
  refine AWP.seq (AWP.region ?_)
  refine AOps.step rfl rfl rfl (AOp.lss rfl rfl rfl) (.nil ?_)
  refine AWP.seq ?_
  refine AWP.cond rfl (fun h1 => ?_) (fun h1 => ?_)
  · replace h1 := of_decide_eq_true h1
    rw [List.length_map] at h1
    have hlt : k < v.copies.length := by omega
    have hcl := rGoodTo_len v it p day k
    have hco := vo.cpy _ (List.getElem_mem hlt)
    obtain ⟨ci, hci, eci, _⟩ := idxBy_some hco.carr
    have hCA := carrAt_eq hci eci
    have hcb := vo.carr (List.getElem_mem hci)
    refine AWP.skip ?_
    refine AWP.seq ?_
    refine AWP.block ?_
    refine AWP.seq (AWP.region ?_)
    refine AOps.step rfl rfl rfl (AOp.indexAddr rfl et_24 rfl rfl k rfl (at_list hlt) rfl) ?_
    refine AOps.step rfl rfl rfl (AOp.loadAgg rfl ag_65 rfl rfl) ?_
    refine AOps.alloc 101 rfl rfl rfl rfl zt_65 rfl rfl rfl ?_
    refine AOps.store rfl rfl rfl sz_65 rfl (.head _) rfl rfl rfl (Nat.le_of_ble_eq_true rfl) ?_
    refine AOps.freezeCells 11 (ds := v.copies[k].ds) rfl (.head _) (.nil ?_)
    refine AWP.seq ?_
    refine AWP.drawFresh 9 [⟨12, 102, .ptr 102 0, .cells [.d (.v (.string ⟨#[]⟩)), .d (.v (.string ⟨#[]⟩)), .d (.v (.string ⟨#[]⟩)), .d (.v (.int .i64 0)), .d (.v (.int .i64 0))]⟩] (FrOk.one rfl (by simp) rfl rfl rfl) (by kernel_rfl) (by kernel_rfl) (by kernel_rfl) (by kernel_rfl) ?_
    refine XRun.step rfl rfl rfl (AOp.fieldAddr rfl fo_26_1 rfl) ?_
    refine XRun.step rfl rfl rfl (AOp.load rfl sc_23 rfl) ?_
    refine XRun.step rfl rfl rfl (AOp.loadAgg rfl ag_26 rfl rfl) ?_
    refine XRun.step rfl rfl rfl (AOp.fieldAddr rfl fo_65_1 rfl) ?_
    refine XRun.step rfl rfl rfl (AOp.load rfl sc_9 rfl) ?_
    refine XRun.step rfl rfl rfl (AOp.call rfl (.cons (ArgOk.rfl' rfl) (.cons (ArgOk.rfl' rfl) .nil)) (c_carrierOf _ _)) ?_
    refine XRun.step rfl rfl rfl (AOp.indexAddr rfl et_23 rfl rfl ci eci (at_list hci) rfl) ?_
    refine XRun.step rfl rfl rfl (AOp.loadAgg rfl ag_59 rfl rfl) ?_
    refine XRun.alloc _ (.head _) rfl rfl rfl rfl rfl zt_59 rfl rfl rfl rfl ?_
    refine XRun.nil ⟨rfl, trivial⟩ ?_
    refine AOps.store rfl rfl rfl sz_59 rfl (.head _) rfl rfl rfl (Nat.le_of_ble_eq_true rfl) ?_
    refine AOps.freezeCells 12 (ds := v.carrs[ci].ds) rfl (.head _) (.nil ?_)
    refine AWP.seq (AWP.region ?_)
    refine AOps.step rfl rfl rfl (AOp.fieldAddr rfl fo_65_0 rfl) ?_
    refine AOps.step rfl rfl rfl (AOp.load rfl sc_9 rfl) ?_
    refine AOps.mD rfl rfl rfl rfl rfl ?_
    refine AOps.step rfl rfl rfl (AOp.seql rfl rfl rfl) ?_
    refine AOps.mD rfl rfl rfl rfl rfl ?_
    refine AOps.split 32 rfl (fun g2 => ?_) (fun g2 => ?_)
    · replace g2 := of_decide_eq_true g2
      have hI := g2
      refine AOps.step ⟨32, rfl, .inl ⟨_, rfl, rfl⟩⟩ rfl rfl (AOp.fieldAddr rfl fo_65_6 rfl) ?_
      refine AOps.step ⟨32, rfl, .inl ⟨_, rfl, rfl⟩⟩ rfl rfl (AOp.load rfl sc_63 rfl) ?_
      refine AOps.step ⟨32, rfl, .inl ⟨_, rfl, rfl⟩⟩ rfl rfl (AOp.lenSl rfl et_63.ht rfl) ?_
      refine AOps.step ⟨32, rfl, .inl ⟨_, rfl, rfl⟩⟩ rfl rfl (AOp.eql rfl rfl rfl) ?_
      refine AOps.step rfl rfl rfl (AOp.pickT rfl rfl rfl) ?_
      refine AOps.mD rfl rfl rfl rfl rfl ?_
      refine AOps.split 38 rfl (fun g3 => ?_) (fun g3 => ?_)
      · replace g3 := of_decide_eq_true g3
        rw [List.length_map] at g3
        have hA := g3
        refine AOps.step ⟨38, rfl, .inl ⟨_, rfl, rfl⟩⟩ rfl rfl (AOp.fieldAddr rfl fo_65_5 rfl) ?_
        refine AOps.step ⟨38, rfl, .inl ⟨_, rfl, rfl⟩⟩ rfl rfl (AOp.load rfl sc_3 rfl) ?_
        refine AOps.step ⟨38, rfl, .inl ⟨_, rfl, rfl⟩⟩ rfl rfl (AOp.fieldAddr rfl fo_28_5 rfl) ?_
        refine AOps.step ⟨38, rfl, .inl ⟨_, rfl, rfl⟩⟩ rfl rfl (AOp.load rfl sc_3 rfl) ?_
        refine AOps.step ⟨38, rfl, .inl ⟨_, rfl, rfl⟩⟩ rfl rfl (AOp.leq rfl rfl rfl) ?_
        refine AOps.step rfl rfl rfl (AOp.pickT rfl rfl rfl) ?_
        refine AOps.mD rfl rfl rfl rfl rfl ?_
        refine AOps.split 45 rfl (fun g4 => ?_) (fun g4 => ?_)
        · replace g4 := of_decide_eq_true g4
          have hB := g4
          refine AOps.step ⟨45, rfl, .inl ⟨_, rfl, rfl⟩⟩ rfl rfl (AOp.loadAgg rfl ag_59 rfl rfl) ?_
          refine AOps.step ⟨45, rfl, .inl ⟨_, rfl, rfl⟩⟩ rfl rfl (AOp.loadAgg rfl ag_28 rfl rfl) ?_
          refine AOps.step ⟨45, rfl, .inl ⟨_, rfl, rfl⟩⟩ rfl rfl (AOp.moveD rfl rfl) ?_
          refine AOps.step ⟨45, rfl, .inl ⟨_, rfl, rfl⟩⟩ rfl rfl (AOp.call rfl (.cons (ArgOk.rfl' rfl) (.cons (ArgOk.rfl' rfl) (.cons (ArgOk.rfl' rfl) .nil))) (c_rOld v.carrs[ci] p day hcb.2.1 po.old)) ?_
          refine AOps.step ⟨45, rfl, .inl ⟨_, rfl, rfl⟩⟩ rfl rfl (AOp.not rfl rfl) ?_
          refine AOps.step rfl rfl rfl (AOp.pickT rfl rfl rfl) (.nil ?_)
          refine AWP.cond rfl (fun h5 => ?_) (fun h5 => ?_)
          · replace h5 := bnot_t h5
            have HG : (ofItem it v.copies[k] && goodB v p day v.copies[k]) = true := by unfold ofItem goodB; rw [decide_eq_true hI, decide_eq_true hA, decide_eq_true hB, hCA, h5]; rfl
            have HY := rGoodTo_yes hlt HG
            refine AWP.region ?_
            refine AOps.step rfl rfl rfl (AOp.moveO rfl rfl) ?_
            refine AOps.step rfl rfl rfl (AOp.loadAgg rfl ag_59 rfl rfl) ?_
            refine AOps.step rfl rfl rfl (AOp.buildSlice rfl et_23 (.cons rfl rfl rfl .nil) rfl (by decide)) ?_
            -- append 55
            refine AOps.append rfl rfl rfl rfl et_23 rfl (.head _) rfl (by simp [D.parts]; rfl) (by simp; omega) (by simp; omega) ?_
            refine AOps.step rfl rfl rfl (AOp.assignO rfl rfl) (.nil ?_)
            refine AWP.region ?_
            refine AOps.step rfl rfl rfl (AOp.add64 rfl rfl rfl (by omega) (by omega)) ?_
            refine AOps.mD rfl rfl rfl rfl rfl (.nil ?_)
            refine ⟨k + 1, (by omega), (by dsimp only; omega), Sub.less ⟨(SLe.of_eq rfl), SLe.refl _, SLe.refl _, SLe.refl _, SLe.refl _, SLe.refl _, SLe.refl _, SLe.refl _, trivial⟩ (row_same (by first | (rw [HY]; done) | (rw [HY, hCA, List.map_append]; rfl)))⟩
          replace h5 := bnot_f h5
          have HG : (ofItem it v.copies[k] && goodB v p day v.copies[k]) = false := by unfold ofItem goodB; rw [decide_eq_true hI, decide_eq_true hA, decide_eq_true hB, hCA, h5]; rfl
          have HY := rGoodTo_no hlt HG
          refine AWP.skip ?_
          refine AWP.region ?_
          refine AOps.step rfl rfl rfl (AOp.add64 rfl rfl rfl (by omega) (by omega)) ?_
          refine AOps.mD rfl rfl rfl rfl rfl (.nil ?_)
          refine ⟨k + 1, (by omega), (by dsimp only; omega), Sub.less ⟨(SLe.of_eq rfl), SLe.refl _, SLe.refl _, SLe.refl _, SLe.refl _, SLe.refl _, SLe.refl _, SLe.refl _, trivial⟩ (row_same (by first | (rw [HY]; done) | (rw [HY, hCA, List.map_append]; rfl)))⟩
        replace g4 := of_decide_eq_false g4
        have HG : (ofItem it v.copies[k] && goodB v p day v.copies[k]) = false := by unfold ofItem goodB; rw [decide_eq_true hI, decide_eq_true hA, decide_eq_false g4]; rfl
        have HY := rGoodTo_no hlt HG
        refine AOps.pass ⟨45, rfl, .inl ⟨_, rfl, rfl⟩⟩ rfl rfl ?_
        refine AOps.pass ⟨45, rfl, .inl ⟨_, rfl, rfl⟩⟩ rfl rfl ?_
        refine AOps.pass ⟨45, rfl, .inl ⟨_, rfl, rfl⟩⟩ rfl rfl ?_
        refine AOps.pass ⟨45, rfl, .inl ⟨_, rfl, rfl⟩⟩ rfl rfl ?_
        refine AOps.pass ⟨45, rfl, .inl ⟨_, rfl, rfl⟩⟩ rfl rfl ?_
        refine AOps.step rfl rfl rfl (AOp.pickF rfl rfl rfl) (.nil ?_)
        refine AWP.cond rfl (fun h => nomatch h) (fun _ => ?_)
        refine AWP.skip ?_
        refine AWP.region ?_
        refine AOps.step rfl rfl rfl (AOp.add64 rfl rfl rfl (by omega) (by omega)) ?_
        refine AOps.mD rfl rfl rfl rfl rfl (.nil ?_)
        refine ⟨k + 1, (by omega), (by dsimp only; omega), Sub.less ⟨(SLe.of_eq rfl), SLe.refl _, SLe.refl _, SLe.refl _, SLe.refl _, SLe.refl _, SLe.refl _, SLe.refl _, trivial⟩ (row_same (by first | (rw [HY]; done) | (rw [HY, hCA, List.map_append]; rfl)))⟩
      replace g3 := of_decide_eq_false g3
      rw [List.length_map] at g3
      have HG : (ofItem it v.copies[k] && goodB v p day v.copies[k]) = false := by unfold ofItem goodB; rw [decide_eq_true hI, decide_eq_false g3]; rfl
      have HY := rGoodTo_no hlt HG
      refine AOps.pass ⟨38, rfl, .inl ⟨_, rfl, rfl⟩⟩ rfl rfl ?_
      refine AOps.pass ⟨38, rfl, .inl ⟨_, rfl, rfl⟩⟩ rfl rfl ?_
      refine AOps.pass ⟨38, rfl, .inl ⟨_, rfl, rfl⟩⟩ rfl rfl ?_
      refine AOps.pass ⟨38, rfl, .inl ⟨_, rfl, rfl⟩⟩ rfl rfl ?_
      refine AOps.pass ⟨38, rfl, .inl ⟨_, rfl, rfl⟩⟩ rfl rfl ?_
      refine AOps.step rfl rfl rfl (AOp.pickF rfl rfl rfl) ?_
      refine AOps.mD rfl rfl rfl rfl rfl ?_
      refine AOps.pass ⟨45, rfl, .inl ⟨_, rfl, rfl⟩⟩ rfl rfl ?_
      refine AOps.pass ⟨45, rfl, .inl ⟨_, rfl, rfl⟩⟩ rfl rfl ?_
      refine AOps.pass ⟨45, rfl, .inl ⟨_, rfl, rfl⟩⟩ rfl rfl ?_
      refine AOps.pass ⟨45, rfl, .inl ⟨_, rfl, rfl⟩⟩ rfl rfl ?_
      refine AOps.pass ⟨45, rfl, .inl ⟨_, rfl, rfl⟩⟩ rfl rfl ?_
      refine AOps.step rfl rfl rfl (AOp.pickF rfl rfl rfl) (.nil ?_)
      refine AWP.cond rfl (fun h => nomatch h) (fun _ => ?_)
      refine AWP.skip ?_
      refine AWP.region ?_
      refine AOps.step rfl rfl rfl (AOp.add64 rfl rfl rfl (by omega) (by omega)) ?_
      refine AOps.mD rfl rfl rfl rfl rfl (.nil ?_)
      refine ⟨k + 1, (by omega), (by dsimp only; omega), Sub.less ⟨(SLe.of_eq rfl), SLe.refl _, SLe.refl _, SLe.refl _, SLe.refl _, SLe.refl _, SLe.refl _, SLe.refl _, trivial⟩ (row_same (by first | (rw [HY]; done) | (rw [HY, hCA, List.map_append]; rfl)))⟩
    replace g2 := of_decide_eq_false g2
    have HG : (ofItem it v.copies[k] && goodB v p day v.copies[k]) = false := by unfold ofItem; rw [decide_eq_false g2]; rfl
    have HY := rGoodTo_no hlt HG
    refine AOps.pass ⟨32, rfl, .inl ⟨_, rfl, rfl⟩⟩ rfl rfl ?_
    refine AOps.pass ⟨32, rfl, .inl ⟨_, rfl, rfl⟩⟩ rfl rfl ?_
    refine AOps.pass ⟨32, rfl, .inl ⟨_, rfl, rfl⟩⟩ rfl rfl ?_
    refine AOps.pass ⟨32, rfl, .inl ⟨_, rfl, rfl⟩⟩ rfl rfl ?_
    refine AOps.step rfl rfl rfl (AOp.pickF rfl rfl rfl) ?_
    refine AOps.mD rfl rfl rfl rfl rfl ?_
    refine AOps.pass ⟨38, rfl, .inl ⟨_, rfl, rfl⟩⟩ rfl rfl ?_
    refine AOps.pass ⟨38, rfl, .inl ⟨_, rfl, rfl⟩⟩ rfl rfl ?_
    refine AOps.pass ⟨38, rfl, .inl ⟨_, rfl, rfl⟩⟩ rfl rfl ?_
    refine AOps.pass ⟨38, rfl, .inl ⟨_, rfl, rfl⟩⟩ rfl rfl ?_
    refine AOps.pass ⟨38, rfl, .inl ⟨_, rfl, rfl⟩⟩ rfl rfl ?_
    refine AOps.step rfl rfl rfl (AOp.pickF rfl rfl rfl) ?_
    refine AOps.mD rfl rfl rfl rfl rfl ?_
    refine AOps.pass ⟨45, rfl, .inl ⟨_, rfl, rfl⟩⟩ rfl rfl ?_
    refine AOps.pass ⟨45, rfl, .inl ⟨_, rfl, rfl⟩⟩ rfl rfl ?_
    refine AOps.pass ⟨45, rfl, .inl ⟨_, rfl, rfl⟩⟩ rfl rfl ?_
    refine AOps.pass ⟨45, rfl, .inl ⟨_, rfl, rfl⟩⟩ rfl rfl ?_
    refine AOps.pass ⟨45, rfl, .inl ⟨_, rfl, rfl⟩⟩ rfl rfl ?_
    refine AOps.step rfl rfl rfl (AOp.pickF rfl rfl rfl) (.nil ?_)
    refine AWP.cond rfl (fun h => nomatch h) (fun _ => ?_)
    refine AWP.skip ?_
    refine AWP.region ?_
    refine AOps.step rfl rfl rfl (AOp.add64 rfl rfl rfl (by omega) (by omega)) ?_
    refine AOps.mD rfl rfl rfl rfl rfl (.nil ?_)
    refine ⟨k + 1, (by omega), (by dsimp only; omega), Sub.less ⟨(SLe.of_eq rfl), SLe.refl _, SLe.refl _, SLe.refl _, SLe.refl _, SLe.refl _, SLe.refl _, SLe.refl _, trivial⟩ (row_same (by first | (rw [HY]; done) | (rw [HY, hCA, List.map_append]; rfl)))⟩
  replace h1 := of_decide_eq_false h1
  rw [List.length_map] at h1
  obtain rfl : k = v.copies.length := by omega
  have HE := rGoodTo_all v it p day
  refine AWP.exit ?_
  refine AWP.seq (AWP.region ?_)
  refine AOps.step rfl rfl rfl (AOp.moveO rfl rfl) ?_
  refine AOps.step rfl rfl rfl (AOp.assignO rfl rfl) (.nil ?_)
  refine AWP.ret ?_
  refine ⟨RetD.own rfl (.head _) ?_, trivial⟩
  all_goals (rw [HE])

end Go.Proofs.YtieccphckobhjaaGreatDoor


namespace Go.Proofs.YtieccphckobhjaaGreatDoor
open Go.RowKit
set_option linter.unusedVariables false

/-! Types. -/
namespace TyW4
theorem ag_65 : AggT Tryz.prog 65 7 := .of (by kernel_rfl)
theorem et_24 : ElemTy Tryz.prog 24 65 7 96 (.agg #[(.string ⟨#[]⟩), (.string ⟨#[]⟩), (.string ⟨#[]⟩), (.int .i64 0), (.int .i64 0), (.int .i64 0), (.slice none 0 0)]) := ⟨by kernel_rfl, by kernel_rfl, by kernel_rfl, by decide⟩
theorem et_63 : ElemTy Tryz.prog 63 3 1 8 (.int .i64 0) := ⟨by kernel_rfl, by kernel_rfl, by kernel_rfl, by decide⟩
theorem fo_26_2 : fieldOff Tryz.prog 26 2 = some 2 := by kernel_rfl
theorem fo_65_0 : fieldOff Tryz.prog 65 0 = some 0 := by kernel_rfl
theorem fo_65_5 : fieldOff Tryz.prog 65 5 = some 5 := by kernel_rfl
theorem fo_65_6 : fieldOff Tryz.prog 65 6 = some 6 := by kernel_rfl
theorem sc_24 : Scal Tryz.prog 24 := .of (by kernel_rfl)
theorem sc_3 : Scal Tryz.prog 3 := .of (by kernel_rfl)
theorem sc_63 : Scal Tryz.prog 63 := .of (by kernel_rfl)
theorem sc_9 : Scal Tryz.prog 9 := .of (by kernel_rfl)
theorem sz_65 : ∀ w, (sizeOf 65).run Tryz.prog w = .ok 7 w := SizeT.of (by kernel_rfl)
theorem zt_65 : (Tryz.prog.info? 65).bind (·.zero) = some (.agg #[(.string ⟨#[]⟩), (.string ⟨#[]⟩), (.string ⟨#[]⟩), (.int .i64 0), (.int .i64 0), (.int .i64 0), (.slice none 0 0)]) := by kernel_rfl
end TyW4
open TyW4


def srcNow (v : Vlt) (it : ByteArray) (b : Int) (c : Cpy) : Bool := decide (c.item = it) && (decide ((c.bad.length : Int) = 0) && (decide (b < 0) || decide (c.gen < (v.copies.getD b.toNat zC).gen)))
/-- The number of the best source among the first copies; -1: none. -/
def srcI (v : Vlt) (it : ByteArray) : Nat → Int
  | 0 => -1
  | k + 1 => match v.copies[k]? with | none => srcI v it k | some c => if srcNow v it (srcI v it k) c = true then (k : Int) else srcI v it k
theorem srcI_t {v : Vlt} {it : ByteArray} {k : Nat} (hk : k < v.copies.length) (h : srcNow v it (srcI v it k) v.copies[k] = true) : srcI v it (k + 1) = (k : Int) := by
  conv => lhs; unfold srcI
  rw [List.getElem?_eq_getElem hk]
  exact if_pos h
theorem srcI_f {v : Vlt} {it : ByteArray} {k : Nat} (hk : k < v.copies.length) (h : srcNow v it (srcI v it k) v.copies[k] = false) : srcI v it (k + 1) = srcI v it k := by
  conv => lhs; unfold srcI
  rw [List.getElem?_eq_getElem hk]
  exact if_neg (by rw [h]; simp)
theorem srcI_lt (v : Vlt) (it : ByteArray) : ∀ k : Nat, -1 ≤ srcI v it k ∧ srcI v it k < k
  | 0 => by unfold srcI; omega
  | k + 1 => by
    have ih := srcI_lt v it k
    unfold srcI
    split
    · omega
    · split <;> omega
theorem srcI_at {v : Vlt} {it : ByteArray} {k : Nat} (hk : k ≤ v.copies.length) (h : ¬ srcI v it k < 0) : ∃ b, ∃ hb : b < v.copies.length, srcI v it k = (b : Int) ∧ v.copies.getD (srcI v it k).toNat zC = v.copies[b] := by
  have h1 := srcI_lt v it k
  obtain ⟨b, hb⟩ : ∃ b : Nat, srcI v it k = (b : Int) := ⟨(srcI v it k).toNat, by omega⟩
  refine ⟨b, by omega, hb, ?_⟩
  rw [hb, Int.toNat_natCast]
  exact getD_at (by omega)


set_option maxRecDepth 100000 in
set_option maxHeartbeats 1000000 in
theorem c_sourceOf (v : Vlt) (it : ByteArray) (hl : v.copies.length ≤ 100000) : ACall Tryz.prog 33 [.agg v.ds, .v (.string it)] (.v (.int .i64 (srcI v it v.copies.length))) := by
  refine acall_of (n := 44) (ds' := [.v (.int .i64 (srcI v it v.copies.length))]) Tryz.func33 rfl (by kernel_rfl) rfl [4] rfl rfl ?_
  intro B w0 F0 fr
  refine AWP.seq (AWP.region ?_)
  refine AOps.step rfl rfl rfl (AOp.box rfl rfl rfl) ?_
  refine AOps.aD rfl rfl rfl rfl rfl (.nil ?_)
  refine AWP.seq (AWP.region ?_)
  refine AOps.aD rfl rfl rfl rfl rfl (.nil ?_)
  refine AWP.seq ?_
  refine AWP.seq (AWP.region ?_)
  refine AOps.step rfl rfl rfl (AOp.fieldAddr rfl fo_26_2 rfl) ?_
  refine AOps.step rfl rfl rfl (AOp.load rfl sc_24 rfl) ?_
  refine AOps.step rfl rfl rfl (AOp.lenSl rfl et_24.ht rfl) ?_
  refine AOps.mD rfl rfl rfl rfl rfl (.nil ?_)
  refine AWP.block ?_
  refine AWP.loop (G := Nat) (fun k => Env.of [(11, .d (.v (.int .i64 (k : Int)))), (9, .d (.sl (v.copies.map Cpy.ds))), (10, .d (.v (.int .i64 ((v.copies.map Cpy.ds).length : Int)))), (2, .d (.fp v.ds)), (1, .d (.v (.string it))), (5, .d (.v (.int .i64 (srcI v it k))))]) (fun k => []) (fun k => k ≤ v.copies.length) (fun k => v.copies.length - k) 0 (Nat.zero_le _) (Sub.less ⟨(SLe.of_eq rfl), SLe.refl _, SLe.refl _, SLe.refl _, SLe.refl _, (SLe.of_eq rfl), trivial⟩ (fun _ h => h)) ?_
  intro k hk
  refine AWP.seq (AWP.region ?_)
  refine AOps.step rfl rfl rfl (AOp.lss rfl rfl rfl) (.nil ?_)
  refine AWP.seq ?_
  refine AWP.cond rfl (fun h1 => ?_) (fun h1 => ?_)
  · replace h1 := of_decide_eq_true h1
    rw [List.length_map] at h1
    have hlt : k < v.copies.length := by omega
    refine AWP.skip ?_
    refine AWP.seq ?_
    refine AWP.block ?_
    refine AWP.seq (AWP.region ?_)
    refine AOps.mD rfl rfl rfl rfl rfl ?_
    refine AOps.step rfl rfl rfl (AOp.indexAddr rfl et_24 rfl rfl k rfl (at_list hlt) rfl) ?_
    refine AOps.step rfl rfl rfl (AOp.loadAgg rfl ag_65 rfl rfl) ?_
    refine AOps.alloc 101 rfl rfl rfl rfl zt_65 rfl rfl rfl ?_
    refine AOps.aD rfl rfl rfl rfl rfl ?_
    refine AOps.store rfl rfl rfl sz_65 rfl (.head _) rfl rfl rfl (Nat.le_of_ble_eq_true rfl) ?_
    refine AOps.freezeCells 7 (ds := v.copies[k].ds) rfl (.head _) (.nil ?_)
    refine AWP.seq ?_
    refine AWP.draw (by kernel_rfl) (by kernel_rfl) ?_
    refine DRun.step rfl rfl rfl (AOp.fieldAddr rfl fo_65_0 rfl) ?_
    refine DRun.step rfl rfl rfl (AOp.load rfl sc_9 rfl) ?_
    refine DRun.step rfl rfl rfl (AOp.moveD rfl rfl) ?_
    refine DRun.step rfl rfl rfl (AOp.seql rfl rfl rfl) ?_
    refine DRun.step rfl rfl rfl (AOp.moveD rfl rfl) ?_
    refine DRun.split 20 rfl (fun g2 => ?_) (fun g2 => ?_)
    · replace g2 := of_decide_eq_true g2
      have hI := g2
      refine DRun.step ⟨20, rfl, .inl ⟨_, rfl, rfl⟩⟩ rfl rfl (AOp.fieldAddr rfl fo_65_6 rfl) ?_
      refine DRun.step ⟨20, rfl, .inl ⟨_, rfl, rfl⟩⟩ rfl rfl (AOp.load rfl sc_63 rfl) ?_
      refine DRun.step ⟨20, rfl, .inl ⟨_, rfl, rfl⟩⟩ rfl rfl (AOp.lenSl rfl et_63.ht rfl) ?_
      refine DRun.step ⟨20, rfl, .inl ⟨_, rfl, rfl⟩⟩ rfl rfl (AOp.eql rfl rfl rfl) ?_
      refine DRun.step rfl rfl rfl (AOp.pickT rfl rfl rfl) ?_
      refine DRun.step rfl rfl rfl (AOp.moveD rfl rfl) ?_
      refine DRun.split 26 rfl (fun g3 => ?_) (fun g3 => ?_)
      · replace g3 := of_decide_eq_true g3
        rw [List.length_map] at g3
        have hB := g3
        refine DRun.step ⟨26, rfl, .inl ⟨_, rfl, rfl⟩⟩ rfl rfl (AOp.moveD rfl rfl) ?_
        refine DRun.step ⟨26, rfl, .inl ⟨_, rfl, rfl⟩⟩ rfl rfl (AOp.lss rfl rfl rfl) ?_
        refine DRun.step ⟨26, rfl, .inl ⟨_, rfl, rfl⟩⟩ rfl rfl (AOp.moveD rfl rfl) ?_
        refine DRun.split 29 rfl (fun g4 => ?_) (fun g4 => ?_)
        · replace g4 := of_decide_eq_true g4
          have HX := srcI_t (it := it) hlt (by unfold srcNow; rw [decide_eq_true hI, decide_eq_true hB, decide_eq_true g4]; rfl)
          refine DRun.pass ⟨29, rfl, .inl ⟨_, rfl, rfl⟩⟩ rfl rfl ?_
          refine DRun.pass ⟨29, rfl, .inl ⟨_, rfl, rfl⟩⟩ rfl rfl ?_
          refine DRun.pass ⟨29, rfl, .inl ⟨_, rfl, rfl⟩⟩ rfl rfl ?_
          refine DRun.pass ⟨29, rfl, .inl ⟨_, rfl, rfl⟩⟩ rfl rfl ?_
          refine DRun.pass ⟨29, rfl, .inl ⟨_, rfl, rfl⟩⟩ rfl rfl ?_
          refine DRun.pass ⟨29, rfl, .inl ⟨_, rfl, rfl⟩⟩ rfl rfl ?_
          refine DRun.pass ⟨29, rfl, .inl ⟨_, rfl, rfl⟩⟩ rfl rfl ?_
          refine DRun.pass ⟨29, rfl, .inl ⟨_, rfl, rfl⟩⟩ rfl rfl ?_
          refine DRun.pass ⟨29, rfl, .inl ⟨_, rfl, rfl⟩⟩ rfl rfl ?_
          refine DRun.step ⟨26, rfl, .inl ⟨_, rfl, rfl⟩⟩ rfl rfl (AOp.pickT rfl rfl rfl) ?_
          refine DRun.step rfl rfl rfl (AOp.pickT rfl rfl rfl) ?_
          refine DRun.nil ?_
          refine AWP.cond rfl (fun _ => ?_) (fun h => nomatch h)
          refine AWP.region ?_
          refine AOps.mD rfl rfl rfl rfl rfl ?_
          refine AOps.aD rfl rfl rfl rfl rfl (.nil ?_)
          refine AWP.region ?_
          refine AOps.step rfl rfl rfl (AOp.add64 rfl rfl rfl (by omega) (by omega)) ?_
          refine AOps.mD rfl rfl rfl rfl rfl (.nil ?_)
          refine ⟨k + 1, (by omega), (by dsimp only; omega), Sub.less ⟨(SLe.of_eq rfl), SLe.refl _, SLe.refl _, SLe.refl _, SLe.refl _, (SLe.i64 (by rw [HX])), trivial⟩ (fun _ h => by cases h)⟩
        replace g4 := of_decide_eq_false g4
        have hb1 := g4
        obtain ⟨bi, hbi, ebi, hbe⟩ := srcI_at (v := v) (it := it) hk g4
        refine DRun.step ⟨29, rfl, .inl ⟨_, rfl, rfl⟩⟩ rfl rfl (AOp.fieldAddr rfl fo_65_5 rfl) ?_
        refine DRun.step ⟨29, rfl, .inl ⟨_, rfl, rfl⟩⟩ rfl rfl (AOp.load rfl sc_3 rfl) ?_
        refine DRun.step ⟨29, rfl, .inl ⟨_, rfl, rfl⟩⟩ rfl rfl (AOp.fieldAddr rfl fo_26_2 rfl) ?_
        refine DRun.step ⟨29, rfl, .inl ⟨_, rfl, rfl⟩⟩ rfl rfl (AOp.load rfl sc_24 rfl) ?_
        refine DRun.step ⟨29, rfl, .inl ⟨_, rfl, rfl⟩⟩ rfl rfl (AOp.moveD rfl rfl) ?_
        refine DRun.step ⟨29, rfl, .inl ⟨_, rfl, rfl⟩⟩ rfl rfl (AOp.indexAddr rfl et_24 rfl rfl bi ebi (at_list hbi) rfl) ?_
        refine DRun.step ⟨29, rfl, .inl ⟨_, rfl, rfl⟩⟩ rfl rfl (AOp.fieldAddr rfl fo_65_5 rfl) ?_
        refine DRun.step ⟨29, rfl, .inl ⟨_, rfl, rfl⟩⟩ rfl rfl (AOp.load rfl sc_3 rfl) ?_
        refine DRun.step ⟨29, rfl, .inl ⟨_, rfl, rfl⟩⟩ rfl rfl (AOp.lss rfl rfl rfl) ?_
        refine DRun.step ⟨26, rfl, .inl ⟨_, rfl, rfl⟩⟩ rfl rfl (AOp.pickF rfl rfl rfl) ?_
        refine DRun.step rfl rfl rfl (AOp.pickT rfl rfl rfl) ?_
        refine DRun.nil ?_
        refine AWP.cond rfl (fun h5 => ?_) (fun h5 => ?_)
        · replace h5 := of_decide_eq_true h5
          have HX := srcI_t (it := it) hlt (by unfold srcNow; rw [hbe, decide_eq_true hI, decide_eq_true hB, decide_eq_true h5]; simp)
          refine AWP.region ?_
          refine AOps.mD rfl rfl rfl rfl rfl ?_
          refine AOps.aD rfl rfl rfl rfl rfl (.nil ?_)
          refine AWP.region ?_
          refine AOps.step rfl rfl rfl (AOp.add64 rfl rfl rfl (by omega) (by omega)) ?_
          refine AOps.mD rfl rfl rfl rfl rfl (.nil ?_)
          refine ⟨k + 1, (by omega), (by dsimp only; omega), Sub.less ⟨(SLe.of_eq rfl), SLe.refl _, SLe.refl _, SLe.refl _, SLe.refl _, (SLe.i64 (by rw [HX])), trivial⟩ (fun _ h => by cases h)⟩
        replace h5 := of_decide_eq_false h5
        have HX := srcI_f (it := it) hlt (by unfold srcNow; rw [hbe, decide_eq_false h5, decide_eq_false hb1]; simp)
        refine AWP.skip ?_
        refine AWP.region ?_
        refine AOps.step rfl rfl rfl (AOp.add64 rfl rfl rfl (by omega) (by omega)) ?_
        refine AOps.mD rfl rfl rfl rfl rfl (.nil ?_)
        refine ⟨k + 1, (by omega), (by dsimp only; omega), Sub.less ⟨(SLe.of_eq rfl), SLe.refl _, SLe.refl _, SLe.refl _, SLe.refl _, (SLe.i64 (by rw [HX])), trivial⟩ (fun _ h => by cases h)⟩
      replace g3 := of_decide_eq_false g3
      rw [List.length_map] at g3
      have HX := srcI_f (it := it) hlt (by unfold srcNow; rw [decide_eq_false g3]; simp)
      refine DRun.pass ⟨26, rfl, .inl ⟨_, rfl, rfl⟩⟩ rfl rfl ?_
      refine DRun.pass ⟨26, rfl, .inl ⟨_, rfl, rfl⟩⟩ rfl rfl ?_
      refine DRun.pass ⟨26, rfl, .inl ⟨_, rfl, rfl⟩⟩ rfl rfl ?_
      refine DRun.pass ⟨29, rfl, .inr ⟨rfl, rfl⟩⟩ rfl rfl ?_
      refine DRun.pass ⟨29, rfl, .inr ⟨rfl, rfl⟩⟩ rfl rfl ?_
      refine DRun.pass ⟨29, rfl, .inr ⟨rfl, rfl⟩⟩ rfl rfl ?_
      refine DRun.pass ⟨29, rfl, .inr ⟨rfl, rfl⟩⟩ rfl rfl ?_
      refine DRun.pass ⟨29, rfl, .inr ⟨rfl, rfl⟩⟩ rfl rfl ?_
      refine DRun.pass ⟨29, rfl, .inr ⟨rfl, rfl⟩⟩ rfl rfl ?_
      refine DRun.pass ⟨29, rfl, .inr ⟨rfl, rfl⟩⟩ rfl rfl ?_
      refine DRun.pass ⟨29, rfl, .inr ⟨rfl, rfl⟩⟩ rfl rfl ?_
      refine DRun.pass ⟨29, rfl, .inr ⟨rfl, rfl⟩⟩ rfl rfl ?_
      refine DRun.pass ⟨26, rfl, .inl ⟨_, rfl, rfl⟩⟩ rfl rfl ?_
      refine DRun.step rfl rfl rfl (AOp.pickF rfl rfl rfl) ?_
      refine DRun.nil ?_
      refine AWP.cond rfl (fun h => nomatch h) (fun _ => ?_)
      refine AWP.skip ?_
      refine AWP.region ?_
      refine AOps.step rfl rfl rfl (AOp.add64 rfl rfl rfl (by omega) (by omega)) ?_
      refine AOps.mD rfl rfl rfl rfl rfl (.nil ?_)
      refine ⟨k + 1, (by omega), (by dsimp only; omega), Sub.less ⟨(SLe.of_eq rfl), SLe.refl _, SLe.refl _, SLe.refl _, SLe.refl _, (SLe.i64 (by rw [HX])), trivial⟩ (fun _ h => by cases h)⟩
    replace g2 := of_decide_eq_false g2
    have HX := srcI_f (it := it) hlt (by unfold srcNow; rw [decide_eq_false g2]; rfl)
    refine DRun.pass ⟨20, rfl, .inl ⟨_, rfl, rfl⟩⟩ rfl rfl ?_
    refine DRun.pass ⟨20, rfl, .inl ⟨_, rfl, rfl⟩⟩ rfl rfl ?_
    refine DRun.pass ⟨20, rfl, .inl ⟨_, rfl, rfl⟩⟩ rfl rfl ?_
    refine DRun.pass ⟨20, rfl, .inl ⟨_, rfl, rfl⟩⟩ rfl rfl ?_
    refine DRun.step rfl rfl rfl (AOp.pickF rfl rfl rfl) ?_
    refine DRun.step rfl rfl rfl (AOp.moveD rfl rfl) ?_
    refine DRun.pass ⟨26, rfl, .inl ⟨_, rfl, rfl⟩⟩ rfl rfl ?_
    refine DRun.pass ⟨26, rfl, .inl ⟨_, rfl, rfl⟩⟩ rfl rfl ?_
    refine DRun.pass ⟨26, rfl, .inl ⟨_, rfl, rfl⟩⟩ rfl rfl ?_
    refine DRun.pass ⟨29, rfl, .inr ⟨rfl, rfl⟩⟩ rfl rfl ?_
    refine DRun.pass ⟨29, rfl, .inr ⟨rfl, rfl⟩⟩ rfl rfl ?_
    refine DRun.pass ⟨29, rfl, .inr ⟨rfl, rfl⟩⟩ rfl rfl ?_
    refine DRun.pass ⟨29, rfl, .inr ⟨rfl, rfl⟩⟩ rfl rfl ?_
    refine DRun.pass ⟨29, rfl, .inr ⟨rfl, rfl⟩⟩ rfl rfl ?_
    refine DRun.pass ⟨29, rfl, .inr ⟨rfl, rfl⟩⟩ rfl rfl ?_
    refine DRun.pass ⟨29, rfl, .inr ⟨rfl, rfl⟩⟩ rfl rfl ?_
    refine DRun.pass ⟨29, rfl, .inr ⟨rfl, rfl⟩⟩ rfl rfl ?_
    refine DRun.pass ⟨29, rfl, .inr ⟨rfl, rfl⟩⟩ rfl rfl ?_
    refine DRun.pass ⟨26, rfl, .inl ⟨_, rfl, rfl⟩⟩ rfl rfl ?_
    refine DRun.step rfl rfl rfl (AOp.pickF rfl rfl rfl) ?_
    refine DRun.nil ?_
    refine AWP.cond rfl (fun h => nomatch h) (fun _ => ?_)
    refine AWP.skip ?_
    refine AWP.region ?_
    refine AOps.step rfl rfl rfl (AOp.add64 rfl rfl rfl (by omega) (by omega)) ?_
    refine AOps.mD rfl rfl rfl rfl rfl (.nil ?_)
    refine ⟨k + 1, (by omega), (by dsimp only; omega), Sub.less ⟨(SLe.of_eq rfl), SLe.refl _, SLe.refl _, SLe.refl _, SLe.refl _, (SLe.i64 (by rw [HX])), trivial⟩ (fun _ h => by cases h)⟩
  replace h1 := of_decide_eq_false h1
  rw [List.length_map] at h1
  obtain rfl : k = v.copies.length := by omega
  refine AWP.exit ?_
  refine AWP.seq (AWP.region ?_)
  refine AOps.mD rfl rfl rfl rfl rfl ?_
  refine AOps.aD rfl rfl rfl rfl rfl (.nil ?_)
  refine AWP.ret ?_
  refine ⟨RetD.eq rfl ?_, trivial⟩
  all_goals (rfl)

end Go.Proofs.YtieccphckobhjaaGreatDoor


namespace Go.Proofs.YtieccphckobhjaaGreatDoor
open Go.RowKit
set_option linter.unusedVariables false

/-! Types. -/
namespace TyW5
theorem ag_28 : AggT Tryz.prog 28 6 := .of (by kernel_rfl)
theorem ag_70 : AggT Tryz.prog 70 3 := .of (by kernel_rfl)
end TyW5
open TyW5


def enoughB (p : Pol) (l : List Carr) : Bool := decide (lackC p l = 0) && (decide (lackP p l = 0) && decide (lackK p l = 0))
theorem lack_bounds {p : Pol} (po : POk p) (l : List Carr) : (0 ≤ lackC p l ∧ lackC p l ≤ 16) ∧ (0 ≤ lackP p l ∧ lackP p l ≤ 16) ∧ 0 ≤ lackK p l ∧ lackK p l ≤ 16 := by
  have h1 := po.copies
  have h2 := po.places
  have h3 := po.kinds
  unfold lackC lackP lackK
  omega
theorem enough_sum {p : Pol} (po : POk p) (l : List Carr) : decide (lackC p l + lackP p l + lackK p l = 0) = enoughB p l := by
  obtain ⟨a, b, c⟩ := lack_bounds po l
  unfold enoughB
  rw [Bool.eq_iff_iff]
  simp only [Bool.and_eq_true, decide_eq_true_eq]
  omega


set_option maxRecDepth 100000 in
set_option maxHeartbeats 1000000 in
theorem c_enough (l : List Carr) (p : Pol) (po : POk p) (hl : l.length ≤ 1000) : ACall Tryz.prog 24 [.agg (spreadDs l), .agg p.ds] (.v (.bool (enoughB p l))) := by
  refine acall_of (n := 21) (ds' := [.v (.bool (enoughB p l))]) Tryz.func24 rfl (by kernel_rfl) rfl [4] rfl rfl ?_
  intro B w0 F0 fr
  have hlb := lack_bounds po l
  rw [← enough_sum po l]
  refine AWP.seq (AWP.region ?_)
  refine AOps.step rfl rfl rfl (AOp.box rfl rfl rfl) ?_
  refine AOps.step rfl rfl rfl (AOp.box rfl rfl rfl) ?_
  refine AOps.aD rfl rfl rfl rfl rfl (.nil ?_)
  refine AWP.seq (AWP.region ?_)
  refine AOps.step rfl rfl rfl (AOp.loadAgg rfl ag_70 rfl rfl) ?_
  refine AOps.step rfl rfl rfl (AOp.loadAgg rfl ag_28 rfl rfl) ?_
  refine AOps.step rfl rfl rfl (AOp.call rfl (.cons (ArgOk.rfl' rfl) (.cons (ArgOk.rfl' rfl) .nil)) (c_lacking l p po hl)) ?_
  refine AOps.mD rfl rfl rfl rfl rfl ?_
  refine AOps.step rfl rfl rfl (AOp.extract rfl rfl rfl) ?_
  refine AOps.step rfl rfl rfl (AOp.extract rfl rfl rfl) ?_
  refine AOps.step rfl rfl rfl (AOp.extract rfl rfl rfl) ?_
  refine AOps.aD rfl rfl rfl rfl rfl ?_
  refine AOps.aD rfl rfl rfl rfl rfl ?_
  refine AOps.aD rfl rfl rfl rfl rfl (.nil ?_)
  refine AWP.seq (AWP.region ?_)
  refine AOps.mD rfl rfl rfl rfl rfl ?_
  refine AOps.mD rfl rfl rfl rfl rfl ?_
  refine AOps.step rfl rfl rfl (AOp.add64 rfl rfl rfl (by omega) (by omega)) ?_
  refine AOps.mD rfl rfl rfl rfl rfl ?_
  refine AOps.step rfl rfl rfl (AOp.add64 rfl rfl rfl (by omega) (by omega)) ?_
  refine AOps.step rfl rfl rfl (AOp.eql rfl rfl rfl) ?_
  refine AOps.aD rfl rfl rfl rfl rfl (.nil ?_)
  refine AWP.ret ?_
  refine ⟨RetD.eq rfl ?_, trivial⟩
  all_goals (rfl)

set_option maxRecDepth 100000 in
set_option maxHeartbeats 1000000 in
theorem c_none (l : List Carr) (p : Pol) (po : POk p) (hl : l.length ≤ 1000) : ACall Tryz.prog 82 [.sl (l.map Carr.ds), .agg p.ds] (.v (.bool (enoughB p l))) := by
  refine acall_of (n := 25) (ds' := [.v (.bool (enoughB p l))]) Tryz.func82 rfl (by kernel_rfl) rfl [4] rfl rfl ?_
  intro B w0 F0 fr
  refine AWP.seq (AWP.region ?_)
  refine AOps.step rfl rfl rfl (AOp.box rfl rfl rfl) ?_
  refine AOps.aD rfl rfl rfl rfl rfl (.nil ?_)
  refine AWP.seq (AWP.region ?_)
  refine AOps.mD rfl rfl rfl rfl rfl ?_
  refine AOps.step rfl rfl rfl (AOp.loadAgg rfl ag_28 rfl rfl) ?_
  refine AOps.step rfl rfl rfl (AOp.call rfl (.cons (ArgOk.rfl' rfl) (.cons (ArgOk.rfl' rfl) .nil)) (c_missing l p po hl)) ?_
  refine AOps.mD rfl rfl rfl rfl rfl ?_
  refine AOps.step rfl rfl rfl (AOp.extract rfl rfl rfl) ?_
  refine AOps.step rfl rfl rfl (AOp.extract rfl rfl rfl) ?_
  refine AOps.step rfl rfl rfl (AOp.extract rfl rfl rfl) ?_
  refine AOps.aD rfl rfl rfl rfl rfl ?_
  refine AOps.aD rfl rfl rfl rfl rfl ?_
  refine AOps.aD rfl rfl rfl rfl rfl (.nil ?_)
  refine AWP.seq (AWP.region ?_)
  refine AOps.mD rfl rfl rfl rfl rfl ?_
  refine AOps.step rfl rfl rfl (AOp.eql rfl rfl rfl) ?_
  refine AOps.mD rfl rfl rfl rfl rfl ?_
  refine AOps.split 17 rfl (fun g1 => ?_) (fun g1 => ?_)
  · replace g1 := of_decide_eq_true g1
    have a1 := g1
    refine AOps.step ⟨17, rfl, .inl ⟨_, rfl, rfl⟩⟩ rfl rfl (AOp.moveD rfl rfl) ?_
    refine AOps.step ⟨17, rfl, .inl ⟨_, rfl, rfl⟩⟩ rfl rfl (AOp.eql rfl rfl rfl) ?_
    refine AOps.step rfl rfl rfl (AOp.pickT rfl rfl rfl) ?_
    refine AOps.mD rfl rfl rfl rfl rfl ?_
    refine AOps.split 21 rfl (fun g2 => ?_) (fun g2 => ?_)
    · replace g2 := of_decide_eq_true g2
      have HE : enoughB p l = decide (lackK p l = 0) := by unfold enoughB; rw [decide_eq_true a1, decide_eq_true g2]; rfl
      rw [HE]
      refine AOps.step ⟨21, rfl, .inl ⟨_, rfl, rfl⟩⟩ rfl rfl (AOp.moveD rfl rfl) ?_
      refine AOps.step ⟨21, rfl, .inl ⟨_, rfl, rfl⟩⟩ rfl rfl (AOp.eql rfl rfl rfl) ?_
      refine AOps.step rfl rfl rfl (AOp.pickT rfl rfl rfl) ?_
      refine AOps.aD rfl rfl rfl rfl rfl (.nil ?_)
      refine AWP.ret ?_
      refine ⟨RetD.eq rfl ?_, trivial⟩
      all_goals (rfl)
    replace g2 := of_decide_eq_false g2
    have HE : enoughB p l = false := by unfold enoughB; rw [decide_eq_true a1, decide_eq_false g2]; rfl
    rw [HE]
    refine AOps.pass ⟨21, rfl, .inl ⟨_, rfl, rfl⟩⟩ rfl rfl ?_
    refine AOps.pass ⟨21, rfl, .inl ⟨_, rfl, rfl⟩⟩ rfl rfl ?_
    refine AOps.step rfl rfl rfl (AOp.pickF rfl rfl rfl) ?_
    refine AOps.aD rfl rfl rfl rfl rfl (.nil ?_)
    refine AWP.ret ?_
    refine ⟨RetD.eq rfl ?_, trivial⟩
    all_goals (rfl)
  replace g1 := of_decide_eq_false g1
  have HE : enoughB p l = false := by unfold enoughB; rw [decide_eq_false g1]; rfl
  rw [HE]
  refine AOps.pass ⟨17, rfl, .inl ⟨_, rfl, rfl⟩⟩ rfl rfl ?_
  refine AOps.pass ⟨17, rfl, .inl ⟨_, rfl, rfl⟩⟩ rfl rfl ?_
  refine AOps.step rfl rfl rfl (AOp.pickF rfl rfl rfl) ?_
  refine AOps.mD rfl rfl rfl rfl rfl ?_
  refine AOps.pass ⟨21, rfl, .inl ⟨_, rfl, rfl⟩⟩ rfl rfl ?_
  refine AOps.pass ⟨21, rfl, .inl ⟨_, rfl, rfl⟩⟩ rfl rfl ?_
  refine AOps.step rfl rfl rfl (AOp.pickF rfl rfl rfl) ?_
  refine AOps.aD rfl rfl rfl rfl rfl (.nil ?_)
  refine AWP.ret ?_
  refine ⟨RetD.eq rfl ?_, trivial⟩
  all_goals (rfl)

end Go.Proofs.YtieccphckobhjaaGreatDoor


namespace Go.Proofs.YtieccphckobhjaaGreatDoor
open Go.RowKit
set_option linter.unusedVariables false

theorem AOps.callOS {cx : Cx} {ops : Array Oper} {o : Oper} {rest : List Oper} {e : Env} {σ : Obs} {Q : Post} {f : FuncId} {xs : List Operand} {ts : Array TypeId} {ds : List D} {ee size dst : Nat} {els : List (List D)} (id : Nat) (hg : o.guard = none) (ht : o.dst = some dst) (hdn : Nat.blt dst cx.N = true)
    (ho : o.op = .call { callee := .value (.func f), args := xs.toArray, argTypes := ts }) (ha : SnapArgs e σ xs ds) (h : OCall cx.P f ds ee size els) (hpl : ∀ y ∈ els, ∀ d ∈ y, Plain d) (hid : Obs.fresh id σ = true)
    (k : AOps cx ops rest ((e.kill id).put (some dst) (.own id)) ((id, .row ee size els) :: Obs.kill id σ) Q) (hfx : cx.free id = true := by rfl) : AOps cx ops (o :: rest) e σ Q := by
  intro a w ⟨F, ρ, hr⟩
  have hdn' : dst < cx.N := by simpa [Nat.blt_eq] using hdn
  have hF2 : ∀ b, endF F ρ σ b → b < w.heap.size := by
    rintro b (hb | ⟨p, hp, hb⟩)
    · exact hr.lt b hb
    · exact ((hr.obs.ok p hp).blk_lt hb).2
  have h4 := h.2 (endF F ρ σ) w (xs.map a.eval) hF2 (ha.rep (a := a) hr.obs fun x _ => ev_rep fun t _ => hr.env t)
  have h5 := h.1 (xs.map a.eval).toArray w
  have hx : (execOp a.eval o).run cx.P w = .ok (.enter f (xs.map a.eval).toArray) w := by
    unfold execOp
    simp only [ho, resolve, Deferred.ofValue, Act.eval, invoke, Sem.run_bind, Sem.run_pure, Result.andThen_ok]
    simpa using h5
  refine wpList_plain hg fun K hK => ?_
  unfold Oper.wp
  rw [hx]
  refine h4.mono fun _ w' ⟨v, F', he, hE, hob⟩ => ?_
  subst he
  have hE2 : Ext F w F w' := Ext.of_below hr.lt hE.below
  have hnew : ∀ g, blk v = some g → w.heap.size ≤ g := fun g hg => (hob.blk_lt hg).1
  have hob2 : ObOk w.heap.size F (fun _ => v) w' 0 (.row ee size els) := by
    obtain ⟨ys, h1, h2, h3, h4⟩ := hob
    refine ⟨ys, h1, h2, fun i hi j hj => ⟨(h3 i hi j hj).1, (hpl _ (List.getElem_mem hi) _ (List.getElem_mem hj)).rep _ (h3 i hi j hj).2⟩, fun g hg hf => ?_⟩
    have := hnew g hg
    have := hr.lt g hf
    omega
  obtain ⟨ρ', h6⟩ := hr.newObF (ob := .row ee size els) (v := v) (Obs.fresh_spec hid) hdn' hE2 (obOk_base hob2 hr.hB (by simp)) hnew hfx
  have := k _ _ ⟨F, ρ', h6⟩
  rw [← ht] at this
  exact hK _ _ this
end Go.Proofs.YtieccphckobhjaaGreatDoor


namespace Go.Proofs.YtieccphckobhjaaGreatDoor
open Go.RowKit
set_option linter.unusedVariables false

/-! Types. -/
namespace TyW6

end TyW6
open TyW6


def carrN (v : Vlt) (i : Nat) : Carr := v.carrs.getD i ⟨⟨#[]⟩, ⟨#[]⟩, ⟨#[]⟩, 0, 0⟩
def candB (v : Vlt) (p : Pol) (x : Item) (room : List Int) (day : Int) (k : Nat) (c : Carr) : Bool := decide (copyIdx v x.name c.name < 0) && (!oldB p day c && decide (room.getD k 0 ≥ x.blocks))
/-- The carriers, by number, to which an item may be copied. -/
def candTo (v : Vlt) (p : Pol) (x : Item) (room : List Int) (day : Int) : Nat → List Nat
  | 0 => []
  | k + 1 => candTo v p x room day k ++ (if candB v p x room day k (carrN v k) = true then [k] else [])
def cand (v : Vlt) (p : Pol) (x : Item) (room : List Int) (day : Int) : List Nat := candTo v p x room day v.carrs.length
theorem candTo_t {v : Vlt} {p : Pol} {x : Item} {room : List Int} {day : Int} {k : Nat} (h : candB v p x room day k (carrN v k) = true) : candTo v p x room day (k + 1) = candTo v p x room day k ++ [k] := by
  show candTo v p x room day k ++ _ = _
  rw [if_pos h]
theorem candTo_f {v : Vlt} {p : Pol} {x : Item} {room : List Int} {day : Int} {k : Nat} (h : candB v p x room day k (carrN v k) = false) : candTo v p x room day (k + 1) = candTo v p x room day k := by
  show candTo v p x room day k ++ _ = _
  rw [if_neg (by rw [h]; simp), List.append_nil]
theorem candTo_len {v : Vlt} {p : Pol} {x : Item} {room : List Int} {day : Int} : ∀ k, (candTo v p x room day k).length ≤ k
  | 0 => Nat.le_refl _
  | k + 1 => by
    have := candTo_len (v := v) (p := p) (x := x) (room := room) (day := day) k
    show (candTo v p x room day k ++ _).length ≤ _
    rw [List.length_append]
    split <;> simp <;> omega
theorem candTo_lt {v : Vlt} {p : Pol} {x : Item} {room : List Int} {day : Int} : ∀ {k i : Nat}, i ∈ candTo v p x room day k → i < k
  | k + 1, i, h => by
    have h : i ∈ candTo v p x room day k ++ _ := h
    rcases List.mem_append.1 h with h | h
    · have := candTo_lt h; omega
    · split at h
      · have := List.mem_singleton.1 h; omega
      · cases h
theorem carrN_at {v : Vlt} {k : Nat} (hk : k < v.carrs.length) : carrN v k = v.carrs[k] := by unfold carrN; rw [List.getD_eq_getElem?_getD, List.getElem?_eq_getElem hk]; rfl
theorem roomAt {l : List Int} {k : Nat} (hk : k < l.length) : l.getD k 0 = l[k] := by rw [List.getD_eq_getElem?_getD, List.getElem?_eq_getElem hk]; rfl
/-- The good ones' carriers, with those of a choice. -/
def withL (v : Vlt) (good : List Carr) (l ch : List Nat) : List Carr := good ++ ch.map fun i => carrN v (l.getD i 0)
def tgtC (v : Vlt) (p : Pol) (x : Item) (room : List Int) (day : Int) : Option (List Nat) := chosenC (cand v p x room day).length fun ch => enoughB p (withL v (goodOnes v x.name p day) (cand v p x room day) ch)
def noTgt (v : Vlt) (p : Pol) (x : Item) (day : Int) : Bool := decide (srcI v x.name v.copies.length < 0) || (decide ((v.copies.getD (srcI v x.name v.copies.length).toNat zC).gen ≥ p.gens) || enoughB p (goodOnes v x.name p day))
/-- The numbers of the carriers to which an item is to be copied. -/
def tgtR (v : Vlt) (p : Pol) (x : Item) (room : List Int) (day : Int) : List Nat := if noTgt v p x day = true then [] else ((tgtC v p x room day).getD []).map fun i => (cand v p x room day).getD i 0
theorem goodOnes_len (v : Vlt) (it : ByteArray) (p : Pol) (day : Int) : (goodOnes v it p day).length ≤ v.copies.length := by rw [← rGoodTo_all]; exact rGoodTo_len v it p day _
theorem tgt_no {v : Vlt} {p : Pol} {x : Item} {room : List Int} {day : Int} (h : noTgt v p x day = true) : tgtR v p x room day = [] := if_pos h
theorem tgt_go {v : Vlt} {p : Pol} {x : Item} {room : List Int} {day : Int} (h : noTgt v p x day = false) : tgtR v p x room day = ((tgtC v p x room day).getD []).map fun i => (cand v p x room day).getD i 0 := if_neg (by rw [h]; simp)
theorem cl_triple2 {a b c id id2 : Nat} {s s' s'' : S} {sl sl2 : List Nat} (ha : sl.contains a = true) (hb : sl.contains b = true) (hc : sl.contains c = true) (h1 : s.kill id2 = s) (h2 : s'.kill id2 = s') (h3 : s''.kill id2 = s'') : ∀ p ∈ [(a, s), (b, s'), (c, s'')], ∀ f ∈ [(⟨id, sl⟩ : Fc), ⟨id2, sl2⟩], f.slots.contains p.1 = true ∨ p.2.kill f.id = p.2 := by
  intro p hp f hf
  rcases List.mem_cons.1 hf with rfl | hf
  · refine .inl ?_
    rcases List.mem_cons.1 hp with rfl | hp
    · exact ha
    · rcases List.mem_cons.1 hp with rfl | hp
      · exact hb
      · obtain rfl := List.mem_singleton.1 hp; exact hc
  · obtain rfl := List.mem_singleton.1 hf
    refine .inr ?_
    rcases List.mem_cons.1 hp with rfl | hp
    · exact h1
    · rcases List.mem_cons.1 hp with rfl | hp
      · exact h2
      · obtain rfl := List.mem_singleton.1 hp; exact h3
theorem cl_triple2' {a b c id id2 : Nat} {s s' s'' : S} {sl sl2 : List Nat} (ha : sl.contains a = true) (hb : sl.contains b = true) (hc : sl.contains c = true) (h1 : s.kill id2 = s) (h2 : s'.kill id2 = s') (h3 : s''.kill id2 = s'') : ∀ p ∈ [(a, s), (b, s'), (c, s'')], ∀ f ∈ [(⟨id2, sl2⟩ : Fc), ⟨id, sl⟩], f.slots.contains p.1 = true ∨ p.2.kill f.id = p.2 := fun p hp f hf =>
  cl_triple2 ha hb hc h1 h2 h3 p hp f (by
    rcases List.mem_cons.1 hf with rfl | hf
    · exact .tail _ (.head _)
    · obtain rfl := List.mem_singleton.1 hf; exact .head _)


end Go.Proofs.YtieccphckobhjaaGreatDoor


namespace Go.Proofs.YtieccphckobhjaaGreatDoor
open Go.RowKit
set_option linter.unusedVariables false

/-! Types. -/
namespace TyW7
theorem ag_26 : AggT Tryz.prog 26 3 := .of (by kernel_rfl)
theorem ag_28 : AggT Tryz.prog 28 6 := .of (by kernel_rfl)
theorem ag_59 : AggT Tryz.prog 59 5 := .of (by kernel_rfl)
theorem et_23 : ElemTy Tryz.prog 23 59 5 64 (.agg #[(.string ⟨#[]⟩), (.string ⟨#[]⟩), (.string ⟨#[]⟩), (.int .i64 0), (.int .i64 0)]) := ⟨by kernel_rfl, by kernel_rfl, by kernel_rfl, by decide⟩
theorem et_24 : ElemTy Tryz.prog 24 65 7 96 (.agg #[(.string ⟨#[]⟩), (.string ⟨#[]⟩), (.string ⟨#[]⟩), (.int .i64 0), (.int .i64 0), (.int .i64 0), (.slice none 0 0)]) := ⟨by kernel_rfl, by kernel_rfl, by kernel_rfl, by decide⟩
theorem et_63 : ElemTy Tryz.prog 63 3 1 8 (.int .i64 0) := ⟨by kernel_rfl, by kernel_rfl, by kernel_rfl, by decide⟩
theorem fo_26_1 : fieldOff Tryz.prog 26 1 = some 1 := by kernel_rfl
theorem fo_26_2 : fieldOff Tryz.prog 26 2 = some 2 := by kernel_rfl
theorem fo_28_5 : fieldOff Tryz.prog 28 5 = some 5 := by kernel_rfl
theorem fo_59_0 : fieldOff Tryz.prog 59 0 = some 0 := by kernel_rfl
theorem fo_62_0 : fieldOff Tryz.prog 62 0 = some 0 := by kernel_rfl
theorem fo_62_1 : fieldOff Tryz.prog 62 1 = some 1 := by kernel_rfl
theorem fo_65_5 : fieldOff Tryz.prog 65 5 = some 5 := by kernel_rfl
theorem sc_23 : Scal Tryz.prog 23 := .of (by kernel_rfl)
theorem sc_24 : Scal Tryz.prog 24 := .of (by kernel_rfl)
theorem sc_3 : Scal Tryz.prog 3 := .of (by kernel_rfl)
theorem sc_9 : Scal Tryz.prog 9 := .of (by kernel_rfl)
theorem sz_59 : ∀ w, (sizeOf 59).run Tryz.prog w = .ok 5 w := SizeT.of (by kernel_rfl)
theorem zt_59 : (Tryz.prog.info? 59).bind (·.zero) = some (.agg #[(.string ⟨#[]⟩), (.string ⟨#[]⟩), (.string ⟨#[]⟩), (.int .i64 0), (.int .i64 0)]) := by kernel_rfl
end TyW7
open TyW7


theorem het_cr : ElemTy Tryz.prog 23 59 5 64 (.agg #[(.string ⟨#[]⟩), (.string ⟨#[]⟩), (.string ⟨#[]⟩), (.int .i64 0), (.int .i64 0)]) := ⟨by kernel_rfl, by kernel_rfl, by kernel_rfl, by decide⟩
theorem hag_cr : AggT Tryz.prog 59 5 := .of (by kernel_rfl)
theorem hsc_cr : Scal Tryz.prog 23 := .of (by kernel_rfl)
theorem hfo_v1r : fieldOff Tryz.prog 26 1 = some 1 := by kernel_rfl
theorem rows_3 {i1 e1 s1 i2 e2 s2 i3 e3 s3 : Nat} {a1 b1 a2 b2 a3 b3 : List (List D)} {τ : Obs} (h1 : a1 = b1) (h2 : a2 = b2) (h3 : a3 = b3) : ∀ p ∈ [(i1, Ob.row e1 s1 b1), (i2, Ob.row e2 s2 b2), (i3, Ob.row e3 s3 b3)], p ∈ (i1, Ob.row e1 s1 a1) :: (i2, Ob.row e2 s2 a2) :: (i3, Ob.row e3 s3 a3) :: τ := fun p hp => by
  subst h1; subst h2; subst h3
  rcases List.mem_cons.1 hp with rfl | hp
  · exact .head _
  · rcases List.mem_cons.1 hp with rfl | hp
    · exact .tail _ (.head _)
    · rw [List.mem_singleton] at hp; subst hp; exact .tail _ (.tail _ (.head _))
theorem take_next {l : List Nat} {j : Nat} (h : j < l.length) : l.take (j + 1) = l.take j ++ [l[j]] := by rw [List.take_add_one, List.getElem?_eq_getElem h]; rfl
theorem out_next {l cd : List Nat} {j : Nat} (hj : j < l.length) (h : l[j] < cd.length) : ((l.take (j + 1)).map fun i => cd.getD i 0).map numD = ((l.take j).map fun i => cd.getD i 0).map numD ++ [numD cd[l[j]]] := by
  rw [take_next hj, List.map_append, List.map_append]
  show _ ++ [numD (cd.getD l[j] 0)] = _
  rw [numAt h]
theorem with_next {v : Vlt} {g : List Carr} {l cd : List Nat} {j : Nat} (hj : j < l.length) (h : l[j] < cd.length) (h2 : cd[l[j]] < v.carrs.length) : (withL v g cd (l.take (j + 1))).map Carr.ds = (withL v g cd (l.take j)).map Carr.ds ++ [v.carrs[cd[l[j]]].ds] := by
  unfold withL
  rw [take_next hj, List.map_append, List.map_append, List.map_append, List.map_append, ← List.append_assoc]
  show _ ++ [(carrN v (cd.getD l[j] 0)).ds] = _
  rw [numAt h, carrN_at h2]
/-- The search, or its end. -/
def Again (n m : Nat) (P : List Nat → Bool) (g : List Nat × Bool) : Prop := if g.2 = true then Vld n g.1 ∧ g.1.length = m ∧ srch n P (List.range m) = srch n P g.1 else srch n P (List.range m) = none
theorem Again.next {n m : Nat} {P : List Nat → Bool} {l : List Nat} (h : Vld n l ∧ l.length = m ∧ srch n P (List.range m) = srch n P l) (hP : P l = false) : Again n m P ((nextC n l).getD l, (nextC n l).isSome) := by
  unfold nextC
  cases hp : pivot n l l.length with
  | none => exact h.2.2.trans (srch_end h.1 hP hp)
  | some k => exact ⟨bump_vld h.1 hp, by show (bump l k).length = m; rw [bump_len (by have := (pivot_lt hp).1; omega)]; exact h.2.1, h.2.2.trans (srch_next h.1 hP hp)⟩
theorem again_less {n : Nat} {l : List Nat} (hv : Vld n l) : (if ((nextC n l).isSome) = true then leftC n ((nextC n l).getD l) + 1 else 0) < leftC n l + 1 := by
  unfold nextC
  cases hp : pivot n l l.length with
  | none => exact Nat.succ_pos _
  | some k => have := leftC_next hv hp; show leftC n (bump l k) + 1 < _; omega


set_option maxRecDepth 100000 in
set_option maxHeartbeats 8000000 in
theorem c_targets (v : Vlt) (p : Pol) (x : Item) (room : List Int) (day : Int) (vo : VOk v) (po : POk p) (hd : 0 ≤ day ∧ day ≤ 200000) (hrm : room.length = v.carrs.length) : OCall Tryz.prog 32 [.agg v.ds, .agg p.ds, .agg x.ds, .sl (room.map intD), .v (.int .i64 day)] 3 1 ((tgtR v p x room day).map numD) := by
  refine ocall_of (n := 132) Tryz.func32 rfl (by kernel_rfl) rfl 10 rfl rfl ?_
  intro B w0 F0 fr
  have hnp := vo.np
  have hnc := vo.nc
  have hgl := goodOnes_len v x.name p day
  have hcl : (cand v p x room day).length ≤ v.carrs.length := candTo_len _
  refine AWP.seq (AWP.region ?_)
  refine AOps.step rfl rfl rfl (AOp.box rfl rfl rfl) ?_
  refine AOps.step rfl rfl rfl (AOp.box rfl rfl rfl) ?_
  refine AOps.step rfl rfl rfl (AOp.box rfl rfl rfl) ?_
  refine AOps.aD rfl rfl rfl rfl rfl (.nil ?_)
  refine AWP.seq (AWP.region ?_)
  refine AOps.step rfl rfl rfl (AOp.loadAgg rfl ag_26 rfl rfl) ?_
  refine AOps.step rfl rfl rfl (AOp.loadAgg rfl ag_28 rfl rfl) ?_
  refine AOps.step rfl rfl rfl (AOp.fieldAddr rfl fo_62_0 rfl) ?_
  refine AOps.step rfl rfl rfl (AOp.load rfl sc_9 rfl) ?_
  refine AOps.mD rfl rfl rfl rfl rfl ?_
  refine AOps.step rfl rfl rfl (AOp.call rfl (.cons (ArgOk.rfl' rfl) (.cons (ArgOk.rfl' rfl) (.cons (ArgOk.rfl' rfl) (.cons (ArgOk.rfl' rfl) .nil)))) (c_goodOn v x.name p day vo po hd)) ?_
  refine AOps.aD rfl rfl rfl rfl rfl (.nil ?_)
  refine AWP.seq (AWP.region ?_)
  refine AOps.step rfl rfl rfl (AOp.loadAgg rfl ag_26 rfl rfl) ?_
  refine AOps.step rfl rfl rfl (AOp.fieldAddr rfl fo_62_0 rfl) ?_
  refine AOps.step rfl rfl rfl (AOp.load rfl sc_9 rfl) ?_
  refine AOps.step rfl rfl rfl (AOp.call rfl (.cons (ArgOk.rfl' rfl) (.cons (ArgOk.rfl' rfl) .nil)) (c_sourceOf v x.name (by omega))) ?_
  refine AOps.aD rfl rfl rfl rfl rfl (.nil ?_)
  refine AWP.seq ?_
  refine AWP.seq ?_
  refine AWP.draw (by kernel_rfl) (by kernel_rfl) ?_
  refine DRun.step rfl rfl rfl (AOp.moveD rfl rfl) ?_
  refine DRun.step rfl rfl rfl (AOp.lss rfl rfl rfl) ?_
  refine DRun.step rfl rfl rfl (AOp.moveD rfl rfl) ?_
  refine DRun.split 35 rfl (fun g1 => ?_) (fun g1 => ?_)
  · replace g1 := of_decide_eq_true g1
    have HN : noTgt v p x day = true := by unfold noTgt; rw [decide_eq_true g1]; rfl
    rw [tgt_no HN]
    refine DRun.pass ⟨35, rfl, .inl ⟨_, rfl, rfl⟩⟩ rfl rfl ?_
    refine DRun.pass ⟨35, rfl, .inl ⟨_, rfl, rfl⟩⟩ rfl rfl ?_
    refine DRun.pass ⟨35, rfl, .inl ⟨_, rfl, rfl⟩⟩ rfl rfl ?_
    refine DRun.pass ⟨35, rfl, .inl ⟨_, rfl, rfl⟩⟩ rfl rfl ?_
    refine DRun.pass ⟨35, rfl, .inl ⟨_, rfl, rfl⟩⟩ rfl rfl ?_
    refine DRun.pass ⟨35, rfl, .inl ⟨_, rfl, rfl⟩⟩ rfl rfl ?_
    refine DRun.pass ⟨35, rfl, .inl ⟨_, rfl, rfl⟩⟩ rfl rfl ?_
    refine DRun.pass ⟨35, rfl, .inl ⟨_, rfl, rfl⟩⟩ rfl rfl ?_
    refine DRun.pass ⟨35, rfl, .inl ⟨_, rfl, rfl⟩⟩ rfl rfl ?_
    refine DRun.step rfl rfl rfl (AOp.pickT rfl rfl rfl) ?_
    refine DRun.step rfl rfl rfl (AOp.moveD rfl rfl) ?_
    refine DRun.pass ⟨46, rfl, .inl ⟨_, rfl, rfl⟩⟩ rfl rfl ?_
    refine DRun.pass ⟨46, rfl, .inl ⟨_, rfl, rfl⟩⟩ rfl rfl ?_
    refine DRun.pass ⟨46, rfl, .inl ⟨_, rfl, rfl⟩⟩ rfl rfl ?_
    refine DRun.step rfl rfl rfl (AOp.pickT rfl rfl rfl) ?_
    refine DRun.nil ?_
    refine AWP.cond rfl (fun _ => ?_) (fun h => nomatch h)
    refine AWP.seq (AWP.region ?_)
    refine AOps.aD rfl rfl rfl rfl rfl (.nil ?_)
    refine AWP.adopt 10 51 3 1 rfl rfl ?_
    refine AWP.ret ?_
    refine ⟨51, rfl, mem_row_eq (.head _) ?_⟩
    rfl
  replace g1 := of_decide_eq_false g1
  have hs := g1
  obtain ⟨bi, hbi, ebi, hbe⟩ := srcI_at (v := v) (it := x.name) (Nat.le_refl _) g1
  refine DRun.step ⟨35, rfl, .inl ⟨_, rfl, rfl⟩⟩ rfl rfl (AOp.fieldAddr rfl fo_26_2 rfl) ?_
  refine DRun.step ⟨35, rfl, .inl ⟨_, rfl, rfl⟩⟩ rfl rfl (AOp.load rfl sc_24 rfl) ?_
  refine DRun.step ⟨35, rfl, .inl ⟨_, rfl, rfl⟩⟩ rfl rfl (AOp.moveD rfl rfl) ?_
  refine DRun.step ⟨35, rfl, .inl ⟨_, rfl, rfl⟩⟩ rfl rfl (AOp.indexAddr rfl et_24 rfl rfl bi ebi (at_list hbi) rfl) ?_
  refine DRun.step ⟨35, rfl, .inl ⟨_, rfl, rfl⟩⟩ rfl rfl (AOp.fieldAddr rfl fo_65_5 rfl) ?_
  refine DRun.step ⟨35, rfl, .inl ⟨_, rfl, rfl⟩⟩ rfl rfl (AOp.load rfl sc_3 rfl) ?_
  refine DRun.step ⟨35, rfl, .inl ⟨_, rfl, rfl⟩⟩ rfl rfl (AOp.fieldAddr rfl fo_28_5 rfl) ?_
  refine DRun.step ⟨35, rfl, .inl ⟨_, rfl, rfl⟩⟩ rfl rfl (AOp.load rfl sc_3 rfl) ?_
  refine DRun.step ⟨35, rfl, .inl ⟨_, rfl, rfl⟩⟩ rfl rfl (AOp.geq rfl rfl rfl) ?_
  refine DRun.step rfl rfl rfl (AOp.pickF rfl rfl rfl) ?_
  refine DRun.step rfl rfl rfl (AOp.moveD rfl rfl) ?_
  refine DRun.split 46 rfl (fun g2 => ?_) (fun g2 => ?_)
  · replace g2 := of_decide_eq_true g2
    have HN : noTgt v p x day = true := by unfold noTgt; rw [hbe, decide_eq_true g2]; simp
    rw [tgt_no HN]
    refine DRun.pass ⟨46, rfl, .inl ⟨_, rfl, rfl⟩⟩ rfl rfl ?_
    refine DRun.pass ⟨46, rfl, .inl ⟨_, rfl, rfl⟩⟩ rfl rfl ?_
    refine DRun.pass ⟨46, rfl, .inl ⟨_, rfl, rfl⟩⟩ rfl rfl ?_
    refine DRun.step rfl rfl rfl (AOp.pickT rfl rfl rfl) ?_
    refine DRun.nil ?_
    refine AWP.cond rfl (fun _ => ?_) (fun h => nomatch h)
    refine AWP.seq (AWP.region ?_)
    refine AOps.aD rfl rfl rfl rfl rfl (.nil ?_)
    refine AWP.adopt 10 52 3 1 rfl rfl ?_
    refine AWP.ret ?_
    refine ⟨52, rfl, mem_row_eq (.head _) ?_⟩
    rfl
  replace g2 := of_decide_eq_false g2
  have hgn := g2
  refine DRun.step ⟨46, rfl, .inl ⟨_, rfl, rfl⟩⟩ rfl rfl (AOp.moveD rfl rfl) ?_
  refine DRun.step ⟨46, rfl, .inl ⟨_, rfl, rfl⟩⟩ rfl rfl (AOp.loadAgg rfl ag_28 rfl rfl) ?_
  refine DRun.step ⟨46, rfl, .inl ⟨_, rfl, rfl⟩⟩ rfl rfl (AOp.call rfl (.cons (ArgOk.rfl' rfl) (.cons (ArgOk.rfl' rfl) .nil)) (c_none (goodOnes v x.name p day) p po (by omega))) ?_
  refine DRun.step rfl rfl rfl (AOp.pickF rfl rfl rfl) ?_
  refine DRun.nil ?_
  refine AWP.cond rfl (fun h3 => ?_) (fun h3 => ?_)
  · skip
    have HN : noTgt v p x day = true := by unfold noTgt; rw [h3]; simp
    rw [tgt_no HN]
    refine AWP.seq (AWP.region ?_)
    refine AOps.aD rfl rfl rfl rfl rfl (.nil ?_)
    refine AWP.adopt 10 53 3 1 rfl rfl ?_
    refine AWP.ret ?_
    refine ⟨53, rfl, mem_row_eq (.head _) ?_⟩
    rfl
  have HN : noTgt v p x day = false := by unfold noTgt; rw [hbe, decide_eq_false hs, decide_eq_false hgn]; simpa using h3
  rw [tgt_go HN]
  refine AWP.skip ?_
  refine AWP.seq (AWP.region ?_)
  refine AOps.aD rfl rfl rfl rfl rfl (.nil ?_)
  refine AWP.seq ?_
  refine AWP.seq (AWP.region ?_)
  refine AOps.step rfl rfl rfl (AOp.fieldAddr rfl fo_26_1 rfl) ?_
  refine AOps.step rfl rfl rfl (AOp.load rfl sc_23 rfl) ?_
  refine AOps.step rfl rfl rfl (AOp.lenSl rfl et_23.ht rfl) ?_
  refine AOps.mD rfl rfl rfl rfl rfl (.nil ?_)
  refine AWP.block ?_
  refine AWP.adopt 13 61 3 1 rfl rfl ?_
  refine AWP.loop (G := Nat) (fun k => Env.of [(54, .d (.v (.int .i64 (k : Int)))), (52, .d (.sl (v.carrs.map Carr.ds))), (53, .d (.v (.int .i64 ((v.carrs.map Carr.ds).length : Int)))), (11, .d (.sl ((goodOnes v x.name p day).map Carr.ds))), (5, .d (.fp v.ds)), (6, .d (.fp p.ds)), (7, .d (.fp x.ds)), (3, .d (.sl (room.map intD))), (4, .d (.v (.int .i64 day))), (13, .own 61)]) (fun k => [(61, .row 3 1 ((candTo v p x room day k).map numD))]) (fun k => k ≤ v.carrs.length) (fun k => v.carrs.length - k) 0 (Nat.zero_le _) (Sub.less ⟨(SLe.of_eq rfl), SLe.refl _, SLe.refl _, SLe.refl _, SLe.refl _, SLe.refl _, SLe.refl _, SLe.refl _, SLe.refl _, SLe.refl _, trivial⟩ (row_numEq rfl)) ?_
  intro k hk
  refine AWP.seq (AWP.region ?_)
  refine AOps.step rfl rfl rfl (AOp.lss rfl rfl rfl) (.nil ?_)
  refine AWP.seq ?_
  refine AWP.cond rfl (fun h4 => ?_) (fun h4 => ?_)
  · replace h4 := of_decide_eq_true h4
    rw [List.length_map] at h4
    have hlt : k < v.carrs.length := by omega
    have hcb := vo.carr (List.getElem_mem hlt)
    have hkl := candTo_len (v := v) (p := p) (x := x) (room := room) (day := day) k
    refine AWP.skip ?_
    refine AWP.seq ?_
    refine AWP.block ?_
    refine AWP.seq (AWP.region ?_)
    refine AOps.mD rfl rfl rfl rfl rfl ?_
    refine AOps.step rfl rfl rfl (AOp.indexAddr rfl et_23 rfl rfl k rfl (at_list hlt) rfl) ?_
    refine AOps.step rfl rfl rfl (AOp.loadAgg rfl ag_59 rfl rfl) ?_
    refine AOps.alloc 104 rfl rfl rfl rfl zt_59 rfl rfl rfl ?_
    refine AOps.aD rfl rfl rfl rfl rfl ?_
    refine AOps.store rfl rfl rfl sz_59 rfl (.head _) rfl rfl rfl (Nat.le_of_ble_eq_true rfl) ?_
    refine AOps.freezeCells 15 (ds := v.carrs[k].ds) rfl (.head _) (.nil ?_)
    refine AWP.seq ?_
    refine AWP.draw (by kernel_rfl) (by kernel_rfl) ?_
    refine DRun.step rfl rfl rfl (AOp.loadAgg rfl ag_26 rfl rfl) ?_
    refine DRun.step rfl rfl rfl (AOp.fieldAddr rfl fo_62_0 rfl) ?_
    refine DRun.step rfl rfl rfl (AOp.load rfl sc_9 rfl) ?_
    refine DRun.step rfl rfl rfl (AOp.fieldAddr rfl fo_59_0 rfl) ?_
    refine DRun.step rfl rfl rfl (AOp.load rfl sc_9 rfl) ?_
    refine DRun.step rfl rfl rfl (AOp.call rfl (.cons (ArgOk.rfl' rfl) (.cons (ArgOk.rfl' rfl) (.cons (ArgOk.rfl' rfl) .nil))) (c_copyOfR v x.name v.carrs[k].name (by omega))) ?_
    refine DRun.step rfl rfl rfl (AOp.lss rfl rfl rfl) ?_
    refine DRun.step rfl rfl rfl (AOp.moveD rfl rfl) ?_
    refine DRun.split 66 rfl (fun g5 => ?_) (fun g5 => ?_)
    · replace g5 := of_decide_eq_true g5
      have hA := g5
      refine DRun.step ⟨66, rfl, .inl ⟨_, rfl, rfl⟩⟩ rfl rfl (AOp.loadAgg rfl ag_59 rfl rfl) ?_
      refine DRun.step ⟨66, rfl, .inl ⟨_, rfl, rfl⟩⟩ rfl rfl (AOp.loadAgg rfl ag_28 rfl rfl) ?_
      refine DRun.step ⟨66, rfl, .inl ⟨_, rfl, rfl⟩⟩ rfl rfl (AOp.moveD rfl rfl) ?_
      refine DRun.step ⟨66, rfl, .inl ⟨_, rfl, rfl⟩⟩ rfl rfl (AOp.call rfl (.cons (ArgOk.rfl' rfl) (.cons (ArgOk.rfl' rfl) (.cons (ArgOk.rfl' rfl) .nil))) (c_rOld v.carrs[k] p day hcb.2.1 po.old)) ?_
      refine DRun.step ⟨66, rfl, .inl ⟨_, rfl, rfl⟩⟩ rfl rfl (AOp.not rfl rfl) ?_
      refine DRun.step rfl rfl rfl (AOp.pickT rfl rfl rfl) ?_
      refine DRun.step rfl rfl rfl (AOp.moveD rfl rfl) ?_
      refine DRun.split 73 rfl (fun g6 => ?_) (fun g6 => ?_)
      · replace g6 := bnot_t g6
        have hB := g6
        refine DRun.step ⟨73, rfl, .inl ⟨_, rfl, rfl⟩⟩ rfl rfl (AOp.moveD rfl rfl) ?_
        refine DRun.step ⟨73, rfl, .inl ⟨_, rfl, rfl⟩⟩ rfl rfl (AOp.moveD rfl rfl) ?_
        refine DRun.step ⟨73, rfl, .inl ⟨_, rfl, rfl⟩⟩ rfl rfl (AOp.indexAddr rfl et_63 rfl rfl k rfl (at_list (by omega)) rfl) ?_
        refine DRun.step ⟨73, rfl, .inl ⟨_, rfl, rfl⟩⟩ rfl rfl (AOp.load rfl sc_3 rfl) ?_
        refine DRun.step ⟨73, rfl, .inl ⟨_, rfl, rfl⟩⟩ rfl rfl (AOp.fieldAddr rfl fo_62_1 rfl) ?_
        refine DRun.step ⟨73, rfl, .inl ⟨_, rfl, rfl⟩⟩ rfl rfl (AOp.load rfl sc_3 rfl) ?_
        refine DRun.step ⟨73, rfl, .inl ⟨_, rfl, rfl⟩⟩ rfl rfl (AOp.geq rfl rfl rfl) ?_
        refine DRun.step rfl rfl rfl (AOp.pickT rfl rfl rfl) ?_
        refine DRun.nil ?_
        refine AWP.cond rfl (fun h7 => ?_) (fun h7 => ?_)
        · replace h7 := of_decide_eq_true h7
          have HX := candTo_t (v := v) (p := p) (x := x) (room := room) (day := day) (k := k) (by unfold candB; rw [carrN_at hlt, decide_eq_true hA, hB, roomAt (by omega), decide_eq_true h7]; rfl)
          refine AWP.region ?_
          refine AOps.step rfl rfl rfl (AOp.moveO rfl rfl) ?_
          refine AOps.mD rfl rfl rfl rfl rfl ?_
          refine AOps.step rfl rfl rfl (AOp.buildSlice rfl et_63 (.cons rfl rfl rfl .nil) rfl (by decide)) ?_
          -- append 85
          refine AOps.append rfl rfl rfl rfl et_63 rfl (.head _) rfl (fun y hy => by obtain rfl := List.mem_singleton.1 hy; rfl) (by simp; omega) (by simp; omega) ?_
          refine AOps.step rfl rfl rfl (AOp.assignO rfl rfl) (.nil ?_)
          refine AWP.region ?_
          refine AOps.step rfl rfl rfl (AOp.add64 rfl rfl rfl (by omega) (by omega)) ?_
          refine AOps.mD rfl rfl rfl rfl rfl (.nil ?_)
          refine ⟨k + 1, (by omega), (by dsimp only; omega), Sub.less ⟨(SLe.of_eq rfl), SLe.refl _, SLe.refl _, SLe.refl _, SLe.refl _, SLe.refl _, SLe.refl _, SLe.refl _, SLe.refl _, SLe.refl _, trivial⟩ (row_numEq (by first | (rw [HX]; done) | (rw [HX, List.map_append]; rfl)))⟩
        replace h7 := of_decide_eq_false h7
        have HX := candTo_f (v := v) (p := p) (x := x) (room := room) (day := day) (k := k) (by unfold candB; rw [carrN_at hlt, roomAt (by omega), decide_eq_false h7]; simp)
        refine AWP.skip ?_
        refine AWP.region ?_
        refine AOps.step rfl rfl rfl (AOp.add64 rfl rfl rfl (by omega) (by omega)) ?_
        refine AOps.mD rfl rfl rfl rfl rfl (.nil ?_)
        refine ⟨k + 1, (by omega), (by dsimp only; omega), Sub.less ⟨(SLe.of_eq rfl), SLe.refl _, SLe.refl _, SLe.refl _, SLe.refl _, SLe.refl _, SLe.refl _, SLe.refl _, SLe.refl _, SLe.refl _, trivial⟩ (row_numEq (by first | (rw [HX]; done) | (rw [HX, List.map_append]; rfl)))⟩
      replace g6 := bnot_f g6
      have HX := candTo_f (v := v) (p := p) (x := x) (room := room) (day := day) (k := k) (by unfold candB; rw [carrN_at hlt, g6]; simp)
      refine DRun.pass ⟨73, rfl, .inl ⟨_, rfl, rfl⟩⟩ rfl rfl ?_
      refine DRun.pass ⟨73, rfl, .inl ⟨_, rfl, rfl⟩⟩ rfl rfl ?_
      refine DRun.pass ⟨73, rfl, .inl ⟨_, rfl, rfl⟩⟩ rfl rfl ?_
      refine DRun.pass ⟨73, rfl, .inl ⟨_, rfl, rfl⟩⟩ rfl rfl ?_
      refine DRun.pass ⟨73, rfl, .inl ⟨_, rfl, rfl⟩⟩ rfl rfl ?_
      refine DRun.pass ⟨73, rfl, .inl ⟨_, rfl, rfl⟩⟩ rfl rfl ?_
      refine DRun.pass ⟨73, rfl, .inl ⟨_, rfl, rfl⟩⟩ rfl rfl ?_
      refine DRun.step rfl rfl rfl (AOp.pickF rfl rfl rfl) ?_
      refine DRun.nil ?_
      refine AWP.cond rfl (fun h => nomatch h) (fun _ => ?_)
      refine AWP.skip ?_
      refine AWP.region ?_
      refine AOps.step rfl rfl rfl (AOp.add64 rfl rfl rfl (by omega) (by omega)) ?_
      refine AOps.mD rfl rfl rfl rfl rfl (.nil ?_)
      refine ⟨k + 1, (by omega), (by dsimp only; omega), Sub.less ⟨(SLe.of_eq rfl), SLe.refl _, SLe.refl _, SLe.refl _, SLe.refl _, SLe.refl _, SLe.refl _, SLe.refl _, SLe.refl _, SLe.refl _, trivial⟩ (row_numEq (by first | (rw [HX]; done) | (rw [HX, List.map_append]; rfl)))⟩
    replace g5 := of_decide_eq_false g5
    have HX := candTo_f (v := v) (p := p) (x := x) (room := room) (day := day) (k := k) (by unfold candB; rw [carrN_at hlt, decide_eq_false g5]; rfl)
    refine DRun.pass ⟨66, rfl, .inl ⟨_, rfl, rfl⟩⟩ rfl rfl ?_
    refine DRun.pass ⟨66, rfl, .inl ⟨_, rfl, rfl⟩⟩ rfl rfl ?_
    refine DRun.pass ⟨66, rfl, .inl ⟨_, rfl, rfl⟩⟩ rfl rfl ?_
    refine DRun.pass ⟨66, rfl, .inl ⟨_, rfl, rfl⟩⟩ rfl rfl ?_
    refine DRun.pass ⟨66, rfl, .inl ⟨_, rfl, rfl⟩⟩ rfl rfl ?_
    refine DRun.step rfl rfl rfl (AOp.pickF rfl rfl rfl) ?_
    refine DRun.step rfl rfl rfl (AOp.moveD rfl rfl) ?_
    refine DRun.pass ⟨73, rfl, .inl ⟨_, rfl, rfl⟩⟩ rfl rfl ?_
    refine DRun.pass ⟨73, rfl, .inl ⟨_, rfl, rfl⟩⟩ rfl rfl ?_
    refine DRun.pass ⟨73, rfl, .inl ⟨_, rfl, rfl⟩⟩ rfl rfl ?_
    refine DRun.pass ⟨73, rfl, .inl ⟨_, rfl, rfl⟩⟩ rfl rfl ?_
    refine DRun.pass ⟨73, rfl, .inl ⟨_, rfl, rfl⟩⟩ rfl rfl ?_
    refine DRun.pass ⟨73, rfl, .inl ⟨_, rfl, rfl⟩⟩ rfl rfl ?_
    refine DRun.pass ⟨73, rfl, .inl ⟨_, rfl, rfl⟩⟩ rfl rfl ?_
    refine DRun.step rfl rfl rfl (AOp.pickF rfl rfl rfl) ?_
    refine DRun.nil ?_
    refine AWP.cond rfl (fun h => nomatch h) (fun _ => ?_)
    refine AWP.skip ?_
    refine AWP.region ?_
    refine AOps.step rfl rfl rfl (AOp.add64 rfl rfl rfl (by omega) (by omega)) ?_
    refine AOps.mD rfl rfl rfl rfl rfl (.nil ?_)
    refine ⟨k + 1, (by omega), (by dsimp only; omega), Sub.less ⟨(SLe.of_eq rfl), SLe.refl _, SLe.refl _, SLe.refl _, SLe.refl _, SLe.refl _, SLe.refl _, SLe.refl _, SLe.refl _, SLe.refl _, trivial⟩ (row_numEq (by first | (rw [HX]; done) | (rw [HX, List.map_append]; rfl)))⟩
  replace h4 := of_decide_eq_false h4
  rw [List.length_map] at h4
  obtain rfl : k = v.carrs.length := by omega
  have hcl2 := candTo_len (v := v) (p := p) (x := x) (room := room) (day := day) v.carrs.length
  refine AWP.exit ?_
  refine AWP.seq ?_
  refine AWP.seq (AWP.region ?_)
  refine AOps.freeze 13 rfl (.head _) ?_
  refine AOps.mD rfl rfl rfl rfl rfl ?_
  refine AOps.step rfl rfl rfl (AOp.lenSl rfl et_63.ht rfl) ?_
  refine AOps.step rfl rfl rfl (AOp.add64 rfl rfl rfl (by simp only [List.length_map]; omega) (by simp only [List.length_map]; omega)) ?_
  refine AOps.mD rfl rfl rfl rfl rfl (.nil ?_)
  refine AWP.block ?_
  refine AWP.loop (G := Nat) (fun m => Env.of [(90, .d (.v (.int .i64 (m : Int)))), (89, .d (.v (.int .i64 (((cand v p x room day).length : Int) + 1)))), (11, .d (.sl ((goodOnes v x.name p day).map Carr.ds))), (13, .d (.sl ((cand v p x room day).map numD))), (5, .d (.fp v.ds)), (6, .d (.fp p.ds))]) (fun m => []) (fun m => m ≤ (cand v p x room day).length + 1 ∧ chosenTo (cand v p x room day).length (fun ch => enoughB p (withL v (goodOnes v x.name p day) (cand v p x room day) ch)) m = none) (fun m => (cand v p x room day).length + 1 - m) 0 ⟨Nat.zero_le _, rfl⟩ (Sub.less ⟨(SLe.of_eq rfl), (SLe.i64 (by rw [List.length_map]; rfl)), SLe.refl _, SLe.refl _, SLe.refl _, SLe.refl _, trivial⟩ (fun _ h => h)) ?_
  intro m hm
  refine AWP.seq (AWP.region ?_)
  refine AOps.step rfl rfl rfl (AOp.lss rfl rfl rfl) (.nil ?_)
  refine AWP.seq ?_
  refine AWP.cond rfl (fun h8 => ?_) (fun h8 => ?_)
  · replace h8 := of_decide_eq_true h8
    have hmn : m ≤ (cand v p x room day).length := by omega
    refine AWP.skip ?_
    refine AWP.seq ?_
    refine AWP.block ?_
    refine AWP.seq (AWP.region ?_)
    refine AOps.mD rfl rfl rfl rfl rfl ?_
    refine AOps.aD rfl rfl rfl rfl rfl (.nil ?_)
    refine AWP.seq (AWP.region ?_)
    refine AOps.mD rfl rfl rfl rfl rfl ?_
    refine AOps.callO 62 rfl rfl rfl rfl (.cons (ArgOk.rfl' rfl) .nil) (c_first m (by omega)) rfl ?_
    refine AOps.step rfl rfl rfl (AOp.assignO rfl rfl) (.nil ?_)
    refine AWP.seq (AWP.region ?_)
    refine AOps.aD rfl rfl rfl rfl rfl (.nil ?_)
    refine AWP.block ?_
    refine AWP.loop (G := List Nat × Bool) (fun g => Env.of [(18, .d (.v (.bool g.2))), (17, .own 62), (16, .d (.v (.int .i64 (m : Int)))), (90, .d (.v (.int .i64 (m : Int)))), (89, .d (.v (.int .i64 (((cand v p x room day).length : Int) + 1)))), (11, .d (.sl ((goodOnes v x.name p day).map Carr.ds))), (13, .d (.sl ((cand v p x room day).map numD))), (5, .d (.fp v.ds)), (6, .d (.fp p.ds))]) (fun g => [(62, .row 3 1 (g.1.map numD))]) (fun g => Again (cand v p x room day).length m (fun ch => enoughB p (withL v (goodOnes v x.name p day) (cand v p x room day) ch)) g) (fun g => if g.2 = true then leftC (cand v p x room day).length g.1 + 1 else 0) (List.range m, true) ⟨range_vld (by omega), List.length_range, rfl⟩ (Sub.less ⟨(SLe.of_eq rfl), SLe.refl _, SLe.refl _, SLe.refl _, SLe.refl _, SLe.refl _, SLe.refl _, SLe.refl _, SLe.refl _, trivial⟩ (row_numEq rfl)) ?_
    rintro ⟨l, ag⟩ hl
    dsimp only
    refine AWP.seq ?_
    refine AWP.seq (AWP.region ?_)
    refine AOps.mD rfl rfl rfl rfl rfl (.nil ?_)
    refine AWP.cond rfl (fun h9 => ?_) (fun h9 => ?_)
    · skip
      have hag : Vld (cand v p x room day).length l ∧ l.length = m ∧ srch (cand v p x room day).length (fun ch => enoughB p (withL v (goodOnes v x.name p day) (cand v p x room day) ch)) (List.range m) = srch (cand v p x room day).length (fun ch => enoughB p (withL v (goodOnes v x.name p day) (cand v p x room day) ch)) l := by unfold Again at hl; rw [if_pos h9] at hl; exact hl
      have hlm := hag.2.1
      have hat := h9
      refine AWP.skip ?_
      refine AWP.seq ?_
      refine AWP.block ?_
      refine AWP.seq (AWP.region ?_)
      refine AOps.mD rfl rfl rfl rfl rfl ?_
      refine AOps.callO 63 rfl rfl rfl rfl (.cons (ArgOk.rfl' rfl) .nil) (c_clCarr (goodOnes v x.name p day) (by omega)) rfl ?_
      refine AOps.step rfl rfl rfl (AOp.assignO rfl rfl) (.nil ?_)
      refine AWP.seq (AWP.region ?_)
      refine AOps.aD rfl rfl rfl rfl rfl (.nil ?_)
      refine AWP.seq ?_
      refine AWP.seq (AWP.region ?_)
      refine AOps.step rfl rfl rfl (AOp.moveO rfl rfl) ?_
      refine AOps.step rfl rfl rfl (AOp.lenOwn rfl et_63.ht rfl (.tail _ (.head _))) ?_
      refine AOps.mD rfl rfl rfl rfl rfl (.nil ?_)
      refine AWP.block ?_
      refine AWP.adopt 20 64 3 1 rfl rfl ?_
      refine AWP.loop (G := Nat) (fun j => Env.of [(104, .d (.v (.int .i64 (j : Int)))), (103, .d (.v (.int .i64 (l.length : Int)))), (102, .own 62), (17, .own 62), (19, .own 63), (20, .own 64), (16, .d (.v (.int .i64 (m : Int)))), (90, .d (.v (.int .i64 (m : Int)))), (89, .d (.v (.int .i64 (((cand v p x room day).length : Int) + 1)))), (11, .d (.sl ((goodOnes v x.name p day).map Carr.ds))), (13, .d (.sl ((cand v p x room day).map numD))), (5, .d (.fp v.ds)), (6, .d (.fp p.ds))]) (fun j => [(64, .row 3 1 (((l.take j).map fun i => (cand v p x room day).getD i 0).map numD)), (63, .row 59 5 ((withL v (goodOnes v x.name p day) (cand v p x room day) (l.take j)).map Carr.ds)), (62, .row 3 1 (l.map numD))]) (fun j => j ≤ l.length) (fun j => l.length - j) 0 (Nat.zero_le _) (Sub.less ⟨(SLe.of_eq rfl), (SLe.i64 (by rw [List.length_map])), SLe.refl _, SLe.refl _, SLe.refl _, SLe.refl _, SLe.refl _, SLe.refl _, SLe.refl _, SLe.refl _, SLe.refl _, SLe.refl _, SLe.refl _, trivial⟩ (rows_3 rfl (by unfold withL; simp) rfl)) ?_
      intro j hj
      refine AWP.seq (AWP.region ?_)
      refine AOps.step rfl rfl rfl (AOp.lss rfl rfl rfl) (.nil ?_)
      refine AWP.seq ?_
      refine AWP.cond rfl (fun h10 => ?_) (fun h10 => ?_)
      · replace h10 := of_decide_eq_true h10
        have hjl : j < l.length := by omega
        have hlj : l[j] < (cand v p x room day).length := by have := hag.1.2 j hjl; omega
        have hcj : (cand v p x room day)[l[j]] < v.carrs.length := candTo_lt (List.getElem_mem hlj)
        have HT := take_next hjl
        refine AWP.skip ?_
        refine AWP.seq ?_
        refine AWP.block ?_
        refine AWP.seq (AWP.region ?_)
        refine AOps.step rfl rfl rfl (AOp.indexOwn rfl et_63 rfl rfl (.tail _ (.tail _ (.head _))) j rfl (by rw [List.length_map]; omega)) ?_
        refine AOps.step rfl rfl rfl (AOp.loadRow rfl sc_3 rfl (.tail _ (.tail _ (.head _))) j 0 rfl (at_list hjl) rfl) ?_
        refine AOps.aD rfl rfl rfl rfl rfl (.nil ?_)
        refine AWP.drawLTail 18 [⟨63, [19, 108, 118]⟩, ⟨64, [20, 119, 125]⟩] [(10, [19, 108, 118]), (17, [20, 119, 125])] (fun _ => True) (by kernel_rfl) (by kernel_rfl) (by kernel_rfl) (by kernel_rfl) ?_
        refine LRun.step rfl rfl rfl trivial (fun τ _ => AOp.moveO rfl rfl) ?_ rfl ⟨.inl rfl, .inr rfl, trivial⟩
        refine LRun.step rfl rfl rfl trivial (fun τ _ => AOp.fieldAddr (ds := v.ds) rfl hfo_v1r rfl) ?_ rfl ⟨.inr rfl, .inr rfl, trivial⟩
        refine LRun.step rfl rfl rfl trivial (fun τ _ => AOp.load rfl hsc_cr rfl) ?_ rfl ⟨.inr rfl, .inr rfl, trivial⟩
        refine LRun.step rfl rfl rfl trivial (fun τ _ => AOp.moveD rfl rfl) ?_ rfl ⟨.inr rfl, .inr rfl, trivial⟩
        refine LRun.step rfl rfl rfl trivial (fun τ _ => AOp.moveD rfl rfl) ?_ rfl ⟨.inr rfl, .inr rfl, trivial⟩
        refine LRun.step rfl rfl rfl trivial (fun τ _ => AOp.indexAddr rfl het_75r rfl rfl l[j] rfl (at_list hlj) rfl) ?_ rfl ⟨.inr rfl, .inr rfl, trivial⟩
        refine LRun.step rfl rfl rfl trivial (fun τ _ => AOp.load rfl hsc_ir rfl) ?_ rfl ⟨.inr rfl, .inr rfl, trivial⟩
        refine LRun.step rfl rfl rfl trivial (fun τ _ => AOp.indexAddr rfl het_cr rfl rfl (cand v p x room day)[l[j]] rfl (at_list hcj) rfl) ?_ rfl ⟨.inr rfl, .inr rfl, trivial⟩
        refine LRun.step rfl rfl rfl trivial (fun τ _ => AOp.loadAgg rfl hag_cr rfl rfl) ?_ rfl ⟨.inr rfl, .inr rfl, trivial⟩
        refine LRun.step rfl rfl rfl trivial (fun τ _ => AOp.buildSlice rfl het_cr (.cons rfl rfl rfl .nil) rfl (by decide)) ?_ rfl ⟨.inr rfl, .inr rfl, trivial⟩
        refine LRun.eff rfl rfl trivial trivial (GE.append3 63 108 19 (.head _) (fun t h1 h2 h3 => by simp [h1, h2, h3]) (by decide) (by decide) (by decide) rfl rfl rfl rfl het_cr rfl (.tail _ (.head _)) rfl (fun y hy => by obtain rfl := List.mem_singleton.1 hy; rfl) (by simp [withL]; omega) (by simp [withL]; omega) rfl) ?_ (cl_triple2 rfl rfl rfl rfl rfl rfl)
        refine LRun.step rfl rfl rfl trivial (fun τ _ => AOp.moveO rfl rfl) ?_ rfl ⟨.inr rfl, .inl rfl, trivial⟩
        refine LRun.step rfl rfl rfl trivial (fun τ _ => AOp.moveD rfl rfl) ?_ rfl ⟨.inr rfl, .inr rfl, trivial⟩
        refine LRun.step rfl rfl rfl trivial (fun τ _ => AOp.moveD rfl rfl) ?_ rfl ⟨.inr rfl, .inr rfl, trivial⟩
        refine LRun.step rfl rfl rfl trivial (fun τ _ => AOp.indexAddr rfl het_75r rfl rfl l[j] rfl (at_list hlj) rfl) ?_ rfl ⟨.inr rfl, .inr rfl, trivial⟩
        refine LRun.step rfl rfl rfl trivial (fun τ _ => AOp.load rfl hsc_ir rfl) ?_ rfl ⟨.inr rfl, .inr rfl, trivial⟩
        refine LRun.step rfl rfl rfl trivial (fun τ _ => AOp.buildSlice rfl het_75r (.cons rfl rfl rfl .nil) rfl (by decide)) ?_ rfl ⟨.inr rfl, .inr rfl, trivial⟩
        refine LRun.eff rfl rfl trivial trivial (GE.append3 64 119 20 (.tail _ (.head _)) (fun t h1 h2 h3 => by simp [h1, h2, h3]) (by decide) (by decide) (by decide) rfl rfl rfl rfl het_75r rfl (.head _) rfl (fun y hy => by obtain rfl := List.mem_singleton.1 hy; rfl) (by simp; omega) (by simp; omega) rfl) ?_ (cl_triple2' rfl rfl rfl rfl rfl rfl)
        refine LRun.nil ?_
        refine AOps.step rfl rfl rfl (AOp.assignO rfl rfl) ?_
        refine AOps.step rfl rfl rfl (AOp.assignO rfl rfl) (.nil ?_)
        refine AWP.region ?_
        refine AOps.step rfl rfl rfl (AOp.add64 rfl rfl rfl (by omega) (by omega)) ?_
        refine AOps.mD rfl rfl rfl rfl rfl (.nil ?_)
        refine ⟨j + 1, (by dsimp only; omega), (by dsimp only; omega), Sub.less ⟨(SLe.of_eq rfl), SLe.refl _, SLe.refl _, SLe.refl _, SLe.refl _, SLe.refl _, SLe.refl _, SLe.refl _, SLe.refl _, SLe.refl _, SLe.refl _, SLe.refl _, SLe.refl _, trivial⟩ (rows_3 (out_next hjl hlj).symm (with_next hjl hlj hcj).symm rfl)⟩
      replace h10 := of_decide_eq_false h10
      obtain rfl : j = l.length := by omega
      rw [List.take_length]
      refine AWP.exit ?_
      refine AWP.seq (AWP.region ?_)
      refine AOps.step rfl rfl rfl (AOp.moveO rfl rfl) ?_
      refine AOps.step rfl rfl rfl (AOp.loadAgg rfl ag_28 rfl rfl) ?_
      refine AOps.step rfl rfl rfl (AOp.callSnap rfl (.cons rfl (.row (.tail _ (.head _))) (.cons rfl (.d _) .nil)) (c_none (withL v (goodOnes v x.name p day) (cand v p x room day) l) p po (by unfold withL; simp; omega)) (.v _)) (.nil ?_)
      refine AWP.cond rfl (fun h11 => ?_) (fun h11 => ?_)
      · skip
        have HC : tgtC v p x room day = some l := chosenTo_some hm.2 (hag.2.2.trans (srch_hit hag.1 h11)) _ (by omega)
        rw [HC]
        refine AWP.seq (AWP.region ?_)
        refine AOps.step rfl rfl rfl (AOp.moveO rfl rfl) ?_
        refine AOps.step rfl rfl rfl (AOp.assignO rfl rfl) (.nil ?_)
        refine AWP.ret ?_
        refine ⟨64, rfl, mem_row_eq (.head _) ?_⟩
        rfl
      have hP : (fun ch => enoughB p (withL v (goodOnes v x.name p day) (cand v p x room day) ch)) l = false := by simpa using h11
      refine AWP.skip ?_
      refine AWP.region ?_
      refine AOps.step rfl rfl rfl (AOp.moveO rfl rfl) ?_
      refine AOps.mD rfl rfl rfl rfl rfl ?_
      refine AOps.step rfl rfl rfl (AOp.lenSl rfl et_63.ht rfl) ?_
      refine AOps.le 98 (s' := .d (.v (.int .i64 ((cand v p x room day).length : Int)))) rfl (SLe.i64 (by rw [List.length_map])) ?_
      -- turns 62
      refine AOps.callX rfl rfl rfl (.cons (SLe.refl _) (.cons (SLe.refl _) .nil)) ((c_next (cand v p x room day).length (by omega) l hag.1) 62) ⟨(.tail _ (.tail _ (.head _))), trivial⟩ rfl rfl (fun _ h => nomatch h) ?_
      refine AOps.aD rfl rfl rfl rfl rfl (.nil ?_)
      refine ⟨((nextC (cand v p x room day).length l).getD l, (nextC (cand v p x room day).length l).isSome), (Again.next hag hP), (by dsimp only; rw [if_pos hat]; exact again_less hag.1), Sub.less ⟨(SLe.of_eq rfl), SLe.refl _, SLe.refl _, SLe.refl _, SLe.refl _, SLe.refl _, SLe.refl _, SLe.refl _, SLe.refl _, trivial⟩ (fun p hp => by obtain rfl := List.mem_singleton.1 hp; exact .head _)⟩
    have HE : srch (cand v p x room day).length (fun ch => enoughB p (withL v (goodOnes v x.name p day) (cand v p x room day) ch)) (List.range m) = none := by unfold Again at hl; rw [if_neg (by rw [h9]; simp)] at hl; exact hl
    refine AWP.exit ?_
    refine AWP.region ?_
    refine AOps.step rfl rfl rfl (AOp.add64 rfl rfl rfl (by omega) (by omega)) ?_
    refine AOps.mD rfl rfl rfl rfl rfl (.nil ?_)
    refine ⟨m + 1, ⟨by omega, chosenTo_next hm.2 HE⟩, (by dsimp only; omega), Sub.less ⟨(SLe.of_eq rfl), SLe.refl _, SLe.refl _, SLe.refl _, SLe.refl _, SLe.refl _, trivial⟩ (fun _ h => by cases h)⟩
  replace h8 := of_decide_eq_false h8
  obtain rfl : m = (cand v p x room day).length + 1 := by omega
  have HC : tgtC v p x room day = none := hm.2
  rw [HC]
  refine AWP.exit ?_
  refine AWP.seq (AWP.region ?_)
  refine AOps.aD rfl rfl rfl rfl rfl (.nil ?_)
  refine AWP.adopt 10 57 3 1 rfl rfl ?_
  refine AWP.ret ?_
  refine ⟨57, rfl, mem_row_eq (.head _) ?_⟩
  rfl

end Go.Proofs.YtieccphckobhjaaGreatDoor


namespace Go.Proofs.YtieccphckobhjaaGreatDoor
open Go.RowKit
set_option linter.unusedVariables false

/-! Types. -/
namespace TyW8

end TyW8
open TyW8


def IncC (l : List Nat) : Prop := ∀ i j, i < j → j < l.length → l.getD i 0 < l.getD j 0
theorem range_inc (m : Nat) : IncC (List.range m) := fun i j hij hj => by
  rw [List.length_range] at hj
  rw [numAt (by rw [List.length_range]; omega), numAt (by rw [List.length_range]; omega), List.getElem_range, List.getElem_range]
  exact hij
theorem bump_inc {l : List Nat} {k : Nat} (h : IncC l) (hk : k < l.length) : IncC (bump l k) := fun i j hij hj => by
  rw [bump_len (by omega)] at hj
  show (bumpTo l k l.length).getD i 0 < (bumpTo l k l.length).getD j 0
  rw [bumpTo_at (by omega) (Nat.le_refl _) (by omega), bumpTo_at (by omega) (Nat.le_refl _) hj]
  by_cases h1 : j < k
  · rw [if_pos (by omega), if_pos h1]; exact h i j hij hj
  · rw [if_neg h1, if_pos hj]
    by_cases h2 : i < k
    · rw [if_pos h2]
      have := h i k h2 hk
      omega
    · rw [if_neg h2, if_pos (by omega)]
      omega
theorem srchN_spec {n : Nat} {P : List Nat → Bool} : ∀ {f : Nat} {l r : List Nat}, Vld n l → IncC l → srchN n P f l = some r → P r = true ∧ Vld n r ∧ IncC r ∧ r.length = l.length
  | 0, _, _, _, _, h => by cases h
  | f + 1, l, r, hv, hi, h => by
    unfold srchN at h
    by_cases hp : P l = true
    · rw [if_pos hp] at h
      cases h
      exact ⟨hp, hv, hi, rfl⟩
    · rw [if_neg hp] at h
      unfold nextC at h
      cases hq : pivot n l l.length with
      | none => rw [hq] at h; cases h
      | some k =>
        rw [hq] at h
        have hk := (pivot_lt hq).1
        have := srchN_spec (bump_vld hv hq) (bump_inc hi hk) h
        rw [bump_len (by omega)] at this
        exact this
theorem chosenTo_spec {n : Nat} {P : List Nat → Bool} {r : List Nat} : ∀ {m : Nat}, m ≤ n + 1 → chosenTo n P m = some r → P r = true ∧ Vld n r ∧ IncC r
  | 0, _, h => by cases h
  | m + 1, hm, h => by
    have h : (chosenTo n P m).or (srch n P (List.range m)) = some r := h
    cases hc : chosenTo n P m with
    | some q =>
      rw [hc] at h
      have e : q = r := by simpa using h
      subst e
      exact chosenTo_spec (by omega) hc
    | none =>
      rw [hc] at h
      have h2 : srch n P (List.range m) = some r := by simpa using h
      obtain ⟨a, b, c, _⟩ := srchN_spec (range_vld (by omega)) (range_inc m) h2
      exact ⟨a, b, c⟩
theorem chosen_spec {n : Nat} {P : List Nat → Bool} {r : List Nat} (h : chosenC n P = some r) : P r = true ∧ Vld n r ∧ IncC r := chosenTo_spec (Nat.le_refl _) h
end Go.Proofs.YtieccphckobhjaaGreatDoor


namespace Go.Proofs.YtieccphckobhjaaGreatDoor
open Go.RowKit
set_option linter.unusedVariables false

/-! Types. -/
namespace TyW9

end TyW9
open TyW9


structure Tfr where
  item : ByteArray
  frm : ByteArray
  to : ByteArray
def Tfr.ds (t : Tfr) : List D := [.v (.string t.item), .v (.string t.frm), .v (.string t.to)]
def roomR (v : Vlt) : List Int := v.carrs.map fun c => c.room - usedOn v c.name
def take1 (v : Vlt) (x : Item) (s : List Int × List Tfr) (i : Nat) : List Int × List Tfr := (s.1.set i (s.1.getD i 0 - x.blocks), s.2 ++ [⟨x.name, (v.copies.getD (srcI v x.name v.copies.length).toNat zC).carrier, (carrN v i).name⟩])
def planItem (v : Vlt) (p : Pol) (day : Int) (s : List Int × List Tfr) (x : Item) : List Int × List Tfr := (tgtR v p x s.1 day).foldl (take1 v x) s
def planTo (v : Vlt) (p : Pol) (day : Int) (k : Nat) : List Int × List Tfr := (v.items.take k).foldl (planItem v p day) (roomR v, [])
def planR (v : Vlt) (p : Pol) (day : Int) : List Tfr := if dayFault v p day = 0 then (planTo v p day v.items.length).2 else []
structure PB (v : Vlt) (s : List Int × List Tfr) (c : Nat) : Prop where
  len : s.1.length = v.carrs.length
  out : s.2.length ≤ c
  room : ∀ i, -((c : Int) * 1000) ≤ s.1.getD i 0 ∧ s.1.getD i 0 ≤ 1000000
theorem PB.next {v : Vlt} {s : List Int × List Tfr} {c : Nat} (h : PB v s c) {x : Item} (hx : 1 ≤ x.blocks ∧ x.blocks ≤ 1000) (i : Nat) : PB v (take1 v x s i) (c + 1) := by
  refine ⟨by show (s.1.set i _).length = _; rw [List.length_set]; exact h.len, by show (s.2 ++ _).length ≤ _; rw [List.length_append]; have := h.out; simp; omega, fun j => ?_⟩
  show _ ≤ (s.1.set i _).getD j 0 ∧ (s.1.set i _).getD j 0 ≤ _
  have h1 := h.room i
  have h2 := h.room j
  rw [List.getD_eq_getElem?_getD (l := s.1.set i _), List.getElem?_set]
  by_cases e : i = j
  · subst e
    rw [if_pos rfl]
    by_cases hl : i < s.1.length
    · rw [if_pos hl, Option.getD_some]; omega
    · rw [if_neg hl]; show _ ≤ (0 : Int) ∧ (0 : Int) ≤ _; omega
  · rw [if_neg e, ← List.getD_eq_getElem?_getD]; omega
theorem tgtR_lt {v : Vlt} {p : Pol} {x : Item} {room : List Int} {day : Int} : ∀ i ∈ tgtR v p x room day, i < v.carrs.length := fun i hi => by
  unfold tgtR at hi
  split at hi
  · cases hi
  · obtain ⟨j, hj, rfl⟩ := List.mem_map.1 hi
    cases hc : tgtC v p x room day with
    | none => rw [hc] at hj; cases hj
    | some r =>
      rw [hc] at hj
      obtain ⟨_, hv, _⟩ := chosen_spec hc
      obtain ⟨q, hq, rfl⟩ := List.mem_iff_getElem.1 (show j ∈ r from hj)
      have h1 := hv.2 q hq
      have h2 : r[q] < (cand v p x room day).length := by omega
      rw [numAt h2]
      exact candTo_lt (List.getElem_mem h2)
theorem tgtR_len (v : Vlt) (p : Pol) (x : Item) (room : List Int) (day : Int) : (tgtR v p x room day).length ≤ v.carrs.length := by
  unfold tgtR
  split
  · exact Nat.zero_le _
  · rw [List.length_map]
    cases hc : tgtC v p x room day with
    | none => exact Nat.zero_le _
    | some r =>
      obtain ⟨_, hv, _⟩ := chosen_spec hc
      exact Nat.le_trans hv.1 (candTo_len _)
theorem tgt_src {v : Vlt} {p : Pol} {x : Item} {room : List Int} {day : Int} {i : Nat} (h : i ∈ tgtR v p x room day) : ¬ srcI v x.name v.copies.length < 0 := fun hh => by
  have hn : noTgt v p x day = true := by unfold noTgt; rw [decide_eq_true hh]; rfl
  rw [tgt_no hn] at h
  cases h
theorem PB.fold {v : Vlt} {x : Item} (hx : 1 ≤ x.blocks ∧ x.blocks ≤ 1000) : ∀ (l : List Nat) {s : List Int × List Tfr} {c : Nat}, PB v s c → PB v (l.foldl (take1 v x) s) (c + l.length)
  | [], _, _, h => h
  | i :: l, s, c, h => by
    have := PB.fold hx l (h.next hx i)
    rw [show c + 1 + l.length = c + (i :: l).length by simp; omega] at this
    exact this
theorem PB.more {v : Vlt} {s : List Int × List Tfr} {c d : Nat} (h : PB v s c) (hd : c ≤ d) : PB v s d := ⟨h.len, Nat.le_trans h.out hd, fun i => by have := h.room i; omega⟩
theorem room_PB {v : Vlt} (vo : VOk v) (hu : ∀ x ∈ v.carrs, 0 ≤ usedOn v x.name) : PB v (roomR v, []) 0 := by
  refine ⟨by unfold roomR; simp, Nat.le_refl _, fun i => ?_⟩
  show _ ≤ (roomR v).getD i 0 ∧ (roomR v).getD i 0 ≤ _
  unfold roomR
  rw [List.getD_eq_getElem?_getD, List.getElem?_map]
  cases hc : v.carrs[i]? with
  | none => show _ ≤ (0 : Int) ∧ (0 : Int) ≤ _; omega
  | some c =>
    have hm := List.mem_of_getElem? hc
    have h1 := vo.room c hm
    have h2 := (vo.carr hm).2.2
    have h3 := hu c hm
    show _ ≤ c.room - usedOn v c.name ∧ c.room - usedOn v c.name ≤ _
    omega
theorem planTo_next {v : Vlt} {p : Pol} {day : Int} {k : Nat} (hk : k < v.items.length) : planTo v p day (k + 1) = planItem v p day (planTo v p day k) v.items[k] := by
  unfold planTo
  rw [List.take_add_one, List.getElem?_eq_getElem hk, Option.toList_some, List.foldl_append]
  rfl
theorem planTo_PB {v : Vlt} {p : Pol} {day : Int} (vo : VOk v) (hi : okItems v) (hu : ∀ x ∈ v.carrs, 0 ≤ usedOn v x.name) : ∀ k, k ≤ v.items.length → PB v (planTo v p day k) (16 * k)
  | 0, _ => room_PB vo hu
  | k + 1, hk => by
    rw [planTo_next (by omega)]
    have h1 := PB.fold (hi _ (List.getElem_mem (l := v.items) (n := k) (by omega))) (tgtR v p v.items[k] (planTo v p day k).1 day) (planTo_PB (p := p) (day := day) vo hi hu k (by omega))
    have h2 := tgtR_len v p v.items[k] (planTo v p day k).1 day
    have h3 := vo.nc
    exact h1.more (by omega)


end Go.Proofs.YtieccphckobhjaaGreatDoor


namespace Go.Proofs.YtieccphckobhjaaGreatDoor
open Go.RowKit
set_option linter.unusedVariables false

/-! Types. -/
namespace TyW10
theorem ag_26 : AggT Tryz.prog 26 3 := .of (by kernel_rfl)
theorem ag_28 : AggT Tryz.prog 28 6 := .of (by kernel_rfl)
theorem ag_59 : AggT Tryz.prog 59 5 := .of (by kernel_rfl)
theorem ag_62 : AggT Tryz.prog 62 2 := .of (by kernel_rfl)
theorem bu_35 : StructT Tryz.prog 35 (fun i => (#[(0, 1), (1, 1), (2, 1)] : Array (Nat × Nat))[i]?) [(.string ⟨#[]⟩), (.string ⟨#[]⟩), (.string ⟨#[]⟩)] := .of (by kernel_rfl) (by kernel_rfl) (by decide)
theorem et_22 : ElemTy Tryz.prog 22 62 2 24 (.agg #[(.string ⟨#[]⟩), (.int .i64 0)]) := ⟨by kernel_rfl, by kernel_rfl, by kernel_rfl, by decide⟩
theorem et_23 : ElemTy Tryz.prog 23 59 5 64 (.agg #[(.string ⟨#[]⟩), (.string ⟨#[]⟩), (.string ⟨#[]⟩), (.int .i64 0), (.int .i64 0)]) := ⟨by kernel_rfl, by kernel_rfl, by kernel_rfl, by decide⟩
theorem et_24 : ElemTy Tryz.prog 24 65 7 96 (.agg #[(.string ⟨#[]⟩), (.string ⟨#[]⟩), (.string ⟨#[]⟩), (.int .i64 0), (.int .i64 0), (.int .i64 0), (.slice none 0 0)]) := ⟨by kernel_rfl, by kernel_rfl, by kernel_rfl, by decide⟩
theorem et_29 : ElemTy Tryz.prog 29 35 3 48 (.agg #[(.string ⟨#[]⟩), (.string ⟨#[]⟩), (.string ⟨#[]⟩)]) := ⟨by kernel_rfl, by kernel_rfl, by kernel_rfl, by decide⟩
theorem et_63 : ElemTy Tryz.prog 63 3 1 8 (.int .i64 0) := ⟨by kernel_rfl, by kernel_rfl, by kernel_rfl, by decide⟩
theorem fo_26_0 : fieldOff Tryz.prog 26 0 = some 0 := by kernel_rfl
theorem fo_26_1 : fieldOff Tryz.prog 26 1 = some 1 := by kernel_rfl
theorem fo_26_2 : fieldOff Tryz.prog 26 2 = some 2 := by kernel_rfl
theorem fo_59_0 : fieldOff Tryz.prog 59 0 = some 0 := by kernel_rfl
theorem fo_59_4 : fieldOff Tryz.prog 59 4 = some 4 := by kernel_rfl
theorem fo_62_0 : fieldOff Tryz.prog 62 0 = some 0 := by kernel_rfl
theorem fo_62_1 : fieldOff Tryz.prog 62 1 = some 1 := by kernel_rfl
theorem fo_65_1 : fieldOff Tryz.prog 65 1 = some 1 := by kernel_rfl
theorem sc_22 : Scal Tryz.prog 22 := .of (by kernel_rfl)
theorem sc_23 : Scal Tryz.prog 23 := .of (by kernel_rfl)
theorem sc_24 : Scal Tryz.prog 24 := .of (by kernel_rfl)
theorem sc_3 : Scal Tryz.prog 3 := .of (by kernel_rfl)
theorem sc_9 : Scal Tryz.prog 9 := .of (by kernel_rfl)
theorem sz_3 : ∀ w, (sizeOf 3).run Tryz.prog w = .ok 1 w := SizeT.of (by kernel_rfl)
theorem sz_59 : ∀ w, (sizeOf 59).run Tryz.prog w = .ok 5 w := SizeT.of (by kernel_rfl)
theorem sz_62 : ∀ w, (sizeOf 62).run Tryz.prog w = .ok 2 w := SizeT.of (by kernel_rfl)
theorem zt_59 : (Tryz.prog.info? 59).bind (·.zero) = some (.agg #[(.string ⟨#[]⟩), (.string ⟨#[]⟩), (.string ⟨#[]⟩), (.int .i64 0), (.int .i64 0)]) := by kernel_rfl
theorem zt_62 : (Tryz.prog.info? 62).bind (·.zero) = some (.agg #[(.string ⟨#[]⟩), (.int .i64 0)]) := by kernel_rfl
end TyW10
open TyW10


def roomF (v : Vlt) (k : Nat) : List (List D) := ((v.carrs.take k).map fun c => intD (c.room - usedOn v c.name)) ++ List.replicate (v.carrs.length - k) (intD 0)
theorem roomF_at {v : Vlt} {k : Nat} (h : k < v.carrs.length) : (roomF v k)[k]? = some (intD 0) := by
  unfold roomF
  rw [List.getElem?_append_right (by simp; omega), List.length_map, List.length_take, Nat.min_eq_left (by omega), Nat.sub_self, List.getElem?_replicate, if_pos (by omega)]
theorem roomF_len {v : Vlt} {k : Nat} (h : k ≤ v.carrs.length) : (roomF v k).length = v.carrs.length := by unfold roomF; simp; omega
theorem roomF_set {v : Vlt} {k : Nat} (h : k < v.carrs.length) : (roomF v k).set k (intD (v.carrs[k].room - usedOn v v.carrs[k].name)) = roomF v (k + 1) := by
  unfold roomF
  obtain ⟨d, hd⟩ : ∃ d, v.carrs.length - k = d + 1 := ⟨v.carrs.length - k - 1, by omega⟩
  rw [List.set_append_right _ _ (by simp; omega), List.length_map, List.length_take, Nat.min_eq_left (by omega), Nat.sub_self, hd, List.replicate_succ, List.set_cons_zero, List.take_add_one, List.getElem?_eq_getElem h, Option.toList_some, List.map_append, List.append_assoc, show v.carrs.length - (k + 1) = d by omega]
  rfl
theorem roomF_all (v : Vlt) : roomF v v.carrs.length = (roomR v).map intD := by unfold roomF roomR; simp
theorem take1_1 {v : Vlt} {x : Item} {s : List Int × List Tfr} {i : Nat} : (take1 v x s i).1 = s.1.set i (s.1.getD i 0 - x.blocks) := rfl
theorem take1_2 {v : Vlt} {x : Item} {s : List Int × List Tfr} {i : Nat} : (take1 v x s i).2 = s.2 ++ [⟨x.name, (v.copies.getD (srcI v x.name v.copies.length).toNat zC).carrier, (carrN v i).name⟩] := rfl
theorem fold_tk {v : Vlt} {x : Item} {s : List Int × List Tfr} {l : List Nat} {j : Nat} (h : j < l.length) : (l.take (j + 1)).foldl (take1 v x) s = take1 v x ((l.take j).foldl (take1 v x) s) l[j] := by
  rw [List.take_add_one, List.getElem?_eq_getElem h, Option.toList_some, List.foldl_append]
  rfl


set_option maxRecDepth 100000 in
set_option maxHeartbeats 8000000 in
theorem c_rPlan (v : Vlt) (p : Pol) (day : Int) (hs : smallV v) : ACall Tryz.prog 7 [.agg v.ds, .agg p.ds, .v (.int .i64 day)] (.tup [.sl ((planR v p day).map Tfr.ds), .v (.int .i64 (dayFault v p day))]) := by
  refine acall_of (n := 97) (ds' := [.sl ((planR v p day).map Tfr.ds), .v (.int .i64 (dayFault v p day))]) Tryz.func7 rfl (by kernel_rfl) rfl [6, 7] rfl rfl ?_
  intro B w0 F0 fr
  refine AWP.seq (AWP.region ?_)
  refine AOps.step rfl rfl rfl (AOp.box rfl rfl rfl) ?_
  refine AOps.step rfl rfl rfl (AOp.box rfl rfl rfl) ?_
  refine AOps.aD rfl rfl rfl rfl rfl ?_
  refine AOps.aD rfl rfl rfl rfl rfl (.nil ?_)
  refine AWP.seq ?_
  refine AWP.seq (AWP.region ?_)
  refine AOps.step rfl rfl rfl (AOp.loadAgg rfl ag_26 rfl rfl) ?_
  refine AOps.step rfl rfl rfl (AOp.loadAgg rfl ag_28 rfl rfl) ?_
  refine AOps.mD rfl rfl rfl rfl rfl ?_
  refine AOps.step rfl rfl rfl (AOp.call rfl (.cons (ArgOk.rfl' rfl) (.cons (ArgOk.rfl' rfl) (.cons (ArgOk.rfl' rfl) .nil))) (c_ask v p day hs)) ?_
  refine AOps.aD rfl rfl rfl rfl rfl (.nil ?_)
  refine AWP.seq (AWP.region ?_)
  refine AOps.mD rfl rfl rfl rfl rfl ?_
  refine AOps.step rfl rfl rfl (AOp.neq rfl rfl rfl) (.nil ?_)
  refine AWP.cond rfl (fun h1 => ?_) (fun h1 => ?_)
  · replace h1 := of_decide_eq_true h1
    have HR : planR v p day = [] := by unfold planR; rw [if_neg h1]
    rw [HR]
    refine AWP.seq (AWP.region ?_)
    refine AOps.mD rfl rfl rfl rfl rfl ?_
    refine AOps.aD rfl rfl rfl rfl rfl ?_
    refine AOps.aD rfl rfl rfl rfl rfl (.nil ?_)
    refine AWP.ret ?_
    refine ⟨RetD.nil rfl, RetD.eq rfl ?_, trivial⟩
    all_goals (rfl)
  replace h1 := of_decide_eq_false h1
  have hd0 := Decidable.not_not.1 h1
  obtain ⟨hb0, hd⟩ := day_ok hd0
  obtain ⟨vo, po⟩ := both_ok hb0
  have hoi := okItems_of vo.items
  have hoc : okCopies v := fun c hc => ⟨(vo.cpy c hc).item, (vo.cpy c hc).carr⟩
  have hu : ∀ x ∈ v.carrs, 0 ≤ usedOn v x.name := fun x _ => (usedTo_bound hoi x.name _).1
  have hnp := vo.np
  have hnc := vo.nc
  have hni := vo.ni
  have HR : planR v p day = (planTo v p day v.items.length).2 := by unfold planR; rw [if_pos hd0]
  rw [HR, hd0]
  refine AWP.skip ?_
  refine AWP.seq (AWP.region ?_)
  refine AOps.step rfl rfl rfl (AOp.fieldAddr rfl fo_26_1 rfl) ?_
  refine AOps.step rfl rfl rfl (AOp.load rfl sc_23 rfl) ?_
  refine AOps.step rfl rfl rfl (AOp.lenSl rfl et_23.ht rfl) ?_
  refine AOps.makeI 61 v.carrs.length rfl rfl rfl rfl et_63 rfl rfl (by rw [List.length_map]) (by omega) (by omega) rfl rfl ?_
  refine AOps.step rfl rfl rfl (AOp.assignO rfl rfl) (.nil ?_)
  refine AWP.seq ?_
  refine AWP.seq (AWP.region ?_)
  refine AOps.step rfl rfl rfl (AOp.fieldAddr rfl fo_26_1 rfl) ?_
  refine AOps.step rfl rfl rfl (AOp.load rfl sc_23 rfl) ?_
  refine AOps.step rfl rfl rfl (AOp.lenSl rfl et_23.ht rfl) ?_
  refine AOps.mD rfl rfl rfl rfl rfl (.nil ?_)
  refine AWP.block ?_
  refine AWP.loop (G := Nat) (fun k => Env.of [(31, .d (.v (.int .i64 (k : Int)))), (29, .d (.sl (v.carrs.map Carr.ds))), (30, .d (.v (.int .i64 ((v.carrs.map Carr.ds).length : Int)))), (3, .d (.fp v.ds)), (4, .d (.fp p.ds)), (2, .d (.v (.int .i64 day))), (9, .own 61)]) (fun k => [(61, .row 3 1 (roomF v k))]) (fun k => k ≤ v.carrs.length) (fun k => v.carrs.length - k) 0 (Nat.zero_le _) (Sub.less ⟨(SLe.of_eq rfl), SLe.refl _, SLe.refl _, SLe.refl _, SLe.refl _, SLe.refl _, SLe.refl _, trivial⟩ (row_numEq (by unfold roomF; simp; exact .inr rfl))) ?_
  intro k hk
  refine AWP.seq (AWP.region ?_)
  refine AOps.step rfl rfl rfl (AOp.lss rfl rfl rfl) (.nil ?_)
  refine AWP.seq ?_
  refine AWP.cond rfl (fun h2 => ?_) (fun h2 => ?_)
  · replace h2 := of_decide_eq_true h2
    rw [List.length_map] at h2
    have hlt : k < v.carrs.length := by omega
    have hcb := vo.carr (List.getElem_mem hlt)
    have hub : 0 ≤ usedOn v v.carrs[k].name ∧ usedOn v v.carrs[k].name ≤ 1000 * (v.copies.length : Int) := usedTo_bound hoi _ _
    refine AWP.skip ?_
    refine AWP.seq ?_
    refine AWP.block ?_
    refine AWP.seq (AWP.region ?_)
    refine AOps.mD rfl rfl rfl rfl rfl ?_
    refine AOps.step rfl rfl rfl (AOp.indexAddr rfl et_23 rfl rfl k rfl (at_list hlt) rfl) ?_
    refine AOps.step rfl rfl rfl (AOp.loadAgg rfl ag_59 rfl rfl) ?_
    refine AOps.alloc 102 rfl rfl rfl rfl zt_59 rfl rfl rfl ?_
    refine AOps.aD rfl rfl rfl rfl rfl ?_
    refine AOps.store rfl rfl rfl sz_59 rfl (.head _) rfl rfl rfl (Nat.le_of_ble_eq_true rfl) ?_
    refine AOps.freezeCells 11 (ds := v.carrs[k].ds) rfl (.head _) (.nil ?_)
    refine AWP.drawG (fun k => (Nat.beq k 10) || (Nat.beq k 9)) (fun k => Nat.beq k 10) (fun k h => Bool.or_eq_true_iff.2 (.inl h)) (by kernel_rfl) (by kernel_rfl) (by kernel_rfl) ?_
    refine GRun.step rfl rfl rfl (fun _ => AOp.moveO rfl rfl) ?_
    refine GRun.step rfl rfl rfl (fun _ => AOp.moveD rfl rfl) ?_
    refine GRun.step rfl rfl rfl (fun _ => AOp.fieldAddr rfl fo_59_4 rfl) ?_
    refine GRun.step rfl rfl rfl (fun _ => AOp.load rfl sc_3 rfl) ?_
    refine GRun.step rfl rfl rfl (fun _ => AOp.loadAgg rfl ag_26 rfl rfl) ?_
    refine GRun.step rfl rfl rfl (fun _ => AOp.fieldAddr rfl fo_59_0 rfl) ?_
    refine GRun.step rfl rfl rfl (fun _ => AOp.load rfl sc_9 rfl) ?_
    refine GRun.step rfl rfl rfl (fun _ => AOp.call rfl (.cons (ArgOk.rfl' rfl) (.cons (ArgOk.rfl' rfl) .nil)) (c_used v v.carrs[k].name hoi hoc (by omega))) ?_
    refine GRun.step rfl rfl rfl (fun _ => AOp.sub64 rfl rfl rfl (by omega) (by omega)) ?_
    refine GRun.stepS rfl rfl rfl rfl (AOp.indexOwn rfl et_63 rfl rfl (.head _) k rfl (by rw [roomF_len hk]; omega)) ?_
    refine GRun.eff rfl rfl rfl (EOp.storeRow rfl rfl sz_3 rfl (.head _) rfl rfl rfl k 0 rfl (roomF_at hlt) (Nat.le_of_ble_eq_true rfl)) ?_
    refine GRun.nil ?_
    refine AWP.region ?_
    refine AOps.step rfl rfl rfl (AOp.add64 rfl rfl rfl (by omega) (by omega)) ?_
    refine AOps.mD rfl rfl rfl rfl rfl (.nil ?_)
    refine ⟨k + 1, (by omega), (by dsimp only; omega), Sub.less ⟨(SLe.of_eq rfl), SLe.refl _, SLe.refl _, SLe.refl _, SLe.refl _, SLe.refl _, SLe.refl _, trivial⟩ (row_numEq (roomF_set hlt))⟩
  replace h2 := of_decide_eq_false h2
  rw [List.length_map] at h2
  obtain rfl : k = v.carrs.length := by omega
  refine AWP.exit ?_
  refine AWP.seq (AWP.region ?_)
  refine AOps.aD rfl rfl rfl rfl rfl (.nil ?_)
  refine AWP.seq ?_
  refine AWP.seq (AWP.region ?_)
  refine AOps.step rfl rfl rfl (AOp.fieldAddr rfl fo_26_0 rfl) ?_
  refine AOps.step rfl rfl rfl (AOp.load rfl sc_22 rfl) ?_
  refine AOps.step rfl rfl rfl (AOp.lenSl rfl et_22.ht rfl) ?_
  refine AOps.mD rfl rfl rfl rfl rfl (.nil ?_)
  refine AWP.block ?_
  refine AWP.adopt 12 65 35 3 rfl rfl ?_
  refine AWP.loop (G := Nat) (fun k => Env.of [(50, .d (.v (.int .i64 (k : Int)))), (48, .d (.sl (v.items.map Item.ds))), (49, .d (.v (.int .i64 ((v.items.map Item.ds).length : Int)))), (12, .own 65), (3, .d (.fp v.ds)), (4, .d (.fp p.ds)), (2, .d (.v (.int .i64 day))), (9, .own 61)]) (fun k => [(65, .row 35 3 ((planTo v p day k).2.map Tfr.ds)), (61, .row 3 1 ((planTo v p day k).1.map intD))]) (fun k => k ≤ v.items.length) (fun k => v.items.length - k) 0 (Nat.zero_le _) (Sub.less ⟨(SLe.of_eq rfl), SLe.refl _, SLe.refl _, SLe.refl _, SLe.refl _, SLe.refl _, SLe.refl _, SLe.refl _, trivial⟩ (rows_both rfl (roomF_all v))) ?_
  intro k hk
  refine AWP.seq (AWP.region ?_)
  refine AOps.step rfl rfl rfl (AOp.lss rfl rfl rfl) (.nil ?_)
  refine AWP.seq ?_
  refine AWP.cond rfl (fun h3 => ?_) (fun h3 => ?_)
  · replace h3 := of_decide_eq_true h3
    rw [List.length_map] at h3
    have hlt : k < v.items.length := by omega
    have hpb := planTo_PB (p := p) (day := day) vo hoi hu k (by omega)
    have hxb := hoi _ (List.getElem_mem hlt)
    have hPN := planTo_next (p := p) (day := day) hlt
    have htl := tgtR_len v p v.items[k] (planTo v p day k).1 day
    refine AWP.skip ?_
    refine AWP.seq ?_
    refine AWP.block ?_
    refine AWP.seq (AWP.region ?_)
    refine AOps.step rfl rfl rfl (AOp.indexAddr rfl et_22 rfl rfl k rfl (at_list hlt) rfl) ?_
    refine AOps.step rfl rfl rfl (AOp.loadAgg rfl ag_62 rfl rfl) ?_
    refine AOps.alloc 103 rfl rfl rfl rfl zt_62 rfl rfl rfl ?_
    refine AOps.store rfl rfl rfl sz_62 rfl (.head _) rfl rfl rfl (Nat.le_of_ble_eq_true rfl) ?_
    refine AOps.freezeCells 14 (ds := v.items[k].ds) rfl (.head _) (.nil ?_)
    refine AWP.seq (AWP.region ?_)
    refine AOps.step rfl rfl rfl (AOp.loadAgg rfl ag_26 rfl rfl) ?_
    refine AOps.step rfl rfl rfl (AOp.loadAgg rfl ag_28 rfl rfl) ?_
    refine AOps.step rfl rfl rfl (AOp.loadAgg rfl ag_62 rfl rfl) ?_
    refine AOps.step rfl rfl rfl (AOp.moveO rfl rfl) ?_
    refine AOps.mD rfl rfl rfl rfl rfl ?_
    refine AOps.callOS 64 rfl rfl rfl rfl (.cons rfl (.d _) (.cons rfl (.d _) (.cons rfl (.d _) (.cons rfl (.row (.tail _ (.head _))) (.cons rfl (.d _) .nil))))) (c_targets v p v.items[k] (planTo v p day k).1 day vo po hd hpb.len) (fun y hy d hd => by obtain ⟨q, _, rfl⟩ := List.mem_map.1 hy; obtain rfl := List.mem_singleton.1 hd; exact .v _) rfl ?_
    refine AOps.freeze 59 rfl (.head _) ?_
    refine AOps.step rfl rfl rfl (AOp.lenSl rfl et_63.ht rfl) ?_
    refine AOps.mD rfl rfl rfl rfl rfl (.nil ?_)
    refine AWP.block ?_
    refine AWP.loop (G := Nat) (fun j => Env.of [(61, .d (.v (.int .i64 (j : Int)))), (60, .d (.v (.int .i64 (((tgtR v p v.items[k] (planTo v p day k).1 day).map numD).length : Int)))), (59, .d (.sl ((tgtR v p v.items[k] (planTo v p day k).1 day).map numD))), (14, .d (.fp v.items[k].ds)), (50, .d (.v (.int .i64 (k : Int)))), (48, .d (.sl (v.items.map Item.ds))), (49, .d (.v (.int .i64 ((v.items.map Item.ds).length : Int)))), (12, .own 65), (3, .d (.fp v.ds)), (4, .d (.fp p.ds)), (2, .d (.v (.int .i64 day))), (9, .own 61)]) (fun j => [(65, .row 35 3 ((((tgtR v p v.items[k] (planTo v p day k).1 day).take j).foldl (take1 v v.items[k]) (planTo v p day k)).2.map Tfr.ds)), (61, .row 3 1 ((((tgtR v p v.items[k] (planTo v p day k).1 day).take j).foldl (take1 v v.items[k]) (planTo v p day k)).1.map intD))]) (fun j => j ≤ (tgtR v p v.items[k] (planTo v p day k).1 day).length) (fun j => (tgtR v p v.items[k] (planTo v p day k).1 day).length - j) 0 (Nat.zero_le _) (Sub.less ⟨(SLe.of_eq rfl), SLe.refl _, SLe.refl _, SLe.refl _, SLe.refl _, SLe.refl _, SLe.refl _, SLe.refl _, SLe.refl _, SLe.refl _, SLe.refl _, SLe.refl _, trivial⟩ (rows_both rfl rfl)) ?_
    intro j hj
    refine AWP.seq (AWP.region ?_)
    refine AOps.step rfl rfl rfl (AOp.lss rfl rfl rfl) (.nil ?_)
    refine AWP.seq ?_
    refine AWP.cond rfl (fun h4 => ?_) (fun h4 => ?_)
    · replace h4 := of_decide_eq_true h4
      rw [List.length_map] at h4
      have hjl : j < (tgtR v p v.items[k] (planTo v p day k).1 day).length := by omega
      have hfb := PB.fold hxb ((tgtR v p v.items[k] (planTo v p day k).1 day).take j) hpb
      rw [List.length_take] at hfb
      have hti := List.getElem_mem hjl
      have hil := tgtR_lt _ hti
      have hrl := hfb.len
      have hol := hfb.out
      have hrm := hfb.room (tgtR v p v.items[k] (planTo v p day k).1 day)[j]
      rw [roomAt (by omega)] at hrm
      obtain ⟨bi, hbi, ebi, hbe⟩ := srcI_at (v := v) (it := v.items[k].name) (Nat.le_refl _) (tgt_src hti)
      have HT := fold_tk (v := v) (x := v.items[k]) (s := (planTo v p day k)) hjl
      refine AWP.skip ?_
      refine AWP.seq ?_
      refine AWP.block ?_
      refine AWP.seq (AWP.region ?_)
      refine AOps.step rfl rfl rfl (AOp.indexAddr rfl et_63 rfl rfl j rfl (at_list hjl) rfl) ?_
      refine AOps.step rfl rfl rfl (AOp.load rfl sc_3 rfl) ?_
      refine AOps.aD rfl rfl rfl rfl rfl (.nil ?_)
      refine AWP.seq ?_
      refine AWP.drawG (fun k => (Nat.beq k 8) || (Nat.beq k 2 || Nat.beq k 3 || Nat.beq k 7)) (fun k => Nat.beq k 8) (fun k h => Bool.or_eq_true_iff.2 (.inl h)) (by kernel_rfl) (by kernel_rfl) (by kernel_rfl) ?_
      refine GRun.step rfl rfl rfl (fun _ => AOp.moveO rfl rfl) ?_
      refine GRun.step rfl rfl rfl (fun _ => AOp.moveD rfl rfl) ?_
      refine GRun.stepS rfl rfl rfl rfl (AOp.indexOwn rfl et_63 rfl rfl (.tail _ (.head _)) (tgtR v p v.items[k] (planTo v p day k).1 day)[j] rfl (by rw [List.length_map]; omega)) ?_
      refine GRun.stepS rfl rfl rfl rfl (AOp.loadRow rfl sc_3 rfl (.tail _ (.head _)) (tgtR v p v.items[k] (planTo v p day k).1 day)[j] 0 rfl (at_list (by omega)) rfl) ?_
      refine GRun.step rfl rfl rfl (fun _ => AOp.fieldAddr rfl fo_62_1 rfl) ?_
      refine GRun.step rfl rfl rfl (fun _ => AOp.load rfl sc_3 rfl) ?_
      refine GRun.step rfl rfl rfl (fun _ => AOp.sub64 rfl rfl rfl (by omega) (by omega)) ?_
      refine GRun.stepS rfl rfl rfl rfl (AOp.indexOwn rfl et_63 rfl rfl (.tail _ (.head _)) (tgtR v p v.items[k] (planTo v p day k).1 day)[j] rfl (by rw [List.length_map]; omega)) ?_
      refine GRun.eff rfl rfl rfl (EOp.storeRow rfl rfl sz_3 rfl (.tail _ (.head _)) rfl rfl rfl (tgtR v p v.items[k] (planTo v p day k).1 day)[j] 0 rfl (at_list (by omega)) (Nat.le_of_ble_eq_true rfl)) ?_
      refine GRun.nil ?_
      refine AWP.drawTail 20 (by kernel_rfl) (by kernel_rfl) (by kernel_rfl) ?_
      refine DRun.step rfl rfl rfl (AOp.moveO rfl rfl) ?_
      refine DRun.step rfl rfl rfl (AOp.fieldAddr rfl fo_62_0 rfl) ?_
      refine DRun.step rfl rfl rfl (AOp.load rfl sc_9 rfl) ?_
      refine DRun.step rfl rfl rfl (AOp.fieldAddr rfl fo_26_2 rfl) ?_
      refine DRun.step rfl rfl rfl (AOp.load rfl sc_24 rfl) ?_
      refine DRun.step rfl rfl rfl (AOp.loadAgg rfl ag_26 rfl rfl) ?_
      refine DRun.step rfl rfl rfl (AOp.fieldAddr rfl fo_62_0 rfl) ?_
      refine DRun.step rfl rfl rfl (AOp.load rfl sc_9 rfl) ?_
      refine DRun.step rfl rfl rfl (AOp.call rfl (.cons (ArgOk.rfl' rfl) (.cons (ArgOk.rfl' rfl) .nil)) (c_sourceOf v v.items[k].name (by omega))) ?_
      refine DRun.step rfl rfl rfl (AOp.indexAddr rfl et_24 rfl rfl bi ebi (at_list hbi) rfl) ?_
      refine DRun.step rfl rfl rfl (AOp.fieldAddr rfl fo_65_1 rfl) ?_
      refine DRun.step rfl rfl rfl (AOp.load rfl sc_9 rfl) ?_
      refine DRun.step rfl rfl rfl (AOp.fieldAddr rfl fo_26_1 rfl) ?_
      refine DRun.step rfl rfl rfl (AOp.load rfl sc_23 rfl) ?_
      refine DRun.step rfl rfl rfl (AOp.moveD rfl rfl) ?_
      refine DRun.step rfl rfl rfl (AOp.indexAddr rfl et_23 rfl rfl (tgtR v p v.items[k] (planTo v p day k).1 day)[j] rfl (at_list hil) rfl) ?_
      refine DRun.step rfl rfl rfl (AOp.fieldAddr rfl fo_59_0 rfl) ?_
      refine DRun.step rfl rfl rfl (AOp.load rfl sc_9 rfl) ?_
      refine DRun.step rfl rfl rfl (AOp.build rfl bu_35 (.cons rfl rfl (.cons rfl rfl (.cons rfl rfl .nil))) rfl) ?_
      refine DRun.step rfl rfl rfl (AOp.buildSlice rfl et_29 (.cons rfl rfl rfl .nil) rfl (by decide)) ?_
      refine DRun.nil ?_
      -- append 93
      refine AOps.append rfl rfl rfl rfl et_29 rfl (.head _) rfl (fun y hy => by obtain rfl := List.mem_singleton.1 hy; rfl) (by simp; omega) (by simp; omega) ?_
      refine AOps.step rfl rfl rfl (AOp.assignO rfl rfl) (.nil ?_)
      refine AWP.region ?_
      refine AOps.step rfl rfl rfl (AOp.add64 rfl rfl rfl (by omega) (by omega)) ?_
      refine AOps.mD rfl rfl rfl rfl rfl (.nil ?_)
      refine ⟨j + 1, (by dsimp only; omega), (by dsimp only; omega), Sub.less ⟨(SLe.of_eq rfl), SLe.refl _, SLe.refl _, SLe.refl _, SLe.refl _, SLe.refl _, SLe.refl _, SLe.refl _, SLe.refl _, SLe.refl _, SLe.refl _, SLe.refl _, trivial⟩ (rows_both (by rw [HT, take1_2, hbe, carrN_at hil, List.map_append]; rfl) (by rw [HT, take1_1, List.map_set, roomAt (by omega)]; rfl))⟩
    replace h4 := of_decide_eq_false h4
    rw [List.length_map] at h4
    obtain rfl : j = (tgtR v p v.items[k] (planTo v p day k).1 day).length := by omega
    rw [List.take_length]
    refine AWP.exit ?_
    refine AWP.region ?_
    refine AOps.step rfl rfl rfl (AOp.add64 rfl rfl rfl (by omega) (by omega)) ?_
    refine AOps.mD rfl rfl rfl rfl rfl (.nil ?_)
    refine ⟨k + 1, (by omega), (by dsimp only; omega), Sub.less ⟨(SLe.of_eq rfl), SLe.refl _, SLe.refl _, SLe.refl _, SLe.refl _, SLe.refl _, SLe.refl _, SLe.refl _, trivial⟩ (rows_both (by rw [hPN]; rfl) (by rw [hPN]; rfl))⟩
  replace h3 := of_decide_eq_false h3
  rw [List.length_map] at h3
  obtain rfl : k = v.items.length := by omega
  refine AWP.exit ?_
  refine AWP.seq (AWP.region ?_)
  refine AOps.step rfl rfl rfl (AOp.moveO rfl rfl) ?_
  refine AOps.step rfl rfl rfl (AOp.assignO rfl rfl) ?_
  refine AOps.aD rfl rfl rfl rfl rfl (.nil ?_)
  refine AWP.ret ?_
  refine ⟨RetD.own rfl (.head _) ?_, RetD.eq rfl ?_, trivial⟩
  all_goals (rfl)

end Go.Proofs.YtieccphckobhjaaGreatDoor


namespace Go.Proofs.YtieccphckobhjaaGreatDoor
open Go.RowKit
set_option linter.unusedVariables false

/-! Types. -/
namespace TyW11
theorem ag_26 : AggT Tryz.prog 26 3 := .of (by kernel_rfl)
theorem ag_65 : AggT Tryz.prog 65 7 := .of (by kernel_rfl)
theorem et_24 : ElemTy Tryz.prog 24 65 7 96 (.agg #[(.string ⟨#[]⟩), (.string ⟨#[]⟩), (.string ⟨#[]⟩), (.int .i64 0), (.int .i64 0), (.int .i64 0), (.slice none 0 0)]) := ⟨by kernel_rfl, by kernel_rfl, by kernel_rfl, by decide⟩
theorem et_63 : ElemTy Tryz.prog 63 3 1 8 (.int .i64 0) := ⟨by kernel_rfl, by kernel_rfl, by kernel_rfl, by decide⟩
theorem fo_28_5 : fieldOff Tryz.prog 28 5 = some 5 := by kernel_rfl
theorem fo_65_5 : fieldOff Tryz.prog 65 5 = some 5 := by kernel_rfl
theorem fo_65_6 : fieldOff Tryz.prog 65 6 = some 6 := by kernel_rfl
theorem sc_3 : Scal Tryz.prog 3 := .of (by kernel_rfl)
theorem sc_63 : Scal Tryz.prog 63 := .of (by kernel_rfl)
theorem sz_65 : ∀ w, (sizeOf 65).run Tryz.prog w = .ok 7 w := SizeT.of (by kernel_rfl)
theorem zt_65 : (Tryz.prog.info? 65).bind (·.zero) = some (.agg #[(.string ⟨#[]⟩), (.string ⟨#[]⟩), (.string ⟨#[]⟩), (.int .i64 0), (.int .i64 0), (.int .i64 0), (.slice none 0 0)]) := by kernel_rfl
end TyW11
open TyW11


def zCpyD : List D := [.v (.string ⟨#[]⟩), .v (.string ⟨#[]⟩), .v (.string ⟨#[]⟩), .v (.int .i64 0), .v (.int .i64 0), .v (.int .i64 0), .v (.slice none 0 0)]
def genO : Option Cpy → Int
  | none => 0
  | some c => c.gen
def bestD : Option Cpy → List D
  | none => zCpyD
  | some c => c.ds
def srcP (b : Option Cpy) (c : Cpy) : Option Cpy := if (decide ((c.bad.length : Int) = 0) && (decide (genO b = 0) || decide (c.gen < genO b))) = true then some c else b
def srcO (v : Vlt) (it : ByteArray) (k : Nat) : Option Cpy := ((copiesOf v it).take k).foldl srcP none
theorem srcO_next {v : Vlt} {it : ByteArray} {k : Nat} (h : k < (copiesOf v it).length) : srcO v it (k + 1) = srcP (srcO v it k) (copiesOf v it)[k] := by
  unfold srcO
  rw [List.take_add_one, List.getElem?_eq_getElem h, Option.toList_some, List.foldl_append]
  rfl
theorem bestD_len (b : Option Cpy) : ((bestD b).map S.d).length = 7 := by cases b <;> rfl
theorem bestD_gen (b : Option Cpy) : ((bestD b).map S.d)[5]? = some (.d (.v (.int .i64 (genO b)))) := by cases b <;> rfl
theorem best_store (b : Option Cpy) (c : Cpy) : ((bestD b).map S.d).take 0 ++ (D.agg c.ds).parts.map S.d ++ ((bestD b).map S.d).drop (0 + 7) = (bestD (some c)).map S.d := by cases b <;> rfl
theorem cells_mem {i j : Nat} {a b : List S} {x : Ob} {τ : Obs} (h : a = b) : ∀ p ∈ [(i, Ob.cells b), (j, x)], p ∈ (i, Ob.cells a) :: (j, x) :: τ := fun p hp => by
  subst h
  rcases List.mem_cons.1 hp with rfl | hp
  · exact .head _
  · rw [List.mem_singleton] at hp; subst hp; exact .tail _ (.head _)


set_option maxRecDepth 100000 in
set_option maxHeartbeats 1000000 in
theorem c_source0 (v : Vlt) (it : ByteArray) (p : Pol) (hn : v.copies.length ≤ 200) (hso : srcO v it (copiesOf v it).length = none) : ACall Tryz.prog 21 [.agg v.ds, .v (.string it), .agg p.ds] (.tup [.agg zCpyD, .v (.bool (false))]) := by
  refine acall_ofR (n := 48) (ds' := [.agg zCpyD, .v (.bool (false))]) Tryz.func21 rfl (by kernel_rfl) rfl [.cell 6 65, .tmp 7] rfl rfl ?_
  intro B w0 F0 fr
  have hol := copiesOf_len v it
  refine AWP.seq (AWP.region ?_)
  refine AOps.step rfl rfl rfl (AOp.box rfl rfl rfl) ?_
  refine AOps.step rfl rfl rfl (AOp.box rfl rfl rfl) ?_
  refine AOps.alloc 11 rfl rfl rfl rfl zt_65 rfl rfl rfl ?_
  refine AOps.aD rfl rfl rfl rfl rfl (.nil ?_)
  refine AWP.seq (AWP.region ?_)
  refine AOps.alloc 13 rfl rfl rfl rfl zt_65 rfl rfl rfl (.nil ?_)
  refine AWP.seq ?_
  refine AWP.seq (AWP.region ?_)
  refine AOps.step rfl rfl rfl (AOp.loadAgg rfl ag_26 rfl rfl) ?_
  refine AOps.mD rfl rfl rfl rfl rfl ?_
  refine AOps.step rfl rfl rfl (AOp.call rfl (.cons (ArgOk.rfl' rfl) (.cons (ArgOk.rfl' rfl) .nil)) (c_copiesOf v it hn)) ?_
  refine AOps.step rfl rfl rfl (AOp.lenSl rfl et_24.ht rfl) ?_
  refine AOps.mD rfl rfl rfl rfl rfl (.nil ?_)
  refine AWP.block ?_
  refine AWP.loop (G := Nat) (fun k => Env.of [(15, .d (.v (.int .i64 (k : Int)))), (13, .d (.sl ((copiesOf v it).map Cpy.ds))), (14, .d (.v (.int .i64 (((copiesOf v it).map Cpy.ds).length : Int)))), (5, .d (.fp p.ds)), (8, .ptr 13 0), (6, .ptr 11 0)]) (fun k => [(13, .cells ((bestD (srcO v it k)).map S.d)), (11, .cells [.d (.v (.string ⟨#[]⟩)), .d (.v (.string ⟨#[]⟩)), .d (.v (.string ⟨#[]⟩)), .d (.v (.int .i64 0)), .d (.v (.int .i64 0)), .d (.v (.int .i64 0)), .d (.v (.slice none 0 0))])]) (fun k => k ≤ (copiesOf v it).length) (fun k => (copiesOf v it).length - k) 0 (Nat.zero_le _) (Sub.less ⟨(SLe.of_eq rfl), SLe.refl _, SLe.refl _, SLe.refl _, SLe.refl _, SLe.refl _, trivial⟩ (cells_mem rfl)) ?_
  intro k hk
  refine AWP.seq (AWP.region ?_)
  refine AOps.step rfl rfl rfl (AOp.lss rfl rfl rfl) (.nil ?_)
  refine AWP.seq ?_
  refine AWP.cond rfl (fun h1 => ?_) (fun h1 => ?_)
  · replace h1 := of_decide_eq_true h1
    rw [List.length_map] at h1
    have hlt : k < (copiesOf v it).length := by omega
    have HN := srcO_next hlt
    refine AWP.skip ?_
    refine AWP.seq ?_
    refine AWP.block ?_
    refine AWP.seq (AWP.region ?_)
    refine AOps.step rfl rfl rfl (AOp.indexAddr rfl et_24 rfl rfl k rfl (at_list hlt) rfl) ?_
    refine AOps.step rfl rfl rfl (AOp.loadAgg rfl ag_65 rfl rfl) ?_
    refine AOps.alloc 14 rfl rfl rfl rfl zt_65 rfl rfl rfl ?_
    refine AOps.store rfl rfl rfl sz_65 rfl (.head _) rfl rfl rfl (by first | exact Nat.le_of_ble_eq_true rfl | (rw [bestD_len]; decide)) ?_
    refine AOps.freezeCells 10 (ds := (copiesOf v it)[k].ds) rfl (.head _) (.nil ?_)
    refine AWP.seq ?_
    refine AWP.obsEq [(13, .cells ((bestD (srcO v it k)).map S.d)), (11, .cells [.d (.v (.string ⟨#[]⟩)), .d (.v (.string ⟨#[]⟩)), .d (.v (.string ⟨#[]⟩)), .d (.v (.int .i64 0)), .d (.v (.int .i64 0)), .d (.v (.int .i64 0)), .d (.v (.slice none 0 0))])] (by generalize srcO v it k = b; cases b <;> rfl) ?_
    refine AWP.region ?_
    refine AOps.step rfl rfl rfl (AOp.fieldAddr rfl fo_65_6 rfl) ?_
    refine AOps.step rfl rfl rfl (AOp.load rfl sc_63 rfl) ?_
    refine AOps.step rfl rfl rfl (AOp.lenSl rfl et_63.ht rfl) ?_
    refine AOps.step rfl rfl rfl (AOp.eql rfl rfl rfl) ?_
    refine AOps.mD rfl rfl rfl rfl rfl ?_
    refine AOps.split 23 rfl (fun g2 => ?_) (fun g2 => ?_)
    · replace g2 := of_decide_eq_true g2
      rw [List.length_map] at g2
      have hA := g2
      refine AOps.step ⟨23, rfl, .inl ⟨_, rfl, rfl⟩⟩ rfl rfl (AOp.fieldAddrP rfl fo_65_5 rfl) ?_
      refine AOps.step ⟨23, rfl, .inl ⟨_, rfl, rfl⟩⟩ rfl rfl (AOp.loadP rfl sc_3 rfl (.head _) (bestD_gen _)) ?_
      refine AOps.step ⟨23, rfl, .inl ⟨_, rfl, rfl⟩⟩ rfl rfl (AOp.eql rfl rfl rfl) ?_
      refine AOps.step ⟨23, rfl, .inl ⟨_, rfl, rfl⟩⟩ rfl rfl (AOp.moveD rfl rfl) ?_
      refine AOps.split 27 rfl (fun g3 => ?_) (fun g3 => ?_)
      · replace g3 := of_decide_eq_true g3
        have HX : srcO v it (k + 1) = some (copiesOf v it)[k] := by rw [HN]; unfold srcP; rw [decide_eq_true hA, decide_eq_true g3]; rfl
        refine AOps.pass ⟨27, rfl, .inl ⟨_, rfl, rfl⟩⟩ rfl rfl ?_
        refine AOps.pass ⟨27, rfl, .inl ⟨_, rfl, rfl⟩⟩ rfl rfl ?_
        refine AOps.pass ⟨27, rfl, .inl ⟨_, rfl, rfl⟩⟩ rfl rfl ?_
        refine AOps.pass ⟨27, rfl, .inl ⟨_, rfl, rfl⟩⟩ rfl rfl ?_
        refine AOps.pass ⟨27, rfl, .inl ⟨_, rfl, rfl⟩⟩ rfl rfl ?_
        refine AOps.step ⟨23, rfl, .inl ⟨_, rfl, rfl⟩⟩ rfl rfl (AOp.pickT rfl rfl rfl) ?_
        refine AOps.step rfl rfl rfl (AOp.pickT rfl rfl rfl) (.nil ?_)
        refine AWP.cond rfl (fun _ => ?_) (fun h => nomatch h)
        refine AWP.region ?_
        refine AOps.step rfl rfl rfl (AOp.loadAgg rfl ag_65 rfl rfl) ?_
        refine AOps.store rfl rfl rfl sz_65 rfl (.head _) rfl rfl rfl (by first | exact Nat.le_of_ble_eq_true rfl | (rw [bestD_len]; decide)) (.nil ?_)
        refine AWP.region ?_
        refine AOps.step rfl rfl rfl (AOp.add64 rfl rfl rfl (by omega) (by omega)) ?_
        refine AOps.mD rfl rfl rfl rfl rfl (.nil ?_)
        refine ⟨k + 1, (by omega), (by dsimp only; omega), Sub.less ⟨(SLe.of_eq rfl), SLe.refl _, SLe.refl _, SLe.refl _, SLe.refl _, SLe.refl _, trivial⟩ (cells_mem (by rw [HX]; first | done | exact best_store _ _))⟩
      replace g3 := of_decide_eq_false g3
      have hB := g3
      refine AOps.step ⟨27, rfl, .inl ⟨_, rfl, rfl⟩⟩ rfl rfl (AOp.fieldAddr rfl fo_65_5 rfl) ?_
      refine AOps.step ⟨27, rfl, .inl ⟨_, rfl, rfl⟩⟩ rfl rfl (AOp.load rfl sc_3 rfl) ?_
      refine AOps.step ⟨27, rfl, .inl ⟨_, rfl, rfl⟩⟩ rfl rfl (AOp.fieldAddrP rfl fo_65_5 rfl) ?_
      refine AOps.step ⟨27, rfl, .inl ⟨_, rfl, rfl⟩⟩ rfl rfl (AOp.loadP rfl sc_3 rfl (.head _) (bestD_gen _)) ?_
      refine AOps.step ⟨27, rfl, .inl ⟨_, rfl, rfl⟩⟩ rfl rfl (AOp.lss rfl rfl rfl) ?_
      refine AOps.step ⟨23, rfl, .inl ⟨_, rfl, rfl⟩⟩ rfl rfl (AOp.pickF rfl rfl rfl) ?_
      refine AOps.step rfl rfl rfl (AOp.pickT rfl rfl rfl) (.nil ?_)
      refine AWP.cond rfl (fun h4 => ?_) (fun h4 => ?_)
      · replace h4 := of_decide_eq_true h4
        have HX : srcO v it (k + 1) = some (copiesOf v it)[k] := by rw [HN]; unfold srcP; rw [decide_eq_true hA, decide_eq_true h4]; simp
        refine AWP.region ?_
        refine AOps.step rfl rfl rfl (AOp.loadAgg rfl ag_65 rfl rfl) ?_
        refine AOps.store rfl rfl rfl sz_65 rfl (.head _) rfl rfl rfl (by first | exact Nat.le_of_ble_eq_true rfl | (rw [bestD_len]; decide)) (.nil ?_)
        refine AWP.region ?_
        refine AOps.step rfl rfl rfl (AOp.add64 rfl rfl rfl (by omega) (by omega)) ?_
        refine AOps.mD rfl rfl rfl rfl rfl (.nil ?_)
        refine ⟨k + 1, (by omega), (by dsimp only; omega), Sub.less ⟨(SLe.of_eq rfl), SLe.refl _, SLe.refl _, SLe.refl _, SLe.refl _, SLe.refl _, trivial⟩ (cells_mem (by rw [HX]; first | done | exact best_store _ _))⟩
      replace h4 := of_decide_eq_false h4
      have HX : srcO v it (k + 1) = srcO v it k := by rw [HN]; unfold srcP; rw [decide_eq_true hA, decide_eq_false hB, decide_eq_false h4]; rfl
      refine AWP.skip ?_
      refine AWP.region ?_
      refine AOps.step rfl rfl rfl (AOp.add64 rfl rfl rfl (by omega) (by omega)) ?_
      refine AOps.mD rfl rfl rfl rfl rfl (.nil ?_)
      refine ⟨k + 1, (by omega), (by dsimp only; omega), Sub.less ⟨(SLe.of_eq rfl), SLe.refl _, SLe.refl _, SLe.refl _, SLe.refl _, SLe.refl _, trivial⟩ (cells_mem (by rw [HX]; first | done | exact best_store _ _))⟩
    replace g2 := of_decide_eq_false g2
    rw [List.length_map] at g2
    have HX : srcO v it (k + 1) = srcO v it k := by rw [HN]; unfold srcP; rw [decide_eq_false g2]; rfl
    refine AOps.pass ⟨23, rfl, .inl ⟨_, rfl, rfl⟩⟩ rfl rfl ?_
    refine AOps.pass ⟨23, rfl, .inl ⟨_, rfl, rfl⟩⟩ rfl rfl ?_
    refine AOps.pass ⟨23, rfl, .inl ⟨_, rfl, rfl⟩⟩ rfl rfl ?_
    refine AOps.pass ⟨23, rfl, .inl ⟨_, rfl, rfl⟩⟩ rfl rfl ?_
    refine AOps.pass ⟨27, rfl, .inr ⟨rfl, rfl⟩⟩ rfl rfl ?_
    refine AOps.pass ⟨27, rfl, .inr ⟨rfl, rfl⟩⟩ rfl rfl ?_
    refine AOps.pass ⟨27, rfl, .inr ⟨rfl, rfl⟩⟩ rfl rfl ?_
    refine AOps.pass ⟨27, rfl, .inr ⟨rfl, rfl⟩⟩ rfl rfl ?_
    refine AOps.pass ⟨27, rfl, .inr ⟨rfl, rfl⟩⟩ rfl rfl ?_
    refine AOps.pass ⟨23, rfl, .inl ⟨_, rfl, rfl⟩⟩ rfl rfl ?_
    refine AOps.step rfl rfl rfl (AOp.pickF rfl rfl rfl) (.nil ?_)
    refine AWP.cond rfl (fun h => nomatch h) (fun _ => ?_)
    refine AWP.skip ?_
    refine AWP.region ?_
    refine AOps.step rfl rfl rfl (AOp.add64 rfl rfl rfl (by omega) (by omega)) ?_
    refine AOps.mD rfl rfl rfl rfl rfl (.nil ?_)
    refine ⟨k + 1, (by omega), (by dsimp only; omega), Sub.less ⟨(SLe.of_eq rfl), SLe.refl _, SLe.refl _, SLe.refl _, SLe.refl _, SLe.refl _, trivial⟩ (cells_mem (by rw [HX]; first | done | exact best_store _ _))⟩
  replace h1 := of_decide_eq_false h1
  rw [List.length_map] at h1
  obtain rfl : k = (copiesOf v it).length := by omega
  rw [hso]
  refine AWP.exit ?_
  refine AWP.seq ?_
  refine AWP.freezeCells 8 (ds := zCpyD) rfl (.head _) ?_
  refine AWP.drawG (fun k => (Nat.beq k 11) || (false)) (fun k => Nat.beq k 11) (fun k h => Bool.or_eq_true_iff.2 (.inl h)) (by kernel_rfl) (by kernel_rfl) (by kernel_rfl) ?_
  refine GRun.step rfl rfl rfl (fun _ => AOp.loadAgg rfl ag_65 rfl rfl) ?_
  refine GRun.step rfl rfl rfl (fun _ => AOp.fieldAddr rfl fo_65_5 rfl) ?_
  refine GRun.step rfl rfl rfl (fun _ => AOp.load rfl sc_3 rfl) ?_
  refine GRun.step rfl rfl rfl (fun _ => AOp.gtr rfl rfl rfl) ?_
  refine GRun.step rfl rfl rfl (fun _ => AOp.moveD rfl rfl) ?_
  refine GRun.split 41 rfl (fun g5 => ?_) (fun g5 => ?_)
  · replace g5 := of_decide_eq_true g5
    exact absurd g5 (by show ¬ (0 : Int) > 0; decide)
  replace g5 := of_decide_eq_false g5
  skip
  refine GRun.pass ⟨41, rfl, .inl ⟨_, rfl, rfl⟩⟩ rfl rfl ?_
  refine GRun.pass ⟨41, rfl, .inl ⟨_, rfl, rfl⟩⟩ rfl rfl ?_
  refine GRun.pass ⟨41, rfl, .inl ⟨_, rfl, rfl⟩⟩ rfl rfl ?_
  refine GRun.pass ⟨41, rfl, .inl ⟨_, rfl, rfl⟩⟩ rfl rfl ?_
  refine GRun.pass ⟨41, rfl, .inl ⟨_, rfl, rfl⟩⟩ rfl rfl ?_
  refine GRun.step rfl rfl rfl (fun _ => AOp.pickF rfl rfl rfl) ?_
  refine GRun.eff rfl rfl rfl (EOp.store rfl rfl sz_65 rfl (.head _) rfl rfl rfl (Nat.le_of_ble_eq_true rfl)) ?_
  refine GRun.step rfl rfl rfl (fun _ => AOp.assignD rfl rfl) ?_
  refine GRun.nil ?_
  refine AWP.ret ?_
  refine ⟨RetR.agg rfl (.head _) ag_65 rfl (.cons (by first | exact CellD.nil | exact CellD.d | exact CellD.eq (by simp) | (refine CellD.own (by first | exact .head _ | exact .tail _ (.head _)) ?_; rfl)) (.cons (by first | exact CellD.nil | exact CellD.d | exact CellD.eq (by simp) | (refine CellD.own (by first | exact .head _ | exact .tail _ (.head _)) ?_; rfl)) (.cons (by first | exact CellD.nil | exact CellD.d | exact CellD.eq (by simp) | (refine CellD.own (by first | exact .head _ | exact .tail _ (.head _)) ?_; rfl)) (.cons (by first | exact CellD.nil | exact CellD.d | exact CellD.eq (by simp) | (refine CellD.own (by first | exact .head _ | exact .tail _ (.head _)) ?_; rfl)) (.cons (by first | exact CellD.nil | exact CellD.d | exact CellD.eq (by simp) | (refine CellD.own (by first | exact .head _ | exact .tail _ (.head _)) ?_; rfl)) (.cons (by first | exact CellD.nil | exact CellD.d | exact CellD.eq (by simp) | (refine CellD.own (by first | exact .head _ | exact .tail _ (.head _)) ?_; rfl)) (.cons (by first | exact CellD.nil | exact CellD.d | exact CellD.eq (by simp) | (refine CellD.own (by first | exact .head _ | exact .tail _ (.head _)) ?_; rfl)) .nil))))))), RetD.eq rfl ?_, trivial⟩
  all_goals (first | rfl | simp)

set_option maxRecDepth 100000 in
set_option maxHeartbeats 1000000 in
theorem c_source1 (v : Vlt) (it : ByteArray) (p : Pol) (hn : v.copies.length ≤ 200) (c0 : Cpy) (hso : srcO v it (copiesOf v it).length = some c0) (hg : 0 < c0.gen) : ACall Tryz.prog 21 [.agg v.ds, .v (.string it), .agg p.ds] (.tup [.agg c0.ds, .v (.bool (decide (c0.gen < p.gens)))]) := by
  refine acall_ofR (n := 48) (ds' := [.agg c0.ds, .v (.bool (decide (c0.gen < p.gens)))]) Tryz.func21 rfl (by kernel_rfl) rfl [.cell 6 65, .tmp 7] rfl rfl ?_
  intro B w0 F0 fr
  have hol := copiesOf_len v it
  refine AWP.seq (AWP.region ?_)
  refine AOps.step rfl rfl rfl (AOp.box rfl rfl rfl) ?_
  refine AOps.step rfl rfl rfl (AOp.box rfl rfl rfl) ?_
  refine AOps.alloc 11 rfl rfl rfl rfl zt_65 rfl rfl rfl ?_
  refine AOps.aD rfl rfl rfl rfl rfl (.nil ?_)
  refine AWP.seq (AWP.region ?_)
  refine AOps.alloc 13 rfl rfl rfl rfl zt_65 rfl rfl rfl (.nil ?_)
  refine AWP.seq ?_
  refine AWP.seq (AWP.region ?_)
  refine AOps.step rfl rfl rfl (AOp.loadAgg rfl ag_26 rfl rfl) ?_
  refine AOps.mD rfl rfl rfl rfl rfl ?_
  refine AOps.step rfl rfl rfl (AOp.call rfl (.cons (ArgOk.rfl' rfl) (.cons (ArgOk.rfl' rfl) .nil)) (c_copiesOf v it hn)) ?_
  refine AOps.step rfl rfl rfl (AOp.lenSl rfl et_24.ht rfl) ?_
  refine AOps.mD rfl rfl rfl rfl rfl (.nil ?_)
  refine AWP.block ?_
  refine AWP.loop (G := Nat) (fun k => Env.of [(15, .d (.v (.int .i64 (k : Int)))), (13, .d (.sl ((copiesOf v it).map Cpy.ds))), (14, .d (.v (.int .i64 (((copiesOf v it).map Cpy.ds).length : Int)))), (5, .d (.fp p.ds)), (8, .ptr 13 0), (6, .ptr 11 0)]) (fun k => [(13, .cells ((bestD (srcO v it k)).map S.d)), (11, .cells [.d (.v (.string ⟨#[]⟩)), .d (.v (.string ⟨#[]⟩)), .d (.v (.string ⟨#[]⟩)), .d (.v (.int .i64 0)), .d (.v (.int .i64 0)), .d (.v (.int .i64 0)), .d (.v (.slice none 0 0))])]) (fun k => k ≤ (copiesOf v it).length) (fun k => (copiesOf v it).length - k) 0 (Nat.zero_le _) (Sub.less ⟨(SLe.of_eq rfl), SLe.refl _, SLe.refl _, SLe.refl _, SLe.refl _, SLe.refl _, trivial⟩ (cells_mem rfl)) ?_
  intro k hk
  refine AWP.seq (AWP.region ?_)
  refine AOps.step rfl rfl rfl (AOp.lss rfl rfl rfl) (.nil ?_)
  refine AWP.seq ?_
  refine AWP.cond rfl (fun h1 => ?_) (fun h1 => ?_)
  · replace h1 := of_decide_eq_true h1
    rw [List.length_map] at h1
    have hlt : k < (copiesOf v it).length := by omega
    have HN := srcO_next hlt
    refine AWP.skip ?_
    refine AWP.seq ?_
    refine AWP.block ?_
    refine AWP.seq (AWP.region ?_)
    refine AOps.step rfl rfl rfl (AOp.indexAddr rfl et_24 rfl rfl k rfl (at_list hlt) rfl) ?_
    refine AOps.step rfl rfl rfl (AOp.loadAgg rfl ag_65 rfl rfl) ?_
    refine AOps.alloc 14 rfl rfl rfl rfl zt_65 rfl rfl rfl ?_
    refine AOps.store rfl rfl rfl sz_65 rfl (.head _) rfl rfl rfl (by first | exact Nat.le_of_ble_eq_true rfl | (rw [bestD_len]; decide)) ?_
    refine AOps.freezeCells 10 (ds := (copiesOf v it)[k].ds) rfl (.head _) (.nil ?_)
    refine AWP.seq ?_
    refine AWP.obsEq [(13, .cells ((bestD (srcO v it k)).map S.d)), (11, .cells [.d (.v (.string ⟨#[]⟩)), .d (.v (.string ⟨#[]⟩)), .d (.v (.string ⟨#[]⟩)), .d (.v (.int .i64 0)), .d (.v (.int .i64 0)), .d (.v (.int .i64 0)), .d (.v (.slice none 0 0))])] (by generalize srcO v it k = b; cases b <;> rfl) ?_
    refine AWP.region ?_
    refine AOps.step rfl rfl rfl (AOp.fieldAddr rfl fo_65_6 rfl) ?_
    refine AOps.step rfl rfl rfl (AOp.load rfl sc_63 rfl) ?_
    refine AOps.step rfl rfl rfl (AOp.lenSl rfl et_63.ht rfl) ?_
    refine AOps.step rfl rfl rfl (AOp.eql rfl rfl rfl) ?_
    refine AOps.mD rfl rfl rfl rfl rfl ?_
    refine AOps.split 23 rfl (fun g2 => ?_) (fun g2 => ?_)
    · replace g2 := of_decide_eq_true g2
      rw [List.length_map] at g2
      have hA := g2
      refine AOps.step ⟨23, rfl, .inl ⟨_, rfl, rfl⟩⟩ rfl rfl (AOp.fieldAddrP rfl fo_65_5 rfl) ?_
      refine AOps.step ⟨23, rfl, .inl ⟨_, rfl, rfl⟩⟩ rfl rfl (AOp.loadP rfl sc_3 rfl (.head _) (bestD_gen _)) ?_
      refine AOps.step ⟨23, rfl, .inl ⟨_, rfl, rfl⟩⟩ rfl rfl (AOp.eql rfl rfl rfl) ?_
      refine AOps.step ⟨23, rfl, .inl ⟨_, rfl, rfl⟩⟩ rfl rfl (AOp.moveD rfl rfl) ?_
      refine AOps.split 27 rfl (fun g3 => ?_) (fun g3 => ?_)
      · replace g3 := of_decide_eq_true g3
        have HX : srcO v it (k + 1) = some (copiesOf v it)[k] := by rw [HN]; unfold srcP; rw [decide_eq_true hA, decide_eq_true g3]; rfl
        refine AOps.pass ⟨27, rfl, .inl ⟨_, rfl, rfl⟩⟩ rfl rfl ?_
        refine AOps.pass ⟨27, rfl, .inl ⟨_, rfl, rfl⟩⟩ rfl rfl ?_
        refine AOps.pass ⟨27, rfl, .inl ⟨_, rfl, rfl⟩⟩ rfl rfl ?_
        refine AOps.pass ⟨27, rfl, .inl ⟨_, rfl, rfl⟩⟩ rfl rfl ?_
        refine AOps.pass ⟨27, rfl, .inl ⟨_, rfl, rfl⟩⟩ rfl rfl ?_
        refine AOps.step ⟨23, rfl, .inl ⟨_, rfl, rfl⟩⟩ rfl rfl (AOp.pickT rfl rfl rfl) ?_
        refine AOps.step rfl rfl rfl (AOp.pickT rfl rfl rfl) (.nil ?_)
        refine AWP.cond rfl (fun _ => ?_) (fun h => nomatch h)
        refine AWP.region ?_
        refine AOps.step rfl rfl rfl (AOp.loadAgg rfl ag_65 rfl rfl) ?_
        refine AOps.store rfl rfl rfl sz_65 rfl (.head _) rfl rfl rfl (by first | exact Nat.le_of_ble_eq_true rfl | (rw [bestD_len]; decide)) (.nil ?_)
        refine AWP.region ?_
        refine AOps.step rfl rfl rfl (AOp.add64 rfl rfl rfl (by omega) (by omega)) ?_
        refine AOps.mD rfl rfl rfl rfl rfl (.nil ?_)
        refine ⟨k + 1, (by omega), (by dsimp only; omega), Sub.less ⟨(SLe.of_eq rfl), SLe.refl _, SLe.refl _, SLe.refl _, SLe.refl _, SLe.refl _, trivial⟩ (cells_mem (by rw [HX]; first | done | exact best_store _ _))⟩
      replace g3 := of_decide_eq_false g3
      have hB := g3
      refine AOps.step ⟨27, rfl, .inl ⟨_, rfl, rfl⟩⟩ rfl rfl (AOp.fieldAddr rfl fo_65_5 rfl) ?_
      refine AOps.step ⟨27, rfl, .inl ⟨_, rfl, rfl⟩⟩ rfl rfl (AOp.load rfl sc_3 rfl) ?_
      refine AOps.step ⟨27, rfl, .inl ⟨_, rfl, rfl⟩⟩ rfl rfl (AOp.fieldAddrP rfl fo_65_5 rfl) ?_
      refine AOps.step ⟨27, rfl, .inl ⟨_, rfl, rfl⟩⟩ rfl rfl (AOp.loadP rfl sc_3 rfl (.head _) (bestD_gen _)) ?_
      refine AOps.step ⟨27, rfl, .inl ⟨_, rfl, rfl⟩⟩ rfl rfl (AOp.lss rfl rfl rfl) ?_
      refine AOps.step ⟨23, rfl, .inl ⟨_, rfl, rfl⟩⟩ rfl rfl (AOp.pickF rfl rfl rfl) ?_
      refine AOps.step rfl rfl rfl (AOp.pickT rfl rfl rfl) (.nil ?_)
      refine AWP.cond rfl (fun h4 => ?_) (fun h4 => ?_)
      · replace h4 := of_decide_eq_true h4
        have HX : srcO v it (k + 1) = some (copiesOf v it)[k] := by rw [HN]; unfold srcP; rw [decide_eq_true hA, decide_eq_true h4]; simp
        refine AWP.region ?_
        refine AOps.step rfl rfl rfl (AOp.loadAgg rfl ag_65 rfl rfl) ?_
        refine AOps.store rfl rfl rfl sz_65 rfl (.head _) rfl rfl rfl (by first | exact Nat.le_of_ble_eq_true rfl | (rw [bestD_len]; decide)) (.nil ?_)
        refine AWP.region ?_
        refine AOps.step rfl rfl rfl (AOp.add64 rfl rfl rfl (by omega) (by omega)) ?_
        refine AOps.mD rfl rfl rfl rfl rfl (.nil ?_)
        refine ⟨k + 1, (by omega), (by dsimp only; omega), Sub.less ⟨(SLe.of_eq rfl), SLe.refl _, SLe.refl _, SLe.refl _, SLe.refl _, SLe.refl _, trivial⟩ (cells_mem (by rw [HX]; first | done | exact best_store _ _))⟩
      replace h4 := of_decide_eq_false h4
      have HX : srcO v it (k + 1) = srcO v it k := by rw [HN]; unfold srcP; rw [decide_eq_true hA, decide_eq_false hB, decide_eq_false h4]; rfl
      refine AWP.skip ?_
      refine AWP.region ?_
      refine AOps.step rfl rfl rfl (AOp.add64 rfl rfl rfl (by omega) (by omega)) ?_
      refine AOps.mD rfl rfl rfl rfl rfl (.nil ?_)
      refine ⟨k + 1, (by omega), (by dsimp only; omega), Sub.less ⟨(SLe.of_eq rfl), SLe.refl _, SLe.refl _, SLe.refl _, SLe.refl _, SLe.refl _, trivial⟩ (cells_mem (by rw [HX]; first | done | exact best_store _ _))⟩
    replace g2 := of_decide_eq_false g2
    rw [List.length_map] at g2
    have HX : srcO v it (k + 1) = srcO v it k := by rw [HN]; unfold srcP; rw [decide_eq_false g2]; rfl
    refine AOps.pass ⟨23, rfl, .inl ⟨_, rfl, rfl⟩⟩ rfl rfl ?_
    refine AOps.pass ⟨23, rfl, .inl ⟨_, rfl, rfl⟩⟩ rfl rfl ?_
    refine AOps.pass ⟨23, rfl, .inl ⟨_, rfl, rfl⟩⟩ rfl rfl ?_
    refine AOps.pass ⟨23, rfl, .inl ⟨_, rfl, rfl⟩⟩ rfl rfl ?_
    refine AOps.pass ⟨27, rfl, .inr ⟨rfl, rfl⟩⟩ rfl rfl ?_
    refine AOps.pass ⟨27, rfl, .inr ⟨rfl, rfl⟩⟩ rfl rfl ?_
    refine AOps.pass ⟨27, rfl, .inr ⟨rfl, rfl⟩⟩ rfl rfl ?_
    refine AOps.pass ⟨27, rfl, .inr ⟨rfl, rfl⟩⟩ rfl rfl ?_
    refine AOps.pass ⟨27, rfl, .inr ⟨rfl, rfl⟩⟩ rfl rfl ?_
    refine AOps.pass ⟨23, rfl, .inl ⟨_, rfl, rfl⟩⟩ rfl rfl ?_
    refine AOps.step rfl rfl rfl (AOp.pickF rfl rfl rfl) (.nil ?_)
    refine AWP.cond rfl (fun h => nomatch h) (fun _ => ?_)
    refine AWP.skip ?_
    refine AWP.region ?_
    refine AOps.step rfl rfl rfl (AOp.add64 rfl rfl rfl (by omega) (by omega)) ?_
    refine AOps.mD rfl rfl rfl rfl rfl (.nil ?_)
    refine ⟨k + 1, (by omega), (by dsimp only; omega), Sub.less ⟨(SLe.of_eq rfl), SLe.refl _, SLe.refl _, SLe.refl _, SLe.refl _, SLe.refl _, trivial⟩ (cells_mem (by rw [HX]; first | done | exact best_store _ _))⟩
  replace h1 := of_decide_eq_false h1
  rw [List.length_map] at h1
  obtain rfl : k = (copiesOf v it).length := by omega
  rw [hso]
  refine AWP.exit ?_
  refine AWP.seq ?_
  refine AWP.freezeCells 8 (ds := c0.ds) rfl (.head _) ?_
  refine AWP.drawG (fun k => (Nat.beq k 11) || (false)) (fun k => Nat.beq k 11) (fun k h => Bool.or_eq_true_iff.2 (.inl h)) (by kernel_rfl) (by kernel_rfl) (by kernel_rfl) ?_
  refine GRun.step rfl rfl rfl (fun _ => AOp.loadAgg rfl ag_65 rfl rfl) ?_
  refine GRun.step rfl rfl rfl (fun _ => AOp.fieldAddr rfl fo_65_5 rfl) ?_
  refine GRun.step rfl rfl rfl (fun _ => AOp.load rfl sc_3 rfl) ?_
  refine GRun.step rfl rfl rfl (fun _ => AOp.gtr rfl rfl rfl) ?_
  refine GRun.step rfl rfl rfl (fun _ => AOp.moveD rfl rfl) ?_
  refine GRun.split 41 rfl (fun g5 => ?_) (fun g5 => ?_)
  · replace g5 := of_decide_eq_true g5
    skip
    refine GRun.step ⟨41, rfl, .inl ⟨_, rfl, rfl⟩⟩ rfl rfl (fun _ => AOp.fieldAddr rfl fo_65_5 rfl) ?_
    refine GRun.step ⟨41, rfl, .inl ⟨_, rfl, rfl⟩⟩ rfl rfl (fun _ => AOp.load rfl sc_3 rfl) ?_
    refine GRun.step ⟨41, rfl, .inl ⟨_, rfl, rfl⟩⟩ rfl rfl (fun _ => AOp.fieldAddr rfl fo_28_5 rfl) ?_
    refine GRun.step ⟨41, rfl, .inl ⟨_, rfl, rfl⟩⟩ rfl rfl (fun _ => AOp.load rfl sc_3 rfl) ?_
    refine GRun.step ⟨41, rfl, .inl ⟨_, rfl, rfl⟩⟩ rfl rfl (fun _ => AOp.lss rfl rfl rfl) ?_
    refine GRun.step rfl rfl rfl (fun _ => AOp.pickT rfl rfl rfl) ?_
    refine GRun.eff rfl rfl rfl (EOp.store rfl rfl sz_65 rfl (.head _) rfl rfl rfl (Nat.le_of_ble_eq_true rfl)) ?_
    refine GRun.step rfl rfl rfl (fun _ => AOp.assignD rfl rfl) ?_
    refine GRun.nil ?_
    refine AWP.ret ?_
    refine ⟨RetR.agg rfl (.head _) ag_65 rfl (.cons (by first | exact CellD.nil | exact CellD.d | exact CellD.eq (by simp) | (refine CellD.own (by first | exact .head _ | exact .tail _ (.head _)) ?_; rfl)) (.cons (by first | exact CellD.nil | exact CellD.d | exact CellD.eq (by simp) | (refine CellD.own (by first | exact .head _ | exact .tail _ (.head _)) ?_; rfl)) (.cons (by first | exact CellD.nil | exact CellD.d | exact CellD.eq (by simp) | (refine CellD.own (by first | exact .head _ | exact .tail _ (.head _)) ?_; rfl)) (.cons (by first | exact CellD.nil | exact CellD.d | exact CellD.eq (by simp) | (refine CellD.own (by first | exact .head _ | exact .tail _ (.head _)) ?_; rfl)) (.cons (by first | exact CellD.nil | exact CellD.d | exact CellD.eq (by simp) | (refine CellD.own (by first | exact .head _ | exact .tail _ (.head _)) ?_; rfl)) (.cons (by first | exact CellD.nil | exact CellD.d | exact CellD.eq (by simp) | (refine CellD.own (by first | exact .head _ | exact .tail _ (.head _)) ?_; rfl)) (.cons (by first | exact CellD.nil | exact CellD.d | exact CellD.eq (by simp) | (refine CellD.own (by first | exact .head _ | exact .tail _ (.head _)) ?_; rfl)) .nil))))))), RetD.eq rfl ?_, trivial⟩
    all_goals (first | rfl | simp)
  replace g5 := of_decide_eq_false g5
  exact absurd hg g5

end Go.Proofs.YtieccphckobhjaaGreatDoor


namespace Go.Proofs.YtieccphckobhjaaGreatDoor
open Go.RowKit
set_option linter.unusedVariables false

/-! Types. -/
namespace TyW12
theorem ag_28 : AggT Tryz.prog 28 6 := .of (by kernel_rfl)
theorem ag_59 : AggT Tryz.prog 59 5 := .of (by kernel_rfl)
theorem et_23 : ElemTy Tryz.prog 23 59 5 64 (.agg #[(.string ⟨#[]⟩), (.string ⟨#[]⟩), (.string ⟨#[]⟩), (.int .i64 0), (.int .i64 0)]) := ⟨by kernel_rfl, by kernel_rfl, by kernel_rfl, by decide⟩
theorem et_63 : ElemTy Tryz.prog 63 3 1 8 (.int .i64 0) := ⟨by kernel_rfl, by kernel_rfl, by kernel_rfl, by decide⟩
theorem sc_23 : Scal Tryz.prog 23 := .of (by kernel_rfl)
theorem sc_3 : Scal Tryz.prog 3 := .of (by kernel_rfl)
end TyW12
open TyW12


def tgAt (tg : List Carr) (i : Nat) : Carr := tg.getD i ⟨⟨#[]⟩, ⟨#[]⟩, ⟨#[]⟩, 0, 0⟩
def allC (gd tg : List Carr) (l : List Nat) : List Carr := gd ++ l.map (tgAt tg)
theorem tgAt_at {tg : List Carr} {i : Nat} (h : i < tg.length) : tgAt tg i = tg[i] := by unfold tgAt; rw [List.getD_eq_getElem?_getD, List.getElem?_eq_getElem h]; rfl
theorem allC_next {gd tg : List Carr} {l : List Nat} {j : Nat} (hj : j < l.length) (h : l[j] < tg.length) : (allC gd tg (l.take (j + 1))).map Carr.ds = (allC gd tg (l.take j)).map Carr.ds ++ [tg[l[j]].ds] := by
  unfold allC
  rw [take_next hj, List.map_append, List.map_append, List.map_append, List.map_append, ← List.append_assoc]
  show _ ++ [(tgAt tg l[j]).ds] = _
  rw [tgAt_at h]


set_option maxRecDepth 100000 in
set_option maxHeartbeats 1000000 in
theorem c_planIn (gd tg : List Carr) (p : Pol) (l : List Nat) (po : POk p) (hv : Vld tg.length l) (hl : gd.length ≤ 200) (ht : tg.length ≤ 16) : ACall Tryz.prog 28 [.sl (l.map numD), .fp [.sl (gd.map Carr.ds)], .fp [.sl (tg.map Carr.ds)], .fp p.ds] (.v (.bool (enoughB p (allC gd tg l)))) := by
  refine acall_of (n := 29) (ds' := [.v (.bool (enoughB p (allC gd tg l)))]) Tryz.func28 rfl (by kernel_rfl) rfl [5] rfl rfl ?_
  intro B w0 F0 fr
  have hln := hv.1
  refine AWP.seq (AWP.region ?_)
  refine AOps.aD rfl rfl rfl rfl rfl (.nil ?_)
  refine AWP.seq (AWP.region ?_)
  refine AOps.step rfl rfl rfl (AOp.load rfl sc_23 rfl) ?_
  refine AOps.callO 61 rfl rfl rfl rfl (.cons (ArgOk.rfl' rfl) .nil) (c_clCarr gd (by omega)) rfl ?_
  refine AOps.step rfl rfl rfl (AOp.assignO rfl rfl) (.nil ?_)
  refine AWP.seq ?_
  refine AWP.seq (AWP.region ?_)
  refine AOps.mD rfl rfl rfl rfl rfl ?_
  refine AOps.step rfl rfl rfl (AOp.lenSl rfl et_63.ht rfl) ?_
  refine AOps.mD rfl rfl rfl rfl rfl (.nil ?_)
  refine AWP.block ?_
  refine AWP.loop (G := Nat) (fun j => Env.of [(13, .d (.v (.int .i64 (j : Int)))), (11, .d (.sl (l.map numD))), (12, .d (.v (.int .i64 ((l.map numD).length : Int)))), (6, .own 61), (2, .d (.fp [.sl (tg.map Carr.ds)])), (3, .d (.fp p.ds))]) (fun j => [(61, .row 59 5 ((allC gd tg (l.take j)).map Carr.ds))]) (fun j => j ≤ l.length) (fun j => l.length - j) 0 (Nat.zero_le _) (Sub.less ⟨(SLe.of_eq rfl), SLe.refl _, SLe.refl _, SLe.refl _, SLe.refl _, SLe.refl _, trivial⟩ (row_numEq (by unfold allC; simp))) ?_
  intro j hj
  refine AWP.seq (AWP.region ?_)
  refine AOps.step rfl rfl rfl (AOp.lss rfl rfl rfl) (.nil ?_)
  refine AWP.seq ?_
  refine AWP.cond rfl (fun h1 => ?_) (fun h1 => ?_)
  · replace h1 := of_decide_eq_true h1
    rw [List.length_map] at h1
    have hjl : j < l.length := by omega
    have hlj : l[j] < tg.length := by have := hv.2 j hjl; omega
    refine AWP.skip ?_
    refine AWP.seq ?_
    refine AWP.block ?_
    refine AWP.seq (AWP.region ?_)
    refine AOps.step rfl rfl rfl (AOp.indexAddr rfl et_63 rfl rfl j rfl (at_list hjl) rfl) ?_
    refine AOps.step rfl rfl rfl (AOp.load rfl sc_3 rfl) ?_
    refine AOps.aD rfl rfl rfl rfl rfl (.nil ?_)
    refine AWP.region ?_
    refine AOps.step rfl rfl rfl (AOp.moveO rfl rfl) ?_
    refine AOps.step rfl rfl rfl (AOp.load rfl sc_23 rfl) ?_
    refine AOps.mD rfl rfl rfl rfl rfl ?_
    refine AOps.step rfl rfl rfl (AOp.indexAddr rfl et_23 rfl rfl l[j] rfl (at_list hlj) rfl) ?_
    refine AOps.step rfl rfl rfl (AOp.loadAgg rfl ag_59 rfl rfl) ?_
    refine AOps.step rfl rfl rfl (AOp.buildSlice rfl et_23 (.cons rfl rfl rfl .nil) rfl (by decide)) ?_
    -- append 23
    refine AOps.append rfl rfl rfl rfl et_23 rfl (.head _) rfl (fun y hy => by obtain rfl := List.mem_singleton.1 hy; rfl) (by simp [allC]; omega) (by simp [allC]; omega) ?_
    refine AOps.step rfl rfl rfl (AOp.assignO rfl rfl) (.nil ?_)
    refine AWP.region ?_
    refine AOps.step rfl rfl rfl (AOp.add64 rfl rfl rfl (by omega) (by omega)) ?_
    refine AOps.mD rfl rfl rfl rfl rfl (.nil ?_)
    refine ⟨j + 1, (by dsimp only; omega), (by dsimp only; omega), Sub.less ⟨(SLe.of_eq rfl), SLe.refl _, SLe.refl _, SLe.refl _, SLe.refl _, SLe.refl _, trivial⟩ (row_numEq (allC_next hjl hlj).symm)⟩
  replace h1 := of_decide_eq_false h1
  rw [List.length_map] at h1
  obtain rfl : j = l.length := by omega
  rw [List.take_length]
  refine AWP.exit ?_
  refine AWP.seq ?_
  refine AWP.freeze 6 rfl (.head _) ?_
  refine AWP.draw (by kernel_rfl) (by kernel_rfl) ?_
  refine DRun.step rfl rfl rfl (AOp.moveD rfl rfl) ?_
  refine DRun.step rfl rfl rfl (AOp.call rfl (.cons (ArgOk.rfl' rfl) .nil) (c_spreadOf (allC gd tg l) (by unfold allC; simp; omega))) ?_
  refine DRun.step rfl rfl rfl (AOp.loadAgg rfl ag_28 rfl rfl) ?_
  refine DRun.step rfl rfl rfl (AOp.call rfl (.cons (ArgOk.rfl' rfl) (.cons (ArgOk.rfl' rfl) .nil)) (c_enough (allC gd tg l) p po (by unfold allC; simp; omega))) ?_
  refine DRun.step rfl rfl rfl (AOp.assignD rfl rfl) ?_
  refine DRun.nil ?_
  refine AWP.ret ?_
  refine ⟨RetD.eq rfl ?_, trivial⟩
  all_goals (rfl)

end Go.Proofs.YtieccphckobhjaaGreatDoor


namespace Go.Proofs.YtieccphckobhjaaGreatDoor
open Go.RowKit
set_option linter.unusedVariables false

/-! Types. -/
namespace TyW13

end TyW13
open TyW13


def srcF (it : ByteArray) (b : Option Cpy) (c : Cpy) : Option Cpy := if ofItem it c = true then srcP b c else b
theorem fold_filter {it : ByteArray} : ∀ (l : List Cpy) (b : Option Cpy), (l.filter (ofItem it)).foldl srcP b = l.foldl (srcF it) b
  | [], _ => rfl
  | c :: l, b => by
    rw [List.filter_cons]
    cases h : ofItem it c with
    | true => rw [if_pos rfl, List.foldl_cons, List.foldl_cons, fold_filter l, srcF, if_pos h]
    | false => rw [if_neg (by simp), List.foldl_cons, fold_filter l, srcF, if_neg (by rw [h]; simp)]
theorem srcF_I {v : Vlt} {it : ByteArray} (vo : VOk v) : ∀ k, k ≤ v.copies.length → (v.copies.take k).foldl (srcF it) none = if srcI v it k < 0 then none else v.copies[(srcI v it k).toNat]?
  | 0, _ => rfl
  | k + 1, hk => by
    have hlt : k < v.copies.length := by omega
    have ih := srcF_I vo (it := it) k (by omega)
    rw [List.take_add_one, List.getElem?_eq_getElem hlt, Option.toList_some, List.foldl_append, ih]
    show srcF it _ v.copies[k] = _
    have hI : ofItem it v.copies[k] = decide (v.copies[k].item = it) := rfl
    by_cases hs : srcI v it k < 0
    · rw [if_pos hs]
      cases hn : srcNow v it (srcI v it k) v.copies[k] with
      | true =>
        rw [srcI_t hlt hn, if_neg (by omega), Int.toNat_natCast, List.getElem?_eq_getElem hlt]
        unfold srcNow at hn
        rw [decide_eq_true hs] at hn
        simp only [Bool.and_eq_true, Bool.true_or, decide_eq_true_eq, and_true] at hn
        unfold srcF srcP genO
        rw [if_pos (by rw [hI]; exact decide_eq_true hn.1), if_pos (by simp [hn.2])]
      | false =>
        rw [srcI_f hlt hn, if_pos hs]
        unfold srcNow at hn
        rw [decide_eq_true hs] at hn
        simp only [Bool.true_or, Bool.and_true, Bool.and_eq_false_iff, decide_eq_false_iff_not] at hn
        unfold srcF srcP genO
        rcases hn with hn | hn
        · rw [if_neg (by rw [hI]; simpa using hn)]
        · split
          · rw [if_neg (by simpa using hn)]
          · rfl
    · obtain ⟨b, hb, eb, hbe⟩ := srcI_at (v := v) (it := it) (k := k) (by omega) hs
      have hg := (vo.cpy _ (List.getElem_mem hb)).gen
      rw [if_neg hs, eb, Int.toNat_natCast, List.getElem?_eq_getElem hb]
      cases hn : srcNow v it (srcI v it k) v.copies[k] with
      | true =>
        rw [srcI_t hlt hn, if_neg (by omega), Int.toNat_natCast, List.getElem?_eq_getElem hlt]
        unfold srcNow at hn
        rw [hbe, decide_eq_false hs] at hn
        simp only [Bool.and_eq_true, Bool.false_or, decide_eq_true_eq] at hn
        unfold srcF srcP genO
        rw [if_pos (by rw [hI]; exact decide_eq_true hn.1), if_pos (by simp only [Bool.and_eq_true, Bool.or_eq_true, decide_eq_true_eq]; exact ⟨hn.2.1, .inr hn.2.2⟩)]
      | false =>
        rw [srcI_f hlt hn, if_neg hs, eb, Int.toNat_natCast, List.getElem?_eq_getElem hb]
        unfold srcNow at hn
        rw [hbe, decide_eq_false hs] at hn
        unfold srcF srcP genO
        by_cases hi : v.copies[k].item = it
        · rw [if_pos (by rw [hI]; exact decide_eq_true hi), if_neg]
          intro hh
          simp only [Bool.and_eq_true, Bool.or_eq_true, decide_eq_true_eq] at hh
          have hgz : ¬ v.copies[b].gen = 0 := by omega
          simp [hi, hh.1, hh.2.resolve_left hgz] at hn
        · rw [if_neg (by rw [hI]; simpa using hi)]
theorem srcO_I {v : Vlt} {it : ByteArray} (vo : VOk v) : srcO v it (copiesOf v it).length = if srcI v it v.copies.length < 0 then none else v.copies[(srcI v it v.copies.length).toNat]? := by
  unfold srcO
  rw [List.take_length]
  show ((v.copies.filter (ofItem it)).foldl srcP none) = _
  rw [fold_filter, ← srcF_I vo _ (Nat.le_refl _), List.take_length]


end Go.Proofs.YtieccphckobhjaaGreatDoor


namespace Go.Proofs.YtieccphckobhjaaGreatDoor
open Go.RowKit
set_option linter.unusedVariables false

/-! Types. -/
namespace TyW14

end TyW14
open TyW14


theorem allC_with {v : Vlt} {gd : List Carr} {cd l : List Nat} (h : Vld cd.length l) : allC gd (cd.map (carrN v)) l = withL v gd cd l := by
  unfold allC withL
  congr 1
  refine List.map_congr_left fun i hi => ?_
  obtain ⟨j, hj, rfl⟩ := List.mem_iff_getElem.1 hi
  have h1 := h.2 j hj
  have h2 : l[j] < cd.length := by omega
  rw [tgAt_at (by rw [List.length_map]; exact h2), List.getElem_map, numAt h2]


end Go.Proofs.YtieccphckobhjaaGreatDoor


namespace Go.Proofs.YtieccphckobhjaaGreatDoor
open Go.RowKit Go.Shelf
set_option linter.unusedVariables false

/-- copy(d, s), elements of whatever size. -/
theorem run_copy_sz {P : Program} (w : World) (dT sT ty elem : TypeId) (size b o dLen dCap : Nat) (a : Addr) (sLen sCap : Nat) (cs : List Value)
    (hu : P.underlying dT = some (.slice elem)) (hs : (P.info? elem).map (·.size) = some size) (hn : cs.length = Nat.min sLen dLen * size)
    (hsrc : ∀ j v, cs[j]? = some v → w.cell? (a.add j) = some v) (hc : ∀ j, j < cs.length → (w.cell? ⟨b, o + j, none⟩).isSome = true) (hf : ∀ j, j < cs.length → w.frozen? ⟨b, o + j, none⟩ = false) (h1 : ∀ v ∈ cs, v.oneCell' = true) :
    (Builtin.copy_ #[dT, sT] ty #[.slice (some ⟨b, o, none⟩) dLen dCap, .slice (some a) sLen sCap]).run P w = .ok (goInt (Nat.min sLen dLen)) (w.setCells b o cs) := by
  have hl := run_firstCells_some (P := P) w size (Nat.min sLen dLen) a sLen sCap cs hn hsrc
  have hst := run_storeCells_cells (P := P) b o cs 0 w (by simpa using hc) (by simpa using hf) h1
  cases hq : P.info? elem with
  | none => simp [hq] at hs
  | some i =>
    have hi : i.size = size := by simpa [hq] using hs
    simp only [Nat.min_def] at hl
    simp [Builtin.copy_, run_underlying hu, Builtin.lenOf, sizeOf, typeInfo, hq, hi, Nat.min_def, hl, hst]

/-- What an insertion leaves, told cell by cell. -/
theorem ins_takeS {xs F x : List Value} {i n s : Nat} (hn : xs.length = n) (hi : i ≤ n) (hx : x.length = s) (h1 : ∀ k, k < i → F[k]? = xs[k]?) (h2 : ∀ k, k < s → F[i + k]? = x[k]?) (h3 : ∀ k, i ≤ k → k < n → F[k + s]? = xs[k]?) : F.take (n + s) = xs.take i ++ x ++ xs.drop i := by
  apply List.ext_getElem?
  intro k
  have hL : (F.take (n + s))[k]? = if k < n + s then F[k]? else none := by rw [List.getElem?_take]
  have hT : (xs.take i).length = i := by rw [List.length_take]; omega
  rw [hL, get3, hT, hx]
  by_cases k1 : k < i
  · rw [if_pos (by omega), if_pos k1, h1 k k1, List.getElem?_take, if_pos k1]
  · rw [if_neg k1]
    by_cases k2 : k < i + s
    · rw [if_pos (by omega), if_pos k2]
      have := h2 (k - i) (by omega)
      rw [show i + (k - i) = k by omega] at this
      exact this
    · rw [if_neg k2]
      by_cases k3 : k < n + s
      · rw [if_pos k3, List.getElem?_drop]
        have := h3 (k - s) (by omega) (by omega)
        rw [show k - s + s = k by omega] at this
        rw [this]
        congr 1
        omega
      · rw [if_neg k3, List.getElem?_eq_none (by simp; omega)]

section
variable {cx : Cx} {e : Env} {σ : Obs} {Q : Post}
theorem R0.rowOfS {F : Nat → Prop} {ρ : Nat → Value} {a : Act} {w : World} (h : R0 cx F ρ e σ a w) {id ee size : Nat} {els : List (List S)} {ds : List (List D)} {σs σ' : Obs} (hm : (id, Ob.rowS ee size els) ∈ σ') (hl : els.length = ds.length)
    (hs : ∀ i (k1 : i < els.length) (k2 : i < ds.length), els[i].length = ds[i].length)
    (hr : ∀ i (k1 : i < els.length) (k2 : i < ds.length) j (k3 : j < els[i].length) (k4 : j < ds[i].length), Snap σs els[i][j] ds[i][j]) (h1 : ∀ p ∈ σs, p ∈ σ) (h2 : ∀ p ∈ σ', p ∈ σ) (h3 : ∀ p ∈ σs, ∀ q ∈ σ', q.1 ≠ p.1) :
    R0 cx (endF F ρ σs) ρ e (Obs.upd id (.row ee size ds) σ') a w := by
  have hF2 : ∀ b, endF F ρ σs b → b < w.heap.size := by
    rintro b (hb | ⟨p, hp, hb⟩)
    · exact h.lt b hb
    · exact ((h.obs.ok p (h1 p hp)).blk_lt hb).2
  have h4 : R0 cx (endF F ρ σs) ρ e σ' a w := by
    refine ⟨h.size, h.defers, hF2, fun b hb => .inl (h.base b hb), ?_, h.below, h.hB, fun u => ?_, ?_, h.up, fun p hp => h.kown p (h2 p hp), h.fixed⟩
    · rintro b (hb | ⟨p, hp, hb⟩)
      · exact h.new b hb
      · exact .inr (h.kown p (h1 p hp) b hb)
    · exact RepS.turn (row := none) (h.env u) h.lt (fun g hg => by simp at hg) ⟨rfl, rfl, rfl, Nat.le_refl _, fun _ _ _ => rfl⟩ (fun b hb => .inl hb)
    · refine ⟨fun p hp => ?_, fun p hp q hq => h.obs.apart p (h2 p hp) q (h2 q hq), fun p hp q hq => h.obs.uniq p (h2 p hp) q (h2 q hq)⟩
      refine (h.obs.ok p (h2 p hp)).more h.lt (fun b hb => .inl hb) ?_
      rintro g hg (hf | ⟨q, hq, hb⟩)
      · exact (h.obs.ok p (h2 p hp)).nF hg hf
      · exact h.obs.apart p (h2 p hp) q (h1 q hq) (h3 q hq p hp) g hg hb
  obtain ⟨xs, g1, g2, g3, g4⟩ := h.obs.ok _ (h2 _ hm)
  have k4 : ∀ g, blk (ρ id) = some g → ¬ endF F ρ σs g := fun g hg => (h4.obs.ok _ hm).nF hg
  dsimp only at g1 g4
  refine h4.reOb hm ⟨xs, by rw [← hl]; exact g1, fun i hi => by rw [← hs i (by omega) hi]; exact g2 i (by omega), fun i hi j hj => ?_, fun g hg => k4 g hg⟩
  have hi' : i < els.length := by omega
  have hj' : j < els[i].length := by rw [hs i hi' hi]; exact hj
  exact ⟨(g3 i hi' j hj').1, (hr i hi' hi j hj' hj).rep (h.obs.sub h1) _ (g3 i hi' j hj').2⟩
/-- A row whose cells hold own rows becomes a row of data; what they held is frozen. -/
theorem AWP.rowOfS {c : Code} (id : Nat) {ee size : Nat} {els : List (List S)} (ds : List (List D)) (σs σ' : Obs) (hm : (id, Ob.rowS ee size els) ∈ σ') (hl : els.length = ds.length)
    (hs : ∀ i (k1 : i < els.length) (k2 : i < ds.length), els[i].length = ds[i].length)
    (hr : ∀ i (k1 : i < els.length) (k2 : i < ds.length) j (k3 : j < els[i].length) (k4 : j < ds[i].length), Snap σs els[i][j] ds[i][j]) (h1 : ∀ p ∈ σs, p ∈ σ) (h2 : ∀ p ∈ σ', p ∈ σ) (h3 : ∀ p ∈ σs, ∀ q ∈ σ', q.1 ≠ p.1)
    (k : AWP cx c e (Obs.upd id (.row ee size ds) σ') Q) : AWP cx c e σ Q := fun a w ⟨F, ρ, hr'⟩ => k a w ⟨_, ρ, hr'.rowOfS hm hl hs hr h1 h2 h3⟩
end

section
variable {cx : Cx} {ops : Array Oper} {o : Oper} {rest : List Oper} {e : Env} {σ : Obs} {Q : Post}
/-- []T{x}: an own row of one element. -/
theorem AOps.buildS {t el size bytes dst : Nat} {z : Value} {x : Operand} {d : D} (id : Nat) (hg : o.guard = none) (ht : o.dst = some dst) (hdn : Nat.blt dst cx.N = true) (ho : o.op = .buildSlice t 1 #[(0, x)]) (T : ElemTy cx.P t el size bytes z) (hsz : Nat.ble size 1000 = true) (hx : e.ev x = .d d) (h1 : d.one = true) (h2 : d.parts.length = size) (hid : Obs.fresh id σ = true)
    (k : AOps cx ops rest ((e.kill id).put (some dst) (.own id)) ((id, .row el size [d.parts]) :: Obs.kill id σ) Q) (hfx : cx.free id = true := by rfl) : AOps cx ops (o :: rest) e σ Q := by
  intro a w ⟨F, ρ, hr⟩
  have hsz' : size ≤ 1000 := by simpa [Nat.ble_eq] using hsz
  have hdn' : dst < cx.N := by simpa [Nat.blt_eq] using hdn
  have r1 := ev_rep (e := e) (x := x) (a := a) (fun t _ => hr.env t)
  rw [hx] at r1
  obtain ⟨h3, h4⟩ := parts_rep (repS_d r1) h1
  have hcl : (a.eval x).cells.toList.length = size := by rw [h3.1]; exact h2
  obtain ⟨c, hc⟩ : ∃ c, c = (a.eval x).cells.toList := ⟨_, rfl⟩
  have hcl' : c.length = size := by rw [hc]; exact hcl
  obtain ⟨i, hi, hz0, hz1, hz2⟩ := info_parts T.hi
  have hzc : z.cells.size = size := T.hz
  have hs0 : 0 < size := T.hs
  obtain ⟨cs', h5, h6⟩ := fill_inorder (size := size) 0 [(0, a.eval x)] ((Array.range size).map (fun j => z.cells[j % z.cells.size]!)) (fun j hj => by
    have hj0 : j = 0 := by simpa using hj
    subst hj0
    refine ⟨rfl, ?_⟩
    have : (a.eval x).cells.size = size := by rw [← Array.length_toList]; exact hcl
    simpa using this) (by simp)
  have h7 : cs'.toList = c := by
    have h9 : List.drop size (List.map (fun j => z.cells[j % z.cells.size]!) (List.range size)) = [] := List.drop_eq_nil_of_le (by simp)
    simpa [← hc, h9] using h6
  have hcs : cs' = c.toArray := by rw [← h7]
  have hrun : (execOp a.eval o).run cx.P w = .ok (.value (.slice (some ⟨w.heap.size, 0, none⟩) 1 1)) (w.alloc (.cells c.toArray el)) := by
    unfold execOp
    simp only [ho, Instr.buildSlice, Sem.run_bind, run_underlying T.ht, Result.andThen_ok, T.sizeOf]
    rw [if_neg (show ¬ (1 * size > 2 ^ 24) by omega), if_neg (show ¬ (1 * size = 0) by omega)]
    have hprog : (program : Sem Program).run cx.P w = .ok cx.P w := rfl
    simp only [Sem.run_bind, zeroValue, typeInfo, hprog, Result.andThen_ok, hi, Sem.run_pure, hz0]
    have h8 : Array.map (fun (p : Nat × Operand) => (p.fst, a.eval p.snd)) #[(0, x)] = #[(0, a.eval x)] := by simp
    rw [h8]
    rw [hcs] at h5
    simp only [Nat.one_mul, List.toArray] at h5 ⊢
    first | rw [h5] | skip
    rfl
  have hrow : (w.alloc (.cells c.toArray el)).ownsRow cx.B el size (.slice (some ⟨w.heap.size, 0, none⟩) 1 1) 1 c :=
    ⟨by rw [Nat.one_mul]; exact hcl', .inr ⟨w.heap.size, 1, c.toArray, rfl, hr.hB, heap_alloc_new w _, Nat.le_refl _, by unfold maxLen; omega, by simpa using hcl', by rw [Nat.one_mul, ← hcl']; simp⟩⟩
  have hfl : flat (fun _ j => c.getD j undef) 1 size = c := by
    unfold flat
    simp only [List.range_one, List.map_cons, List.map_nil, List.flatten_cons, List.flatten_nil, List.append_nil]
    apply List.ext_getElem
    · simp [hcl']
    · intro j hj hj2
      simp [List.getD_eq_getElem?_getD, hj2]
  obtain ⟨ρ', h9⟩ := hr.newRow (v := .slice (some ⟨w.heap.size, 0, none⟩) 1 1) (els := [d.parts]) (Obs.fresh_spec hid) hdn' ((Below.refl _ _).alloc (Nat.le_refl _) (.cells c.toArray el))
    ⟨fun _ j => c.getD j undef, by dsimp only; rw [if_pos rfl]; show World.ownsRow _ _ _ _ _ _ (flat (fun _ j => c.getD j undef) 1 size); rw [hfl]; exact hrow, fun i hi => by
      have : i = 0 := by simpa using hi
      subst this
      simpa using h2, fun i hi j hj => by
      have : i = 0 := by simpa using hi
      subst this
      have hj' : j < d.parts.length := by simpa using hj
      have hjc : j < c.length := by omega
      have hgd : c.getD j undef = c[j] := by simp [List.getD_eq_getElem?_getD, hjc]
      dsimp only
      rw [hgd]
      subst hc
      refine ⟨h4 _ (List.getElem_mem hjc), ?_⟩
      have h10 := h3.2 j hjc (by omega)
      have hE : Ext F w F (w.alloc (.cells (a.eval x).cells.toList.toArray el)) := Ext.of_below hr.lt ((Below.refl _ _).alloc (Nat.le_refl _) _)
      simpa using h10.ext hr.lt hE, fun g hg hf => by dsimp only at hg; rw [if_pos rfl] at hg; simp [blk] at hg; have := hr.lt g hf; omega⟩
    (fun g hg => by simp [blk] at hg; omega) hfx
  refine wpList_plain hg fun K hK => ?_
  unfold Oper.wp
  rw [hrun]
  have := k _ _ ⟨F, ρ', h9⟩
  rw [← ht] at this
  exact hK _ _ this
theorem XRun.buildS {Φ : List Fr} {l : List Oper} {Qe : Env → Prop} {t el size bytes : Nat} {z : Value} {x : Operand} {d : D} (f : Fr) (hf : f ∈ Φ) (hg : GW ops o e true) (hgn : o.guard = none) (ht : o.dst = some f.dst) (hd : Nat.blt f.dst cx.N = true) (ho : o.op = .buildSlice t 1 #[(0, x)]) (T : ElemTy cx.P t el size bytes z) (hsz : Nat.ble size 1000 = true) (hx : e.ev x = .d d) (h1 : d.one = true) (h2 : d.parts.length = size)
    (hob : f.ob = .row el size [d.parts]) (hs : f.s0 = .own f.id) (k : XRun cx ops σ Φ l (e.put (some f.dst) f.s0) Qe) (hfx : cx.free f.id = true := by rfl) : XRun cx ops σ Φ (o :: l) e Qe :=
  ⟨by unfold DstOk; rw [ht]; exact hd, _, .inl ⟨hg, .inl ⟨f, hf, ⟨ht, fun e0 σ _ he hfr => by
    have h3 : e0.ev x = e.ev x := ev_same fun t ht => he t (looks_op (by rw [ho, ht]; simp [Op.operands]))
    exact AOps.buildS f.id hgn ht hd ho T hsz (h3.trans hx) h1 h2 hfr (.nil ⟨by rw [hs], by rw [hob]⟩) hfx⟩, rfl⟩⟩, by rw [ht]; exact k⟩
end
end Go.Proofs.YtieccphckobhjaaGreatDoor


namespace Go.Proofs.YtieccphckobhjaaGreatDoor
open Go.RowKit Go.Shelf Go.Lib
set_option linter.unusedVariables false
set_option linter.unusedSimpArgs false

theorem et_cpyI : ElemTy Tryz.prog 24 65 7 96 (.agg #[(.string ⟨#[]⟩), (.string ⟨#[]⟩), (.string ⟨#[]⟩), (.int .i64 0), (.int .i64 0), (.int .i64 0), (.slice none 0 0)]) := ⟨by kernel_rfl, by kernel_rfl, by kernel_rfl, by decide⟩

/-- What Insert does with an own row of copies. -/
structure InsEndC (B : Nat) (w : World) (v : Value) (n : Nat) (ys : List Value) (v' : Value) (w' : World) : Prop where
  own : w'.ownsRow B 65 7 v' n ys
  turn : Turn w w' (blk v)
  new : ∀ g, blk v' = some g → blk v = some g ∨ w.heap.size ≤ g

theorem blk_own {w : World} {B e size n : Nat} {v : Value} {xs : List Value} (h : w.ownsRow B e size v n xs) : v.ownBlock = blk v := by
  rcases h.2 with ⟨rfl, _⟩ | ⟨g, cap, cur, rfl, _⟩ <;> rfl

theorem insEnd_cat {B : Nat} {w w' : World} {v v' : Value} {n : Nat} {xs ys : List Value} (hown : w.ownsRow B 65 7 v n xs) (h1 : w'.ownsRow B 65 7 v' (n + 1) ys) (h2 : w.grownBy w' v.ownBlock) (h3 : v'.ownBlock = v.ownBlock ∨ ∃ g, v'.ownBlock = some g ∧ w.heap.size ≤ g) : InsEndC B w v (n + 1) ys v' w' := by
  rw [blk_own hown] at h2
  rw [blk_own hown, blk_own h1] at h3
  refine ⟨h1, ⟨h2.os, h2.tape, h2.output, h2.size, h2.block⟩, fun g hg => ?_⟩
  rcases h3 with h3 | ⟨g2, h3, h4⟩
  · exact .inl (by rw [← h3]; exact hg)
  · rw [h3] at hg
    exact .inr (by have := Option.some.inj hg; omega)

set_option maxHeartbeats 4000000 in
set_option maxRecDepth 100000 in
/-- At the end. -/
theorem insC_end {B : Nat} {w : World} {v : Value} {n vb vcap : Nat} {xs y : List Value} (hown : w.ownsRow B 65 7 v n xs) (hB : B ≤ w.heap.size) (hb : (n + 1) * 96 ≤ 140737488355328) (hsl : Sl w 7 (.slice (some ⟨vb, 0, none⟩) 1 vcap) 1 y) (hy1 : ∀ u ∈ y, u.oneCell' = true) :
    Calls Tryz.prog 90 #[v, .int .i64 n, .slice (some ⟨vb, 0, none⟩) 1 vcap] w fun e w' => ∃ v', e = .returned v' ∧ InsEndC B w v (n + 1) (xs ++ y) v' w' := by
  have HO := Lib.hid hown
  have HS := Lib.hid hsl
  clear hsl
  rcases hown.2 with ⟨rfl, rfl⟩ | ⟨g, cap, cur, rfl, hg, hh, hn, hmx, hcs, htk⟩
  · clear hown
    go_enter Tryz.func90, Tryz.ntmps90
    go_wp2_with (at_builtin; refine wpList_cat2 et_cpyI _ _ rfl rfl HO.out rfl rfl HS.out hy1 hb (by omega) hB ?_; intro v' w' h1 h2 h3)
    all_goals (go_ret; exact ⟨_, rfl, insEnd_cat HO.out h1 h2 h3⟩)
  · clear hown hh hcs htk
    have hn9 : n ≤ 9223372036854775807 := by omega
    unfold maxLen at hmx
    by_cases hcn : cap = n
    · subst hcn
      go_enter Tryz.func90, Tryz.ntmps90
      go_wp2_with (at_builtin; refine wpList_cat2 et_cpyI _ _ rfl rfl HO.out rfl rfl HS.out hy1 hb (by omega) hB ?_; intro v' w' h1 h2 h3)
      all_goals (go_ret; exact ⟨_, rfl, insEnd_cat HO.out h1 h2 h3⟩)
    · skip
      go_enter Tryz.func90, Tryz.ntmps90
      go_wp2_with (at_builtin; refine wpList_cat2 et_cpyI _ _ rfl rfl HO.out rfl rfl HS.out hy1 hb (by omega) hB ?_; intro v' w' h1 h2 h3)
      all_goals (go_ret; exact ⟨_, rfl, insEnd_cat HO.out h1 h2 h3⟩)

set_option maxHeartbeats 4000000 in
set_option maxRecDepth 100000 in
/-- Before an element, there is room: in place. -/
theorem insC_shift (b n c i vb vc : Nat) (cs vs : List Value) (w : World) (hi : i < n) (hroom : n + 1 ≤ c) (hc63 : c ≤ 9223372036854775807) (hvb : vb ≠ b) (hcl : cs.length = n * 7) (hvl : vs.length = 7)
    (hcs : ∀ j v, cs[j]? = some v → w.cell? ⟨b, j, none⟩ = some v) (hsp : ∀ j, j < (n + 1) * 7 → (w.cell? ⟨b, j, none⟩).isSome = true) (hfz : ∀ j, w.frozen? ⟨b, j, none⟩ = false)
    (hvs : ∀ j v, vs[j]? = some v → w.cell? ⟨vb, j, none⟩ = some v) (h1c : ∀ v ∈ cs, v.oneCell' = true) (h1v : ∀ v ∈ vs, v.oneCell' = true)
    (tA tB : TypeId) (kA kB : Nat) (hsa : w.shape? vb = some (tA, kA)) (hsb : w.shape? b = some (tB, kB)) (hkB : kB ≠ 0) (hfa : w.frozen? ⟨vb, 0, none⟩ = false) (hfe : w.frozen? ⟨vb, kA, none⟩ = false) :
    Calls Tryz.prog 90 #[.slice (some ⟨b, 0, none⟩) n c, .int .i64 i, .slice (some ⟨vb, 0, none⟩) 1 vc] w fun e w' =>
      e = .returned (.slice (some ⟨b, 0, none⟩) (n + 1) c) ∧ w' = (w.drew.setCells b ((i + 1) * 7) (cs.drop (i * 7))).setCells b (i * 7) vs := by
  have hsz : (Tryz.prog.info? 65).map (·.size) = some 7 := by
    obtain ⟨i0, hi0, h0, h1, h2⟩ := info_parts et_cpyI.hi
    rw [hi0]; simp [h1]
  have hov : ∀ lb cb, (callFunc 118 #[.slice (some ⟨vb, 0, none⟩) 1 vc, .slice (some ⟨b, (i + 1) * 7, none⟩) lb cb]).run Tryz.prog w = .ok (.value (.bool false)) w := fun lb cb => by
    rw [run_callFunc_extern Tryz.func118 (by kernel_rfl) (by kernel_rfl) (by kernel_rfl) (e := Extern.SlicesOverlaps.overlaps #[24, 24] #[4]) (by kernel_rfl),
      Lib.run_overlaps_apart w 24 4 65 et_cpyI.ht 7 et_cpyI.sizeOf ⟨vb, 0, none⟩ ⟨b, (i + 1) * 7, none⟩ 1 vc lb cb hvb tA tB kA kB hsa hsb hkB hfa hfe]
    rfl
  have hdl : (cs.drop (i * 7)).length = (n - i) * 7 := by rw [List.length_drop, hcl]; omega
  have hw1 : IntKind.i64.wrap ((i : Int) + 1) = (i : Int) + 1 := by rw [IntKind.wrap_i64]; omega
  have hw2 : IntKind.i64.wrap ((n : Int) + 1) = (n : Int) + 1 := by rw [IntKind.wrap_i64]; omega
  have hz2 : ¬ ((i : Int) = (n : Int)) := by omega
  have hb1 : (0 : Int) ≤ (i : Int) + 1 := by omega
  have hin : i ≤ n := by omega
  have htn : ((i : Int) + 1).toNat = i + 1 := by omega
  have hb2 : ¬ (c = i + 1) := by omega
  have hb3 : (i : Int) ≤ (n : Int) + 1 := by omega
  have hb4 : ¬ (c = i) := by omega
  have hcp1 : ∀ ty dc sc, (Builtin.copy_ #[24, 24] ty #[.slice (some ⟨b, (i + 1) * 7, none⟩) (n - i) dc, .slice (some ⟨b, i * 7, none⟩) (n + 1 - i) sc]).run Tryz.prog w.drew = .ok (goInt (Nat.min (n + 1 - i) (n - i))) (w.drew.setCells b ((i + 1) * 7) (cs.drop (i * 7))) := fun ty dc sc =>
    run_copy_sz w.drew _ _ ty 65 7 b ((i + 1) * 7) (n - i) dc ⟨b, i * 7, none⟩ (n + 1 - i) sc (cs.drop (i * 7)) et_cpyI.ht hsz (by rw [hdl]; simp only [Nat.min_def]; split <;> omega)
      (fun j v hj => by rw [Addr.add_lit]; exact hcs (i * 7 + j) v (by rwa [List.getElem?_drop] at hj))
      (fun j hj => hsp _ (by omega)) (fun j hj => hfz _) (fun v hv => h1c v (List.mem_of_mem_drop hv))
  obtain ⟨W1, hW1⟩ : ∃ W1, W1 = w.drew.setCells b ((i + 1) * 7) (cs.drop (i * 7)) := ⟨_, rfl⟩
  have hsp1 : ∀ k, k < (n + 1) * 7 → (W1.cell? ⟨b, k, none⟩).isSome = true := fun k hk => by
    rw [hW1]
    exact isSome_setCells b (cs.drop (i * 7)) ((i + 1) * 7) w.drew (fun j hj => hsp ((i + 1) * 7 + j) (by omega)) k (hsp k hk)
  have hcp2 : ∀ (W : World), (∀ x, W.cell? x = W1.cell? x) → (∀ x, W.frozen? x = W1.frozen? x) → ∀ ty dc, (Builtin.copy_ #[24, 24] ty #[.slice (some ⟨b, i * 7, none⟩) (n + 1 - i) dc, .slice (some ⟨vb, 0, none⟩) 1 vc]).run Tryz.prog W = .ok (goInt (Nat.min 1 (n + 1 - i))) (W.setCells b (i * 7) vs) := fun W hWc hWf ty dc =>
    run_copy_sz W _ _ ty 65 7 b (i * 7) (n + 1 - i) dc ⟨vb, 0, none⟩ 1 vc vs et_cpyI.ht hsz (by rw [hvl]; simp only [Nat.min_def]; split <;> omega)
      (fun j v hj => by
        rw [Addr.add_lit, hWc, hW1, World.cell?_setCells_out b _ _ _ _ (fun h _ => absurd h hvb), Nat.zero_add]
        exact hvs j v hj)
      (fun j hj => by rw [hWc]; exact hsp1 _ (by omega)) (fun j hj => by rw [hWf, hW1, World.frozen?_setCells]; exact hfz _) h1v
  rw [← hW1] at hcp1
  go_enter Tryz.func90, Tryz.ntmps90
  go_wp2_with (simp only [hov])
  go_region_law (refine step_copy_runI rfl _ _ 24 24 rfl _ _ (by simp [Act.eval, Act.put]) (by simp [Act.eval, Act.put]) (hcp1 _ _ _) ?_)
  go_wp2_with (at_builtin; refine wpList_copy_runI _ rfl _ _ 24 24 rfl _ _ rfl rfl (hcp2 _ (fun _ => rfl) (fun _ => rfl) _ _) ?_)
  go_ret
  first | exact ⟨rfl, rfl⟩ | exact ⟨rfl, by rw [hW1]⟩

def zcpyV : Value := (Value.agg #[(.string ⟨#[]⟩), (.string ⟨#[]⟩), (.string ⟨#[]⟩), (.int .i64 0), (.int .i64 0), (.int .i64 0), (.slice none 0 0)])
theorem zeros7 (k : Nat) : (Builtin.zeroCells zcpyV.cells k).size = k * 7 := by simp [Builtin.zeroCells, Value.cells, zcpyV]
set_option maxHeartbeats 4000000 in
set_option maxRecDepth 100000 in
/-- Before an element, there is no room: a new row. -/
theorem insC_grow (b n c i vb vc : Nat) (cs vs : List Value) (w : World) (hi : i < n) (hnc : n ≤ c) (hroom : c < n + 1) (hbig : (n + 1) * 96 ≤ 140737488355328) (hcl : cs.length = n * 7) (hvl : vs.length = 7)
    (hcs : ∀ j v, cs[j]? = some v → w.cell? ⟨b, j, none⟩ = some v)
    (hvs : ∀ j v, vs[j]? = some v → w.cell? ⟨vb, j, none⟩ = some v) (h1c : ∀ v ∈ cs, v.oneCell' = true) (h1v : ∀ v ∈ vs, v.oneCell' = true) :
    Calls Tryz.prog 90 #[.slice (some ⟨b, 0, none⟩) n c, .int .i64 i, .slice (some ⟨vb, 0, none⟩) 1 vc] w fun e w' =>
      e = .returned (.slice (some ⟨w.heap.size, 0, none⟩) (n + 1) (grownCap w (n + 1) c 65)) ∧
      w' = (((w.alloc (.cells ((cs.take (i * 7)).toArray ++ Builtin.zeroCells zcpyV.cells (n + 1 - i) ++ Builtin.zeroCells zcpyV.cells (grownCap w (n + 1) c 65 - (n + 1))) 65)).drew.setCells w.heap.size (i * 7) vs).drew).setCells w.heap.size ((i + 1) * 7) (cs.drop (i * 7)) := by
  obtain ⟨i0, hi0, hz0, hzs, hzb⟩ := info_parts et_cpyI.hi
  have hz0 : i0.zero = some zcpyV := hz0
  have htI : Tryz.prog.underlying 3 = some (.int .i64) := by kernel_rfl
  have hz2 : ¬ ((i : Int) = (n : Int)) := by omega
  have hz3 : (c : Int) < (n : Int) + 1 := by omega
  have hsz : (Tryz.prog.info? 65).map (·.size) = some 7 := by rw [hi0]; simp [hzs]
  have hbw : b < w.heap.size := block_lt_of_cell (hcs 0 _ (List.getElem?_eq_getElem (by omega)))
  have hvw : vb < w.heap.size := block_lt_of_cell (hvs 0 _ (List.getElem?_eq_getElem (by omega)))
  have hkk : (n : Int) + 1 - (i : Int) = ((n + 1 - i : Nat) : Int) := by omega
  have hik : i + (n + 1 - i) = n + 1 := by omega
  have hold : (Builtin.firstCells i0.size i (.slice (some ⟨b, 0, none⟩) i c)).run Tryz.prog w.drew = .ok (cs.take (i * 7)).toArray w.drew := by
    rw [hzs]
    exact run_firstCells_some w.drew 7 i ⟨b, 0, none⟩ i c (cs.take (i * 7)) (by rw [List.length_take]; omega) (fun j v hj => by
      rw [Addr.add_lit]
      rw [List.getElem?_take] at hj
      split at hj
      · rw [Nat.zero_add]; exact hcs j v hj
      · cases hj)
  have hrz : ∀ ty, (Builtin.append_ #[24, 3] ty #[.slice (some ⟨b, 0, none⟩) i c, .int .i64 ((n : Int) + 1 - (i : Int))]).run Tryz.prog w =
      .ok (.slice (some ⟨w.heap.size, 0, none⟩) (n + 1) (grownCap w (n + 1) c 65)) (w.drew.alloc (.cells ((cs.take (i * 7)).toArray ++ Builtin.zeroCells zcpyV.cells (n + 1 - i) ++ Builtin.zeroCells zcpyV.cells (grownCap w (n + 1) c 65 - (n + 1))) 65)) := fun ty => by
    have h := Lib.run_append_grow_zeros w 24 3 ty 65 i0 _ .i64 .i64 et_cpyI.ht htI hi0 hz0 (some ⟨b, 0, none⟩) i c (cs.take (i * 7)) hold (n + 1 - i) (by omega) (by omega) (by omega) (by omega) (by rw [hzb]; omega) (by rw [hzb, hik]; exact growslice_fits hroom hbig)
    rw [hik] at h
    rw [hkk]
    exact h
  obtain ⟨G, hG⟩ : ∃ G, G = grownCap w (n + 1) c 65 := ⟨_, rfl⟩
  obtain ⟨ROW, hROW⟩ : ∃ ROW : Array Value, ROW = (cs.take (i * 7)).toArray ++ Builtin.zeroCells zcpyV.cells (n + 1 - i) ++ Builtin.zeroCells zcpyV.cells (G - (n + 1)) := ⟨_, rfl⟩
  rw [← hG] at hrz ⊢
  rw [← hROW] at hrz ⊢
  have hRl : (n + 1) * 7 ≤ ROW.size := by
    rw [hROW]
    simp only [Array.size_append, zeros7, List.size_toArray, List.length_take]
    omega
  obtain ⟨W1, hW1⟩ : ∃ W1, W1 = w.drew.alloc (.cells ROW 65) := ⟨_, rfl⟩
  rw [← hW1] at hrz
  have hN : ∀ j, j < (n + 1) * 7 → (W1.cell? ⟨w.heap.size, j, none⟩).isSome = true := fun j hj => by
    rw [hW1, World.cell?_alloc_at (w := w.drew) ROW _ w.heap.size j rfl, Array.getElem?_eq_getElem (by omega)]; rfl
  have hNf : ∀ j, W1.frozen? ⟨w.heap.size, j, none⟩ = false := fun j => by rw [hW1]; exact World.frozen?_alloc_at (w := w.drew) ROW _ w.heap.size j rfl
  have hOb : ∀ j v, w.cell? ⟨b, j, none⟩ = some v → W1.cell? ⟨b, j, none⟩ = some v := fun j v h => by rw [hW1, World.cell?_alloc_past (w := w.drew) _ b j hbw]; exact h
  have hOv : ∀ j v, w.cell? ⟨vb, j, none⟩ = some v → W1.cell? ⟨vb, j, none⟩ = some v := fun j v h => by rw [hW1, World.cell?_alloc_past (w := w.drew) _ vb j hvw]; exact h
  have hcpA : ∀ (W : World), (∀ x, W.cell? x = W1.cell? x) → (∀ x, W.frozen? x = W1.frozen? x) → ∀ ty dc, (Builtin.copy_ #[24, 24] ty #[.slice (some ⟨w.heap.size, i * 7, none⟩) (n + 1 - i) dc, .slice (some ⟨vb, 0, none⟩) 1 vc]).run Tryz.prog W = .ok (goInt (Nat.min 1 (n + 1 - i))) (W.setCells w.heap.size (i * 7) vs) := fun W hWc hWf ty dc =>
    run_copy_sz W _ _ ty 65 7 w.heap.size (i * 7) (n + 1 - i) dc ⟨vb, 0, none⟩ 1 vc vs et_cpyI.ht hsz (by rw [hvl]; simp only [Nat.min_def]; split <;> omega)
      (fun j v hj => by rw [Addr.add_lit, hWc, Nat.zero_add]; exact hOv _ v (hvs j v hj))
      (fun j hj => by rw [hWc]; exact hN _ (by omega)) (fun j hj => by rw [hWf]; exact hNf _) h1v
  have hGn : n + 1 ≤ G := by rw [hG]; exact grownCap_ge w _ _ _
  have hG63 : G ≤ 9223372036854775807 := by
    have := grownCap_le_maxLen w (n + 1) c 65 (by unfold maxLen; omega)
    rw [← hG] at this
    unfold maxLen at this
    omega
  have hGi : ¬ (G = i) := by omega
  have hGim : ¬ (G = i + 1) := by omega
  have hci : ¬ (c = i) := by omega
  have hbN : b ≠ w.heap.size := by omega
  have hdl : (cs.drop (i * 7)).length = (n - i) * 7 := by rw [List.length_drop, hcl]; omega
  have hcpB : ∀ (W : World), (∀ x, W.cell? x = (W1.setCells w.heap.size (i * 7) vs).cell? x) → (∀ x, W.frozen? x = (W1.setCells w.heap.size (i * 7) vs).frozen? x) → ∀ ty dc sc, (Builtin.copy_ #[24, 24] ty #[.slice (some ⟨w.heap.size, (i + 1) * 7, none⟩) (n - i) dc, .slice (some ⟨b, i * 7, none⟩) (n - i) sc]).run Tryz.prog W = .ok (goInt (Nat.min (n - i) (n - i))) (W.setCells w.heap.size ((i + 1) * 7) (cs.drop (i * 7))) := fun W hWc hWf ty dc sc =>
    run_copy_sz W _ _ ty 65 7 w.heap.size ((i + 1) * 7) (n - i) dc ⟨b, i * 7, none⟩ (n - i) sc (cs.drop (i * 7)) et_cpyI.ht hsz (by rw [hdl]; simp only [Nat.min_def]; split <;> omega)
      (fun j v hj => by
        rw [Addr.add_lit, hWc, World.cell?_setCells_out _ _ _ _ _ (fun h _ => absurd h hbN)]
        exact hOb _ v (hcs (i * 7 + j) v (by rwa [List.getElem?_drop] at hj)))
      (fun j hj => by rw [hWc]; exact isSome_setCells w.heap.size vs (i * 7) W1 (fun t ht => hN _ (by omega)) _ (hN _ (by omega)))
      (fun j hj => by rw [hWf, World.frozen?_setCells]; exact hNf _) (fun v hv => h1c v (List.mem_of_mem_drop hv))
  subst hW1
  have hE1 : ∀ x, ((w.alloc (.cells ROW 65)).drew).cell? x = (w.drew.alloc (.cells ROW 65)).cell? x := fun x => rfl
  have hE2 : ∀ x, ((w.alloc (.cells ROW 65)).drew).frozen? x = (w.drew.alloc (.cells ROW 65)).frozen? x := fun x => rfl
  have hF1 : ∀ x, (((w.alloc (.cells ROW 65)).drew.setCells w.heap.size (i * 7) vs).drew).cell? x = ((w.drew.alloc (.cells ROW 65)).setCells w.heap.size (i * 7) vs).cell? x := fun x => rfl
  have hF2 : ∀ x, (((w.alloc (.cells ROW 65)).drew.setCells w.heap.size (i * 7) vs).drew).frozen? x = ((w.drew.alloc (.cells ROW 65)).setCells w.heap.size (i * 7) vs).frozen? x := fun x => rfl
  have hw1 : IntKind.i64.wrap ((i : Int) + 1) = (i : Int) + 1 := by rw [IntKind.wrap_i64]; omega
  have hb1 : (0 : Int) ≤ (i : Int) + 1 := by omega
  have hin : i ≤ n := by omega
  have htn : ((i : Int) + 1).toNat = i + 1 := by omega
  have hb3 : (i : Int) ≤ (n : Int) := by omega
  clear hkk hik hold hROW hG hRl
  go_enter Tryz.func90, Tryz.ntmps90
  go_wp2_with (first
    | (at_builtin; refine Lib.wpList_append_run _ rfl _ _ _ _ rfl _ _ rfl rfl _ _ (hrz _) ?_)
    | (at_builtin; refine wpList_copy_runI _ rfl _ _ 24 24 rfl _ _ rfl rfl (hcpA _ hE1 hE2 _ _) ?_)
    | (at_builtin; refine wpList_copy_runI _ rfl _ _ 24 24 rfl _ _ rfl rfl (hcpB _ (fun _ => rfl) (fun _ => rfl) _ _ _) ?_))
  go_region_law (refine step_copy_runI rfl _ _ 24 24 rfl (.slice (some ⟨w.heap.size, (i + 1) * 7, none⟩) (n - i) (G - (i + 1))) (.slice (some ⟨b, i * 7, none⟩) (n - i) (c - i)) (by simp [Act.eval, Act.put]) (by simp [Act.eval, Act.put]) (hcpB _ hF1 hF2 3 (G - (i + 1)) (c - i)) ?_)
  go_wp2
  go_ret
  exact ⟨rfl, rfl⟩

theorem own_allocC {w : World} {B n cap : Nat} {ys : List Value} {A : Array Value} (hB : B ≤ w.heap.size) (hn : ys.length = n * 7) (hc : n ≤ cap) (hm : cap ≤ maxLen) (hA : A.size = cap * 7) (hy : A.toList.take (n * 7) = ys) {w' : World} (hw : w'.heap[w.heap.size]? = some (.cells A 65 (0, 0))) :
    w'.ownsRow B 65 7 (.slice (some ⟨w.heap.size, 0, none⟩) n cap) n ys :=
  ⟨hn, .inr ⟨w.heap.size, cap, A, rfl, hB, hw, hc, hm, hA, hy⟩⟩
set_option maxHeartbeats 1000000 in
theorem insC_calls {B : Nat} {w : World} {v : Value} {n i vb vcap : Nat} {xs y : List Value} {ecur : Array Value} {ety : TypeId} (hown : w.ownsRow B 65 7 v n xs) (hxs : ∀ u ∈ xs, u.oneCell' = true) (hi : i ≤ n) (hB : B ≤ w.heap.size) (hb : (n + 1) * 96 ≤ 140737488355328)
    (hvb : w.heap[vb]? = some (.cells ecur ety (0, 0))) (hvc : 1 ≤ vcap ∧ vcap ≤ 9223372036854775807) (hyl : y.length = 7) (hye : ecur.toList.take 7 = y) (hy1 : ∀ u ∈ y, u.oneCell' = true) (hne : blk v ≠ some vb) :
    Calls Tryz.prog 90 #[v, .int .i64 i, .slice (some ⟨vb, 0, none⟩) 1 vcap] w fun e w' => ∃ v', e = .returned v' ∧ InsEndC B w v (n + 1) (xs.take (i * 7) ++ y ++ xs.drop (i * 7)) v' w' := by
  have hxl : xs.length = n * 7 := hown.1
  have hG : n + 1 ≤ maxLen := by unfold maxLen; omega
  have hvs : ∀ j u, y[j]? = some u → w.cell? ⟨vb, j, none⟩ = some u := fun j u hj => by
    rw [cell_of_row w vb j ecur ety (0, 0) hvb, ← Array.getElem?_toList]
    rw [← hye, List.getElem?_take] at hj
    split at hj
    · exact hj
    · cases hj
  have hsl : Sl w 7 (.slice (some ⟨vb, 0, none⟩) 1 vcap) 1 y := ⟨by rw [hyl], .inr ⟨⟨vb, 0, none⟩, vcap, rfl, hvc.1, hvc.2, fun q hq => by
    rw [addr_add, Nat.zero_add]
    exact hvs q _ (List.getElem?_eq_getElem hq)⟩⟩
  by_cases hend : i = n
  · subst hend
    rw [List.take_of_length_le (by omega), List.drop_eq_nil_of_le (by omega), List.append_nil]
    exact insC_end hown hB hb hsl hy1
  have hlt : i < n := by omega
  rcases hown.2 with ⟨rfl, h0⟩ | ⟨g, cap, cur, rfl, hg, hh, hn, hmx, hcs, htk⟩
  · omega
  have hlen : (xs.take (i * 7) ++ y ++ xs.drop (i * 7)).length = (n + 1) * 7 := by simp; omega
  have hcl : cur.toList.length = cap * 7 := by rw [Array.length_toList, hcs]
  have hget : ∀ k, k < n * 7 → cur.toList[k]? = xs[k]? := fun k hk => by rw [← htk, List.getElem?_take, if_pos hk]
  have hcell : ∀ k, w.cell? ⟨g, k, none⟩ = cur[k]? := fun k => by rw [cell_of_row w g k cur 65 (0, 0) hh]
  have hcells : ∀ j u, xs[j]? = some u → w.cell? ⟨g, j, none⟩ = some u := fun j u hj => by
    have hjl := (List.getElem?_eq_some_iff.1 hj).1
    rw [hcell, ← hj, ← hget j (by omega), Array.getElem?_toList]
  have hsome : ∀ j, j < cap * 7 → (w.cell? ⟨g, j, none⟩).isSome = true := fun j hj => by
    rw [hcell, Array.getElem?_eq_getElem (by omega)]; rfl
  have hfz : ∀ k, w.frozen? ⟨g, k, none⟩ = false := fun k => by unfold World.frozen?; rw [hh]; simp
  have hfv : ∀ k, w.frozen? ⟨vb, k, none⟩ = false := fun k => by unfold World.frozen?; rw [hvb]; simp
  have hmx' : cap ≤ 9223372036854775807 := by unfold maxLen at hmx; omega
  by_cases hroom : n + 1 ≤ cap
  · refine (insC_shift g n cap i vb vcap xs y w hlt hroom hmx' (fun h => hne (by rw [h]; rfl)) hxl hyl hcells (fun j hj => hsome _ (by omega)) hfz hvs hxs hy1 ety 65 ecur.size cur.size (by unfold World.shape?; rw [hvb]) (by unfold World.shape?; rw [hh]) (by omega) (hfv _) (hfv _)).mono ?_
    rintro e w' ⟨rfl, rfl⟩
    have hs1 := setCells_heap (g := g) (e := 65) (xs.drop (i * 7)) ((i + 1) * 7) w.drew cur.toList (by rw [Array.toArray_toList]; exact hh) (by simp; omega)
    have hs := setCells_heap (g := g) (e := 65) y (i * 7) _ _ hs1 (by simp; omega)
    refine ⟨_, rfl, ⟨hlen, .inr ⟨g, cap, _, rfl, hg, hs, hroom, hmx, ?_, ?_⟩⟩, ((drew_turn w _).trans (setCells_turn g _ _ _)).trans (setCells_turn g _ _ _), fun g' hg' => .inl hg'⟩
    · simp; omega
    · rw [show (n + 1) * 7 = n * 7 + 7 by omega]
      refine ins_takeS hxl (by omega) hyl (fun k hk => ?_) (fun k hk => ?_) (fun k h1 h2 => ?_)
      · rw [get3]
        simp only [List.length_take, List.length_append, List.length_drop, hcl, hxl]
        rw [if_pos (by omega), List.getElem?_take, if_pos hk, get3]
        simp only [List.length_take, hcl]
        rw [if_pos (by omega), List.getElem?_take, if_pos (by omega), hget k (by omega)]
      · rw [get3]
        simp only [List.length_take, List.length_append, List.length_drop, hcl, hxl]
        rw [if_neg (by omega), if_pos (by omega)]
        congr 1
        omega
      · rw [get3]
        simp only [List.length_take, List.length_append, List.length_drop, hcl, hxl, hyl]
        rw [if_neg (by omega), if_neg (by omega), List.getElem?_drop, get3]
        simp only [List.length_take, List.length_drop, hcl, hxl]
        rw [if_neg (by omega), if_pos (by omega), List.getElem?_drop]
        congr 1
        omega
  · refine (insC_grow g n cap i vb vcap xs y w hlt hn (by omega) hb hxl hyl hcells hvs hxs hy1).mono ?_
    rintro e w' ⟨rfl, rfl⟩
    have hge := grownCap_ge w (n + 1) cap 65
    have hle := grownCap_le_maxLen w (n + 1) cap 65 hG
    generalize grownCap w (n + 1) cap 65 = G at hge hle
    have h0 := alloc_at w (.cells ((xs.take (i * 7)).toArray ++ Builtin.zeroCells zcpyV.cells (n + 1 - i) ++ Builtin.zeroCells zcpyV.cells (G - (n + 1))) 65 (0, 0))
    generalize hA : (xs.take (i * 7)).toArray ++ Builtin.zeroCells zcpyV.cells (n + 1 - i) ++ Builtin.zeroCells zcpyV.cells (G - (n + 1)) = A at h0
    have hAs : A.size = G * 7 := by rw [← hA]; simp only [Array.size_append, zeros7, List.size_toArray, List.length_take]; omega
    have hAg : ∀ k, k < i * 7 → A.toList[k]? = xs[k]? := fun k hk => by
      rw [← hA]
      simp only [Array.toList_append]
      rw [List.append_assoc, List.getElem?_append_left (by simp; omega)]
      simp only [List.getElem?_take]
      rw [if_pos hk]
    have hs1 := setCells_heap (g := w.heap.size) (e := 65) y (i * 7) (w.alloc (.cells A 65 (0, 0))).drew A.toList (by rw [Array.toArray_toList]; exact h0) (by simp; omega)
    have hs := setCells_heap (g := w.heap.size) (e := 65) (xs.drop (i * 7)) ((i + 1) * 7) (((w.alloc (.cells A 65 (0, 0))).drew.setCells w.heap.size (i * 7) y).drew) (A.toList.take (i * 7) ++ y ++ A.toList.drop (i * 7 + y.length)) hs1 (by simp; omega)
    refine ⟨_, rfl, own_allocC hB hlen hge hle ?_ ?_ hs, ?_, fun g' hg' => .inr ?_⟩
    · simp; omega
    · rw [show (n + 1) * 7 = n * 7 + 7 by omega]
      refine ins_takeS hxl (by omega) hyl (fun k hk => ?_) (fun k hk => ?_) (fun k h1 h2 => ?_)
      · rw [get3]
        simp only [List.length_take, List.length_append, List.length_drop, Array.length_toList, hAs, hxl, hyl]
        rw [if_pos (by omega), List.getElem?_take, if_pos (by omega), get3]
        simp only [List.length_take, Array.length_toList, hAs]
        rw [if_pos (by omega), List.getElem?_take, if_pos hk, hAg k hk]
      · rw [get3]
        simp only [List.length_take, List.length_append, List.length_drop, Array.length_toList, hAs, hxl, hyl]
        rw [if_pos (by omega), List.getElem?_take, if_pos (by omega), get3]
        simp only [List.length_take, Array.length_toList, hAs]
        rw [if_neg (by omega), if_pos (by omega)]
        congr 1
        omega
      · rw [get3]
        simp only [List.length_take, List.length_append, List.length_drop, Array.length_toList, hAs, hxl, hyl]
        rw [if_neg (by omega), if_pos (by omega), List.getElem?_drop]
        congr 1
        omega
    · have k1 := Turn.behind (alloc_turn w (.cells A 65 (0, 0)) (some g)) (Nat.le_refl _) ((drew_turn _ _).trans (setCells_turn w.heap.size y (i * 7) _))
      exact Turn.behind k1 (Nat.le_refl _) ((drew_turn _ _).trans (setCells_turn w.heap.size (xs.drop (i * 7)) ((i + 1) * 7) _))
    · simp [blk] at hg'; omega
end Go.Proofs.YtieccphckobhjaaGreatDoor


namespace Go.Proofs.YtieccphckobhjaaGreatDoor
open Go.RowKit Go.Shelf
set_option linter.unusedVariables false

theorem flat_ins (xs ys : Nat → Nat → Value) {n k : Nat} (s : Nat) (hk : k ≤ n) : (flat xs n s).take (k * s) ++ flat ys 1 s ++ (flat xs n s).drop (k * s) = flat (fun i j => if i < k then xs i j else if i = k then ys 0 j else xs (i - 1) j) (n + 1) s := by
  have h1 : flat xs n s = flat xs k s ++ flat (fun i => xs (k + i)) (n - k) s := by
    rw [flat_append, show k + (n - k) = n by omega]
    refine flat_congr fun i j hi hj => ?_
    by_cases h : i < k
    · rw [if_pos h]
    · rw [if_neg h, show k + (i - k) = i by omega]
  have hl := flat_length xs k s
  rw [h1, List.take_left' hl, List.drop_left' hl, flat_append, flat_append, show k + 1 + (n - k) = n + 1 by omega]
  refine flat_congr fun i j hi hj => ?_
  by_cases h : i < k
  · rw [if_pos (by omega), if_pos h, if_pos h]
  · rw [if_neg h]
    by_cases h2 : i = k
    · subst h2
      rw [if_pos (by omega), if_neg (by omega), if_pos rfl, Nat.sub_self]
    · rw [if_neg (by omega), show k + (i - (k + 1)) = i - 1 by omega, if_neg h, if_neg h2]
theorem ins_get {α : Type} {l : List α} {c : α} {p i : Nat} (hp : p ≤ l.length) (hi : i < (l.take p ++ [c] ++ l.drop p).length) : (l.take p ++ [c] ++ l.drop p)[i] = if h : i < p then l[i]'(by omega) else if h2 : i = p then c else l[i - 1]'(by simp at hi; omega) := by
  have hT : (l.take p).length = p := by rw [List.length_take]; omega
  have hi2 : i < l.length + 1 := by simp at hi; omega
  by_cases h1 : i < p
  · rw [dif_pos h1, List.getElem_append_left (by simp; omega), List.getElem_append_left (by omega), List.getElem_take]
  · rw [dif_neg h1]
    by_cases h2 : i = p
    · subst h2
      rw [dif_pos rfl, List.getElem_append_left (by simp; omega), List.getElem_append_right (by omega)]
      simp
    · rw [dif_neg h2, List.getElem_append_right (by simp; omega), List.getElem_drop]
      congr 1
      simp
      omega
theorem Rep.turn {F : Nat → Prop} {w w' : World} {x : Value} {d : D} {row : Option Nat} (h : Rep F w x d) (hF : ∀ b, F b → b < w.heap.size) (hr : ∀ g, row = some g → ¬ F g) (ht : Turn w w' row) : Rep F w' x d :=
  repS_d (RepS.turn (ρ := fun _ => x) (.d h) hF hr ht fun b hb => hb)
section
variable {cx : Cx} {ops : Array Oper} {o : Oper} {rest : List Oper} {e : Env} {σ : Obs} {Q : Post}
/-- slices.Insert(s, i, x) at an own []api.Copy of data. -/
theorem AOps.insertC {s i x : Operand} {ts : Array TypeId} {id idx ex dst k : Nat} {els : List (List D)} {y : List D} {m : Int} (σ' : Obs) (hP : cx.P = Tryz.prog) (hg : o.guard = none) (ht : o.dst = some dst) (hdn : Nat.blt dst cx.N = true)
    (ho : o.op = .call { callee := .value (.func 90), args := #[s, i, x], argTypes := ts }) (hs : e.ev s = .own id) (hm : (id, Ob.row 65 7 els) ∈ σ) (hi : e.ev i = .d (.v (.int .i64 m))) (hk : m = (k : Int)) (hkl : k ≤ els.length)
    (hx : e.ev x = .own idx) (hmx : (idx, Ob.row ex 7 [y]) ∈ σ) (hne : idx ≠ id) (hb : (els.length + 1) * 96 ≤ 140737488355328)
    (hσ : ∀ p ∈ σ', p = (id, Ob.row 65 7 (els.take k ++ [y] ++ els.drop k)) ∨ ∃ q ∈ σ, q.1 ≠ id ∧ p = (q.1, q.2.kill id))
    (q : AOps cx ops rest ((e.kill id).put (some dst) (.own id)) σ' Q) (hfx : cx.free id = true := by rfl) : AOps cx ops (o :: rest) e σ Q := by
  intro a w ⟨F, ρ, hr⟩
  have r1 := ev_rep (e := e) (x := s) (a := a) (fun t _ => hr.env t)
  have r2 := ev_rep (e := e) (x := i) (a := a) (fun t _ => hr.env t)
  have r3 := ev_rep (e := e) (x := x) (a := a) (fun t _ => hr.env t)
  rw [hs] at r1
  rw [hi] at r2
  rw [hx] at r3
  have v1 : a.eval s = ρ id := by generalize a.eval s = v at r1; cases r1; rfl
  have v2 := repS_v r2
  have v3 : a.eval x = ρ idx := by generalize a.eval x = v at r3; cases r3; rfl
  obtain ⟨xs, hown, hlen, hrep, hnF⟩ := hr.obs.ok _ hm
  obtain ⟨ys, hox, hylen, hyrep, _⟩ := hr.obs.ok _ hmx
  dsimp only at hown hox hnF
  have hyl : y.length = 7 := by simpa using hylen 0 (by simp)
  have hown' : w.ownsRow cx.B 65 7 (ρ id) els.length (flat xs els.length 7) := hown
  have hox' : w.ownsRow cx.B ex 7 (ρ idx) 1 (flat ys 1 7) := hox
  rcases hox'.2 with ⟨_, h0⟩ | ⟨vb, vcap, ecur, hvb, _, hh, hn1, hvm, hcs, htk⟩
  · simp at h0
  have one1 : ∀ u ∈ flat xs els.length 7, u.oneCell' = true := fun u hu => by
    obtain ⟨l, hl, hu⟩ := List.mem_flatten.1 hu
    obtain ⟨i, hi, rfl⟩ := List.mem_map.1 hl
    obtain ⟨j, hj, rfl⟩ := List.mem_map.1 hu
    have hi' : i < els.length := by simpa using hi
    exact (hrep i hi' j (by rw [hlen i hi']; simpa using hj)).1
  have one2 : ∀ u ∈ flat ys 1 7, u.oneCell' = true := fun u hu => by
    obtain ⟨l, hl, hu⟩ := List.mem_flatten.1 hu
    obtain ⟨i, hi, rfl⟩ := List.mem_map.1 hl
    obtain ⟨j, hj, rfl⟩ := List.mem_map.1 hu
    have hi' : i = 0 := by simpa using hi
    subst hi'
    exact (hyrep 0 (by simp) j (by simp only [List.getElem_cons_zero, hyl]; simpa using hj)).1
  have hE : Enters cx.P 90 := by rw [hP]; exact Enters.of Tryz.func90 rfl rfl
  have hx' : (execOp a.eval o).run cx.P w = .ok (.enter 90 #[a.eval s, a.eval i, a.eval x]) w := by
    obtain ⟨xs, hxs⟩ : ∃ xs : List Operand, xs = [s, i, x] := ⟨_, rfl⟩
    have ho' : o.op = .call { callee := .value (.func 90), args := xs.toArray, argTypes := ts } := by rw [ho, hxs]
    have h5 := hE (xs.map a.eval).toArray w
    have h6 : (execOp a.eval o).run cx.P w = .ok (.enter 90 (xs.map a.eval).toArray) w := by
      unfold execOp
      simp only [ho', resolve, Deferred.ofValue, Act.eval, invoke, Sem.run_bind, Sem.run_pure, Result.andThen_ok]
      simpa using h5
    rw [hxs] at h6
    exact h6
  have hc := insC_calls (i := k) (vb := vb) (vcap := vcap) (y := flat ys 1 7) hown' one1 hkl hr.hB hb hh ⟨hn1, by unfold maxLen at hvm; omega⟩ (by rw [flat_length]) (by simpa using htk) one2 (fun he => hr.obs.apart _ hmx _ hm hne vb (by dsimp only; rw [hvb]; rfl) (by dsimp only; exact he))
  rw [v1, v2, v3, hvb, hk] at hx'
  rw [← hP] at hc
  refine wpList_plain hg fun K hK => ?_
  unfold Oper.wp
  rw [hx']
  refine hc.mono fun _ w' ⟨v', he, hI⟩ => ?_
  subst he
  have hlen2 : (els.take k ++ [y] ++ els.drop k).length = els.length + 1 := by simp; omega
  have hturn := hr.turn (ρ' := fun j => if j = id then v' else ρ j) (id := id) (ob := .row 65 7 (els.take k ++ [y] ++ els.drop k)) (row := blk (ρ id)) (w' := w') (F' := F) (fun j hj => by simp [hj]) hI.turn hfx
    (fun g hg => ⟨hr.kown _ hm g hg, hnF g hg, fun p hp hpi => fun he => hr.obs.apart p hp _ hm hpi g he hg⟩) (fun b hb => hb) (fun b hb => .inl hb) (fun b hb => Nat.lt_of_lt_of_le (hr.lt b hb) hI.turn.size)
    ⟨fun i j => if i < k then xs i j else if i = k then ys 0 j else xs (i - 1) j, by
      dsimp only
      rw [if_pos rfl]
      have h6 := hI.own
      rw [flat_ins xs ys 7 hkl] at h6
      rw [hlen2]
      exact h6, fun i hi => by
      rw [ins_get hkl hi]
      split
      · exact hlen _ _
      · split
        · exact hyl
        · exact hlen _ _, fun i hi j hj => by
      have hr7 : ∀ x d, Rep F w x d → Rep F w' x d := fun x d h => h.turn hr.lt hnF hI.turn
      have hi2 : i < els.length + 1 := by rw [hlen2] at hi; exact hi
      have hg := ins_get hkl hi
      by_cases h1 : i < k
      · rw [dif_pos h1] at hg
        simp only [if_pos h1]
        simp only [hg] at hj ⊢
        exact ⟨(hrep i (by omega) j hj).1, hr7 _ _ (hrep i (by omega) j hj).2⟩
      · rw [dif_neg h1] at hg
        by_cases h2 : i = k
        · rw [dif_pos h2] at hg
          simp only [if_neg h1, if_pos h2]
          simp only [hg] at hj ⊢
          have h8 := hyrep 0 (by simp) j (by simpa using hj)
          exact ⟨h8.1, hr7 _ _ (by simpa using h8.2)⟩
        · rw [dif_neg h2] at hg
          simp only [if_neg h1, if_neg h2]
          simp only [hg] at hj ⊢
          exact ⟨(hrep (i - 1) (by omega) j hj).1, hr7 _ _ (hrep (i - 1) (by omega) j hj).2⟩, fun g hg hf => by
      dsimp only at hg
      rw [if_pos rfl] at hg
      rcases hI.new g hg with h6 | h6
      · exact hnF g h6 hf
      · have := hr.lt g hf; omega⟩ (fun g hg => by rw [if_pos rfl] at hg; exact hI.new g hg) σ' hσ
  have h9 := hturn.put (o := ⟨some dst, .ready 0, 0, "", #[], none⟩) (v := v') (s := .own id) (Ext.refl hturn.lt) (by
      have := RepS.own (F := F) (ρ := fun j => if j = id then v' else ρ j) (w := w') id
      simpa using this) (by simpa [DstOk, Nat.blt_eq] using hdn)
  have := q _ _ ⟨F, _, h9⟩
  rw [← ht] at this
  exact hK _ _ this
end
end Go.Proofs.YtieccphckobhjaaGreatDoor


namespace Go.Proofs.YtieccphckobhjaaGreatDoor
open Go.RowKit
set_option linter.unusedVariables false

/-! Types. -/
namespace TyW15

end TyW15
open TyW15


theorem cb_anti : ∀ a b : List UInt8, Lib.compareBytes a b = - Lib.compareBytes b a
  | [], [] => rfl
  | [], _ :: _ => rfl
  | _ :: _, [] => rfl
  | x :: a, y :: b => by
    unfold Lib.compareBytes
    by_cases h1 : x < y
    · rw [if_pos h1, if_neg (fun h => absurd (UInt8.lt_trans h1 h) (UInt8.lt_irrefl _)), if_pos h1]
    · rw [if_neg h1]
      by_cases h2 : y < x
      · rw [if_pos h2, if_pos h2]; rfl
      · rw [if_neg h2, if_neg h2, if_neg h1]; exact cb_anti a b
theorem strCmp_anti (a b : ByteArray) : strCmp a b = - strCmp b a := cb_anti _ _
theorem cpyCmp_anti (a b : Cpy) : cpyCmp a b = - cpyCmp b a := by
  unfold cpyCmp
  by_cases h : a.item = b.item
  · rw [if_pos h, if_pos h.symm]; exact strCmp_anti _ _
  · rw [if_neg h, if_neg (fun e => h e.symm)]; exact strCmp_anti _ _
/-- In order. -/
def SL (l : List Cpy) : Prop := ∀ i j (hi : i < l.length) (hj : j < l.length), i < j → cpyCmp l[i] l[j] < 0
theorem pos_spec {l : List Cpy} (h : SL l) (t : Cpy) : (∀ j (hj : j < l.length), j < posC l t → cpyCmp l[j] t < 0) ∧ (∀ j (hj : j < l.length), posC l t ≤ j → ¬ cpyCmp l[j] t < 0) := by
  have hs := bsr_spec2 (lt := ltC l t) (N := l.length) (fun a b hab hb hlb => by
    have ha : a < l.length := by omega
    rw [ltC_eq hb] at hlb
    rw [ltC_eq ha]
    have h1 := of_decide_eq_true hlb
    by_cases e : a = b
    · subst e; exact decide_eq_true h1
    · exact decide_eq_true (cpyCmp_trans (h a b ha hb (by omega)) h1)) l.length 0 l.length (by omega) (Nat.zero_le _) (Nat.le_refl _) (fun j hj => by omega)
  refine ⟨fun j hj hl => ?_, fun j hj hl => ?_⟩
  · have h1 := hs.1 j hl
    rw [ltC_eq hj] at h1
    exact of_decide_eq_true h1
  · have h1 := hs.2 j hl hj
    rw [ltC_eq hj] at h1
    exact of_decide_eq_false h1
theorem cmp_key (x : Cpy) {it ca : ByteArray} {c : Cpy} (h1 : c.item = it) (h2 : c.carrier = ca) : cpyCmp x (keyC it ca) = cpyCmp x c := cpyCmp_same rfl rfl h1.symm h2.symm
theorem has_at {l : List Cpy} (h : SL l) {k : Nat} (hk : k < l.length) : posC l (keyC l[k].item l[k].carrier) = k ∧ hasC l (keyC l[k].item l[k].carrier) = true := by
  have hs := pos_spec h (keyC l[k].item l[k].carrier)
  have hself : cpyCmp l[k] (keyC l[k].item l[k].carrier) = 0 := cpyCmp_eq rfl rfl
  have hpos : posC l (keyC l[k].item l[k].carrier) = k := by
    rcases Nat.lt_trichotomy (posC l (keyC l[k].item l[k].carrier)) k with hh | hh | hh
    · have h1 := hs.2 _ (by omega) (Nat.le_refl _)
      rw [cmp_key _ rfl rfl] at h1
      exact absurd (h _ k (by omega) hk hh) h1
    · exact hh
    · have h1 := hs.1 k hk hh
      omega
  exact ⟨hpos, hasC_t hk hpos hself⟩
theorem has_if {v : Vlt} {l : List Cpy} (hv : SL l) (it ca : ByteArray) : (0 ≤ copyIdx (withC v l) it ca ↔ hasC l (keyC it ca) = true) ∧ (0 ≤ copyIdx (withC v l) it ca → copyIdx (withC v l) it ca = (posC l (keyC it ca) : Int)) := by
  refine ⟨⟨fun h => ?_, fun h => ?_⟩, fun h => ?_⟩
  · obtain ⟨k, hk, _, h2, h3⟩ := idx_nonneg (v := withC v l) rfl h
    rw [← h2, ← h3]
    exact (has_at hv hk).2
  · obtain ⟨hk, h1, h2⟩ := hasC_spec h
    unfold copyIdx idxBy
    rw [if_pos (List.any_eq_true.2 ⟨_, List.getElem_mem (l := (withC v l).copies) hk, by simp only [Bool.and_eq_true, decide_eq_true_eq]; exact ⟨h1, h2⟩⟩)]
    omega
  · obtain ⟨k, hk, h1, h2, h3⟩ := idx_nonneg (v := withC v l) rfl h
    rw [h1, ← h2, ← h3]
    exact congrArg _ (has_at hv hk).1.symm
theorem has_not {v : Vlt} {l : List Cpy} (hv : SL l) {it ca : ByteArray} (h : copyIdx (withC v l) it ca < 0) : hasC l (keyC it ca) = false := by
  cases hc : hasC l (keyC it ca) with
  | false => rfl
  | true => have := (has_if (v := v) hv it ca).1.2 hc; omega
def insC (l : List Cpy) (c : Cpy) : List Cpy := l.take (posC l (keyC c.item c.carrier)) ++ [c] ++ l.drop (posC l (keyC c.item c.carrier))
theorem insC_len (l : List Cpy) (c : Cpy) : (insC l c).length = l.length + 1 := by
  have := posC_le l (keyC c.item c.carrier)
  unfold insC
  simp
  omega
theorem insC_mem {l : List Cpy} {c x : Cpy} (h : x ∈ insC l c) : x = c ∨ x ∈ l := by
  unfold insC at h
  rcases List.mem_append.1 h with h | h
  · rcases List.mem_append.1 h with h | h
    · exact .inr (List.mem_of_mem_take h)
    · exact .inl (List.mem_singleton.1 h)
  · exact .inr (List.mem_of_mem_drop h)
theorem insC_get {l : List Cpy} {c : Cpy} {k : Nat} (hk : k < (insC l c).length) : (insC l c)[k] = if h : k < posC l (keyC c.item c.carrier) then l[k]'(by have := posC_le l (keyC c.item c.carrier); omega) else if h2 : k = posC l (keyC c.item c.carrier) then c else l[k - 1]'(by rw [insC_len] at hk; have := posC_le l (keyC c.item c.carrier); omega) := ins_get (posC_le l (keyC c.item c.carrier)) hk
theorem insC_SL {l : List Cpy} {c : Cpy} (h : SL l) (hn : hasC l (keyC c.item c.carrier) = false) : SL (insC l c) := by
  have hs := pos_spec h (keyC c.item c.carrier)
  have hlo : ∀ j (hj : j < l.length), j < posC l (keyC c.item c.carrier) → cpyCmp l[j] c < 0 := fun j hj hh => by have := hs.1 j hj hh; rwa [cmp_key _ rfl rfl] at this
  have hp0 : ∀ hj : posC l (keyC c.item c.carrier) < l.length, cpyCmp c l[posC l (keyC c.item c.carrier)] < 0 := fun hj => by
    have h1 := hs.2 _ hj (Nat.le_refl _)
    have h2 : ¬ cpyCmp l[posC l (keyC c.item c.carrier)] (keyC c.item c.carrier) = 0 := fun hh => by rw [hasC_t hj rfl hh] at hn; simp at hn
    rw [cmp_key _ rfl rfl] at h1 h2
    rw [cpyCmp_anti]
    omega
  have hhi : ∀ j (hj : j < l.length), posC l (keyC c.item c.carrier) ≤ j → cpyCmp c l[j] < 0 := fun j hj hh => by
    by_cases e : posC l (keyC c.item c.carrier) = j
    · subst e; exact hp0 hj
    · exact cpyCmp_trans (hp0 (by omega)) (h _ j (by omega) hj (by omega))
  intro i j hi hj hij
  have hi2 := hi
  have hj2 := hj
  rw [insC_len] at hi2 hj2
  rw [insC_get hi, insC_get hj]
  by_cases i1 : i < posC l (keyC c.item c.carrier)
  · rw [dif_pos i1]
    by_cases j1 : j < posC l (keyC c.item c.carrier)
    · rw [dif_pos j1]; exact h i j _ _ hij
    · rw [dif_neg j1]
      by_cases j2 : j = posC l (keyC c.item c.carrier)
      · rw [dif_pos j2]; exact hlo i _ i1
      · rw [dif_neg j2]; exact h i (j - 1) _ _ (by omega)
  · by_cases i2 : i = posC l (keyC c.item c.carrier)
    · rw [dif_neg i1, dif_pos i2, dif_neg (show ¬ j < posC l (keyC c.item c.carrier) by omega), dif_neg (show ¬ j = posC l (keyC c.item c.carrier) by omega)]
      exact hhi (j - 1) _ (by omega)
    · rw [dif_neg i1, dif_neg i2, dif_neg (show ¬ j < posC l (keyC c.item c.carrier) by omega), dif_neg (show ¬ j = posC l (keyC c.item c.carrier) by omega)]
      exact h (i - 1) (j - 1) _ _ (by omega)
/-- What the copies keep, while transfers are made. -/
structure TS (v : Vlt) (l : List Cpy) : Prop where
  ord : SL l
  it : ∀ c ∈ l, 0 ≤ itemIdx v c.item
  ca : ∀ c ∈ l, 0 ≤ carrIdx v c.carrier
  gen : ∀ c ∈ l, 1 ≤ c.gen ∧ c.gen ≤ 100
theorem TS.of {v : Vlt} (h : VOk v) : TS v v.copies := ⟨h.lt, fun c hc => (h.cpy c hc).item, fun c hc => (h.cpy c hc).carr, fun c hc => (h.cpy c hc).gen⟩
theorem nodup_le {α : Type} [DecidableEq α] : ∀ {l m : List α}, l.Nodup → (∀ x ∈ l, x ∈ m) → l.length ≤ m.length
  | [], m, _, _ => Nat.zero_le _
  | x :: l, m, hd, hs => by
    have hx := hs x (.head _)
    have h1 := List.nodup_cons.1 hd
    have h2 : l.length ≤ (m.erase x).length := nodup_le h1.2 fun y hy => (List.mem_erase_of_ne (a := y) (b := x) (fun e : y = x => h1.1 (e ▸ hy))).2 (hs y (.tail _ hy))
    rw [List.length_erase_of_mem hx] at h2
    have h3 := List.length_pos_of_mem hx
    simp only [List.length_cons]
    omega
def pairC (c : Cpy) : List UInt8 × List UInt8 := (c.item.data.toList, c.carrier.data.toList)
theorem flat_const {α β : Type} (f : α → List β) {b : Nat} (h : ∀ x, (f x).length = b) : ∀ l : List α, (l.flatMap f).length = l.length * b
  | [] => by simp
  | x :: l => by rw [List.flatMap_cons, List.length_append, h, flat_const f h l, List.length_cons, Nat.succ_mul]; omega
theorem raw_inj {a b : ByteArray} (h : a.data.toList = b.data.toList) : a = b := by
  cases a; cases b
  congr 1
  exact Array.toList_inj.1 h
theorem idx_named {α : Type} {f : α → ByteArray} {l : List α} {nm : ByteArray} (h : 0 ≤ idxBy (fun x => decide (f x = nm)) l) : ∃ x ∈ l, f x = nm := by
  obtain ⟨k, hk, _, h2⟩ := idxBy_some h
  exact ⟨_, List.getElem_mem hk, of_decide_eq_true h2⟩
theorem TS.len {v : Vlt} {l : List Cpy} (h : TS v l) (hi : v.items.length ≤ 30) (hc : v.carrs.length ≤ 16) : l.length ≤ 480 := by
  have hnd : (l.map pairC).Nodup := by
    rw [List.nodup_iff_pairwise_ne, List.pairwise_iff_getElem]
    intro i j h1 h2 hij e
    have hi' : i < l.length := by simpa using h1
    have hj' : j < l.length := by simpa using h2
    rw [List.getElem_map, List.getElem_map] at e
    have e1 := raw_inj (congrArg Prod.fst e)
    have e2 := raw_inj (congrArg Prod.snd e)
    have h3 := h.ord i j hi' hj' hij
    rw [cpyCmp_eq e1 e2] at h3
    omega
  have hsub : ∀ x ∈ l.map pairC, x ∈ v.items.flatMap (fun a => v.carrs.map fun b => (a.name.data.toList, b.name.data.toList)) := fun x hx => by
    obtain ⟨c, hc, rfl⟩ := List.mem_map.1 hx
    obtain ⟨a, ha, ea⟩ := idx_named (h.it c hc)
    obtain ⟨b, hb, eb⟩ := idx_named (h.ca c hc)
    refine List.mem_flatMap.2 ⟨a, ha, List.mem_map.2 ⟨b, hb, ?_⟩⟩
    unfold pairC
    rw [ea, eb]
  have h1 := nodup_le hnd hsub
  rw [List.length_map, flat_const _ (b := v.carrs.length) (fun x => by simp)] at h1
  have h2 : v.items.length * v.carrs.length ≤ 30 * 16 := Nat.mul_le_mul hi hc
  omega
/-- The copy that a transfer copies, and the one that it makes. -/
def tfrFrom (v : Vlt) (t : Tfr) : Cpy := v.copies.getD (copyIdx v t.item t.frm).toNat zC
def tfrNew (v : Vlt) (t : Tfr) (day : Int) : Cpy := ⟨t.item, t.to, t.frm, day, day, (tfrFrom v t).gen + 1, []⟩
def tfrFault (v : Vlt) (t : Tfr) (day : Int) : Int :=
  if itemIdx v t.item < 0 ∨ copyIdx v t.item t.frm < 0 ∨ carrIdx v t.to < 0 then 9 else if 0 ≤ copyIdx v t.item t.to then 7
  else if 0 < (tfrFrom v t).bad.length then 11 else if day < (tfrFrom v t).day ∨ (tfrFrom v t).gen = 100 then 1
  else if (carrAt v t.to).room < usedOn v t.to + itemBlocks v t.item then 2 else 0
def tfrC (v : Vlt) (l : List Cpy) (t : Tfr) (day : Int) : List Cpy := insC l (tfrNew (withC v l) t day)
def applyTo (v : Vlt) (day : Int) : List Tfr → List Cpy → Int × List Cpy
  | [], l => (0, l)
  | t :: ts, l => if tfrFault (withC v l) t day ≠ 0 then (tfrFault (withC v l) t day, l) else applyTo v day ts (tfrC v l t day)
def applyFault (v : Vlt) (ts : List Tfr) (day : Int) : Int :=
  if checkV v ≠ 0 then checkV v else if ¬ (0 ≤ day ∧ day ≤ 200000) then 1 else if (applyTo v day ts v.copies).1 ≠ 0 then (applyTo v day ts v.copies).1 else if 200 < (applyTo v day ts v.copies).2.length then 2 else 0
def applyV (v : Vlt) (ts : List Tfr) (day : Int) : Vlt := if applyFault v ts day = 0 then withC v (applyTo v day ts v.copies).2 else ⟨[], [], []⟩
theorem TS.next {v : Vlt} {l : List Cpy} {t : Tfr} {day : Int} (h : TS v l) (hf : tfrFault (withC v l) t day = 0) : TS v (tfrC v l t day) := by
  unfold tfrFault at hf
  by_cases h1 : itemIdx (withC v l) t.item < 0 ∨ copyIdx (withC v l) t.item t.frm < 0 ∨ carrIdx (withC v l) t.to < 0
  · rw [if_pos h1] at hf; simp at hf
  rw [if_neg h1] at hf
  by_cases h2 : 0 ≤ copyIdx (withC v l) t.item t.to
  · rw [if_pos h2] at hf; simp at hf
  rw [if_neg h2] at hf
  by_cases h3 : 0 < (tfrFrom (withC v l) t).bad.length
  · rw [if_pos h3] at hf; simp at hf
  rw [if_neg h3] at hf
  by_cases h4 : day < (tfrFrom (withC v l) t).day ∨ (tfrFrom (withC v l) t).gen = 100
  · rw [if_pos h4] at hf; simp at hf
  obtain ⟨k, hk, e, _, _⟩ := idx_nonneg (v := withC v l) rfl (show 0 ≤ copyIdx (withC v l) t.item t.frm by omega)
  have hg : tfrFrom (withC v l) t ∈ l := by unfold tfrFrom; rw [e, Int.toNat_natCast, getD_at hk]; exact List.getElem_mem hk
  have hgen := h.gen _ hg
  unfold tfrC
  refine ⟨insC_SL h.ord (has_not (v := v) h.ord (show copyIdx (withC v l) t.item t.to < 0 by omega)), fun c hc => ?_, fun c hc => ?_, fun c hc => ?_⟩ <;> rcases insC_mem hc with rfl | hc
  · show 0 ≤ itemIdx v t.item; exact Int.not_lt.1 fun hh => h1 (.inl hh)
  · exact h.it c hc
  · show 0 ≤ carrIdx v t.to; exact Int.not_lt.1 fun hh => h1 (.inr (.inr hh))
  · exact h.ca c hc
  · show 1 ≤ (tfrFrom (withC v l) t).gen + 1 ∧ (tfrFrom (withC v l) t).gen + 1 ≤ 100; omega
  · exact h.gen c hc
theorem applyTo_stop {v : Vlt} {day : Int} {t : Tfr} {ts : List Tfr} {l : List Cpy} (h : tfrFault (withC v l) t day ≠ 0) : applyTo v day (t :: ts) l = (tfrFault (withC v l) t day, l) := if_pos h
theorem applyTo_go {v : Vlt} {day : Int} {t : Tfr} {ts : List Tfr} {l : List Cpy} (h : tfrFault (withC v l) t day = 0) : applyTo v day (t :: ts) l = applyTo v day ts (tfrC v l t day) := if_neg (fun hh => hh h)
/-- Where Apply stands. -/
def ApS (v : Vlt) (ts : List Tfr) (day : Int) (g : Nat × List Cpy) : Prop := g.1 ≤ ts.length ∧ TS v g.2 ∧ applyTo v day ts v.copies = applyTo v day (ts.drop g.1) g.2
theorem ApS.next {v : Vlt} {ts : List Tfr} {day : Int} {k : Nat} {l : List Cpy} (h : ApS v ts day (k, l)) (hk : k < ts.length) (hf : tfrFault (withC v l) ts[k] day = 0) : ApS v ts day (k + 1, tfrC v l ts[k] day) := by
  refine ⟨hk, h.2.1.next hf, h.2.2.trans ?_⟩
  show applyTo v day (ts.drop k) l = _
  rw [List.drop_eq_getElem_cons hk, applyTo_go hf]
theorem ApS.stop {v : Vlt} {ts : List Tfr} {day : Int} {k : Nat} {l : List Cpy} (h : ApS v ts day (k, l)) (hk : k < ts.length) (hf : tfrFault (withC v l) ts[k] day ≠ 0) : (applyTo v day ts v.copies).1 = tfrFault (withC v l) ts[k] day := by
  rw [h.2.2]
  show (applyTo v day (ts.drop k) l).1 = _
  rw [List.drop_eq_getElem_cons hk, applyTo_stop hf]
theorem ApS.all {v : Vlt} {ts : List Tfr} {day : Int} {l : List Cpy} (h : ApS v ts day (ts.length, l)) : applyTo v day ts v.copies = (0, l) := by
  rw [h.2.2]
  show applyTo v day (ts.drop ts.length) l = _
  rw [List.drop_length]
  rfl


end Go.Proofs.YtieccphckobhjaaGreatDoor


namespace Go.Proofs.YtieccphckobhjaaGreatDoor
open Go.RowKit
set_option linter.unusedVariables false

/-! Types. -/
namespace TyW16

end TyW16
open TyW16


theorem less_cb : ∀ a b : List UInt8, Op.bytesLess a b = decide (Lib.compareBytes a b < 0)
  | [], [] => rfl
  | [], _ :: _ => rfl
  | _ :: _, [] => rfl
  | x :: a, y :: b => by
    unfold Op.bytesLess Lib.compareBytes
    by_cases h1 : x < y
    · rw [if_pos h1]; simp [h1]
    · rw [if_neg h1]
      by_cases h2 : y < x
      · rw [if_pos h2]
        have e : ¬ x = y := fun e => UInt8.lt_irrefl _ (e ▸ h2)
        simp [h1, e]
      · rw [if_neg h2]
        have e : x = y := UInt8.le_antisymm (UInt8.not_lt.1 h2) (UInt8.not_lt.1 h1)
        subst e
        rw [less_cb a b]
        simp [h1]
theorem sle_lt {a b : ByteArray} (h : sle b a = false) : strCmp a b < 0 := by
  unfold sle at h
  rw [Bool.or_eq_false_iff, less_cb, ByteArray.toList_eq, ByteArray.toList_eq] at h
  have h1 : ¬ strCmp b a < 0 := of_decide_eq_false h.1
  have h2 : ¬ strCmp b a = 0 := fun e => of_decide_eq_false h.2 (strCmp_zero.1 e)
  rw [strCmp_anti]
  omega
theorem VOk.carrLt {v : Vlt} (h : VOk v) : ∀ i j (hi : i < v.carrs.length) (hj : j < v.carrs.length), i < j → strCmp v.carrs[i].name v.carrs[j].name < 0 := by
  intro i j hi hj hij
  obtain ⟨d, rfl⟩ : ∃ d, j = i + d + 1 := ⟨j - i - 1, by omega⟩
  have step : ∀ k (hk : k + 1 < v.carrs.length), strCmp v.carrs[k].name v.carrs[k + 1].name < 0 := fun k hk => by
    have h1 := ffst_all _ h.carrs (k + 1) hk
    unfold carrFault at h1
    rw [dif_pos hk] at h1
    split at h1
    · simp at h1
    · split at h1
      · simp at h1
      · rename_i h3
        cases hs : sle v.carrs[k + 1].name v.carrs[k].name with
        | false => exact sle_lt hs
        | true => exact absurd ⟨Nat.succ_pos k, hs⟩ h3
  clear hij
  induction d with
  | zero => exact step i hj
  | succ d ih => exact strCmp_trans (ih (by omega) step) (step (i + d + 1) hj)
theorem VOk.carrInj {v : Vlt} (h : VOk v) {i j : Nat} (hi : i < v.carrs.length) (hj : j < v.carrs.length) (he : v.carrs[i].name = v.carrs[j].name) : i = j := by
  rcases Nat.lt_trichotomy i j with hh | hh | hh
  · have := h.carrLt i j hi hj hh
    rw [he, strCmp_self] at this; omega
  · exact hh
  · have := h.carrLt j i hj hi hh
    rw [he, strCmp_self] at this; omega
/-- Room by name. -/
def roomM (v : Vlt) (r : List Int) : List (Value × D) := List.zipWith (fun (c : Carr) (n : Int) => (Value.string c.name, D.v (.int .i64 n))) v.carrs r
theorem roomM_get? {v : Vlt} {r : List Int} {i : Nat} (hi : i < v.carrs.length) (hr : i < r.length) : (roomM v r)[i]? = some (.string v.carrs[i].name, .v (.int .i64 r[i])) := by
  unfold roomM
  rw [List.getElem?_zipWith, List.getElem?_eq_getElem hi, List.getElem?_eq_getElem hr]
theorem roomM_in {v : Vlt} {r : List Int} {j : Nat} {p : Value × D} (h : (roomM v r)[j]? = some p) : ∃ hj : j < v.carrs.length, j < r.length ∧ p.1 = .string v.carrs[j].name := by
  have hl : j < (roomM v r).length := (List.getElem?_eq_some_iff.1 h).1
  have hl2 : j < v.carrs.length ∧ j < r.length := by unfold roomM at hl; simp at hl; omega
  rw [roomM_get? hl2.1 hl2.2] at h
  exact ⟨hl2.1, hl2.2, by rw [← Option.some.inj h]⟩
theorem roomM_keys {v : Vlt} {r : List Int} : ∀ p ∈ roomM v r, MapKept.IsKey .string p.1 := fun p hp => by
  obtain ⟨j, hj⟩ := List.mem_iff_getElem?.1 hp
  obtain ⟨_, _, h⟩ := roomM_in hj
  rw [h]
  trivial
theorem roomM_one {v : Vlt} (vo : VOk v) {r : List Int} {i : Nat} (hi : i < v.carrs.length) : ∀ (j : Nat) (p : Value × D), (roomM v r)[j]? = some p → p.1 = .string v.carrs[i].name → j = i := fun j p h he => by
  obtain ⟨hj, _, h2⟩ := roomM_in h
  rw [h2] at he
  exact vo.carrInj hj hi (by injection he)
theorem roomM_look {v : Vlt} (vo : VOk v) {r : List Int} {i : Nat} (hi : i < v.carrs.length) (hr : i < r.length) {z : D} : MGet (roomM v r) (.string v.carrs[i].name) z (.v (.int .i64 r[i])) := .inl ⟨i, roomM_get? hi hr, roomM_one vo hi⟩
theorem roomM_put {v : Vlt} (vo : VOk v) {r : List Int} {i : Nat} (hi : i < v.carrs.length) (hr : i < r.length) (n : Int) : MPut (roomM v r) (.string v.carrs[i].name) (.v (.int .i64 n)) (roomM v (r.set i n)) := by
  refine .inl ⟨i, _, roomM_get? hi hr, roomM_one vo hi, ?_⟩
  apply List.ext_getElem?
  intro j
  rw [List.getElem?_set]
  by_cases h : i = j
  · subst h
    rw [if_pos rfl, roomM_get? hi (by rw [List.length_set]; exact hr), List.getElem_set_self, if_pos]
    unfold roomM
    simp
    omega
  · rw [if_neg h]
    unfold roomM
    rw [List.getElem?_zipWith, List.getElem?_zipWith, List.getElem?_set_ne h]
theorem roomM_add {v : Vlt} (vo : VOk v) {r : List Int} {k : Nat} (hk : k < v.carrs.length) (hr : k < r.length) : MPut (roomM v (r.take k)) (.string v.carrs[k].name) (.v (.int .i64 r[k])) (roomM v (r.take (k + 1))) := by
  refine .inr ⟨fun p hp he => ?_, ?_⟩
  · obtain ⟨j, hj⟩ := List.mem_iff_getElem?.1 hp
    obtain ⟨h1, h2, h3⟩ := roomM_in hj
    rw [h3] at he
    have := vo.carrInj h1 hk (by injection he)
    rw [List.length_take] at h2
    omega
  · unfold roomM
    obtain ⟨c, hc, hl⟩ : ∃ c, v.carrs = c ∧ k < c.length := ⟨_, rfl, hk⟩
    apply List.ext_getElem?
    intro j
    rw [List.getElem?_zipWith]
    by_cases h : j < k
    · rw [List.getElem?_append_left (by simp; omega), List.getElem?_zipWith, List.getElem?_take, if_pos (by omega), List.getElem?_take, if_pos h]
    · rw [List.getElem?_append_right (by simp; omega)]
      have hlen : (List.zipWith (fun (c : Carr) (n : Int) => (Value.string c.name, D.v (.int .i64 n))) v.carrs (r.take k)).length = k := by simp; omega
      rw [hlen]
      by_cases h2 : j = k
      · subst h2
        rw [List.getElem?_take, if_pos (by omega), List.getElem?_eq_getElem hk, List.getElem?_eq_getElem hr, Nat.sub_self]
        rfl
      · rw [List.getElem?_take, if_neg (by omega), List.getElem?_eq_none (l := [_]) (by simp; omega)]
        cases v.carrs[j]? <;> rfl


end Go.Proofs.YtieccphckobhjaaGreatDoor
