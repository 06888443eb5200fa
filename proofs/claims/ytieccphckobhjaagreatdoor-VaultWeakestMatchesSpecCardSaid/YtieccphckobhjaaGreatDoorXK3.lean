/- Walks and laws over abstract values, merged by tools/merge.py. No statement of the seat. -/
import Derived.Test.YtieccphckobhjaaGreatDoorXK2

namespace Go.Proofs.YtieccphckobhjaaGreatDoor
open Go.RowKit
set_option linter.unusedVariables false

/-! Types. -/
namespace TyC3
theorem ag_26 : AggT Tryz.prog 26 3 := .of (by kernel_rfl)
theorem ag_65 : AggT Tryz.prog 65 7 := .of (by kernel_rfl)
theorem bt_4 : Tryz.prog.underlying 4 = some .bool := by kernel_rfl
theorem et_22 : ElemTy Tryz.prog 22 62 2 24 (.agg #[(.string ⟨#[]⟩), (.int .i64 0)]) := ⟨by kernel_rfl, by kernel_rfl, by kernel_rfl, by decide⟩
theorem et_63 : ElemTy Tryz.prog 63 3 1 8 (.int .i64 0) := ⟨by kernel_rfl, by kernel_rfl, by kernel_rfl, by decide⟩
theorem fo_26_0 : fieldOff Tryz.prog 26 0 = some 0 := by kernel_rfl
theorem fo_62_1 : fieldOff Tryz.prog 62 1 = some 1 := by kernel_rfl
theorem fo_65_0 : fieldOff Tryz.prog 65 0 = some 0 := by kernel_rfl
theorem fo_65_1 : fieldOff Tryz.prog 65 1 = some 1 := by kernel_rfl
theorem fo_65_2 : fieldOff Tryz.prog 65 2 = some 2 := by kernel_rfl
theorem fo_65_3 : fieldOff Tryz.prog 65 3 = some 3 := by kernel_rfl
theorem fo_65_4 : fieldOff Tryz.prog 65 4 = some 4 := by kernel_rfl
theorem fo_65_5 : fieldOff Tryz.prog 65 5 = some 5 := by kernel_rfl
theorem fo_65_6 : fieldOff Tryz.prog 65 6 = some 6 := by kernel_rfl
theorem pt_135 : Tryz.prog.underlying 135 = some (.pointer 65) := by kernel_rfl
theorem sc_22 : Scal Tryz.prog 22 := .of (by kernel_rfl)
theorem sc_3 : Scal Tryz.prog 3 := .of (by kernel_rfl)
theorem sc_63 : Scal Tryz.prog 63 := .of (by kernel_rfl)
theorem sc_9 : Scal Tryz.prog 9 := .of (by kernel_rfl)
end TyC3
open TyC3


def orI (l : List Int) : Int := (l.find? fun x => decide (x ≠ 0)).getD 0
theorem orI_yes {l : List Int} {k : Nat} (hk : k < l.length) (h : ∀ c ∈ l.take k, decide (c ≠ 0) = false) (h2 : l[k] ≠ 0) : orI l = l[k] := by
  unfold orI
  have e : l = l.take k ++ l[k] :: l.drop (k + 1) := by rw [← List.drop_eq_getElem_cons hk, List.take_append_drop]
  have h3 : (l.take k).find? (fun x => decide (x ≠ 0)) = none := List.find?_eq_none.2 fun x hx => by rw [h x hx]; simp
  have h4 : l.find? (fun x => decide (x ≠ 0)) = some l[k] := by
    have : (l.take k ++ l[k] :: l.drop (k + 1)).find? (fun x => decide (x ≠ 0)) = some l[k] := by
      rw [List.find?_append, h3, List.find?_cons, decide_eq_true h2]; rfl
    rw [← e] at this; exact this
  rw [h4]; rfl
theorem orI_no {l : List Int} (h : ∀ c ∈ l.take l.length, decide (c ≠ 0) = false) : orI l = 0 := by
  unfold orI
  rw [List.find?_eq_none.2 fun x hx => by rw [h x (by rw [List.take_length]; exact hx)]; simp]
  rfl
theorem orI_cpy (a b : Cpy) : orI [strCmp a.item b.item, strCmp a.carrier b.carrier] = cpyCmp a b := by
  unfold cpyCmp
  by_cases h : a.item = b.item
  · rw [if_pos h]
    have h1 : strCmp a.item b.item = 0 := strCmp_zero.2 h
    by_cases h2 : strCmp a.carrier b.carrier = 0 <;> simp [orI, h1, h2]
  · rw [if_neg h]
    have h1 : strCmp a.item b.item ≠ 0 := fun hh => h (strCmp_zero.1 hh)
    simp [orI, h1]


set_option maxRecDepth 100000 in
set_option maxHeartbeats 1000000 in
theorem c_or (l : List Int) : ACall Tryz.prog 62 [.sl (l.map intD)] (.v (.int .i64 (orI l))) := by
  refine acall_of (n := 18) (ds' := [.v (.int .i64 (orI l))]) Tryz.func62 rfl (by kernel_rfl) rfl [2] rfl rfl ?_
  intro B w0 F0 fr
  refine AWP.bound 0 rfl (fun hbd0 => ?_)
  rw [List.length_map] at hbd0
  refine AWP.seq (AWP.region ?_)
  refine AOps.aD rfl rfl rfl rfl rfl (.nil ?_)
  refine AWP.seq (AWP.region ?_)
  refine AOps.aD rfl rfl rfl rfl rfl (.nil ?_)
  refine AWP.seq ?_
  refine AWP.seq (AWP.region ?_)
  refine AOps.mD rfl rfl rfl rfl rfl ?_
  refine AOps.step rfl rfl rfl (AOp.lenSl rfl et_63.ht rfl) ?_
  refine AOps.mD rfl rfl rfl rfl rfl (.nil ?_)
  refine AWP.block ?_
  refine AWP.loop (G := Nat) (fun k => Env.of [(8, .d (.v (.int .i64 (k : Int)))), (6, .d (.sl (l.map intD))), (7, .d (.v (.int .i64 ((l.map intD).length : Int)))), (3, .d (.v (.int .i64 0)))]) (fun k => []) (fun k => k ≤ l.length ∧ ∀ c ∈ l.take k, decide (c ≠ 0) = false) (fun k => l.length - k) 0 ⟨Nat.zero_le _, fun c h => by simp at h⟩ (Sub.less ⟨(SLe.of_eq rfl), SLe.refl _, SLe.refl _, SLe.refl _, trivial⟩ (fun _ h => h)) ?_
  intro k hk
  refine AWP.seq (AWP.region ?_)
  refine AOps.step rfl rfl rfl (AOp.lss rfl rfl rfl) (.nil ?_)
  refine AWP.seq ?_
  refine AWP.cond rfl (fun h1 => ?_) (fun h1 => ?_)
  · replace h1 := of_decide_eq_true h1
    rw [List.length_map] at h1
    have hlt : k < l.length := by omega
    refine AWP.skip ?_
    refine AWP.seq ?_
    refine AWP.block ?_
    refine AWP.seq (AWP.region ?_)
    refine AOps.step rfl rfl rfl (AOp.indexAddr rfl et_63 rfl rfl k rfl (at_list hlt) rfl) ?_
    refine AOps.step rfl rfl rfl (AOp.load rfl sc_3 rfl) ?_
    refine AOps.aD rfl rfl rfl rfl rfl (.nil ?_)
    refine AWP.seq (AWP.region ?_)
    refine AOps.mD rfl rfl rfl rfl rfl ?_
    refine AOps.mD rfl rfl rfl rfl rfl ?_
    refine AOps.step rfl rfl rfl (AOp.neq rfl rfl rfl) (.nil ?_)
    refine AWP.cond rfl (fun h2 => ?_) (fun h2 => ?_)
    · replace h2 := of_decide_eq_true h2
      rw [orI_yes hlt hk.2 h2]
      refine AWP.seq (AWP.region ?_)
      refine AOps.mD rfl rfl rfl rfl rfl ?_
      refine AOps.aD rfl rfl rfl rfl rfl (.nil ?_)
      refine AWP.ret ?_
      refine ⟨RetD.eq rfl ?_, trivial⟩
      all_goals (rfl)
    replace h2 := of_decide_eq_false h2
    have hT := take_false' (p := fun x : Int => decide (x ≠ 0)) hlt hk.2 (decide_eq_false h2)
    refine AWP.skip ?_
    refine AWP.region ?_
    refine AOps.step rfl rfl rfl (AOp.add64 rfl rfl rfl (by omega) (by omega)) ?_
    refine AOps.mD rfl rfl rfl rfl rfl (.nil ?_)
    refine ⟨k + 1, ⟨by omega, hT⟩, (by dsimp only; omega), Sub.less ⟨(SLe.of_eq rfl), SLe.refl _, SLe.refl _, SLe.refl _, trivial⟩ (fun _ h => h)⟩
  replace h1 := of_decide_eq_false h1
  rw [List.length_map] at h1
  rw [orI_no (fun c hc => hk.2 c (by rw [show k = l.length by omega]; exact hc))]
  refine AWP.exit ?_
  refine AWP.seq (AWP.region ?_)
  refine AOps.mD rfl rfl rfl rfl rfl ?_
  refine AOps.aD rfl rfl rfl rfl rfl (.nil ?_)
  refine AWP.ret ?_
  refine ⟨RetD.eq rfl ?_, trivial⟩
  all_goals (rfl)

set_option maxRecDepth 100000 in
set_option maxHeartbeats 1000000 in
theorem c_cmpCopies (a b : Cpy) : ACall Tryz.prog 80 [.agg a.ds, .agg b.ds] (.v (.int .i64 (cpyCmp a b))) := by
  refine acall_of (n := 17) (ds' := [.v (.int .i64 (cpyCmp a b))]) Tryz.func80 rfl (by kernel_rfl) rfl [4] rfl rfl ?_
  intro B w0 F0 fr
  refine AWP.seq (AWP.region ?_)
  refine AOps.step rfl rfl rfl (AOp.box rfl rfl rfl) ?_
  refine AOps.step rfl rfl rfl (AOp.box rfl rfl rfl) ?_
  refine AOps.aD rfl rfl rfl rfl rfl (.nil ?_)
  refine AWP.seq ?_
  refine AWP.draw (by kernel_rfl) (by kernel_rfl) ?_
  refine DRun.step rfl rfl rfl (AOp.fieldAddr rfl fo_65_0 rfl) ?_
  refine DRun.step rfl rfl rfl (AOp.load rfl sc_9 rfl) ?_
  refine DRun.step rfl rfl rfl (AOp.fieldAddr rfl fo_65_0 rfl) ?_
  refine DRun.step rfl rfl rfl (AOp.load rfl sc_9 rfl) ?_
  refine DRun.step rfl rfl rfl (AOp.call rfl (.cons (ArgOk.rfl' rfl) (.cons (ArgOk.rfl' rfl) .nil)) (c_strCmp _ _)) ?_
  refine DRun.step rfl rfl rfl (AOp.fieldAddr rfl fo_65_1 rfl) ?_
  refine DRun.step rfl rfl rfl (AOp.load rfl sc_9 rfl) ?_
  refine DRun.step rfl rfl rfl (AOp.fieldAddr rfl fo_65_1 rfl) ?_
  refine DRun.step rfl rfl rfl (AOp.load rfl sc_9 rfl) ?_
  refine DRun.step rfl rfl rfl (AOp.call rfl (.cons (ArgOk.rfl' rfl) (.cons (ArgOk.rfl' rfl) .nil)) (c_strCmp _ _)) ?_
  refine DRun.step rfl rfl rfl (AOp.buildSlice rfl et_63 (.cons rfl rfl rfl (.cons rfl rfl rfl .nil)) rfl (by decide)) ?_
  refine DRun.step rfl rfl rfl (AOp.call rfl (.cons (ArgOk.rfl' rfl) .nil) (c_or [strCmp a.item b.item, strCmp a.carrier b.carrier])) ?_
  refine DRun.step rfl rfl rfl (AOp.assignD rfl rfl) ?_
  refine DRun.nil ?_
  refine AWP.ret ?_
  refine ⟨RetD.eq rfl ?_, trivial⟩
  all_goals (rw [orI_cpy])

set_option maxRecDepth 100000 in
set_option maxHeartbeats 1000000 in
theorem c_order (a b : Cpy) : ACall Tryz.prog 93 [.agg a.ds, .agg b.ds] (.v (.int .i64 (cpyCmp a b))) := by
  refine acall_of (n := 20) (ds' := [.v (.int .i64 (cpyCmp a b))]) Tryz.func93 rfl (by kernel_rfl) rfl [4] rfl rfl ?_
  intro B w0 F0 fr
  refine AWP.seq (AWP.region ?_)
  refine AOps.step rfl rfl rfl (AOp.box rfl rfl rfl) ?_
  refine AOps.step rfl rfl rfl (AOp.box rfl rfl rfl) ?_
  refine AOps.aD rfl rfl rfl rfl rfl (.nil ?_)
  refine AWP.seq ?_
  refine AWP.seq (AWP.region ?_)
  refine AOps.step rfl rfl rfl (AOp.fieldAddr rfl fo_65_0 rfl) ?_
  refine AOps.step rfl rfl rfl (AOp.load rfl sc_9 rfl) ?_
  refine AOps.step rfl rfl rfl (AOp.fieldAddr rfl fo_65_0 rfl) ?_
  refine AOps.step rfl rfl rfl (AOp.load rfl sc_9 rfl) ?_
  refine AOps.step rfl rfl rfl (AOp.sneq rfl rfl rfl) (.nil ?_)
  refine AWP.cond rfl (fun h1 => ?_) (fun h1 => ?_)
  · replace h1 := of_decide_eq_true h1
    have HR : cpyCmp a b = strCmp a.item b.item := if_neg h1
    rw [HR]
    refine AWP.seq (AWP.region ?_)
    refine AOps.step rfl rfl rfl (AOp.fieldAddr rfl fo_65_0 rfl) ?_
    refine AOps.step rfl rfl rfl (AOp.load rfl sc_9 rfl) ?_
    refine AOps.step rfl rfl rfl (AOp.fieldAddr rfl fo_65_0 rfl) ?_
    refine AOps.step rfl rfl rfl (AOp.load rfl sc_9 rfl) ?_
    refine AOps.step rfl rfl rfl (AOp.call rfl (.cons (ArgOk.rfl' rfl) (.cons (ArgOk.rfl' rfl) .nil)) (c_strCmp _ _)) ?_
    refine AOps.aD rfl rfl rfl rfl rfl (.nil ?_)
    refine AWP.ret ?_
    refine ⟨RetD.eq rfl ?_, trivial⟩
    all_goals (rfl)
  replace h1 := of_decide_eq_false h1
  have HR : cpyCmp a b = strCmp a.carrier b.carrier := if_pos (Decidable.not_not.1 h1)
  rw [HR]
  refine AWP.skip ?_
  refine AWP.seq (AWP.region ?_)
  refine AOps.step rfl rfl rfl (AOp.fieldAddr rfl fo_65_1 rfl) ?_
  refine AOps.step rfl rfl rfl (AOp.load rfl sc_9 rfl) ?_
  refine AOps.step rfl rfl rfl (AOp.fieldAddr rfl fo_65_1 rfl) ?_
  refine AOps.step rfl rfl rfl (AOp.load rfl sc_9 rfl) ?_
  refine AOps.step rfl rfl rfl (AOp.call rfl (.cons (ArgOk.rfl' rfl) (.cons (ArgOk.rfl' rfl) .nil)) (c_strCmp _ _)) ?_
  refine AOps.aD rfl rfl rfl rfl rfl (.nil ?_)
  refine AWP.ret ?_
  refine ⟨RetD.eq rfl ?_, trivial⟩
  all_goals (rfl)

set_option maxRecDepth 100000 in
set_option maxHeartbeats 1000000 in
theorem c_pCopyN (v : Vlt) (c : Cpy) (hv : okItems v) : ACall Tryz.prog 85 [.agg v.ds, .agg c.ds, .v (.pointer none)] (.v (.int .i64 (cpyFault v c none))) := by
  refine acall_of (n := 110) (ds' := [.v (.int .i64 (cpyFault v c none))]) Tryz.func85 rfl (by kernel_rfl) rfl [6] rfl rfl ?_
  intro B w0 F0 fr
  refine AWP.seq (AWP.region ?_)
  refine AOps.step rfl rfl rfl (AOp.box rfl rfl rfl) ?_
  refine AOps.step rfl rfl rfl (AOp.box rfl rfl rfl) ?_
  refine AOps.aD rfl rfl rfl rfl rfl (.nil ?_)
  refine AWP.seq (AWP.region ?_)
  refine AOps.step rfl rfl rfl (AOp.loadAgg rfl ag_26 rfl rfl) ?_
  refine AOps.step rfl rfl rfl (AOp.fieldAddr rfl fo_65_0 rfl) ?_
  refine AOps.step rfl rfl rfl (AOp.load rfl sc_9 rfl) ?_
  refine AOps.step rfl rfl rfl (AOp.call rfl (.cons (ArgOk.rfl' rfl) (.cons (ArgOk.rfl' rfl) .nil)) (c_itemAt _ _)) ?_
  refine AOps.aD rfl rfl rfl rfl rfl (.nil ?_)
  refine AWP.seq ?_
  refine AWP.block ?_
  refine AWP.seq (AWP.region ?_)
  refine AOps.mD rfl rfl rfl rfl rfl ?_
  refine AOps.step rfl rfl rfl (AOp.lss rfl rfl rfl) ?_
  refine AOps.mD rfl rfl rfl rfl rfl ?_
  refine AOps.split 17 rfl (fun g1 => ?_) (fun g1 => ?_)
  · replace g1 := of_decide_eq_true g1
    have HF : cpyFault v c none = 9 := (if_pos (.inl g1))
    refine AOps.pass ⟨17, rfl, .inl ⟨_, rfl, rfl⟩⟩ rfl rfl ?_
    refine AOps.pass ⟨17, rfl, .inl ⟨_, rfl, rfl⟩⟩ rfl rfl ?_
    refine AOps.pass ⟨17, rfl, .inl ⟨_, rfl, rfl⟩⟩ rfl rfl ?_
    refine AOps.pass ⟨17, rfl, .inl ⟨_, rfl, rfl⟩⟩ rfl rfl ?_
    refine AOps.pass ⟨17, rfl, .inl ⟨_, rfl, rfl⟩⟩ rfl rfl ?_
    refine AOps.step rfl rfl rfl (AOp.pickT rfl rfl rfl) ?_
    refine AOps.aD rfl rfl rfl rfl rfl (.nil ?_)
    refine AWP.cond rfl (fun _ => ?_) (fun h => nomatch h)
    refine AWP.seq (AWP.region ?_)
    refine AOps.aD rfl rfl rfl rfl rfl (.nil ?_)
    refine AWP.ret ?_
    refine ⟨RetD.eq rfl ?_, trivial⟩
    all_goals (rw [HF])
  replace g1 := of_decide_eq_false g1
  have hi1 := g1
  refine AOps.step ⟨17, rfl, .inl ⟨_, rfl, rfl⟩⟩ rfl rfl (AOp.loadAgg rfl ag_26 rfl rfl) ?_
  refine AOps.step ⟨17, rfl, .inl ⟨_, rfl, rfl⟩⟩ rfl rfl (AOp.fieldAddr rfl fo_65_1 rfl) ?_
  refine AOps.step ⟨17, rfl, .inl ⟨_, rfl, rfl⟩⟩ rfl rfl (AOp.load rfl sc_9 rfl) ?_
  refine AOps.step ⟨17, rfl, .inl ⟨_, rfl, rfl⟩⟩ rfl rfl (AOp.call rfl (.cons (ArgOk.rfl' rfl) (.cons (ArgOk.rfl' rfl) .nil)) (c_carrAt _ _)) ?_
  refine AOps.step ⟨17, rfl, .inl ⟨_, rfl, rfl⟩⟩ rfl rfl (AOp.lss rfl rfl rfl) ?_
  refine AOps.step rfl rfl rfl (AOp.pickF rfl rfl rfl) ?_
  refine AOps.aD rfl rfl rfl rfl rfl (.nil ?_)
  refine AWP.cond rfl (fun h2 => ?_) (fun h2 => ?_)
  · replace h2 := of_decide_eq_true h2
    have HF : cpyFault v c none = 9 := (if_pos (.inr h2))
    refine AWP.seq (AWP.region ?_)
    refine AOps.aD rfl rfl rfl rfl rfl (.nil ?_)
    refine AWP.ret ?_
    refine ⟨RetD.eq rfl ?_, trivial⟩
    all_goals (rw [HF])
  replace h2 := of_decide_eq_false h2
  have hA : ¬ (itemIdx v c.item < 0 ∨ carrIdx v c.carrier < 0) := by omega
  have hB : ¬ (∃ b, (none : Option Cpy) = some b ∧ 0 ≤ cpyCmp b c) := by simp
  obtain ⟨ki, hki, eki, _⟩ := idxBy_some (show 0 ≤ itemIdx v c.item by omega)
  have hbi := hv _ (List.getElem_mem hki)
  have hib := itemBlocks_at hki eki
  refine AWP.seq ?_
  refine AWP.draw (by kernel_rfl) (by kernel_rfl) ?_
  refine DRun.step rfl rfl rfl (AOp.moveD rfl rfl) ?_
  refine DRun.step rfl rfl rfl (AOp.nilNe rfl pt_135 rfl rfl) ?_
  refine DRun.step rfl rfl rfl (AOp.moveD rfl rfl) ?_
  refine DRun.pass ⟨27, rfl, .inl ⟨_, rfl, rfl⟩⟩ rfl rfl ?_
  refine DRun.pass ⟨27, rfl, .inl ⟨_, rfl, rfl⟩⟩ rfl rfl ?_
  refine DRun.pass ⟨27, rfl, .inl ⟨_, rfl, rfl⟩⟩ rfl rfl ?_
  refine DRun.pass ⟨27, rfl, .inl ⟨_, rfl, rfl⟩⟩ rfl rfl ?_
  refine DRun.pass ⟨27, rfl, .inl ⟨_, rfl, rfl⟩⟩ rfl rfl ?_
  refine DRun.pass ⟨27, rfl, .inl ⟨_, rfl, rfl⟩⟩ rfl rfl ?_
  refine DRun.step rfl rfl rfl (AOp.pickF rfl rfl rfl) ?_
  refine DRun.step rfl rfl rfl (AOp.assignD rfl rfl) ?_
  refine DRun.nil ?_
  refine AWP.cond rfl (fun h => nomatch h) (fun _ => ?_)
  refine AWP.seq (AWP.region ?_)
  refine AOps.step rfl rfl rfl (AOp.fieldAddr rfl fo_65_2 rfl) ?_
  refine AOps.step rfl rfl rfl (AOp.load rfl sc_9 rfl) ?_
  refine AOps.step rfl rfl rfl (AOp.sneq rfl rfl rfl) ?_
  refine AOps.mD rfl rfl rfl rfl rfl ?_
  refine AOps.split 39 rfl (fun g3 => ?_) (fun g3 => ?_)
  · replace g3 := of_decide_eq_true g3
    refine AOps.step ⟨39, rfl, .inl ⟨_, rfl, rfl⟩⟩ rfl rfl (AOp.loadAgg rfl ag_26 rfl rfl) ?_
    refine AOps.step ⟨39, rfl, .inl ⟨_, rfl, rfl⟩⟩ rfl rfl (AOp.fieldAddr rfl fo_65_2 rfl) ?_
    refine AOps.step ⟨39, rfl, .inl ⟨_, rfl, rfl⟩⟩ rfl rfl (AOp.load rfl sc_9 rfl) ?_
    refine AOps.step ⟨39, rfl, .inl ⟨_, rfl, rfl⟩⟩ rfl rfl (AOp.call rfl (.cons (ArgOk.rfl' rfl) (.cons (ArgOk.rfl' rfl) .nil)) (c_carrAt _ _)) ?_
    refine AOps.step ⟨39, rfl, .inl ⟨_, rfl, rfl⟩⟩ rfl rfl (AOp.lss rfl rfl rfl) ?_
    refine AOps.step rfl rfl rfl (AOp.pickT rfl rfl rfl) ?_
    refine AOps.aD rfl rfl rfl rfl rfl (.nil ?_)
    refine AWP.cond rfl (fun h4 => ?_) (fun h4 => ?_)
    · replace h4 := of_decide_eq_true h4
      have HF : cpyFault v c none = 9 := ((if_neg hA).trans ((if_neg hB).trans (if_pos ⟨by assumption, h4⟩)))
      refine AWP.seq (AWP.region ?_)
      refine AOps.aD rfl rfl rfl rfl rfl (.nil ?_)
      refine AWP.ret ?_
      refine ⟨RetD.eq rfl ?_, trivial⟩
      all_goals (rw [HF])
    replace h4 := of_decide_eq_false h4
    have hC : ¬ (c.frm ≠ ⟨#[]⟩ ∧ carrIdx v c.frm < 0) := fun hh => h4 hh.2
    refine AWP.seq (AWP.region ?_)
    refine AOps.step rfl rfl rfl (AOp.fieldAddr rfl fo_65_2 rfl) ?_
    refine AOps.step rfl rfl rfl (AOp.load rfl sc_9 rfl) ?_
    refine AOps.step rfl rfl rfl (AOp.fieldAddr rfl fo_65_1 rfl) ?_
    refine AOps.step rfl rfl rfl (AOp.load rfl sc_9 rfl) ?_
    refine AOps.step rfl rfl rfl (AOp.seql rfl rfl rfl) ?_
    refine AOps.aD rfl rfl rfl rfl rfl (.nil ?_)
    refine AWP.cond rfl (fun h5 => ?_) (fun h5 => ?_)
    · replace h5 := of_decide_eq_true h5
      have HF : cpyFault v c none = 12 := ((if_neg hA).trans ((if_neg hB).trans ((if_neg hC).trans (if_pos h5))))
      refine AWP.seq (AWP.region ?_)
      refine AOps.aD rfl rfl rfl rfl rfl (.nil ?_)
      refine AWP.ret ?_
      refine ⟨RetD.eq rfl ?_, trivial⟩
      all_goals (rw [HF])
    replace h5 := of_decide_eq_false h5
    have hDD := h5
    refine AWP.seq (AWP.region ?_)
    refine AOps.step rfl rfl rfl (AOp.fieldAddr rfl fo_65_3 rfl) ?_
    refine AOps.step rfl rfl rfl (AOp.load rfl sc_3 rfl) ?_
    refine AOps.step rfl rfl rfl (AOp.call rfl (.cons (ArgOk.rfl' rfl) .nil) (c_pDay _)) ?_
    refine AOps.step rfl rfl rfl (AOp.not rfl rfl) ?_
    refine AOps.mD rfl rfl rfl rfl rfl ?_
    refine AOps.split 57 rfl (fun g6 => ?_) (fun g6 => ?_)
    · replace g6 := bnot_t g6; replace g6 := of_decide_eq_false g6
      have HF : cpyFault v c none = 1 := ((if_neg hA).trans ((if_neg hB).trans ((if_neg hC).trans ((if_neg hDD).trans (if_pos (.inl g6))))))
      refine AOps.pass ⟨57, rfl, .inl ⟨_, rfl, rfl⟩⟩ rfl rfl ?_
      refine AOps.pass ⟨57, rfl, .inl ⟨_, rfl, rfl⟩⟩ rfl rfl ?_
      refine AOps.pass ⟨57, rfl, .inl ⟨_, rfl, rfl⟩⟩ rfl rfl ?_
      refine AOps.pass ⟨57, rfl, .inl ⟨_, rfl, rfl⟩⟩ rfl rfl ?_
      refine AOps.pass ⟨57, rfl, .inl ⟨_, rfl, rfl⟩⟩ rfl rfl ?_
      refine AOps.pass ⟨57, rfl, .inl ⟨_, rfl, rfl⟩⟩ rfl rfl ?_
      refine AOps.step rfl rfl rfl (AOp.pickT rfl rfl rfl) ?_
      refine AOps.mD rfl rfl rfl rfl rfl ?_
      refine AOps.pass ⟨65, rfl, .inl ⟨_, rfl, rfl⟩⟩ rfl rfl ?_
      refine AOps.pass ⟨65, rfl, .inl ⟨_, rfl, rfl⟩⟩ rfl rfl ?_
      refine AOps.pass ⟨65, rfl, .inl ⟨_, rfl, rfl⟩⟩ rfl rfl ?_
      refine AOps.pass ⟨65, rfl, .inl ⟨_, rfl, rfl⟩⟩ rfl rfl ?_
      refine AOps.step rfl rfl rfl (AOp.pickT rfl rfl rfl) ?_
      refine AOps.aD rfl rfl rfl rfl rfl (.nil ?_)
      refine AWP.cond rfl (fun _ => ?_) (fun h => nomatch h)
      refine AWP.seq (AWP.region ?_)
      refine AOps.aD rfl rfl rfl rfl rfl (.nil ?_)
      refine AWP.ret ?_
      refine ⟨RetD.eq rfl ?_, trivial⟩
      all_goals (rw [HF])
    replace g6 := bnot_f g6; replace g6 := of_decide_eq_true g6
    have he1 := g6
    refine AOps.step ⟨57, rfl, .inl ⟨_, rfl, rfl⟩⟩ rfl rfl (AOp.fieldAddr rfl fo_65_4 rfl) ?_
    refine AOps.step ⟨57, rfl, .inl ⟨_, rfl, rfl⟩⟩ rfl rfl (AOp.load rfl sc_3 rfl) ?_
    refine AOps.step ⟨57, rfl, .inl ⟨_, rfl, rfl⟩⟩ rfl rfl (AOp.fieldAddr rfl fo_65_3 rfl) ?_
    refine AOps.step ⟨57, rfl, .inl ⟨_, rfl, rfl⟩⟩ rfl rfl (AOp.load rfl sc_3 rfl) ?_
    refine AOps.step ⟨57, rfl, .inl ⟨_, rfl, rfl⟩⟩ rfl rfl (AOp.call rfl (.cons (ArgOk.rfl' rfl) (.cons (ArgOk.rfl' rfl) (.cons (ArgOk.rfl' rfl) .nil))) (c_pWithin _ _ _)) ?_
    refine AOps.step ⟨57, rfl, .inl ⟨_, rfl, rfl⟩⟩ rfl rfl (AOp.not rfl rfl) ?_
    refine AOps.step rfl rfl rfl (AOp.pickF rfl rfl rfl) ?_
    refine AOps.mD rfl rfl rfl rfl rfl ?_
    refine AOps.split 65 rfl (fun g7 => ?_) (fun g7 => ?_)
    · replace g7 := bnot_t g7; replace g7 := of_decide_eq_false g7
      have HF : cpyFault v c none = 1 := ((if_neg hA).trans ((if_neg hB).trans ((if_neg hC).trans ((if_neg hDD).trans (if_pos (.inr (.inl g7)))))))
      refine AOps.pass ⟨65, rfl, .inl ⟨_, rfl, rfl⟩⟩ rfl rfl ?_
      refine AOps.pass ⟨65, rfl, .inl ⟨_, rfl, rfl⟩⟩ rfl rfl ?_
      refine AOps.pass ⟨65, rfl, .inl ⟨_, rfl, rfl⟩⟩ rfl rfl ?_
      refine AOps.pass ⟨65, rfl, .inl ⟨_, rfl, rfl⟩⟩ rfl rfl ?_
      refine AOps.step rfl rfl rfl (AOp.pickT rfl rfl rfl) ?_
      refine AOps.aD rfl rfl rfl rfl rfl (.nil ?_)
      refine AWP.cond rfl (fun _ => ?_) (fun h => nomatch h)
      refine AWP.seq (AWP.region ?_)
      refine AOps.aD rfl rfl rfl rfl rfl (.nil ?_)
      refine AWP.ret ?_
      refine ⟨RetD.eq rfl ?_, trivial⟩
      all_goals (rw [HF])
    replace g7 := bnot_f g7; replace g7 := of_decide_eq_true g7
    have he2 := g7
    refine AOps.step ⟨65, rfl, .inl ⟨_, rfl, rfl⟩⟩ rfl rfl (AOp.fieldAddr rfl fo_65_5 rfl) ?_
    refine AOps.step ⟨65, rfl, .inl ⟨_, rfl, rfl⟩⟩ rfl rfl (AOp.load rfl sc_3 rfl) ?_
    refine AOps.step ⟨65, rfl, .inl ⟨_, rfl, rfl⟩⟩ rfl rfl (AOp.call rfl (.cons (ArgOk.rfl' rfl) (.cons (ArgOk.rfl' rfl) (.cons (ArgOk.rfl' rfl) .nil))) (c_pWithin _ _ _)) ?_
    refine AOps.step ⟨65, rfl, .inl ⟨_, rfl, rfl⟩⟩ rfl rfl (AOp.not rfl rfl) ?_
    refine AOps.step rfl rfl rfl (AOp.pickF rfl rfl rfl) ?_
    refine AOps.aD rfl rfl rfl rfl rfl (.nil ?_)
    refine AWP.cond rfl (fun h8 => ?_) (fun h8 => ?_)
    · replace h8 := bnot_t h8; replace h8 := of_decide_eq_false h8
      have HF : cpyFault v c none = 1 := ((if_neg hA).trans ((if_neg hB).trans ((if_neg hC).trans ((if_neg hDD).trans (if_pos (.inr (.inr h8)))))))
      refine AWP.seq (AWP.region ?_)
      refine AOps.aD rfl rfl rfl rfl rfl (.nil ?_)
      refine AWP.ret ?_
      refine ⟨RetD.eq rfl ?_, trivial⟩
      all_goals (rw [HF])
    replace h8 := bnot_f h8; replace h8 := of_decide_eq_true h8
    have hE : ¬ (¬ (0 ≤ c.day ∧ c.day ≤ 200000) ∨ ¬ (c.day ≤ c.last ∧ c.last ≤ 200000) ∨ ¬ (1 ≤ c.gen ∧ c.gen ≤ 100)) := by omega
    refine AWP.seq (AWP.region ?_)
    refine AOps.step rfl rfl rfl (AOp.fieldAddr rfl fo_65_5 rfl) ?_
    refine AOps.step rfl rfl rfl (AOp.load rfl sc_3 rfl) ?_
    refine AOps.step rfl rfl rfl (AOp.eql rfl rfl rfl) ?_
    refine AOps.step rfl rfl rfl (AOp.fieldAddr rfl fo_65_2 rfl) ?_
    refine AOps.step rfl rfl rfl (AOp.load rfl sc_9 rfl) ?_
    refine AOps.step rfl rfl rfl (AOp.seql rfl rfl rfl) ?_
    refine AOps.step rfl rfl rfl (AOp.bneq rfl bt_4 rfl rfl) ?_
    refine AOps.aD rfl rfl rfl rfl rfl (.nil ?_)
    refine AWP.cond rfl (fun h9 => ?_) (fun h9 => ?_)
    · replace h9 := of_decide_eq_true h9
      have HF : cpyFault v c none = 3 := ((if_neg hA).trans ((if_neg hB).trans ((if_neg hC).trans ((if_neg hDD).trans ((if_neg hE).trans (if_pos h9))))))
      refine AWP.seq (AWP.region ?_)
      refine AOps.aD rfl rfl rfl rfl rfl (.nil ?_)
      refine AWP.ret ?_
      refine ⟨RetD.eq rfl ?_, trivial⟩
      all_goals (rw [HF])
    replace h9 := of_decide_eq_false h9
    have hG := h9
    have HX : cpyFault v c none = ffst (badFault (itemBlocks v c.item) c.bad) c.bad.length := ((if_neg hA).trans ((if_neg hB).trans ((if_neg hC).trans ((if_neg hDD).trans ((if_neg hE).trans (if_neg hG))))))
    refine AWP.skip ?_
    refine AWP.seq ?_
    refine AWP.seq (AWP.region ?_)
    refine AOps.step rfl rfl rfl (AOp.fieldAddr rfl fo_65_6 rfl) ?_
    refine AOps.step rfl rfl rfl (AOp.load rfl sc_63 rfl) ?_
    refine AOps.step rfl rfl rfl (AOp.lenSl rfl et_63.ht rfl) ?_
    refine AOps.mD rfl rfl rfl rfl rfl (.nil ?_)
    refine AWP.block ?_
    refine AWP.bound 80 rfl (fun hbd80 => ?_)
    rw [List.length_map] at hbd80
    refine AWP.loop (G := Nat) (fun q => Env.of [(82, .d (.v (.int .i64 (q : Int)))), (80, .d (.sl (c.bad.map intD))), (81, .d (.v (.int .i64 ((c.bad.map intD).length : Int)))), (3, .d (.fp v.ds)), (4, .d (.fp c.ds)), (7, .d (.v (.int .i64 (itemIdx v c.item))))]) (fun q => []) (fun q => q ≤ c.bad.length ∧ ffst (badFault (itemBlocks v c.item) c.bad) q = 0) (fun q => c.bad.length - q) 0 ⟨Nat.zero_le _, rfl⟩ (Sub.less ⟨(SLe.of_eq rfl), SLe.refl _, SLe.refl _, SLe.refl _, SLe.refl _, SLe.refl _, trivial⟩ (fun _ h => h)) ?_
    intro q hq
    refine AWP.seq (AWP.region ?_)
    refine AOps.step rfl rfl rfl (AOp.lss rfl rfl rfl) (.nil ?_)
    refine AWP.seq ?_
    refine AWP.cond rfl (fun h10 => ?_) (fun h10 => ?_)
    · replace h10 := of_decide_eq_true h10
      rw [List.length_map] at h10
      have hlt : q < c.bad.length := by omega
      refine AWP.skip ?_
      refine AWP.seq ?_
      refine AWP.block ?_
      refine AWP.seq (AWP.region ?_)
      refine AOps.mD rfl rfl rfl rfl rfl ?_
      refine AOps.step rfl rfl rfl (AOp.indexAddr rfl et_63 rfl rfl q rfl (at_list hlt) rfl) ?_
      refine AOps.step rfl rfl rfl (AOp.load rfl sc_3 rfl) ?_
      refine AOps.aD rfl rfl rfl rfl rfl ?_
      refine AOps.aD rfl rfl rfl rfl rfl (.nil ?_)
      refine AWP.seq ?_
      refine AWP.seq (AWP.region ?_)
      refine AOps.mD rfl rfl rfl rfl rfl ?_
      refine AOps.step rfl rfl rfl (AOp.fieldAddr rfl fo_26_0 rfl) ?_
      refine AOps.step rfl rfl rfl (AOp.load rfl sc_22 rfl) ?_
      refine AOps.mD rfl rfl rfl rfl rfl ?_
      refine AOps.step rfl rfl rfl (AOp.indexAddr rfl et_22 rfl rfl ki eki (at_list hki) rfl) ?_
      refine AOps.step rfl rfl rfl (AOp.fieldAddr rfl fo_62_1 rfl) ?_
      refine AOps.step rfl rfl rfl (AOp.load rfl sc_3 rfl) ?_
      refine AOps.step rfl rfl rfl (AOp.sub64 rfl rfl rfl (by omega) (by omega)) ?_
      refine AOps.step rfl rfl rfl (AOp.call rfl (.cons (ArgOk.rfl' rfl) (.cons (ArgOk.rfl' rfl) (.cons (ArgOk.rfl' rfl) .nil))) (c_pWithin _ _ _)) ?_
      refine AOps.step rfl rfl rfl (AOp.not rfl rfl) (.nil ?_)
      refine AWP.cond rfl (fun h11 => ?_) (fun h11 => ?_)
      · replace h11 := bnot_t h11; replace h11 := of_decide_eq_false h11
        have HF : cpyFault v c none = 1 := by rw [HX, ffst_hit hq.2 (by rw [badFault_1 hlt (by rw [hib]; exact h11)]; decide) _ hlt, badFault_1 hlt (by rw [hib]; exact h11)]
        refine AWP.seq (AWP.region ?_)
        refine AOps.aD rfl rfl rfl rfl rfl (.nil ?_)
        refine AWP.ret ?_
        refine ⟨RetD.eq rfl ?_, trivial⟩
        all_goals (rw [HF])
      replace h11 := bnot_f h11; replace h11 := of_decide_eq_true h11
      have h7 : 0 ≤ c.bad[q] ∧ c.bad[q] ≤ itemBlocks v c.item - 1 := by rw [hib]; omega
      refine AWP.skip ?_
      refine AWP.seq (AWP.region ?_)
      refine AOps.mD rfl rfl rfl rfl rfl ?_
      refine AOps.step rfl rfl rfl (AOp.gtr rfl rfl rfl) ?_
      refine AOps.mD rfl rfl rfl rfl rfl ?_
      refine AOps.split 99 rfl (fun g12 => ?_) (fun g12 => ?_)
      · replace g12 := of_decide_eq_true g12
        refine AOps.step ⟨99, rfl, .inl ⟨_, rfl, rfl⟩⟩ rfl rfl (AOp.moveD rfl rfl) ?_
        refine AOps.step ⟨99, rfl, .inl ⟨_, rfl, rfl⟩⟩ rfl rfl (AOp.fieldAddr rfl fo_65_6 rfl) ?_
        refine AOps.step ⟨99, rfl, .inl ⟨_, rfl, rfl⟩⟩ rfl rfl (AOp.load rfl sc_63 rfl) ?_
        refine AOps.step ⟨99, rfl, .inl ⟨_, rfl, rfl⟩⟩ rfl rfl (AOp.moveD rfl rfl) ?_
        refine AOps.step ⟨99, rfl, .inl ⟨_, rfl, rfl⟩⟩ rfl rfl (AOp.sub64 rfl rfl rfl (by omega) (by omega)) ?_
        refine AOps.step ⟨99, rfl, .inl ⟨_, rfl, rfl⟩⟩ rfl rfl (AOp.indexAddr rfl et_63 rfl rfl (q - 1) (by omega) (at_list (by omega)) rfl) ?_
        refine AOps.step ⟨99, rfl, .inl ⟨_, rfl, rfl⟩⟩ rfl rfl (AOp.load rfl sc_3 rfl) ?_
        refine AOps.step ⟨99, rfl, .inl ⟨_, rfl, rfl⟩⟩ rfl rfl (AOp.leq rfl rfl rfl) ?_
        refine AOps.step rfl rfl rfl (AOp.pickT rfl rfl rfl) (.nil ?_)
        refine AWP.cond rfl (fun h13 => ?_) (fun h13 => ?_)
        · replace h13 := of_decide_eq_true h13
          have HF : cpyFault v c none = 8 := by rw [HX, ffst_hit hq.2 (by rw [badFault_8 hlt h7 (by omega) h13]; decide) _ hlt, badFault_8 hlt h7 (by omega) h13]
          refine AWP.seq (AWP.region ?_)
          refine AOps.aD rfl rfl rfl rfl rfl (.nil ?_)
          refine AWP.ret ?_
          refine ⟨RetD.eq rfl ?_, trivial⟩
          all_goals (rw [HF])
        replace h13 := of_decide_eq_false h13
        have h8 : 0 < q → ¬ c.bad[q] ≤ c.bad[q-1] := fun _ => h13
        refine AWP.skip ?_
        refine AWP.region ?_
        refine AOps.step rfl rfl rfl (AOp.add64 rfl rfl rfl (by omega) (by omega)) ?_
        refine AOps.mD rfl rfl rfl rfl rfl (.nil ?_)
        refine ⟨q + 1, ⟨by omega, ffst_next hq.2 (badFault_0 hlt h7 h8)⟩, (by dsimp only; omega), Sub.less ⟨(SLe.of_eq rfl), SLe.refl _, SLe.refl _, SLe.refl _, SLe.refl _, SLe.refl _, trivial⟩ (fun _ h => h)⟩
      replace g12 := of_decide_eq_false g12
      have h8 : 0 < q → ¬ c.bad[q] ≤ c.bad[q-1] := fun hh => absurd hh (by omega)
      refine AOps.pass ⟨99, rfl, .inl ⟨_, rfl, rfl⟩⟩ rfl rfl ?_
      refine AOps.pass ⟨99, rfl, .inl ⟨_, rfl, rfl⟩⟩ rfl rfl ?_
      refine AOps.pass ⟨99, rfl, .inl ⟨_, rfl, rfl⟩⟩ rfl rfl ?_
      refine AOps.pass ⟨99, rfl, .inl ⟨_, rfl, rfl⟩⟩ rfl rfl ?_
      refine AOps.pass ⟨99, rfl, .inl ⟨_, rfl, rfl⟩⟩ rfl rfl ?_
      refine AOps.pass ⟨99, rfl, .inl ⟨_, rfl, rfl⟩⟩ rfl rfl ?_
      refine AOps.pass ⟨99, rfl, .inl ⟨_, rfl, rfl⟩⟩ rfl rfl ?_
      refine AOps.pass ⟨99, rfl, .inl ⟨_, rfl, rfl⟩⟩ rfl rfl ?_
      refine AOps.step rfl rfl rfl (AOp.pickF rfl rfl rfl) (.nil ?_)
      refine AWP.cond rfl (fun h => nomatch h) (fun _ => ?_)
      refine AWP.skip ?_
      refine AWP.region ?_
      refine AOps.step rfl rfl rfl (AOp.add64 rfl rfl rfl (by omega) (by omega)) ?_
      refine AOps.mD rfl rfl rfl rfl rfl (.nil ?_)
      refine ⟨q + 1, ⟨by omega, ffst_next hq.2 (badFault_0 hlt h7 h8)⟩, (by dsimp only; omega), Sub.less ⟨(SLe.of_eq rfl), SLe.refl _, SLe.refl _, SLe.refl _, SLe.refl _, SLe.refl _, trivial⟩ (fun _ h => h)⟩
    replace h10 := of_decide_eq_false h10
    rw [List.length_map] at h10
    have HF : cpyFault v c none = 0 := by rw [HX, ← show q = c.bad.length by omega]; exact hq.2
    refine AWP.exit ?_
    refine AWP.seq (AWP.region ?_)
    refine AOps.aD rfl rfl rfl rfl rfl (.nil ?_)
    refine AWP.ret ?_
    refine ⟨RetD.eq rfl ?_, trivial⟩
    all_goals (rw [HF])
  replace g3 := of_decide_eq_false g3
  have hC : ¬ (c.frm ≠ ⟨#[]⟩ ∧ carrIdx v c.frm < 0) := fun hh => g3 hh.1
  refine AOps.pass ⟨39, rfl, .inl ⟨_, rfl, rfl⟩⟩ rfl rfl ?_
  refine AOps.pass ⟨39, rfl, .inl ⟨_, rfl, rfl⟩⟩ rfl rfl ?_
  refine AOps.pass ⟨39, rfl, .inl ⟨_, rfl, rfl⟩⟩ rfl rfl ?_
  refine AOps.pass ⟨39, rfl, .inl ⟨_, rfl, rfl⟩⟩ rfl rfl ?_
  refine AOps.pass ⟨39, rfl, .inl ⟨_, rfl, rfl⟩⟩ rfl rfl ?_
  refine AOps.step rfl rfl rfl (AOp.pickF rfl rfl rfl) ?_
  refine AOps.aD rfl rfl rfl rfl rfl (.nil ?_)
  refine AWP.cond rfl (fun h => nomatch h) (fun _ => ?_)
  refine AWP.seq (AWP.region ?_)
  refine AOps.step rfl rfl rfl (AOp.fieldAddr rfl fo_65_2 rfl) ?_
  refine AOps.step rfl rfl rfl (AOp.load rfl sc_9 rfl) ?_
  refine AOps.step rfl rfl rfl (AOp.fieldAddr rfl fo_65_1 rfl) ?_
  refine AOps.step rfl rfl rfl (AOp.load rfl sc_9 rfl) ?_
  refine AOps.step rfl rfl rfl (AOp.seql rfl rfl rfl) ?_
  refine AOps.aD rfl rfl rfl rfl rfl (.nil ?_)
  refine AWP.cond rfl (fun h14 => ?_) (fun h14 => ?_)
  · replace h14 := of_decide_eq_true h14
    have HF : cpyFault v c none = 12 := ((if_neg hA).trans ((if_neg hB).trans ((if_neg hC).trans (if_pos h14))))
    refine AWP.seq (AWP.region ?_)
    refine AOps.aD rfl rfl rfl rfl rfl (.nil ?_)
    refine AWP.ret ?_
    refine ⟨RetD.eq rfl ?_, trivial⟩
    all_goals (rw [HF])
  replace h14 := of_decide_eq_false h14
  have hDD := h14
  refine AWP.seq (AWP.region ?_)
  refine AOps.step rfl rfl rfl (AOp.fieldAddr rfl fo_65_3 rfl) ?_
  refine AOps.step rfl rfl rfl (AOp.load rfl sc_3 rfl) ?_
  refine AOps.step rfl rfl rfl (AOp.call rfl (.cons (ArgOk.rfl' rfl) .nil) (c_pDay _)) ?_
  refine AOps.step rfl rfl rfl (AOp.not rfl rfl) ?_
  refine AOps.mD rfl rfl rfl rfl rfl ?_
  refine AOps.split 57 rfl (fun g15 => ?_) (fun g15 => ?_)
  · replace g15 := bnot_t g15; replace g15 := of_decide_eq_false g15
    have HF : cpyFault v c none = 1 := ((if_neg hA).trans ((if_neg hB).trans ((if_neg hC).trans ((if_neg hDD).trans (if_pos (.inl g15))))))
    refine AOps.pass ⟨57, rfl, .inl ⟨_, rfl, rfl⟩⟩ rfl rfl ?_
    refine AOps.pass ⟨57, rfl, .inl ⟨_, rfl, rfl⟩⟩ rfl rfl ?_
    refine AOps.pass ⟨57, rfl, .inl ⟨_, rfl, rfl⟩⟩ rfl rfl ?_
    refine AOps.pass ⟨57, rfl, .inl ⟨_, rfl, rfl⟩⟩ rfl rfl ?_
    refine AOps.pass ⟨57, rfl, .inl ⟨_, rfl, rfl⟩⟩ rfl rfl ?_
    refine AOps.pass ⟨57, rfl, .inl ⟨_, rfl, rfl⟩⟩ rfl rfl ?_
    refine AOps.step rfl rfl rfl (AOp.pickT rfl rfl rfl) ?_
    refine AOps.mD rfl rfl rfl rfl rfl ?_
    refine AOps.pass ⟨65, rfl, .inl ⟨_, rfl, rfl⟩⟩ rfl rfl ?_
    refine AOps.pass ⟨65, rfl, .inl ⟨_, rfl, rfl⟩⟩ rfl rfl ?_
    refine AOps.pass ⟨65, rfl, .inl ⟨_, rfl, rfl⟩⟩ rfl rfl ?_
    refine AOps.pass ⟨65, rfl, .inl ⟨_, rfl, rfl⟩⟩ rfl rfl ?_
    refine AOps.step rfl rfl rfl (AOp.pickT rfl rfl rfl) ?_
    refine AOps.aD rfl rfl rfl rfl rfl (.nil ?_)
    refine AWP.cond rfl (fun _ => ?_) (fun h => nomatch h)
    refine AWP.seq (AWP.region ?_)
    refine AOps.aD rfl rfl rfl rfl rfl (.nil ?_)
    refine AWP.ret ?_
    refine ⟨RetD.eq rfl ?_, trivial⟩
    all_goals (rw [HF])
  replace g15 := bnot_f g15; replace g15 := of_decide_eq_true g15
  have he1 := g15
  refine AOps.step ⟨57, rfl, .inl ⟨_, rfl, rfl⟩⟩ rfl rfl (AOp.fieldAddr rfl fo_65_4 rfl) ?_
  refine AOps.step ⟨57, rfl, .inl ⟨_, rfl, rfl⟩⟩ rfl rfl (AOp.load rfl sc_3 rfl) ?_
  refine AOps.step ⟨57, rfl, .inl ⟨_, rfl, rfl⟩⟩ rfl rfl (AOp.fieldAddr rfl fo_65_3 rfl) ?_
  refine AOps.step ⟨57, rfl, .inl ⟨_, rfl, rfl⟩⟩ rfl rfl (AOp.load rfl sc_3 rfl) ?_
  refine AOps.step ⟨57, rfl, .inl ⟨_, rfl, rfl⟩⟩ rfl rfl (AOp.call rfl (.cons (ArgOk.rfl' rfl) (.cons (ArgOk.rfl' rfl) (.cons (ArgOk.rfl' rfl) .nil))) (c_pWithin _ _ _)) ?_
  refine AOps.step ⟨57, rfl, .inl ⟨_, rfl, rfl⟩⟩ rfl rfl (AOp.not rfl rfl) ?_
  refine AOps.step rfl rfl rfl (AOp.pickF rfl rfl rfl) ?_
  refine AOps.mD rfl rfl rfl rfl rfl ?_
  refine AOps.split 65 rfl (fun g16 => ?_) (fun g16 => ?_)
  · replace g16 := bnot_t g16; replace g16 := of_decide_eq_false g16
    have HF : cpyFault v c none = 1 := ((if_neg hA).trans ((if_neg hB).trans ((if_neg hC).trans ((if_neg hDD).trans (if_pos (.inr (.inl g16)))))))
    refine AOps.pass ⟨65, rfl, .inl ⟨_, rfl, rfl⟩⟩ rfl rfl ?_
    refine AOps.pass ⟨65, rfl, .inl ⟨_, rfl, rfl⟩⟩ rfl rfl ?_
    refine AOps.pass ⟨65, rfl, .inl ⟨_, rfl, rfl⟩⟩ rfl rfl ?_
    refine AOps.pass ⟨65, rfl, .inl ⟨_, rfl, rfl⟩⟩ rfl rfl ?_
    refine AOps.step rfl rfl rfl (AOp.pickT rfl rfl rfl) ?_
    refine AOps.aD rfl rfl rfl rfl rfl (.nil ?_)
    refine AWP.cond rfl (fun _ => ?_) (fun h => nomatch h)
    refine AWP.seq (AWP.region ?_)
    refine AOps.aD rfl rfl rfl rfl rfl (.nil ?_)
    refine AWP.ret ?_
    refine ⟨RetD.eq rfl ?_, trivial⟩
    all_goals (rw [HF])
  replace g16 := bnot_f g16; replace g16 := of_decide_eq_true g16
  have he2 := g16
  refine AOps.step ⟨65, rfl, .inl ⟨_, rfl, rfl⟩⟩ rfl rfl (AOp.fieldAddr rfl fo_65_5 rfl) ?_
  refine AOps.step ⟨65, rfl, .inl ⟨_, rfl, rfl⟩⟩ rfl rfl (AOp.load rfl sc_3 rfl) ?_
  refine AOps.step ⟨65, rfl, .inl ⟨_, rfl, rfl⟩⟩ rfl rfl (AOp.call rfl (.cons (ArgOk.rfl' rfl) (.cons (ArgOk.rfl' rfl) (.cons (ArgOk.rfl' rfl) .nil))) (c_pWithin _ _ _)) ?_
  refine AOps.step ⟨65, rfl, .inl ⟨_, rfl, rfl⟩⟩ rfl rfl (AOp.not rfl rfl) ?_
  refine AOps.step rfl rfl rfl (AOp.pickF rfl rfl rfl) ?_
  refine AOps.aD rfl rfl rfl rfl rfl (.nil ?_)
  refine AWP.cond rfl (fun h17 => ?_) (fun h17 => ?_)
  · replace h17 := bnot_t h17; replace h17 := of_decide_eq_false h17
    have HF : cpyFault v c none = 1 := ((if_neg hA).trans ((if_neg hB).trans ((if_neg hC).trans ((if_neg hDD).trans (if_pos (.inr (.inr h17)))))))
    refine AWP.seq (AWP.region ?_)
    refine AOps.aD rfl rfl rfl rfl rfl (.nil ?_)
    refine AWP.ret ?_
    refine ⟨RetD.eq rfl ?_, trivial⟩
    all_goals (rw [HF])
  replace h17 := bnot_f h17; replace h17 := of_decide_eq_true h17
  have hE : ¬ (¬ (0 ≤ c.day ∧ c.day ≤ 200000) ∨ ¬ (c.day ≤ c.last ∧ c.last ≤ 200000) ∨ ¬ (1 ≤ c.gen ∧ c.gen ≤ 100)) := by omega
  refine AWP.seq (AWP.region ?_)
  refine AOps.step rfl rfl rfl (AOp.fieldAddr rfl fo_65_5 rfl) ?_
  refine AOps.step rfl rfl rfl (AOp.load rfl sc_3 rfl) ?_
  refine AOps.step rfl rfl rfl (AOp.eql rfl rfl rfl) ?_
  refine AOps.step rfl rfl rfl (AOp.fieldAddr rfl fo_65_2 rfl) ?_
  refine AOps.step rfl rfl rfl (AOp.load rfl sc_9 rfl) ?_
  refine AOps.step rfl rfl rfl (AOp.seql rfl rfl rfl) ?_
  refine AOps.step rfl rfl rfl (AOp.bneq rfl bt_4 rfl rfl) ?_
  refine AOps.aD rfl rfl rfl rfl rfl (.nil ?_)
  refine AWP.cond rfl (fun h18 => ?_) (fun h18 => ?_)
  · replace h18 := of_decide_eq_true h18
    have HF : cpyFault v c none = 3 := ((if_neg hA).trans ((if_neg hB).trans ((if_neg hC).trans ((if_neg hDD).trans ((if_neg hE).trans (if_pos h18))))))
    refine AWP.seq (AWP.region ?_)
    refine AOps.aD rfl rfl rfl rfl rfl (.nil ?_)
    refine AWP.ret ?_
    refine ⟨RetD.eq rfl ?_, trivial⟩
    all_goals (rw [HF])
  replace h18 := of_decide_eq_false h18
  have hG := h18
  have HX : cpyFault v c none = ffst (badFault (itemBlocks v c.item) c.bad) c.bad.length := ((if_neg hA).trans ((if_neg hB).trans ((if_neg hC).trans ((if_neg hDD).trans ((if_neg hE).trans (if_neg hG))))))
  refine AWP.skip ?_
  refine AWP.seq ?_
  refine AWP.seq (AWP.region ?_)
  refine AOps.step rfl rfl rfl (AOp.fieldAddr rfl fo_65_6 rfl) ?_
  refine AOps.step rfl rfl rfl (AOp.load rfl sc_63 rfl) ?_
  refine AOps.step rfl rfl rfl (AOp.lenSl rfl et_63.ht rfl) ?_
  refine AOps.mD rfl rfl rfl rfl rfl (.nil ?_)
  refine AWP.block ?_
  refine AWP.bound 80 rfl (fun hbd80 => ?_)
  rw [List.length_map] at hbd80
  refine AWP.loop (G := Nat) (fun q => Env.of [(82, .d (.v (.int .i64 (q : Int)))), (80, .d (.sl (c.bad.map intD))), (81, .d (.v (.int .i64 ((c.bad.map intD).length : Int)))), (3, .d (.fp v.ds)), (4, .d (.fp c.ds)), (7, .d (.v (.int .i64 (itemIdx v c.item))))]) (fun q => []) (fun q => q ≤ c.bad.length ∧ ffst (badFault (itemBlocks v c.item) c.bad) q = 0) (fun q => c.bad.length - q) 0 ⟨Nat.zero_le _, rfl⟩ (Sub.less ⟨(SLe.of_eq rfl), SLe.refl _, SLe.refl _, SLe.refl _, SLe.refl _, SLe.refl _, trivial⟩ (fun _ h => h)) ?_
  intro q hq
  refine AWP.seq (AWP.region ?_)
  refine AOps.step rfl rfl rfl (AOp.lss rfl rfl rfl) (.nil ?_)
  refine AWP.seq ?_
  refine AWP.cond rfl (fun h19 => ?_) (fun h19 => ?_)
  · replace h19 := of_decide_eq_true h19
    rw [List.length_map] at h19
    have hlt : q < c.bad.length := by omega
    refine AWP.skip ?_
    refine AWP.seq ?_
    refine AWP.block ?_
    refine AWP.seq (AWP.region ?_)
    refine AOps.mD rfl rfl rfl rfl rfl ?_
    refine AOps.step rfl rfl rfl (AOp.indexAddr rfl et_63 rfl rfl q rfl (at_list hlt) rfl) ?_
    refine AOps.step rfl rfl rfl (AOp.load rfl sc_3 rfl) ?_
    refine AOps.aD rfl rfl rfl rfl rfl ?_
    refine AOps.aD rfl rfl rfl rfl rfl (.nil ?_)
    refine AWP.seq ?_
    refine AWP.seq (AWP.region ?_)
    refine AOps.mD rfl rfl rfl rfl rfl ?_
    refine AOps.step rfl rfl rfl (AOp.fieldAddr rfl fo_26_0 rfl) ?_
    refine AOps.step rfl rfl rfl (AOp.load rfl sc_22 rfl) ?_
    refine AOps.mD rfl rfl rfl rfl rfl ?_
    refine AOps.step rfl rfl rfl (AOp.indexAddr rfl et_22 rfl rfl ki eki (at_list hki) rfl) ?_
    refine AOps.step rfl rfl rfl (AOp.fieldAddr rfl fo_62_1 rfl) ?_
    refine AOps.step rfl rfl rfl (AOp.load rfl sc_3 rfl) ?_
    refine AOps.step rfl rfl rfl (AOp.sub64 rfl rfl rfl (by omega) (by omega)) ?_
    refine AOps.step rfl rfl rfl (AOp.call rfl (.cons (ArgOk.rfl' rfl) (.cons (ArgOk.rfl' rfl) (.cons (ArgOk.rfl' rfl) .nil))) (c_pWithin _ _ _)) ?_
    refine AOps.step rfl rfl rfl (AOp.not rfl rfl) (.nil ?_)
    refine AWP.cond rfl (fun h20 => ?_) (fun h20 => ?_)
    · replace h20 := bnot_t h20; replace h20 := of_decide_eq_false h20
      have HF : cpyFault v c none = 1 := by rw [HX, ffst_hit hq.2 (by rw [badFault_1 hlt (by rw [hib]; exact h20)]; decide) _ hlt, badFault_1 hlt (by rw [hib]; exact h20)]
      refine AWP.seq (AWP.region ?_)
      refine AOps.aD rfl rfl rfl rfl rfl (.nil ?_)
      refine AWP.ret ?_
      refine ⟨RetD.eq rfl ?_, trivial⟩
      all_goals (rw [HF])
    replace h20 := bnot_f h20; replace h20 := of_decide_eq_true h20
    have h7 : 0 ≤ c.bad[q] ∧ c.bad[q] ≤ itemBlocks v c.item - 1 := by rw [hib]; omega
    refine AWP.skip ?_
    refine AWP.seq (AWP.region ?_)
    refine AOps.mD rfl rfl rfl rfl rfl ?_
    refine AOps.step rfl rfl rfl (AOp.gtr rfl rfl rfl) ?_
    refine AOps.mD rfl rfl rfl rfl rfl ?_
    refine AOps.split 99 rfl (fun g21 => ?_) (fun g21 => ?_)
    · replace g21 := of_decide_eq_true g21
      refine AOps.step ⟨99, rfl, .inl ⟨_, rfl, rfl⟩⟩ rfl rfl (AOp.moveD rfl rfl) ?_
      refine AOps.step ⟨99, rfl, .inl ⟨_, rfl, rfl⟩⟩ rfl rfl (AOp.fieldAddr rfl fo_65_6 rfl) ?_
      refine AOps.step ⟨99, rfl, .inl ⟨_, rfl, rfl⟩⟩ rfl rfl (AOp.load rfl sc_63 rfl) ?_
      refine AOps.step ⟨99, rfl, .inl ⟨_, rfl, rfl⟩⟩ rfl rfl (AOp.moveD rfl rfl) ?_
      refine AOps.step ⟨99, rfl, .inl ⟨_, rfl, rfl⟩⟩ rfl rfl (AOp.sub64 rfl rfl rfl (by omega) (by omega)) ?_
      refine AOps.step ⟨99, rfl, .inl ⟨_, rfl, rfl⟩⟩ rfl rfl (AOp.indexAddr rfl et_63 rfl rfl (q - 1) (by omega) (at_list (by omega)) rfl) ?_
      refine AOps.step ⟨99, rfl, .inl ⟨_, rfl, rfl⟩⟩ rfl rfl (AOp.load rfl sc_3 rfl) ?_
      refine AOps.step ⟨99, rfl, .inl ⟨_, rfl, rfl⟩⟩ rfl rfl (AOp.leq rfl rfl rfl) ?_
      refine AOps.step rfl rfl rfl (AOp.pickT rfl rfl rfl) (.nil ?_)
      refine AWP.cond rfl (fun h22 => ?_) (fun h22 => ?_)
      · replace h22 := of_decide_eq_true h22
        have HF : cpyFault v c none = 8 := by rw [HX, ffst_hit hq.2 (by rw [badFault_8 hlt h7 (by omega) h22]; decide) _ hlt, badFault_8 hlt h7 (by omega) h22]
        refine AWP.seq (AWP.region ?_)
        refine AOps.aD rfl rfl rfl rfl rfl (.nil ?_)
        refine AWP.ret ?_
        refine ⟨RetD.eq rfl ?_, trivial⟩
        all_goals (rw [HF])
      replace h22 := of_decide_eq_false h22
      have h8 : 0 < q → ¬ c.bad[q] ≤ c.bad[q-1] := fun _ => h22
      refine AWP.skip ?_
      refine AWP.region ?_
      refine AOps.step rfl rfl rfl (AOp.add64 rfl rfl rfl (by omega) (by omega)) ?_
      refine AOps.mD rfl rfl rfl rfl rfl (.nil ?_)
      refine ⟨q + 1, ⟨by omega, ffst_next hq.2 (badFault_0 hlt h7 h8)⟩, (by dsimp only; omega), Sub.less ⟨(SLe.of_eq rfl), SLe.refl _, SLe.refl _, SLe.refl _, SLe.refl _, SLe.refl _, trivial⟩ (fun _ h => h)⟩
    replace g21 := of_decide_eq_false g21
    have h8 : 0 < q → ¬ c.bad[q] ≤ c.bad[q-1] := fun hh => absurd hh (by omega)
    refine AOps.pass ⟨99, rfl, .inl ⟨_, rfl, rfl⟩⟩ rfl rfl ?_
    refine AOps.pass ⟨99, rfl, .inl ⟨_, rfl, rfl⟩⟩ rfl rfl ?_
    refine AOps.pass ⟨99, rfl, .inl ⟨_, rfl, rfl⟩⟩ rfl rfl ?_
    refine AOps.pass ⟨99, rfl, .inl ⟨_, rfl, rfl⟩⟩ rfl rfl ?_
    refine AOps.pass ⟨99, rfl, .inl ⟨_, rfl, rfl⟩⟩ rfl rfl ?_
    refine AOps.pass ⟨99, rfl, .inl ⟨_, rfl, rfl⟩⟩ rfl rfl ?_
    refine AOps.pass ⟨99, rfl, .inl ⟨_, rfl, rfl⟩⟩ rfl rfl ?_
    refine AOps.pass ⟨99, rfl, .inl ⟨_, rfl, rfl⟩⟩ rfl rfl ?_
    refine AOps.step rfl rfl rfl (AOp.pickF rfl rfl rfl) (.nil ?_)
    refine AWP.cond rfl (fun h => nomatch h) (fun _ => ?_)
    refine AWP.skip ?_
    refine AWP.region ?_
    refine AOps.step rfl rfl rfl (AOp.add64 rfl rfl rfl (by omega) (by omega)) ?_
    refine AOps.mD rfl rfl rfl rfl rfl (.nil ?_)
    refine ⟨q + 1, ⟨by omega, ffst_next hq.2 (badFault_0 hlt h7 h8)⟩, (by dsimp only; omega), Sub.less ⟨(SLe.of_eq rfl), SLe.refl _, SLe.refl _, SLe.refl _, SLe.refl _, SLe.refl _, trivial⟩ (fun _ h => h)⟩
  replace h19 := of_decide_eq_false h19
  rw [List.length_map] at h19
  have HF : cpyFault v c none = 0 := by rw [HX, ← show q = c.bad.length by omega]; exact hq.2
  refine AWP.exit ?_
  refine AWP.seq (AWP.region ?_)
  refine AOps.aD rfl rfl rfl rfl rfl (.nil ?_)
  refine AWP.ret ?_
  refine ⟨RetD.eq rfl ?_, trivial⟩
  all_goals (rw [HF])

set_option maxRecDepth 100000 in
set_option maxHeartbeats 1000000 in
theorem c_pCopyS (v : Vlt) (c : Cpy) (b : Cpy) (hv : okItems v) : ACall Tryz.prog 85 [.agg v.ds, .agg c.ds, .fp b.ds] (.v (.int .i64 (cpyFault v c (some b)))) := by
  refine acall_of (n := 110) (ds' := [.v (.int .i64 (cpyFault v c (some b)))]) Tryz.func85 rfl (by kernel_rfl) rfl [6] rfl rfl ?_
  intro B w0 F0 fr
  refine AWP.seq (AWP.region ?_)
  refine AOps.step rfl rfl rfl (AOp.box rfl rfl rfl) ?_
  refine AOps.step rfl rfl rfl (AOp.box rfl rfl rfl) ?_
  refine AOps.aD rfl rfl rfl rfl rfl (.nil ?_)
  refine AWP.seq (AWP.region ?_)
  refine AOps.step rfl rfl rfl (AOp.loadAgg rfl ag_26 rfl rfl) ?_
  refine AOps.step rfl rfl rfl (AOp.fieldAddr rfl fo_65_0 rfl) ?_
  refine AOps.step rfl rfl rfl (AOp.load rfl sc_9 rfl) ?_
  refine AOps.step rfl rfl rfl (AOp.call rfl (.cons (ArgOk.rfl' rfl) (.cons (ArgOk.rfl' rfl) .nil)) (c_itemAt _ _)) ?_
  refine AOps.aD rfl rfl rfl rfl rfl (.nil ?_)
  refine AWP.seq ?_
  refine AWP.block ?_
  refine AWP.seq (AWP.region ?_)
  refine AOps.mD rfl rfl rfl rfl rfl ?_
  refine AOps.step rfl rfl rfl (AOp.lss rfl rfl rfl) ?_
  refine AOps.mD rfl rfl rfl rfl rfl ?_
  refine AOps.split 17 rfl (fun g1 => ?_) (fun g1 => ?_)
  · replace g1 := of_decide_eq_true g1
    have HF : cpyFault v c (some b) = 9 := (if_pos (.inl g1))
    refine AOps.pass ⟨17, rfl, .inl ⟨_, rfl, rfl⟩⟩ rfl rfl ?_
    refine AOps.pass ⟨17, rfl, .inl ⟨_, rfl, rfl⟩⟩ rfl rfl ?_
    refine AOps.pass ⟨17, rfl, .inl ⟨_, rfl, rfl⟩⟩ rfl rfl ?_
    refine AOps.pass ⟨17, rfl, .inl ⟨_, rfl, rfl⟩⟩ rfl rfl ?_
    refine AOps.pass ⟨17, rfl, .inl ⟨_, rfl, rfl⟩⟩ rfl rfl ?_
    refine AOps.step rfl rfl rfl (AOp.pickT rfl rfl rfl) ?_
    refine AOps.aD rfl rfl rfl rfl rfl (.nil ?_)
    refine AWP.cond rfl (fun _ => ?_) (fun h => nomatch h)
    refine AWP.seq (AWP.region ?_)
    refine AOps.aD rfl rfl rfl rfl rfl (.nil ?_)
    refine AWP.ret ?_
    refine ⟨RetD.eq rfl ?_, trivial⟩
    all_goals (rw [HF])
  replace g1 := of_decide_eq_false g1
  have hi1 := g1
  refine AOps.step ⟨17, rfl, .inl ⟨_, rfl, rfl⟩⟩ rfl rfl (AOp.loadAgg rfl ag_26 rfl rfl) ?_
  refine AOps.step ⟨17, rfl, .inl ⟨_, rfl, rfl⟩⟩ rfl rfl (AOp.fieldAddr rfl fo_65_1 rfl) ?_
  refine AOps.step ⟨17, rfl, .inl ⟨_, rfl, rfl⟩⟩ rfl rfl (AOp.load rfl sc_9 rfl) ?_
  refine AOps.step ⟨17, rfl, .inl ⟨_, rfl, rfl⟩⟩ rfl rfl (AOp.call rfl (.cons (ArgOk.rfl' rfl) (.cons (ArgOk.rfl' rfl) .nil)) (c_carrAt _ _)) ?_
  refine AOps.step ⟨17, rfl, .inl ⟨_, rfl, rfl⟩⟩ rfl rfl (AOp.lss rfl rfl rfl) ?_
  refine AOps.step rfl rfl rfl (AOp.pickF rfl rfl rfl) ?_
  refine AOps.aD rfl rfl rfl rfl rfl (.nil ?_)
  refine AWP.cond rfl (fun h2 => ?_) (fun h2 => ?_)
  · replace h2 := of_decide_eq_true h2
    have HF : cpyFault v c (some b) = 9 := (if_pos (.inr h2))
    refine AWP.seq (AWP.region ?_)
    refine AOps.aD rfl rfl rfl rfl rfl (.nil ?_)
    refine AWP.ret ?_
    refine ⟨RetD.eq rfl ?_, trivial⟩
    all_goals (rw [HF])
  replace h2 := of_decide_eq_false h2
  have hA : ¬ (itemIdx v c.item < 0 ∨ carrIdx v c.carrier < 0) := by omega
  
  obtain ⟨ki, hki, eki, _⟩ := idxBy_some (show 0 ≤ itemIdx v c.item by omega)
  have hbi := hv _ (List.getElem_mem hki)
  have hib := itemBlocks_at hki eki
  refine AWP.seq ?_
  refine AWP.draw (by kernel_rfl) (by kernel_rfl) ?_
  refine DRun.step rfl rfl rfl (AOp.moveD rfl rfl) ?_
  refine DRun.step rfl rfl rfl (AOp.fpNe rfl pt_135 rfl rfl) ?_
  refine DRun.step rfl rfl rfl (AOp.moveD rfl rfl) ?_
  refine DRun.step ⟨27, rfl, .inl ⟨_, rfl, rfl⟩⟩ rfl rfl (AOp.moveD rfl rfl) ?_
  refine DRun.step ⟨27, rfl, .inl ⟨_, rfl, rfl⟩⟩ rfl rfl (AOp.nilCheck rfl rfl) ?_
  refine DRun.step ⟨27, rfl, .inl ⟨_, rfl, rfl⟩⟩ rfl rfl (AOp.loadAgg rfl ag_65 rfl rfl) ?_
  refine DRun.step ⟨27, rfl, .inl ⟨_, rfl, rfl⟩⟩ rfl rfl (AOp.loadAgg rfl ag_65 rfl rfl) ?_
  refine DRun.step ⟨27, rfl, .inl ⟨_, rfl, rfl⟩⟩ rfl rfl (AOp.call rfl (.cons (ArgOk.rfl' rfl) (.cons (ArgOk.rfl' rfl) .nil)) (c_cmpCopies _ _)) ?_
  refine DRun.step ⟨27, rfl, .inl ⟨_, rfl, rfl⟩⟩ rfl rfl (AOp.geq rfl rfl rfl) ?_
  refine DRun.step rfl rfl rfl (AOp.pickT rfl rfl rfl) ?_
  refine DRun.step rfl rfl rfl (AOp.assignD rfl rfl) ?_
  refine DRun.nil ?_
  refine AWP.cond rfl (fun h3 => ?_) (fun h3 => ?_)
  · replace h3 := of_decide_eq_true h3
    have HF : cpyFault v c (some b) = 8 := ((if_neg hA).trans (if_pos ⟨b, rfl, h3⟩))
    refine AWP.seq (AWP.region ?_)
    refine AOps.aD rfl rfl rfl rfl rfl (.nil ?_)
    refine AWP.ret ?_
    refine ⟨RetD.eq rfl ?_, trivial⟩
    all_goals (rw [HF])
  replace h3 := of_decide_eq_false h3
  have hB : ¬ (∃ b', some b = some b' ∧ 0 ≤ cpyCmp b' c) := by rintro ⟨_, e, hh⟩; cases e; exact h3 hh
  refine AWP.seq (AWP.region ?_)
  refine AOps.step rfl rfl rfl (AOp.fieldAddr rfl fo_65_2 rfl) ?_
  refine AOps.step rfl rfl rfl (AOp.load rfl sc_9 rfl) ?_
  refine AOps.step rfl rfl rfl (AOp.sneq rfl rfl rfl) ?_
  refine AOps.mD rfl rfl rfl rfl rfl ?_
  refine AOps.split 39 rfl (fun g4 => ?_) (fun g4 => ?_)
  · replace g4 := of_decide_eq_true g4
    refine AOps.step ⟨39, rfl, .inl ⟨_, rfl, rfl⟩⟩ rfl rfl (AOp.loadAgg rfl ag_26 rfl rfl) ?_
    refine AOps.step ⟨39, rfl, .inl ⟨_, rfl, rfl⟩⟩ rfl rfl (AOp.fieldAddr rfl fo_65_2 rfl) ?_
    refine AOps.step ⟨39, rfl, .inl ⟨_, rfl, rfl⟩⟩ rfl rfl (AOp.load rfl sc_9 rfl) ?_
    refine AOps.step ⟨39, rfl, .inl ⟨_, rfl, rfl⟩⟩ rfl rfl (AOp.call rfl (.cons (ArgOk.rfl' rfl) (.cons (ArgOk.rfl' rfl) .nil)) (c_carrAt _ _)) ?_
    refine AOps.step ⟨39, rfl, .inl ⟨_, rfl, rfl⟩⟩ rfl rfl (AOp.lss rfl rfl rfl) ?_
    refine AOps.step rfl rfl rfl (AOp.pickT rfl rfl rfl) ?_
    refine AOps.aD rfl rfl rfl rfl rfl (.nil ?_)
    refine AWP.cond rfl (fun h5 => ?_) (fun h5 => ?_)
    · replace h5 := of_decide_eq_true h5
      have HF : cpyFault v c (some b) = 9 := ((if_neg hA).trans ((if_neg hB).trans (if_pos ⟨by assumption, h5⟩)))
      refine AWP.seq (AWP.region ?_)
      refine AOps.aD rfl rfl rfl rfl rfl (.nil ?_)
      refine AWP.ret ?_
      refine ⟨RetD.eq rfl ?_, trivial⟩
      all_goals (rw [HF])
    replace h5 := of_decide_eq_false h5
    have hC : ¬ (c.frm ≠ ⟨#[]⟩ ∧ carrIdx v c.frm < 0) := fun hh => h5 hh.2
    refine AWP.seq (AWP.region ?_)
    refine AOps.step rfl rfl rfl (AOp.fieldAddr rfl fo_65_2 rfl) ?_
    refine AOps.step rfl rfl rfl (AOp.load rfl sc_9 rfl) ?_
    refine AOps.step rfl rfl rfl (AOp.fieldAddr rfl fo_65_1 rfl) ?_
    refine AOps.step rfl rfl rfl (AOp.load rfl sc_9 rfl) ?_
    refine AOps.step rfl rfl rfl (AOp.seql rfl rfl rfl) ?_
    refine AOps.aD rfl rfl rfl rfl rfl (.nil ?_)
    refine AWP.cond rfl (fun h6 => ?_) (fun h6 => ?_)
    · replace h6 := of_decide_eq_true h6
      have HF : cpyFault v c (some b) = 12 := ((if_neg hA).trans ((if_neg hB).trans ((if_neg hC).trans (if_pos h6))))
      refine AWP.seq (AWP.region ?_)
      refine AOps.aD rfl rfl rfl rfl rfl (.nil ?_)
      refine AWP.ret ?_
      refine ⟨RetD.eq rfl ?_, trivial⟩
      all_goals (rw [HF])
    replace h6 := of_decide_eq_false h6
    have hDD := h6
    refine AWP.seq (AWP.region ?_)
    refine AOps.step rfl rfl rfl (AOp.fieldAddr rfl fo_65_3 rfl) ?_
    refine AOps.step rfl rfl rfl (AOp.load rfl sc_3 rfl) ?_
    refine AOps.step rfl rfl rfl (AOp.call rfl (.cons (ArgOk.rfl' rfl) .nil) (c_pDay _)) ?_
    refine AOps.step rfl rfl rfl (AOp.not rfl rfl) ?_
    refine AOps.mD rfl rfl rfl rfl rfl ?_
    refine AOps.split 57 rfl (fun g7 => ?_) (fun g7 => ?_)
    · replace g7 := bnot_t g7; replace g7 := of_decide_eq_false g7
      have HF : cpyFault v c (some b) = 1 := ((if_neg hA).trans ((if_neg hB).trans ((if_neg hC).trans ((if_neg hDD).trans (if_pos (.inl g7))))))
      refine AOps.pass ⟨57, rfl, .inl ⟨_, rfl, rfl⟩⟩ rfl rfl ?_
      refine AOps.pass ⟨57, rfl, .inl ⟨_, rfl, rfl⟩⟩ rfl rfl ?_
      refine AOps.pass ⟨57, rfl, .inl ⟨_, rfl, rfl⟩⟩ rfl rfl ?_
      refine AOps.pass ⟨57, rfl, .inl ⟨_, rfl, rfl⟩⟩ rfl rfl ?_
      refine AOps.pass ⟨57, rfl, .inl ⟨_, rfl, rfl⟩⟩ rfl rfl ?_
      refine AOps.pass ⟨57, rfl, .inl ⟨_, rfl, rfl⟩⟩ rfl rfl ?_
      refine AOps.step rfl rfl rfl (AOp.pickT rfl rfl rfl) ?_
      refine AOps.mD rfl rfl rfl rfl rfl ?_
      refine AOps.pass ⟨65, rfl, .inl ⟨_, rfl, rfl⟩⟩ rfl rfl ?_
      refine AOps.pass ⟨65, rfl, .inl ⟨_, rfl, rfl⟩⟩ rfl rfl ?_
      refine AOps.pass ⟨65, rfl, .inl ⟨_, rfl, rfl⟩⟩ rfl rfl ?_
      refine AOps.pass ⟨65, rfl, .inl ⟨_, rfl, rfl⟩⟩ rfl rfl ?_
      refine AOps.step rfl rfl rfl (AOp.pickT rfl rfl rfl) ?_
      refine AOps.aD rfl rfl rfl rfl rfl (.nil ?_)
      refine AWP.cond rfl (fun _ => ?_) (fun h => nomatch h)
      refine AWP.seq (AWP.region ?_)
      refine AOps.aD rfl rfl rfl rfl rfl (.nil ?_)
      refine AWP.ret ?_
      refine ⟨RetD.eq rfl ?_, trivial⟩
      all_goals (rw [HF])
    replace g7 := bnot_f g7; replace g7 := of_decide_eq_true g7
    have he1 := g7
    refine AOps.step ⟨57, rfl, .inl ⟨_, rfl, rfl⟩⟩ rfl rfl (AOp.fieldAddr rfl fo_65_4 rfl) ?_
    refine AOps.step ⟨57, rfl, .inl ⟨_, rfl, rfl⟩⟩ rfl rfl (AOp.load rfl sc_3 rfl) ?_
    refine AOps.step ⟨57, rfl, .inl ⟨_, rfl, rfl⟩⟩ rfl rfl (AOp.fieldAddr rfl fo_65_3 rfl) ?_
    refine AOps.step ⟨57, rfl, .inl ⟨_, rfl, rfl⟩⟩ rfl rfl (AOp.load rfl sc_3 rfl) ?_
    refine AOps.step ⟨57, rfl, .inl ⟨_, rfl, rfl⟩⟩ rfl rfl (AOp.call rfl (.cons (ArgOk.rfl' rfl) (.cons (ArgOk.rfl' rfl) (.cons (ArgOk.rfl' rfl) .nil))) (c_pWithin _ _ _)) ?_
    refine AOps.step ⟨57, rfl, .inl ⟨_, rfl, rfl⟩⟩ rfl rfl (AOp.not rfl rfl) ?_
    refine AOps.step rfl rfl rfl (AOp.pickF rfl rfl rfl) ?_
    refine AOps.mD rfl rfl rfl rfl rfl ?_
    refine AOps.split 65 rfl (fun g8 => ?_) (fun g8 => ?_)
    · replace g8 := bnot_t g8; replace g8 := of_decide_eq_false g8
      have HF : cpyFault v c (some b) = 1 := ((if_neg hA).trans ((if_neg hB).trans ((if_neg hC).trans ((if_neg hDD).trans (if_pos (.inr (.inl g8)))))))
      refine AOps.pass ⟨65, rfl, .inl ⟨_, rfl, rfl⟩⟩ rfl rfl ?_
      refine AOps.pass ⟨65, rfl, .inl ⟨_, rfl, rfl⟩⟩ rfl rfl ?_
      refine AOps.pass ⟨65, rfl, .inl ⟨_, rfl, rfl⟩⟩ rfl rfl ?_
      refine AOps.pass ⟨65, rfl, .inl ⟨_, rfl, rfl⟩⟩ rfl rfl ?_
      refine AOps.step rfl rfl rfl (AOp.pickT rfl rfl rfl) ?_
      refine AOps.aD rfl rfl rfl rfl rfl (.nil ?_)
      refine AWP.cond rfl (fun _ => ?_) (fun h => nomatch h)
      refine AWP.seq (AWP.region ?_)
      refine AOps.aD rfl rfl rfl rfl rfl (.nil ?_)
      refine AWP.ret ?_
      refine ⟨RetD.eq rfl ?_, trivial⟩
      all_goals (rw [HF])
    replace g8 := bnot_f g8; replace g8 := of_decide_eq_true g8
    have he2 := g8
    refine AOps.step ⟨65, rfl, .inl ⟨_, rfl, rfl⟩⟩ rfl rfl (AOp.fieldAddr rfl fo_65_5 rfl) ?_
    refine AOps.step ⟨65, rfl, .inl ⟨_, rfl, rfl⟩⟩ rfl rfl (AOp.load rfl sc_3 rfl) ?_
    refine AOps.step ⟨65, rfl, .inl ⟨_, rfl, rfl⟩⟩ rfl rfl (AOp.call rfl (.cons (ArgOk.rfl' rfl) (.cons (ArgOk.rfl' rfl) (.cons (ArgOk.rfl' rfl) .nil))) (c_pWithin _ _ _)) ?_
    refine AOps.step ⟨65, rfl, .inl ⟨_, rfl, rfl⟩⟩ rfl rfl (AOp.not rfl rfl) ?_
    refine AOps.step rfl rfl rfl (AOp.pickF rfl rfl rfl) ?_
    refine AOps.aD rfl rfl rfl rfl rfl (.nil ?_)
    refine AWP.cond rfl (fun h9 => ?_) (fun h9 => ?_)
    · replace h9 := bnot_t h9; replace h9 := of_decide_eq_false h9
      have HF : cpyFault v c (some b) = 1 := ((if_neg hA).trans ((if_neg hB).trans ((if_neg hC).trans ((if_neg hDD).trans (if_pos (.inr (.inr h9)))))))
      refine AWP.seq (AWP.region ?_)
      refine AOps.aD rfl rfl rfl rfl rfl (.nil ?_)
      refine AWP.ret ?_
      refine ⟨RetD.eq rfl ?_, trivial⟩
      all_goals (rw [HF])
    replace h9 := bnot_f h9; replace h9 := of_decide_eq_true h9
    have hE : ¬ (¬ (0 ≤ c.day ∧ c.day ≤ 200000) ∨ ¬ (c.day ≤ c.last ∧ c.last ≤ 200000) ∨ ¬ (1 ≤ c.gen ∧ c.gen ≤ 100)) := by omega
    refine AWP.seq (AWP.region ?_)
    refine AOps.step rfl rfl rfl (AOp.fieldAddr rfl fo_65_5 rfl) ?_
    refine AOps.step rfl rfl rfl (AOp.load rfl sc_3 rfl) ?_
    refine AOps.step rfl rfl rfl (AOp.eql rfl rfl rfl) ?_
    refine AOps.step rfl rfl rfl (AOp.fieldAddr rfl fo_65_2 rfl) ?_
    refine AOps.step rfl rfl rfl (AOp.load rfl sc_9 rfl) ?_
    refine AOps.step rfl rfl rfl (AOp.seql rfl rfl rfl) ?_
    refine AOps.step rfl rfl rfl (AOp.bneq rfl bt_4 rfl rfl) ?_
    refine AOps.aD rfl rfl rfl rfl rfl (.nil ?_)
    refine AWP.cond rfl (fun h10 => ?_) (fun h10 => ?_)
    · replace h10 := of_decide_eq_true h10
      have HF : cpyFault v c (some b) = 3 := ((if_neg hA).trans ((if_neg hB).trans ((if_neg hC).trans ((if_neg hDD).trans ((if_neg hE).trans (if_pos h10))))))
      refine AWP.seq (AWP.region ?_)
      refine AOps.aD rfl rfl rfl rfl rfl (.nil ?_)
      refine AWP.ret ?_
      refine ⟨RetD.eq rfl ?_, trivial⟩
      all_goals (rw [HF])
    replace h10 := of_decide_eq_false h10
    have hG := h10
    have HX : cpyFault v c (some b) = ffst (badFault (itemBlocks v c.item) c.bad) c.bad.length := ((if_neg hA).trans ((if_neg hB).trans ((if_neg hC).trans ((if_neg hDD).trans ((if_neg hE).trans (if_neg hG))))))
    refine AWP.skip ?_
    refine AWP.seq ?_
    refine AWP.seq (AWP.region ?_)
    refine AOps.step rfl rfl rfl (AOp.fieldAddr rfl fo_65_6 rfl) ?_
    refine AOps.step rfl rfl rfl (AOp.load rfl sc_63 rfl) ?_
    refine AOps.step rfl rfl rfl (AOp.lenSl rfl et_63.ht rfl) ?_
    refine AOps.mD rfl rfl rfl rfl rfl (.nil ?_)
    refine AWP.block ?_
    refine AWP.bound 80 rfl (fun hbd80 => ?_)
    rw [List.length_map] at hbd80
    refine AWP.loop (G := Nat) (fun q => Env.of [(82, .d (.v (.int .i64 (q : Int)))), (80, .d (.sl (c.bad.map intD))), (81, .d (.v (.int .i64 ((c.bad.map intD).length : Int)))), (3, .d (.fp v.ds)), (4, .d (.fp c.ds)), (7, .d (.v (.int .i64 (itemIdx v c.item))))]) (fun q => []) (fun q => q ≤ c.bad.length ∧ ffst (badFault (itemBlocks v c.item) c.bad) q = 0) (fun q => c.bad.length - q) 0 ⟨Nat.zero_le _, rfl⟩ (Sub.less ⟨(SLe.of_eq rfl), SLe.refl _, SLe.refl _, SLe.refl _, SLe.refl _, SLe.refl _, trivial⟩ (fun _ h => h)) ?_
    intro q hq
    refine AWP.seq (AWP.region ?_)
    refine AOps.step rfl rfl rfl (AOp.lss rfl rfl rfl) (.nil ?_)
    refine AWP.seq ?_
    refine AWP.cond rfl (fun h11 => ?_) (fun h11 => ?_)
    · replace h11 := of_decide_eq_true h11
      rw [List.length_map] at h11
      have hlt : q < c.bad.length := by omega
      refine AWP.skip ?_
      refine AWP.seq ?_
      refine AWP.block ?_
      refine AWP.seq (AWP.region ?_)
      refine AOps.mD rfl rfl rfl rfl rfl ?_
      refine AOps.step rfl rfl rfl (AOp.indexAddr rfl et_63 rfl rfl q rfl (at_list hlt) rfl) ?_
      refine AOps.step rfl rfl rfl (AOp.load rfl sc_3 rfl) ?_
      refine AOps.aD rfl rfl rfl rfl rfl ?_
      refine AOps.aD rfl rfl rfl rfl rfl (.nil ?_)
      refine AWP.seq ?_
      refine AWP.seq (AWP.region ?_)
      refine AOps.mD rfl rfl rfl rfl rfl ?_
      refine AOps.step rfl rfl rfl (AOp.fieldAddr rfl fo_26_0 rfl) ?_
      refine AOps.step rfl rfl rfl (AOp.load rfl sc_22 rfl) ?_
      refine AOps.mD rfl rfl rfl rfl rfl ?_
      refine AOps.step rfl rfl rfl (AOp.indexAddr rfl et_22 rfl rfl ki eki (at_list hki) rfl) ?_
      refine AOps.step rfl rfl rfl (AOp.fieldAddr rfl fo_62_1 rfl) ?_
      refine AOps.step rfl rfl rfl (AOp.load rfl sc_3 rfl) ?_
      refine AOps.step rfl rfl rfl (AOp.sub64 rfl rfl rfl (by omega) (by omega)) ?_
      refine AOps.step rfl rfl rfl (AOp.call rfl (.cons (ArgOk.rfl' rfl) (.cons (ArgOk.rfl' rfl) (.cons (ArgOk.rfl' rfl) .nil))) (c_pWithin _ _ _)) ?_
      refine AOps.step rfl rfl rfl (AOp.not rfl rfl) (.nil ?_)
      refine AWP.cond rfl (fun h12 => ?_) (fun h12 => ?_)
      · replace h12 := bnot_t h12; replace h12 := of_decide_eq_false h12
        have HF : cpyFault v c (some b) = 1 := by rw [HX, ffst_hit hq.2 (by rw [badFault_1 hlt (by rw [hib]; exact h12)]; decide) _ hlt, badFault_1 hlt (by rw [hib]; exact h12)]
        refine AWP.seq (AWP.region ?_)
        refine AOps.aD rfl rfl rfl rfl rfl (.nil ?_)
        refine AWP.ret ?_
        refine ⟨RetD.eq rfl ?_, trivial⟩
        all_goals (rw [HF])
      replace h12 := bnot_f h12; replace h12 := of_decide_eq_true h12
      have h7 : 0 ≤ c.bad[q] ∧ c.bad[q] ≤ itemBlocks v c.item - 1 := by rw [hib]; omega
      refine AWP.skip ?_
      refine AWP.seq (AWP.region ?_)
      refine AOps.mD rfl rfl rfl rfl rfl ?_
      refine AOps.step rfl rfl rfl (AOp.gtr rfl rfl rfl) ?_
      refine AOps.mD rfl rfl rfl rfl rfl ?_
      refine AOps.split 99 rfl (fun g13 => ?_) (fun g13 => ?_)
      · replace g13 := of_decide_eq_true g13
        refine AOps.step ⟨99, rfl, .inl ⟨_, rfl, rfl⟩⟩ rfl rfl (AOp.moveD rfl rfl) ?_
        refine AOps.step ⟨99, rfl, .inl ⟨_, rfl, rfl⟩⟩ rfl rfl (AOp.fieldAddr rfl fo_65_6 rfl) ?_
        refine AOps.step ⟨99, rfl, .inl ⟨_, rfl, rfl⟩⟩ rfl rfl (AOp.load rfl sc_63 rfl) ?_
        refine AOps.step ⟨99, rfl, .inl ⟨_, rfl, rfl⟩⟩ rfl rfl (AOp.moveD rfl rfl) ?_
        refine AOps.step ⟨99, rfl, .inl ⟨_, rfl, rfl⟩⟩ rfl rfl (AOp.sub64 rfl rfl rfl (by omega) (by omega)) ?_
        refine AOps.step ⟨99, rfl, .inl ⟨_, rfl, rfl⟩⟩ rfl rfl (AOp.indexAddr rfl et_63 rfl rfl (q - 1) (by omega) (at_list (by omega)) rfl) ?_
        refine AOps.step ⟨99, rfl, .inl ⟨_, rfl, rfl⟩⟩ rfl rfl (AOp.load rfl sc_3 rfl) ?_
        refine AOps.step ⟨99, rfl, .inl ⟨_, rfl, rfl⟩⟩ rfl rfl (AOp.leq rfl rfl rfl) ?_
        refine AOps.step rfl rfl rfl (AOp.pickT rfl rfl rfl) (.nil ?_)
        refine AWP.cond rfl (fun h14 => ?_) (fun h14 => ?_)
        · replace h14 := of_decide_eq_true h14
          have HF : cpyFault v c (some b) = 8 := by rw [HX, ffst_hit hq.2 (by rw [badFault_8 hlt h7 (by omega) h14]; decide) _ hlt, badFault_8 hlt h7 (by omega) h14]
          refine AWP.seq (AWP.region ?_)
          refine AOps.aD rfl rfl rfl rfl rfl (.nil ?_)
          refine AWP.ret ?_
          refine ⟨RetD.eq rfl ?_, trivial⟩
          all_goals (rw [HF])
        replace h14 := of_decide_eq_false h14
        have h8 : 0 < q → ¬ c.bad[q] ≤ c.bad[q-1] := fun _ => h14
        refine AWP.skip ?_
        refine AWP.region ?_
        refine AOps.step rfl rfl rfl (AOp.add64 rfl rfl rfl (by omega) (by omega)) ?_
        refine AOps.mD rfl rfl rfl rfl rfl (.nil ?_)
        refine ⟨q + 1, ⟨by omega, ffst_next hq.2 (badFault_0 hlt h7 h8)⟩, (by dsimp only; omega), Sub.less ⟨(SLe.of_eq rfl), SLe.refl _, SLe.refl _, SLe.refl _, SLe.refl _, SLe.refl _, trivial⟩ (fun _ h => h)⟩
      replace g13 := of_decide_eq_false g13
      have h8 : 0 < q → ¬ c.bad[q] ≤ c.bad[q-1] := fun hh => absurd hh (by omega)
      refine AOps.pass ⟨99, rfl, .inl ⟨_, rfl, rfl⟩⟩ rfl rfl ?_
      refine AOps.pass ⟨99, rfl, .inl ⟨_, rfl, rfl⟩⟩ rfl rfl ?_
      refine AOps.pass ⟨99, rfl, .inl ⟨_, rfl, rfl⟩⟩ rfl rfl ?_
      refine AOps.pass ⟨99, rfl, .inl ⟨_, rfl, rfl⟩⟩ rfl rfl ?_
      refine AOps.pass ⟨99, rfl, .inl ⟨_, rfl, rfl⟩⟩ rfl rfl ?_
      refine AOps.pass ⟨99, rfl, .inl ⟨_, rfl, rfl⟩⟩ rfl rfl ?_
      refine AOps.pass ⟨99, rfl, .inl ⟨_, rfl, rfl⟩⟩ rfl rfl ?_
      refine AOps.pass ⟨99, rfl, .inl ⟨_, rfl, rfl⟩⟩ rfl rfl ?_
      refine AOps.step rfl rfl rfl (AOp.pickF rfl rfl rfl) (.nil ?_)
      refine AWP.cond rfl (fun h => nomatch h) (fun _ => ?_)
      refine AWP.skip ?_
      refine AWP.region ?_
      refine AOps.step rfl rfl rfl (AOp.add64 rfl rfl rfl (by omega) (by omega)) ?_
      refine AOps.mD rfl rfl rfl rfl rfl (.nil ?_)
      refine ⟨q + 1, ⟨by omega, ffst_next hq.2 (badFault_0 hlt h7 h8)⟩, (by dsimp only; omega), Sub.less ⟨(SLe.of_eq rfl), SLe.refl _, SLe.refl _, SLe.refl _, SLe.refl _, SLe.refl _, trivial⟩ (fun _ h => h)⟩
    replace h11 := of_decide_eq_false h11
    rw [List.length_map] at h11
    have HF : cpyFault v c (some b) = 0 := by rw [HX, ← show q = c.bad.length by omega]; exact hq.2
    refine AWP.exit ?_
    refine AWP.seq (AWP.region ?_)
    refine AOps.aD rfl rfl rfl rfl rfl (.nil ?_)
    refine AWP.ret ?_
    refine ⟨RetD.eq rfl ?_, trivial⟩
    all_goals (rw [HF])
  replace g4 := of_decide_eq_false g4
  have hC : ¬ (c.frm ≠ ⟨#[]⟩ ∧ carrIdx v c.frm < 0) := fun hh => g4 hh.1
  refine AOps.pass ⟨39, rfl, .inl ⟨_, rfl, rfl⟩⟩ rfl rfl ?_
  refine AOps.pass ⟨39, rfl, .inl ⟨_, rfl, rfl⟩⟩ rfl rfl ?_
  refine AOps.pass ⟨39, rfl, .inl ⟨_, rfl, rfl⟩⟩ rfl rfl ?_
  refine AOps.pass ⟨39, rfl, .inl ⟨_, rfl, rfl⟩⟩ rfl rfl ?_
  refine AOps.pass ⟨39, rfl, .inl ⟨_, rfl, rfl⟩⟩ rfl rfl ?_
  refine AOps.step rfl rfl rfl (AOp.pickF rfl rfl rfl) ?_
  refine AOps.aD rfl rfl rfl rfl rfl (.nil ?_)
  refine AWP.cond rfl (fun h => nomatch h) (fun _ => ?_)
  refine AWP.seq (AWP.region ?_)
  refine AOps.step rfl rfl rfl (AOp.fieldAddr rfl fo_65_2 rfl) ?_
  refine AOps.step rfl rfl rfl (AOp.load rfl sc_9 rfl) ?_
  refine AOps.step rfl rfl rfl (AOp.fieldAddr rfl fo_65_1 rfl) ?_
  refine AOps.step rfl rfl rfl (AOp.load rfl sc_9 rfl) ?_
  refine AOps.step rfl rfl rfl (AOp.seql rfl rfl rfl) ?_
  refine AOps.aD rfl rfl rfl rfl rfl (.nil ?_)
  refine AWP.cond rfl (fun h15 => ?_) (fun h15 => ?_)
  · replace h15 := of_decide_eq_true h15
    have HF : cpyFault v c (some b) = 12 := ((if_neg hA).trans ((if_neg hB).trans ((if_neg hC).trans (if_pos h15))))
    refine AWP.seq (AWP.region ?_)
    refine AOps.aD rfl rfl rfl rfl rfl (.nil ?_)
    refine AWP.ret ?_
    refine ⟨RetD.eq rfl ?_, trivial⟩
    all_goals (rw [HF])
  replace h15 := of_decide_eq_false h15
  have hDD := h15
  refine AWP.seq (AWP.region ?_)
  refine AOps.step rfl rfl rfl (AOp.fieldAddr rfl fo_65_3 rfl) ?_
  refine AOps.step rfl rfl rfl (AOp.load rfl sc_3 rfl) ?_
  refine AOps.step rfl rfl rfl (AOp.call rfl (.cons (ArgOk.rfl' rfl) .nil) (c_pDay _)) ?_
  refine AOps.step rfl rfl rfl (AOp.not rfl rfl) ?_
  refine AOps.mD rfl rfl rfl rfl rfl ?_
  refine AOps.split 57 rfl (fun g16 => ?_) (fun g16 => ?_)
  · replace g16 := bnot_t g16; replace g16 := of_decide_eq_false g16
    have HF : cpyFault v c (some b) = 1 := ((if_neg hA).trans ((if_neg hB).trans ((if_neg hC).trans ((if_neg hDD).trans (if_pos (.inl g16))))))
    refine AOps.pass ⟨57, rfl, .inl ⟨_, rfl, rfl⟩⟩ rfl rfl ?_
    refine AOps.pass ⟨57, rfl, .inl ⟨_, rfl, rfl⟩⟩ rfl rfl ?_
    refine AOps.pass ⟨57, rfl, .inl ⟨_, rfl, rfl⟩⟩ rfl rfl ?_
    refine AOps.pass ⟨57, rfl, .inl ⟨_, rfl, rfl⟩⟩ rfl rfl ?_
    refine AOps.pass ⟨57, rfl, .inl ⟨_, rfl, rfl⟩⟩ rfl rfl ?_
    refine AOps.pass ⟨57, rfl, .inl ⟨_, rfl, rfl⟩⟩ rfl rfl ?_
    refine AOps.step rfl rfl rfl (AOp.pickT rfl rfl rfl) ?_
    refine AOps.mD rfl rfl rfl rfl rfl ?_
    refine AOps.pass ⟨65, rfl, .inl ⟨_, rfl, rfl⟩⟩ rfl rfl ?_
    refine AOps.pass ⟨65, rfl, .inl ⟨_, rfl, rfl⟩⟩ rfl rfl ?_
    refine AOps.pass ⟨65, rfl, .inl ⟨_, rfl, rfl⟩⟩ rfl rfl ?_
    refine AOps.pass ⟨65, rfl, .inl ⟨_, rfl, rfl⟩⟩ rfl rfl ?_
    refine AOps.step rfl rfl rfl (AOp.pickT rfl rfl rfl) ?_
    refine AOps.aD rfl rfl rfl rfl rfl (.nil ?_)
    refine AWP.cond rfl (fun _ => ?_) (fun h => nomatch h)
    refine AWP.seq (AWP.region ?_)
    refine AOps.aD rfl rfl rfl rfl rfl (.nil ?_)
    refine AWP.ret ?_
    refine ⟨RetD.eq rfl ?_, trivial⟩
    all_goals (rw [HF])
  replace g16 := bnot_f g16; replace g16 := of_decide_eq_true g16
  have he1 := g16
  refine AOps.step ⟨57, rfl, .inl ⟨_, rfl, rfl⟩⟩ rfl rfl (AOp.fieldAddr rfl fo_65_4 rfl) ?_
  refine AOps.step ⟨57, rfl, .inl ⟨_, rfl, rfl⟩⟩ rfl rfl (AOp.load rfl sc_3 rfl) ?_
  refine AOps.step ⟨57, rfl, .inl ⟨_, rfl, rfl⟩⟩ rfl rfl (AOp.fieldAddr rfl fo_65_3 rfl) ?_
  refine AOps.step ⟨57, rfl, .inl ⟨_, rfl, rfl⟩⟩ rfl rfl (AOp.load rfl sc_3 rfl) ?_
  refine AOps.step ⟨57, rfl, .inl ⟨_, rfl, rfl⟩⟩ rfl rfl (AOp.call rfl (.cons (ArgOk.rfl' rfl) (.cons (ArgOk.rfl' rfl) (.cons (ArgOk.rfl' rfl) .nil))) (c_pWithin _ _ _)) ?_
  refine AOps.step ⟨57, rfl, .inl ⟨_, rfl, rfl⟩⟩ rfl rfl (AOp.not rfl rfl) ?_
  refine AOps.step rfl rfl rfl (AOp.pickF rfl rfl rfl) ?_
  refine AOps.mD rfl rfl rfl rfl rfl ?_
  refine AOps.split 65 rfl (fun g17 => ?_) (fun g17 => ?_)
  · replace g17 := bnot_t g17; replace g17 := of_decide_eq_false g17
    have HF : cpyFault v c (some b) = 1 := ((if_neg hA).trans ((if_neg hB).trans ((if_neg hC).trans ((if_neg hDD).trans (if_pos (.inr (.inl g17)))))))
    refine AOps.pass ⟨65, rfl, .inl ⟨_, rfl, rfl⟩⟩ rfl rfl ?_
    refine AOps.pass ⟨65, rfl, .inl ⟨_, rfl, rfl⟩⟩ rfl rfl ?_
    refine AOps.pass ⟨65, rfl, .inl ⟨_, rfl, rfl⟩⟩ rfl rfl ?_
    refine AOps.pass ⟨65, rfl, .inl ⟨_, rfl, rfl⟩⟩ rfl rfl ?_
    refine AOps.step rfl rfl rfl (AOp.pickT rfl rfl rfl) ?_
    refine AOps.aD rfl rfl rfl rfl rfl (.nil ?_)
    refine AWP.cond rfl (fun _ => ?_) (fun h => nomatch h)
    refine AWP.seq (AWP.region ?_)
    refine AOps.aD rfl rfl rfl rfl rfl (.nil ?_)
    refine AWP.ret ?_
    refine ⟨RetD.eq rfl ?_, trivial⟩
    all_goals (rw [HF])
  replace g17 := bnot_f g17; replace g17 := of_decide_eq_true g17
  have he2 := g17
  refine AOps.step ⟨65, rfl, .inl ⟨_, rfl, rfl⟩⟩ rfl rfl (AOp.fieldAddr rfl fo_65_5 rfl) ?_
  refine AOps.step ⟨65, rfl, .inl ⟨_, rfl, rfl⟩⟩ rfl rfl (AOp.load rfl sc_3 rfl) ?_
  refine AOps.step ⟨65, rfl, .inl ⟨_, rfl, rfl⟩⟩ rfl rfl (AOp.call rfl (.cons (ArgOk.rfl' rfl) (.cons (ArgOk.rfl' rfl) (.cons (ArgOk.rfl' rfl) .nil))) (c_pWithin _ _ _)) ?_
  refine AOps.step ⟨65, rfl, .inl ⟨_, rfl, rfl⟩⟩ rfl rfl (AOp.not rfl rfl) ?_
  refine AOps.step rfl rfl rfl (AOp.pickF rfl rfl rfl) ?_
  refine AOps.aD rfl rfl rfl rfl rfl (.nil ?_)
  refine AWP.cond rfl (fun h18 => ?_) (fun h18 => ?_)
  · replace h18 := bnot_t h18; replace h18 := of_decide_eq_false h18
    have HF : cpyFault v c (some b) = 1 := ((if_neg hA).trans ((if_neg hB).trans ((if_neg hC).trans ((if_neg hDD).trans (if_pos (.inr (.inr h18)))))))
    refine AWP.seq (AWP.region ?_)
    refine AOps.aD rfl rfl rfl rfl rfl (.nil ?_)
    refine AWP.ret ?_
    refine ⟨RetD.eq rfl ?_, trivial⟩
    all_goals (rw [HF])
  replace h18 := bnot_f h18; replace h18 := of_decide_eq_true h18
  have hE : ¬ (¬ (0 ≤ c.day ∧ c.day ≤ 200000) ∨ ¬ (c.day ≤ c.last ∧ c.last ≤ 200000) ∨ ¬ (1 ≤ c.gen ∧ c.gen ≤ 100)) := by omega
  refine AWP.seq (AWP.region ?_)
  refine AOps.step rfl rfl rfl (AOp.fieldAddr rfl fo_65_5 rfl) ?_
  refine AOps.step rfl rfl rfl (AOp.load rfl sc_3 rfl) ?_
  refine AOps.step rfl rfl rfl (AOp.eql rfl rfl rfl) ?_
  refine AOps.step rfl rfl rfl (AOp.fieldAddr rfl fo_65_2 rfl) ?_
  refine AOps.step rfl rfl rfl (AOp.load rfl sc_9 rfl) ?_
  refine AOps.step rfl rfl rfl (AOp.seql rfl rfl rfl) ?_
  refine AOps.step rfl rfl rfl (AOp.bneq rfl bt_4 rfl rfl) ?_
  refine AOps.aD rfl rfl rfl rfl rfl (.nil ?_)
  refine AWP.cond rfl (fun h19 => ?_) (fun h19 => ?_)
  · replace h19 := of_decide_eq_true h19
    have HF : cpyFault v c (some b) = 3 := ((if_neg hA).trans ((if_neg hB).trans ((if_neg hC).trans ((if_neg hDD).trans ((if_neg hE).trans (if_pos h19))))))
    refine AWP.seq (AWP.region ?_)
    refine AOps.aD rfl rfl rfl rfl rfl (.nil ?_)
    refine AWP.ret ?_
    refine ⟨RetD.eq rfl ?_, trivial⟩
    all_goals (rw [HF])
  replace h19 := of_decide_eq_false h19
  have hG := h19
  have HX : cpyFault v c (some b) = ffst (badFault (itemBlocks v c.item) c.bad) c.bad.length := ((if_neg hA).trans ((if_neg hB).trans ((if_neg hC).trans ((if_neg hDD).trans ((if_neg hE).trans (if_neg hG))))))
  refine AWP.skip ?_
  refine AWP.seq ?_
  refine AWP.seq (AWP.region ?_)
  refine AOps.step rfl rfl rfl (AOp.fieldAddr rfl fo_65_6 rfl) ?_
  refine AOps.step rfl rfl rfl (AOp.load rfl sc_63 rfl) ?_
  refine AOps.step rfl rfl rfl (AOp.lenSl rfl et_63.ht rfl) ?_
  refine AOps.mD rfl rfl rfl rfl rfl (.nil ?_)
  refine AWP.block ?_
  refine AWP.bound 80 rfl (fun hbd80 => ?_)
  rw [List.length_map] at hbd80
  refine AWP.loop (G := Nat) (fun q => Env.of [(82, .d (.v (.int .i64 (q : Int)))), (80, .d (.sl (c.bad.map intD))), (81, .d (.v (.int .i64 ((c.bad.map intD).length : Int)))), (3, .d (.fp v.ds)), (4, .d (.fp c.ds)), (7, .d (.v (.int .i64 (itemIdx v c.item))))]) (fun q => []) (fun q => q ≤ c.bad.length ∧ ffst (badFault (itemBlocks v c.item) c.bad) q = 0) (fun q => c.bad.length - q) 0 ⟨Nat.zero_le _, rfl⟩ (Sub.less ⟨(SLe.of_eq rfl), SLe.refl _, SLe.refl _, SLe.refl _, SLe.refl _, SLe.refl _, trivial⟩ (fun _ h => h)) ?_
  intro q hq
  refine AWP.seq (AWP.region ?_)
  refine AOps.step rfl rfl rfl (AOp.lss rfl rfl rfl) (.nil ?_)
  refine AWP.seq ?_
  refine AWP.cond rfl (fun h20 => ?_) (fun h20 => ?_)
  · replace h20 := of_decide_eq_true h20
    rw [List.length_map] at h20
    have hlt : q < c.bad.length := by omega
    refine AWP.skip ?_
    refine AWP.seq ?_
    refine AWP.block ?_
    refine AWP.seq (AWP.region ?_)
    refine AOps.mD rfl rfl rfl rfl rfl ?_
    refine AOps.step rfl rfl rfl (AOp.indexAddr rfl et_63 rfl rfl q rfl (at_list hlt) rfl) ?_
    refine AOps.step rfl rfl rfl (AOp.load rfl sc_3 rfl) ?_
    refine AOps.aD rfl rfl rfl rfl rfl ?_
    refine AOps.aD rfl rfl rfl rfl rfl (.nil ?_)
    refine AWP.seq ?_
    refine AWP.seq (AWP.region ?_)
    refine AOps.mD rfl rfl rfl rfl rfl ?_
    refine AOps.step rfl rfl rfl (AOp.fieldAddr rfl fo_26_0 rfl) ?_
    refine AOps.step rfl rfl rfl (AOp.load rfl sc_22 rfl) ?_
    refine AOps.mD rfl rfl rfl rfl rfl ?_
    refine AOps.step rfl rfl rfl (AOp.indexAddr rfl et_22 rfl rfl ki eki (at_list hki) rfl) ?_
    refine AOps.step rfl rfl rfl (AOp.fieldAddr rfl fo_62_1 rfl) ?_
    refine AOps.step rfl rfl rfl (AOp.load rfl sc_3 rfl) ?_
    refine AOps.step rfl rfl rfl (AOp.sub64 rfl rfl rfl (by omega) (by omega)) ?_
    refine AOps.step rfl rfl rfl (AOp.call rfl (.cons (ArgOk.rfl' rfl) (.cons (ArgOk.rfl' rfl) (.cons (ArgOk.rfl' rfl) .nil))) (c_pWithin _ _ _)) ?_
    refine AOps.step rfl rfl rfl (AOp.not rfl rfl) (.nil ?_)
    refine AWP.cond rfl (fun h21 => ?_) (fun h21 => ?_)
    · replace h21 := bnot_t h21; replace h21 := of_decide_eq_false h21
      have HF : cpyFault v c (some b) = 1 := by rw [HX, ffst_hit hq.2 (by rw [badFault_1 hlt (by rw [hib]; exact h21)]; decide) _ hlt, badFault_1 hlt (by rw [hib]; exact h21)]
      refine AWP.seq (AWP.region ?_)
      refine AOps.aD rfl rfl rfl rfl rfl (.nil ?_)
      refine AWP.ret ?_
      refine ⟨RetD.eq rfl ?_, trivial⟩
      all_goals (rw [HF])
    replace h21 := bnot_f h21; replace h21 := of_decide_eq_true h21
    have h7 : 0 ≤ c.bad[q] ∧ c.bad[q] ≤ itemBlocks v c.item - 1 := by rw [hib]; omega
    refine AWP.skip ?_
    refine AWP.seq (AWP.region ?_)
    refine AOps.mD rfl rfl rfl rfl rfl ?_
    refine AOps.step rfl rfl rfl (AOp.gtr rfl rfl rfl) ?_
    refine AOps.mD rfl rfl rfl rfl rfl ?_
    refine AOps.split 99 rfl (fun g22 => ?_) (fun g22 => ?_)
    · replace g22 := of_decide_eq_true g22
      refine AOps.step ⟨99, rfl, .inl ⟨_, rfl, rfl⟩⟩ rfl rfl (AOp.moveD rfl rfl) ?_
      refine AOps.step ⟨99, rfl, .inl ⟨_, rfl, rfl⟩⟩ rfl rfl (AOp.fieldAddr rfl fo_65_6 rfl) ?_
      refine AOps.step ⟨99, rfl, .inl ⟨_, rfl, rfl⟩⟩ rfl rfl (AOp.load rfl sc_63 rfl) ?_
      refine AOps.step ⟨99, rfl, .inl ⟨_, rfl, rfl⟩⟩ rfl rfl (AOp.moveD rfl rfl) ?_
      refine AOps.step ⟨99, rfl, .inl ⟨_, rfl, rfl⟩⟩ rfl rfl (AOp.sub64 rfl rfl rfl (by omega) (by omega)) ?_
      refine AOps.step ⟨99, rfl, .inl ⟨_, rfl, rfl⟩⟩ rfl rfl (AOp.indexAddr rfl et_63 rfl rfl (q - 1) (by omega) (at_list (by omega)) rfl) ?_
      refine AOps.step ⟨99, rfl, .inl ⟨_, rfl, rfl⟩⟩ rfl rfl (AOp.load rfl sc_3 rfl) ?_
      refine AOps.step ⟨99, rfl, .inl ⟨_, rfl, rfl⟩⟩ rfl rfl (AOp.leq rfl rfl rfl) ?_
      refine AOps.step rfl rfl rfl (AOp.pickT rfl rfl rfl) (.nil ?_)
      refine AWP.cond rfl (fun h23 => ?_) (fun h23 => ?_)
      · replace h23 := of_decide_eq_true h23
        have HF : cpyFault v c (some b) = 8 := by rw [HX, ffst_hit hq.2 (by rw [badFault_8 hlt h7 (by omega) h23]; decide) _ hlt, badFault_8 hlt h7 (by omega) h23]
        refine AWP.seq (AWP.region ?_)
        refine AOps.aD rfl rfl rfl rfl rfl (.nil ?_)
        refine AWP.ret ?_
        refine ⟨RetD.eq rfl ?_, trivial⟩
        all_goals (rw [HF])
      replace h23 := of_decide_eq_false h23
      have h8 : 0 < q → ¬ c.bad[q] ≤ c.bad[q-1] := fun _ => h23
      refine AWP.skip ?_
      refine AWP.region ?_
      refine AOps.step rfl rfl rfl (AOp.add64 rfl rfl rfl (by omega) (by omega)) ?_
      refine AOps.mD rfl rfl rfl rfl rfl (.nil ?_)
      refine ⟨q + 1, ⟨by omega, ffst_next hq.2 (badFault_0 hlt h7 h8)⟩, (by dsimp only; omega), Sub.less ⟨(SLe.of_eq rfl), SLe.refl _, SLe.refl _, SLe.refl _, SLe.refl _, SLe.refl _, trivial⟩ (fun _ h => h)⟩
    replace g22 := of_decide_eq_false g22
    have h8 : 0 < q → ¬ c.bad[q] ≤ c.bad[q-1] := fun hh => absurd hh (by omega)
    refine AOps.pass ⟨99, rfl, .inl ⟨_, rfl, rfl⟩⟩ rfl rfl ?_
    refine AOps.pass ⟨99, rfl, .inl ⟨_, rfl, rfl⟩⟩ rfl rfl ?_
    refine AOps.pass ⟨99, rfl, .inl ⟨_, rfl, rfl⟩⟩ rfl rfl ?_
    refine AOps.pass ⟨99, rfl, .inl ⟨_, rfl, rfl⟩⟩ rfl rfl ?_
    refine AOps.pass ⟨99, rfl, .inl ⟨_, rfl, rfl⟩⟩ rfl rfl ?_
    refine AOps.pass ⟨99, rfl, .inl ⟨_, rfl, rfl⟩⟩ rfl rfl ?_
    refine AOps.pass ⟨99, rfl, .inl ⟨_, rfl, rfl⟩⟩ rfl rfl ?_
    refine AOps.pass ⟨99, rfl, .inl ⟨_, rfl, rfl⟩⟩ rfl rfl ?_
    refine AOps.step rfl rfl rfl (AOp.pickF rfl rfl rfl) (.nil ?_)
    refine AWP.cond rfl (fun h => nomatch h) (fun _ => ?_)
    refine AWP.skip ?_
    refine AWP.region ?_
    refine AOps.step rfl rfl rfl (AOp.add64 rfl rfl rfl (by omega) (by omega)) ?_
    refine AOps.mD rfl rfl rfl rfl rfl (.nil ?_)
    refine ⟨q + 1, ⟨by omega, ffst_next hq.2 (badFault_0 hlt h7 h8)⟩, (by dsimp only; omega), Sub.less ⟨(SLe.of_eq rfl), SLe.refl _, SLe.refl _, SLe.refl _, SLe.refl _, SLe.refl _, trivial⟩ (fun _ h => h)⟩
  replace h20 := of_decide_eq_false h20
  rw [List.length_map] at h20
  have HF : cpyFault v c (some b) = 0 := by rw [HX, ← show q = c.bad.length by omega]; exact hq.2
  refine AWP.exit ?_
  refine AWP.seq (AWP.region ?_)
  refine AOps.aD rfl rfl rfl rfl rfl (.nil ?_)
  refine AWP.ret ?_
  refine ⟨RetD.eq rfl ?_, trivial⟩
  all_goals (rw [HF])

end Go.Proofs.YtieccphckobhjaaGreatDoor


namespace Go.Proofs.YtieccphckobhjaaGreatDoor
open Go.RowKit
set_option linter.unusedVariables false

/-! Types. -/
namespace TyC4
theorem ag_26 : AggT Tryz.prog 26 3 := .of (by kernel_rfl)
theorem ag_59 : AggT Tryz.prog 59 5 := .of (by kernel_rfl)
theorem ag_62 : AggT Tryz.prog 62 2 := .of (by kernel_rfl)
theorem ag_65 : AggT Tryz.prog 65 7 := .of (by kernel_rfl)
theorem et_22 : ElemTy Tryz.prog 22 62 2 24 (.agg #[(.string ⟨#[]⟩), (.int .i64 0)]) := ⟨by kernel_rfl, by kernel_rfl, by kernel_rfl, by decide⟩
theorem et_23 : ElemTy Tryz.prog 23 59 5 64 (.agg #[(.string ⟨#[]⟩), (.string ⟨#[]⟩), (.string ⟨#[]⟩), (.int .i64 0), (.int .i64 0)]) := ⟨by kernel_rfl, by kernel_rfl, by kernel_rfl, by decide⟩
theorem et_24 : ElemTy Tryz.prog 24 65 7 96 (.agg #[(.string ⟨#[]⟩), (.string ⟨#[]⟩), (.string ⟨#[]⟩), (.int .i64 0), (.int .i64 0), (.int .i64 0), (.slice none 0 0)]) := ⟨by kernel_rfl, by kernel_rfl, by kernel_rfl, by decide⟩
theorem fo_26_0 : fieldOff Tryz.prog 26 0 = some 0 := by kernel_rfl
theorem fo_26_2 : fieldOff Tryz.prog 26 2 = some 2 := by kernel_rfl
theorem fo_59_0 : fieldOff Tryz.prog 59 0 = some 0 := by kernel_rfl
theorem fo_59_1 : fieldOff Tryz.prog 59 1 = some 1 := by kernel_rfl
theorem fo_59_2 : fieldOff Tryz.prog 59 2 = some 2 := by kernel_rfl
theorem fo_59_3 : fieldOff Tryz.prog 59 3 = some 3 := by kernel_rfl
theorem fo_59_4 : fieldOff Tryz.prog 59 4 = some 4 := by kernel_rfl
theorem fo_62_0 : fieldOff Tryz.prog 62 0 = some 0 := by kernel_rfl
theorem fo_62_1 : fieldOff Tryz.prog 62 1 = some 1 := by kernel_rfl
theorem fo_65_0 : fieldOff Tryz.prog 65 0 = some 0 := by kernel_rfl
theorem fo_65_1 : fieldOff Tryz.prog 65 1 = some 1 := by kernel_rfl
theorem sc_22 : Scal Tryz.prog 22 := .of (by kernel_rfl)
theorem sc_24 : Scal Tryz.prog 24 := .of (by kernel_rfl)
theorem sc_3 : Scal Tryz.prog 3 := .of (by kernel_rfl)
theorem sc_9 : Scal Tryz.prog 9 := .of (by kernel_rfl)
theorem sz_59 : ∀ w, (sizeOf 59).run Tryz.prog w = .ok 5 w := SizeT.of (by kernel_rfl)
theorem sz_62 : ∀ w, (sizeOf 62).run Tryz.prog w = .ok 2 w := SizeT.of (by kernel_rfl)
theorem sz_65 : ∀ w, (sizeOf 65).run Tryz.prog w = .ok 7 w := SizeT.of (by kernel_rfl)
theorem zt_59 : (Tryz.prog.info? 59).bind (·.zero) = some (.agg #[(.string ⟨#[]⟩), (.string ⟨#[]⟩), (.string ⟨#[]⟩), (.int .i64 0), (.int .i64 0)]) := by kernel_rfl
theorem zt_62 : (Tryz.prog.info? 62).bind (·.zero) = some (.agg #[(.string ⟨#[]⟩), (.int .i64 0)]) := by kernel_rfl
theorem zt_65 : (Tryz.prog.info? 65).bind (·.zero) = some (.agg #[(.string ⟨#[]⟩), (.string ⟨#[]⟩), (.string ⟨#[]⟩), (.int .i64 0), (.int .i64 0), (.int .i64 0), (.slice none 0 0)]) := by kernel_rfl
end TyC4
open TyC4


theorem SLe.i64 {a b : Int} (h : a = b) : SLe (S.d (D.v (Value.int .i64 a))) (S.d (D.v (Value.int .i64 b))) := SLe.of_eq (by rw [h])


set_option maxRecDepth 100000 in
set_option maxHeartbeats 1000000 in
theorem c_left (v : Vlt) (x : Carr) (hv : okItems v) (hc : okCopies v) (hl : v.copies.length ≤ 1000) (hr : 0 ≤ x.room ∧ x.room ≤ 1000000) : ACall Tryz.prog 20 [.agg v.ds, .agg x.ds] (.v (.int .i64 (x.room - usedOn v x.name))) := by
  refine acall_of (n := 35) (ds' := [.v (.int .i64 (x.room - usedOn v x.name))]) Tryz.func20 rfl (by kernel_rfl) rfl [4] rfl rfl ?_
  intro B w0 F0 fr
  refine AWP.seq (AWP.region ?_)
  refine AOps.step rfl rfl rfl (AOp.box rfl rfl rfl) ?_
  refine AOps.step rfl rfl rfl (AOp.box rfl rfl rfl) ?_
  refine AOps.aD rfl rfl rfl rfl rfl (.nil ?_)
  refine AWP.seq (AWP.region ?_)
  refine AOps.step rfl rfl rfl (AOp.fieldAddr rfl fo_59_4 rfl) ?_
  refine AOps.step rfl rfl rfl (AOp.load rfl sc_3 rfl) ?_
  refine AOps.aD rfl rfl rfl rfl rfl (.nil ?_)
  refine AWP.seq ?_
  refine AWP.seq (AWP.region ?_)
  refine AOps.step rfl rfl rfl (AOp.fieldAddr rfl fo_26_2 rfl) ?_
  refine AOps.step rfl rfl rfl (AOp.load rfl sc_24 rfl) ?_
  refine AOps.step rfl rfl rfl (AOp.lenSl rfl et_24.ht rfl) ?_
  refine AOps.mD rfl rfl rfl rfl rfl (.nil ?_)
  refine AWP.block ?_
  refine AWP.bound 11 rfl (fun hbd => ?_)
  refine AWP.loop (G := Nat) (fun k => Env.of [(13, .d (.v (.int .i64 (k : Int)))), (11, .d (.sl (v.copies.map Cpy.ds))), (12, .d (.v (.int .i64 ((v.copies.map Cpy.ds).length : Int)))), (2, .d (.fp v.ds)), (3, .d (.fp x.ds)), (5, .d (.v (.int .i64 (x.room - usedTo v x.name k))))]) (fun k => []) (fun k => k ≤ v.copies.length) (fun k => v.copies.length - k) 0 (Nat.zero_le _) (Sub.less ⟨(SLe.of_eq rfl), SLe.refl _, SLe.refl _, SLe.refl _, SLe.refl _, (SLe.i64 (by simp [usedTo])), trivial⟩ (fun _ h => h)) ?_
  intro k hk
  refine AWP.seq (AWP.region ?_)
  refine AOps.step rfl rfl rfl (AOp.lss rfl rfl rfl) (.nil ?_)
  refine AWP.seq ?_
  refine AWP.cond rfl (fun h1 => ?_) (fun h1 => ?_)
  · replace h1 := of_decide_eq_true h1
    rw [List.length_map] at h1
    have hlt : k < v.copies.length := by omega
    refine AWP.skip ?_
    refine AWP.seq ?_
    refine AWP.block ?_
    refine AWP.seq (AWP.region ?_)
    refine AOps.step rfl rfl rfl (AOp.indexAddr rfl et_24 rfl rfl k rfl (at_list hlt) rfl) ?_
    refine AOps.step rfl rfl rfl (AOp.loadAgg rfl ag_65 rfl rfl) ?_
    refine AOps.alloc 101 rfl rfl rfl rfl zt_65 rfl rfl rfl ?_
    refine AOps.store rfl rfl rfl sz_65 rfl (.head _) rfl rfl rfl (Nat.le_of_ble_eq_true rfl) (.nil ?_)
    refine AWP.seq (AWP.region ?_)
    refine AOps.step rfl rfl rfl (AOp.fieldAddrP rfl fo_65_1 rfl) ?_
    refine AOps.step rfl rfl rfl (AOp.loadP rfl sc_9 rfl (.head _) rfl) ?_
    refine AOps.step rfl rfl rfl (AOp.fieldAddr rfl fo_59_0 rfl) ?_
    refine AOps.step rfl rfl rfl (AOp.load rfl sc_9 rfl) ?_
    refine AOps.step rfl rfl rfl (AOp.seql rfl rfl rfl) (.nil ?_)
    refine AWP.cond rfl (fun h2 => ?_) (fun h2 => ?_)
    · replace h2 := of_decide_eq_true h2
      have heq := h2
      obtain ⟨ki, hki, eki, _⟩ := idxBy_some (hc _ (List.getElem_mem hlt)).1
      have hib := itemBlocks_at hki eki
      have hbi := hv _ (List.getElem_mem hki)
      have hu := usedTo_bound hv x.name k
      refine AWP.draw (by kernel_rfl) (by kernel_rfl) ?_
      refine DRun.step rfl rfl rfl (AOp.moveD rfl rfl) ?_
      refine DRun.step rfl rfl rfl (AOp.fieldAddr rfl fo_26_0 rfl) ?_
      refine DRun.step rfl rfl rfl (AOp.load rfl sc_22 rfl) ?_
      refine DRun.step rfl rfl rfl (AOp.loadAgg rfl ag_26 rfl rfl) ?_
      refine DRun.step rfl rfl rfl (AOp.fieldAddrP rfl fo_65_0 rfl) ?_
      refine DRun.step rfl rfl rfl (AOp.loadP rfl sc_9 rfl (.head _) rfl) ?_
      refine DRun.step rfl rfl rfl (AOp.call rfl (.cons (ArgOk.rfl' rfl) (.cons (ArgOk.rfl' rfl) .nil)) (c_itemAt _ _)) ?_
      refine DRun.step rfl rfl rfl (AOp.indexAddr rfl et_22 rfl rfl ki eki (at_list hki) rfl) ?_
      refine DRun.step rfl rfl rfl (AOp.fieldAddr rfl fo_62_1 rfl) ?_
      refine DRun.step rfl rfl rfl (AOp.load rfl sc_3 rfl) ?_
      refine DRun.step rfl rfl rfl (AOp.sub64 rfl rfl rfl (by omega) (by omega)) ?_
      refine DRun.step rfl rfl rfl (AOp.assignD rfl rfl) ?_
      refine DRun.nil ?_
      refine AWP.region ?_
      refine AOps.step rfl rfl rfl (AOp.add64 rfl rfl rfl (by omega) (by omega)) ?_
      refine AOps.mD rfl rfl rfl rfl rfl (.nil ?_)
      refine ⟨k + 1, (by omega), (by dsimp only; omega), Sub.less ⟨(SLe.of_eq rfl), SLe.refl _, SLe.refl _, SLe.refl _, SLe.refl _, (SLe.i64 (by rw [usedTo_yes hlt heq, hib]; omega)), trivial⟩ (fun _ h => by cases h)⟩
    replace h2 := of_decide_eq_false h2
    have hne := h2
    refine AWP.skip ?_
    refine AWP.region ?_
    refine AOps.step rfl rfl rfl (AOp.add64 rfl rfl rfl (by omega) (by omega)) ?_
    refine AOps.mD rfl rfl rfl rfl rfl (.nil ?_)
    refine ⟨k + 1, (by omega), (by dsimp only; omega), Sub.less ⟨(SLe.of_eq rfl), SLe.refl _, SLe.refl _, SLe.refl _, SLe.refl _, (SLe.i64 (by rw [usedTo_no hlt hne])), trivial⟩ (fun _ h => by cases h)⟩
  replace h1 := of_decide_eq_false h1
  rw [List.length_map] at h1
  have HX : usedOn v x.name = usedTo v x.name k := by unfold usedOn; rw [show k = v.copies.length by omega]
  rw [HX]
  refine AWP.exit ?_
  refine AWP.seq (AWP.region ?_)
  refine AOps.mD rfl rfl rfl rfl rfl ?_
  refine AOps.aD rfl rfl rfl rfl rfl (.nil ?_)
  refine AWP.ret ?_
  refine ⟨RetD.eq rfl ?_, trivial⟩
  all_goals (rfl)

set_option maxRecDepth 100000 in
set_option maxHeartbeats 1000000 in
theorem c_used (v : Vlt) (nm : ByteArray) (hv : okItems v) (hc : okCopies v) (hl : v.copies.length ≤ 1000) : ACall Tryz.prog 31 [.agg v.ds, .v (.string nm)] (.v (.int .i64 (usedOn v nm))) := by
  refine acall_of (n := 32) (ds' := [.v (.int .i64 (usedOn v nm))]) Tryz.func31 rfl (by kernel_rfl) rfl [4] rfl rfl ?_
  intro B w0 F0 fr
  refine AWP.seq (AWP.region ?_)
  refine AOps.step rfl rfl rfl (AOp.box rfl rfl rfl) ?_
  refine AOps.aD rfl rfl rfl rfl rfl (.nil ?_)
  refine AWP.seq (AWP.region ?_)
  refine AOps.aD rfl rfl rfl rfl rfl (.nil ?_)
  refine AWP.seq ?_
  refine AWP.seq (AWP.region ?_)
  refine AOps.step rfl rfl rfl (AOp.fieldAddr rfl fo_26_2 rfl) ?_
  refine AOps.step rfl rfl rfl (AOp.load rfl sc_24 rfl) ?_
  refine AOps.step rfl rfl rfl (AOp.lenSl rfl et_24.ht rfl) ?_
  refine AOps.mD rfl rfl rfl rfl rfl (.nil ?_)
  refine AWP.block ?_
  refine AWP.bound 9 rfl (fun hbd => ?_)
  refine AWP.loop (G := Nat) (fun k => Env.of [(11, .d (.v (.int .i64 (k : Int)))), (9, .d (.sl (v.copies.map Cpy.ds))), (10, .d (.v (.int .i64 ((v.copies.map Cpy.ds).length : Int)))), (2, .d (.fp v.ds)), (1, .d (.v (.string nm))), (5, .d (.v (.int .i64 (usedTo v nm k))))]) (fun k => []) (fun k => k ≤ v.copies.length) (fun k => v.copies.length - k) 0 (Nat.zero_le _) (Sub.less ⟨(SLe.of_eq rfl), SLe.refl _, SLe.refl _, SLe.refl _, SLe.refl _, (SLe.i64 (by simp [usedTo])), trivial⟩ (fun _ h => h)) ?_
  intro k hk
  refine AWP.seq (AWP.region ?_)
  refine AOps.step rfl rfl rfl (AOp.lss rfl rfl rfl) (.nil ?_)
  refine AWP.seq ?_
  refine AWP.cond rfl (fun h1 => ?_) (fun h1 => ?_)
  · replace h1 := of_decide_eq_true h1
    rw [List.length_map] at h1
    have hlt : k < v.copies.length := by omega
    refine AWP.skip ?_
    refine AWP.seq ?_
    refine AWP.block ?_
    refine AWP.seq (AWP.region ?_)
    refine AOps.step rfl rfl rfl (AOp.indexAddr rfl et_24 rfl rfl k rfl (at_list hlt) rfl) ?_
    refine AOps.step rfl rfl rfl (AOp.loadAgg rfl ag_65 rfl rfl) ?_
    refine AOps.alloc 101 rfl rfl rfl rfl zt_65 rfl rfl rfl ?_
    refine AOps.store rfl rfl rfl sz_65 rfl (.head _) rfl rfl rfl (Nat.le_of_ble_eq_true rfl) (.nil ?_)
    refine AWP.seq (AWP.region ?_)
    refine AOps.step rfl rfl rfl (AOp.fieldAddrP rfl fo_65_1 rfl) ?_
    refine AOps.step rfl rfl rfl (AOp.loadP rfl sc_9 rfl (.head _) rfl) ?_
    refine AOps.mD rfl rfl rfl rfl rfl ?_
    refine AOps.step rfl rfl rfl (AOp.seql rfl rfl rfl) (.nil ?_)
    refine AWP.cond rfl (fun h2 => ?_) (fun h2 => ?_)
    · replace h2 := of_decide_eq_true h2
      have heq := h2
      obtain ⟨ki, hki, eki, _⟩ := idxBy_some (hc _ (List.getElem_mem hlt)).1
      have hib := itemBlocks_at hki eki
      have hbi := hv _ (List.getElem_mem hki)
      have hu := usedTo_bound hv nm k
      refine AWP.draw (by kernel_rfl) (by kernel_rfl) ?_
      refine DRun.step rfl rfl rfl (AOp.moveD rfl rfl) ?_
      refine DRun.step rfl rfl rfl (AOp.fieldAddr rfl fo_26_0 rfl) ?_
      refine DRun.step rfl rfl rfl (AOp.load rfl sc_22 rfl) ?_
      refine DRun.step rfl rfl rfl (AOp.loadAgg rfl ag_26 rfl rfl) ?_
      refine DRun.step rfl rfl rfl (AOp.fieldAddrP rfl fo_65_0 rfl) ?_
      refine DRun.step rfl rfl rfl (AOp.loadP rfl sc_9 rfl (.head _) rfl) ?_
      refine DRun.step rfl rfl rfl (AOp.call rfl (.cons (ArgOk.rfl' rfl) (.cons (ArgOk.rfl' rfl) .nil)) (c_itemOf _ _)) ?_
      refine DRun.step rfl rfl rfl (AOp.indexAddr rfl et_22 rfl rfl ki eki (at_list hki) rfl) ?_
      refine DRun.step rfl rfl rfl (AOp.fieldAddr rfl fo_62_1 rfl) ?_
      refine DRun.step rfl rfl rfl (AOp.load rfl sc_3 rfl) ?_
      refine DRun.step rfl rfl rfl (AOp.add64 rfl rfl rfl (by omega) (by omega)) ?_
      refine DRun.step rfl rfl rfl (AOp.assignD rfl rfl) ?_
      refine DRun.nil ?_
      refine AWP.region ?_
      refine AOps.step rfl rfl rfl (AOp.add64 rfl rfl rfl (by omega) (by omega)) ?_
      refine AOps.mD rfl rfl rfl rfl rfl (.nil ?_)
      refine ⟨k + 1, (by omega), (by dsimp only; omega), Sub.less ⟨(SLe.of_eq rfl), SLe.refl _, SLe.refl _, SLe.refl _, SLe.refl _, (SLe.i64 (by rw [usedTo_yes hlt heq, hib])), trivial⟩ (fun _ h => by cases h)⟩
    replace h2 := of_decide_eq_false h2
    have hne := h2
    refine AWP.skip ?_
    refine AWP.region ?_
    refine AOps.step rfl rfl rfl (AOp.add64 rfl rfl rfl (by omega) (by omega)) ?_
    refine AOps.mD rfl rfl rfl rfl rfl (.nil ?_)
    refine ⟨k + 1, (by omega), (by dsimp only; omega), Sub.less ⟨(SLe.of_eq rfl), SLe.refl _, SLe.refl _, SLe.refl _, SLe.refl _, (SLe.i64 (by rw [usedTo_no hlt hne])), trivial⟩ (fun _ h => by cases h)⟩
  replace h1 := of_decide_eq_false h1
  rw [List.length_map] at h1
  have HX : usedOn v nm = usedTo v nm k := by unfold usedOn; rw [show k = v.copies.length by omega]
  rw [HX]
  refine AWP.exit ?_
  refine AWP.seq (AWP.region ?_)
  refine AOps.mD rfl rfl rfl rfl rfl ?_
  refine AOps.aD rfl rfl rfl rfl rfl (.nil ?_)
  refine AWP.ret ?_
  refine ⟨RetD.eq rfl ?_, trivial⟩
  all_goals (rfl)

set_option maxRecDepth 100000 in
set_option maxHeartbeats 1000000 in
theorem c_rItems (l : List Item) (hn : ∀ x ∈ l, x.name.size ≤ 9223372036854775807) : ACall Tryz.prog 91 [.sl (l.map Item.ds)] (.v (.int .i64 (ffst (itemFault l) l.length))) := by
  refine acall_of (n := 37) (ds' := [.v (.int .i64 (ffst (itemFault l) l.length))]) Tryz.func91 rfl (by kernel_rfl) rfl [2] rfl rfl ?_
  intro B w0 F0 fr
  refine AWP.bound 0 rfl (fun hbd0 => ?_)
  rw [List.length_map] at hbd0
  refine AWP.seq (AWP.region ?_)
  refine AOps.aD rfl rfl rfl rfl rfl (.nil ?_)
  refine AWP.seq ?_
  refine AWP.seq (AWP.region ?_)
  refine AOps.mD rfl rfl rfl rfl rfl ?_
  refine AOps.step rfl rfl rfl (AOp.lenSl rfl et_22.ht rfl) ?_
  refine AOps.mD rfl rfl rfl rfl rfl (.nil ?_)
  refine AWP.block ?_
  refine AWP.loop (G := Nat) (fun k => Env.of [(7, .d (.v (.int .i64 (k : Int)))), (5, .d (.sl (l.map Item.ds))), (6, .d (.v (.int .i64 ((l.map Item.ds).length : Int)))), (0, .d (.sl (l.map Item.ds)))]) (fun k => []) (fun k => k ≤ l.length ∧ ffst (itemFault l) k = 0) (fun k => l.length - k) 0 ⟨Nat.zero_le _, rfl⟩ (Sub.less ⟨(SLe.of_eq rfl), SLe.refl _, SLe.refl _, SLe.refl _, trivial⟩ (fun _ h => h)) ?_
  intro k hk
  refine AWP.seq (AWP.region ?_)
  refine AOps.step rfl rfl rfl (AOp.lss rfl rfl rfl) (.nil ?_)
  refine AWP.seq ?_
  refine AWP.cond rfl (fun h1 => ?_) (fun h1 => ?_)
  · replace h1 := of_decide_eq_true h1
    rw [List.length_map] at h1
    have hlt : k < l.length := by omega
    have hsz := hn _ (List.getElem_mem hlt)
    refine AWP.skip ?_
    refine AWP.seq ?_
    refine AWP.block ?_
    refine AWP.seq (AWP.region ?_)
    refine AOps.mD rfl rfl rfl rfl rfl ?_
    refine AOps.step rfl rfl rfl (AOp.indexAddr rfl et_22 rfl rfl k rfl (at_list hlt) rfl) ?_
    refine AOps.step rfl rfl rfl (AOp.loadAgg rfl ag_62 rfl rfl) ?_
    refine AOps.alloc 101 rfl rfl rfl rfl zt_62 rfl rfl rfl ?_
    refine AOps.aD rfl rfl rfl rfl rfl ?_
    refine AOps.store rfl rfl rfl sz_62 rfl (.head _) rfl rfl rfl (Nat.le_of_ble_eq_true rfl) (.nil ?_)
    refine AWP.block ?_
    refine AWP.seq (AWP.region ?_)
    refine AOps.step rfl rfl rfl (AOp.fieldAddrP rfl fo_62_0 rfl) ?_
    refine AOps.step rfl rfl rfl (AOp.loadP rfl sc_9 rfl (.head _) rfl) ?_
    refine AOps.step rfl rfl rfl (AOp.call rfl (.cons (ArgOk.rfl' rfl) .nil) (c_rName _ (by assumption))) ?_
    refine AOps.step rfl rfl rfl (AOp.not rfl rfl) ?_
    refine AOps.aD rfl rfl rfl rfl rfl (.nil ?_)
    refine AWP.cond rfl (fun h2 => ?_) (fun h2 => ?_)
    · replace h2 := bnot_t h2
      have HF := (ffst_hit hk.2 (by rw [itemFault_5 hlt h2]; decide) _ hlt).trans (itemFault_5 hlt h2)
      refine AWP.seq (AWP.region ?_)
      refine AOps.aD rfl rfl rfl rfl rfl (.nil ?_)
      refine AWP.ret ?_
      refine ⟨RetD.eq rfl ?_, trivial⟩
      all_goals (rw [HF])
    replace h2 := bnot_f h2
    have hnm : nameOk l[k].name = true := h2
    refine AWP.seq ?_
    refine AWP.draw (by kernel_rfl) (by kernel_rfl) ?_
    refine DRun.step rfl rfl rfl (AOp.moveD rfl rfl) ?_
    refine DRun.step rfl rfl rfl (AOp.gtr rfl rfl rfl) ?_
    refine DRun.step rfl rfl rfl (AOp.moveD rfl rfl) ?_
    refine DRun.split 20 rfl (fun g3 => ?_) (fun g3 => ?_)
    · replace g3 := of_decide_eq_true g3
      have hpos := g3
      refine DRun.step ⟨20, rfl, .inl ⟨_, rfl, rfl⟩⟩ rfl rfl (AOp.fieldAddrP rfl fo_62_0 rfl) ?_
      refine DRun.step ⟨20, rfl, .inl ⟨_, rfl, rfl⟩⟩ rfl rfl (AOp.loadP rfl sc_9 rfl (.head _) rfl) ?_
      refine DRun.step ⟨20, rfl, .inl ⟨_, rfl, rfl⟩⟩ rfl rfl (AOp.moveD rfl rfl) ?_
      refine DRun.step ⟨20, rfl, .inl ⟨_, rfl, rfl⟩⟩ rfl rfl (AOp.moveD rfl rfl) ?_
      refine DRun.step ⟨20, rfl, .inl ⟨_, rfl, rfl⟩⟩ rfl rfl (AOp.sub64 rfl rfl rfl (by omega) (by omega)) ?_
      refine DRun.step ⟨20, rfl, .inl ⟨_, rfl, rfl⟩⟩ rfl rfl (AOp.indexAddr rfl et_22 rfl rfl (k - 1) (by omega) (at_list (by omega)) rfl) ?_
      refine DRun.step ⟨20, rfl, .inl ⟨_, rfl, rfl⟩⟩ rfl rfl (AOp.fieldAddr rfl fo_62_0 rfl) ?_
      refine DRun.step ⟨20, rfl, .inl ⟨_, rfl, rfl⟩⟩ rfl rfl (AOp.load rfl sc_9 rfl) ?_
      refine DRun.step ⟨20, rfl, .inl ⟨_, rfl, rfl⟩⟩ rfl rfl (AOp.sleq rfl rfl rfl) ?_
      refine DRun.step rfl rfl rfl (AOp.pickT rfl rfl rfl) ?_
      refine DRun.step rfl rfl rfl (AOp.assignD rfl rfl) ?_
      refine DRun.nil ?_
      refine AWP.cond rfl (fun h4 => ?_) (fun h4 => ?_)
      · skip
        have H8 := itemFault_8 hlt hnm (by omega) h4
        have HF := (ffst_hit hk.2 (by rw [H8]; decide) _ hlt).trans H8
        refine AWP.seq (AWP.region ?_)
        refine AOps.aD rfl rfl rfl rfl rfl (.nil ?_)
        refine AWP.ret ?_
        refine ⟨RetD.eq rfl ?_, trivial⟩
        all_goals (rw [HF])
      have hs := h4
      refine AWP.seq (AWP.region ?_)
      refine AOps.step rfl rfl rfl (AOp.fieldAddrP rfl fo_62_1 rfl) ?_
      refine AOps.step rfl rfl rfl (AOp.loadP rfl sc_3 rfl (.head _) rfl) ?_
      refine AOps.step rfl rfl rfl (AOp.call rfl (.cons (ArgOk.rfl' rfl) (.cons (ArgOk.rfl' rfl) (.cons (ArgOk.rfl' rfl) .nil))) (c_rWithin _ _ _)) ?_
      refine AOps.step rfl rfl rfl (AOp.not rfl rfl) ?_
      refine AOps.aD rfl rfl rfl rfl rfl (.nil ?_)
      refine AWP.cond rfl (fun h5 => ?_) (fun h5 => ?_)
      · replace h5 := bnot_t h5; replace h5 := of_decide_eq_false h5
        have H1 := itemFault_1 hlt hnm (by first | exact fun _ => hs | exact fun h => absurd h (by omega)) h5
        have HF := (ffst_hit hk.2 (by rw [H1]; decide) _ hlt).trans H1
        refine AWP.seq (AWP.region ?_)
        refine AOps.aD rfl rfl rfl rfl rfl (.nil ?_)
        refine AWP.ret ?_
        refine ⟨RetD.eq rfl ?_, trivial⟩
        all_goals (rw [HF])
      replace h5 := bnot_f h5; replace h5 := of_decide_eq_true h5
      have H0 := itemFault_0 hlt hnm (by first | exact fun _ => hs | exact fun h => absurd h (by omega)) h5
      refine AWP.skip ?_
      refine AWP.region ?_
      refine AOps.step rfl rfl rfl (AOp.add64 rfl rfl rfl (by omega) (by omega)) ?_
      refine AOps.mD rfl rfl rfl rfl rfl (.nil ?_)
      refine ⟨k + 1, ⟨by omega, ffst_next hk.2 H0⟩, (by dsimp only; omega), Sub.less ⟨(SLe.of_eq rfl), SLe.refl _, SLe.refl _, SLe.refl _, trivial⟩ (fun _ h => by cases h)⟩
    replace g3 := of_decide_eq_false g3
    refine DRun.pass ⟨20, rfl, .inl ⟨_, rfl, rfl⟩⟩ rfl rfl ?_
    refine DRun.pass ⟨20, rfl, .inl ⟨_, rfl, rfl⟩⟩ rfl rfl ?_
    refine DRun.pass ⟨20, rfl, .inl ⟨_, rfl, rfl⟩⟩ rfl rfl ?_
    refine DRun.pass ⟨20, rfl, .inl ⟨_, rfl, rfl⟩⟩ rfl rfl ?_
    refine DRun.pass ⟨20, rfl, .inl ⟨_, rfl, rfl⟩⟩ rfl rfl ?_
    refine DRun.pass ⟨20, rfl, .inl ⟨_, rfl, rfl⟩⟩ rfl rfl ?_
    refine DRun.pass ⟨20, rfl, .inl ⟨_, rfl, rfl⟩⟩ rfl rfl ?_
    refine DRun.pass ⟨20, rfl, .inl ⟨_, rfl, rfl⟩⟩ rfl rfl ?_
    refine DRun.pass ⟨20, rfl, .inl ⟨_, rfl, rfl⟩⟩ rfl rfl ?_
    refine DRun.step rfl rfl rfl (AOp.pickF rfl rfl rfl) ?_
    refine DRun.step rfl rfl rfl (AOp.assignD rfl rfl) ?_
    refine DRun.nil ?_
    refine AWP.cond rfl (fun h => nomatch h) (fun _ => ?_)
    refine AWP.seq (AWP.region ?_)
    refine AOps.step rfl rfl rfl (AOp.fieldAddrP rfl fo_62_1 rfl) ?_
    refine AOps.step rfl rfl rfl (AOp.loadP rfl sc_3 rfl (.head _) rfl) ?_
    refine AOps.step rfl rfl rfl (AOp.call rfl (.cons (ArgOk.rfl' rfl) (.cons (ArgOk.rfl' rfl) (.cons (ArgOk.rfl' rfl) .nil))) (c_rWithin _ _ _)) ?_
    refine AOps.step rfl rfl rfl (AOp.not rfl rfl) ?_
    refine AOps.aD rfl rfl rfl rfl rfl (.nil ?_)
    refine AWP.cond rfl (fun h6 => ?_) (fun h6 => ?_)
    · replace h6 := bnot_t h6; replace h6 := of_decide_eq_false h6
      have H1 := itemFault_1 hlt hnm (by first | exact fun _ => hs | exact fun h => absurd h (by omega)) h6
      have HF := (ffst_hit hk.2 (by rw [H1]; decide) _ hlt).trans H1
      refine AWP.seq (AWP.region ?_)
      refine AOps.aD rfl rfl rfl rfl rfl (.nil ?_)
      refine AWP.ret ?_
      refine ⟨RetD.eq rfl ?_, trivial⟩
      all_goals (rw [HF])
    replace h6 := bnot_f h6; replace h6 := of_decide_eq_true h6
    have H0 := itemFault_0 hlt hnm (by first | exact fun _ => hs | exact fun h => absurd h (by omega)) h6
    refine AWP.skip ?_
    refine AWP.region ?_
    refine AOps.step rfl rfl rfl (AOp.add64 rfl rfl rfl (by omega) (by omega)) ?_
    refine AOps.mD rfl rfl rfl rfl rfl (.nil ?_)
    refine ⟨k + 1, ⟨by omega, ffst_next hk.2 H0⟩, (by dsimp only; omega), Sub.less ⟨(SLe.of_eq rfl), SLe.refl _, SLe.refl _, SLe.refl _, trivial⟩ (fun _ h => by cases h)⟩
  replace h1 := of_decide_eq_false h1
  rw [List.length_map] at h1
  have HF : ffst (itemFault l) l.length = 0 := by rw [← show k = l.length by omega]; exact hk.2
  refine AWP.exit ?_
  refine AWP.seq (AWP.region ?_)
  refine AOps.aD rfl rfl rfl rfl rfl (.nil ?_)
  refine AWP.ret ?_
  refine ⟨RetD.eq rfl ?_, trivial⟩
  all_goals (rw [HF])

set_option maxRecDepth 100000 in
set_option maxHeartbeats 1000000 in
theorem c_rCarrs (l : List Carr) (hn : ∀ x ∈ l, x.name.size ≤ 9223372036854775807 ∧ x.place.size ≤ 9223372036854775807 ∧ x.kind.size ≤ 9223372036854775807) : ACall Tryz.prog 92 [.sl (l.map Carr.ds)] (.v (.int .i64 (ffst (carrFault l) l.length))) := by
  refine acall_of (n := 55) (ds' := [.v (.int .i64 (ffst (carrFault l) l.length))]) Tryz.func92 rfl (by kernel_rfl) rfl [2] rfl rfl ?_
  intro B w0 F0 fr
  refine AWP.bound 0 rfl (fun hbd0 => ?_)
  rw [List.length_map] at hbd0
  refine AWP.seq (AWP.region ?_)
  refine AOps.aD rfl rfl rfl rfl rfl (.nil ?_)
  refine AWP.seq ?_
  refine AWP.seq (AWP.region ?_)
  refine AOps.mD rfl rfl rfl rfl rfl ?_
  refine AOps.step rfl rfl rfl (AOp.lenSl rfl et_23.ht rfl) ?_
  refine AOps.mD rfl rfl rfl rfl rfl (.nil ?_)
  refine AWP.block ?_
  refine AWP.loop (G := Nat) (fun k => Env.of [(7, .d (.v (.int .i64 (k : Int)))), (5, .d (.sl (l.map Carr.ds))), (6, .d (.v (.int .i64 ((l.map Carr.ds).length : Int)))), (0, .d (.sl (l.map Carr.ds)))]) (fun k => []) (fun k => k ≤ l.length ∧ ffst (carrFault l) k = 0) (fun k => l.length - k) 0 ⟨Nat.zero_le _, rfl⟩ (Sub.less ⟨(SLe.of_eq rfl), SLe.refl _, SLe.refl _, SLe.refl _, trivial⟩ (fun _ h => h)) ?_
  intro k hk
  refine AWP.seq (AWP.region ?_)
  refine AOps.step rfl rfl rfl (AOp.lss rfl rfl rfl) (.nil ?_)
  refine AWP.seq ?_
  refine AWP.cond rfl (fun h1 => ?_) (fun h1 => ?_)
  · replace h1 := of_decide_eq_true h1
    rw [List.length_map] at h1
    have hlt : k < l.length := by omega
    obtain ⟨hsz1, hsz2, hsz3⟩ := hn _ (List.getElem_mem hlt)
    refine AWP.skip ?_
    refine AWP.seq ?_
    refine AWP.block ?_
    refine AWP.seq (AWP.region ?_)
    refine AOps.mD rfl rfl rfl rfl rfl ?_
    refine AOps.step rfl rfl rfl (AOp.indexAddr rfl et_23 rfl rfl k rfl (at_list hlt) rfl) ?_
    refine AOps.step rfl rfl rfl (AOp.loadAgg rfl ag_59 rfl rfl) ?_
    refine AOps.alloc 101 rfl rfl rfl rfl zt_59 rfl rfl rfl ?_
    refine AOps.aD rfl rfl rfl rfl rfl ?_
    refine AOps.store rfl rfl rfl sz_59 rfl (.head _) rfl rfl rfl (Nat.le_of_ble_eq_true rfl) (.nil ?_)
    refine AWP.block ?_
    refine AWP.seq (AWP.region ?_)
    refine AOps.step rfl rfl rfl (AOp.fieldAddrP rfl fo_59_0 rfl) ?_
    refine AOps.step rfl rfl rfl (AOp.loadP rfl sc_9 rfl (.head _) rfl) ?_
    refine AOps.step rfl rfl rfl (AOp.call rfl (.cons (ArgOk.rfl' rfl) .nil) (c_rName _ (by assumption))) ?_
    refine AOps.step rfl rfl rfl (AOp.not rfl rfl) ?_
    refine AOps.mD rfl rfl rfl rfl rfl ?_
    refine AOps.split 17 rfl (fun g2 => ?_) (fun g2 => ?_)
    · replace g2 := bnot_t g2
      have H5 := carrFault_5 hlt (.inl g2)
      have HF := (ffst_hit hk.2 (by rw [H5]; decide) _ hlt).trans H5
      refine AOps.pass ⟨17, rfl, .inl ⟨_, rfl, rfl⟩⟩ rfl rfl ?_
      refine AOps.pass ⟨17, rfl, .inl ⟨_, rfl, rfl⟩⟩ rfl rfl ?_
      refine AOps.pass ⟨17, rfl, .inl ⟨_, rfl, rfl⟩⟩ rfl rfl ?_
      refine AOps.pass ⟨17, rfl, .inl ⟨_, rfl, rfl⟩⟩ rfl rfl ?_
      refine AOps.step rfl rfl rfl (AOp.pickT rfl rfl rfl) ?_
      refine AOps.mD rfl rfl rfl rfl rfl ?_
      refine AOps.pass ⟨23, rfl, .inl ⟨_, rfl, rfl⟩⟩ rfl rfl ?_
      refine AOps.pass ⟨23, rfl, .inl ⟨_, rfl, rfl⟩⟩ rfl rfl ?_
      refine AOps.pass ⟨23, rfl, .inl ⟨_, rfl, rfl⟩⟩ rfl rfl ?_
      refine AOps.pass ⟨23, rfl, .inl ⟨_, rfl, rfl⟩⟩ rfl rfl ?_
      refine AOps.step rfl rfl rfl (AOp.pickT rfl rfl rfl) ?_
      refine AOps.aD rfl rfl rfl rfl rfl (.nil ?_)
      refine AWP.cond rfl (fun _ => ?_) (fun h => nomatch h)
      refine AWP.seq (AWP.region ?_)
      refine AOps.aD rfl rfl rfl rfl rfl (.nil ?_)
      refine AWP.ret ?_
      refine ⟨RetD.eq rfl ?_, trivial⟩
      all_goals (rw [HF])
    replace g2 := bnot_f g2
    have hn1 := g2
    refine AOps.step ⟨17, rfl, .inl ⟨_, rfl, rfl⟩⟩ rfl rfl (AOp.fieldAddrP rfl fo_59_1 rfl) ?_
    refine AOps.step ⟨17, rfl, .inl ⟨_, rfl, rfl⟩⟩ rfl rfl (AOp.loadP rfl sc_9 rfl (.head _) rfl) ?_
    refine AOps.step ⟨17, rfl, .inl ⟨_, rfl, rfl⟩⟩ rfl rfl (AOp.call rfl (.cons (ArgOk.rfl' rfl) .nil) (c_rName _ (by assumption))) ?_
    refine AOps.step ⟨17, rfl, .inl ⟨_, rfl, rfl⟩⟩ rfl rfl (AOp.not rfl rfl) ?_
    refine AOps.step rfl rfl rfl (AOp.pickF rfl rfl rfl) ?_
    refine AOps.mD rfl rfl rfl rfl rfl ?_
    refine AOps.split 23 rfl (fun g3 => ?_) (fun g3 => ?_)
    · replace g3 := bnot_t g3
      have H5 := carrFault_5 hlt (.inr (.inl g3))
      have HF := (ffst_hit hk.2 (by rw [H5]; decide) _ hlt).trans H5
      refine AOps.pass ⟨23, rfl, .inl ⟨_, rfl, rfl⟩⟩ rfl rfl ?_
      refine AOps.pass ⟨23, rfl, .inl ⟨_, rfl, rfl⟩⟩ rfl rfl ?_
      refine AOps.pass ⟨23, rfl, .inl ⟨_, rfl, rfl⟩⟩ rfl rfl ?_
      refine AOps.pass ⟨23, rfl, .inl ⟨_, rfl, rfl⟩⟩ rfl rfl ?_
      refine AOps.step rfl rfl rfl (AOp.pickT rfl rfl rfl) ?_
      refine AOps.aD rfl rfl rfl rfl rfl (.nil ?_)
      refine AWP.cond rfl (fun _ => ?_) (fun h => nomatch h)
      refine AWP.seq (AWP.region ?_)
      refine AOps.aD rfl rfl rfl rfl rfl (.nil ?_)
      refine AWP.ret ?_
      refine ⟨RetD.eq rfl ?_, trivial⟩
      all_goals (rw [HF])
    replace g3 := bnot_f g3
    have hn2 := g3
    refine AOps.step ⟨23, rfl, .inl ⟨_, rfl, rfl⟩⟩ rfl rfl (AOp.fieldAddrP rfl fo_59_2 rfl) ?_
    refine AOps.step ⟨23, rfl, .inl ⟨_, rfl, rfl⟩⟩ rfl rfl (AOp.loadP rfl sc_9 rfl (.head _) rfl) ?_
    refine AOps.step ⟨23, rfl, .inl ⟨_, rfl, rfl⟩⟩ rfl rfl (AOp.call rfl (.cons (ArgOk.rfl' rfl) .nil) (c_rName _ (by assumption))) ?_
    refine AOps.step ⟨23, rfl, .inl ⟨_, rfl, rfl⟩⟩ rfl rfl (AOp.not rfl rfl) ?_
    refine AOps.step rfl rfl rfl (AOp.pickF rfl rfl rfl) ?_
    refine AOps.aD rfl rfl rfl rfl rfl (.nil ?_)
    refine AWP.cond rfl (fun h4 => ?_) (fun h4 => ?_)
    · replace h4 := bnot_t h4
      have H5 := carrFault_5 hlt (.inr (.inr h4))
      have HF := (ffst_hit hk.2 (by rw [H5]; decide) _ hlt).trans H5
      refine AWP.seq (AWP.region ?_)
      refine AOps.aD rfl rfl rfl rfl rfl (.nil ?_)
      refine AWP.ret ?_
      refine ⟨RetD.eq rfl ?_, trivial⟩
      all_goals (rw [HF])
    replace h4 := bnot_f h4
    have hnm : nameOk l[k].name = true ∧ nameOk l[k].place = true ∧ nameOk l[k].kind = true := ⟨hn1, hn2, h4⟩
    refine AWP.seq ?_
    refine AWP.draw (by kernel_rfl) (by kernel_rfl) ?_
    refine DRun.step rfl rfl rfl (AOp.moveD rfl rfl) ?_
    refine DRun.step rfl rfl rfl (AOp.gtr rfl rfl rfl) ?_
    refine DRun.step rfl rfl rfl (AOp.moveD rfl rfl) ?_
    refine DRun.split 32 rfl (fun g5 => ?_) (fun g5 => ?_)
    · replace g5 := of_decide_eq_true g5
      refine DRun.step ⟨32, rfl, .inl ⟨_, rfl, rfl⟩⟩ rfl rfl (AOp.fieldAddrP rfl fo_59_0 rfl) ?_
      refine DRun.step ⟨32, rfl, .inl ⟨_, rfl, rfl⟩⟩ rfl rfl (AOp.loadP rfl sc_9 rfl (.head _) rfl) ?_
      refine DRun.step ⟨32, rfl, .inl ⟨_, rfl, rfl⟩⟩ rfl rfl (AOp.moveD rfl rfl) ?_
      refine DRun.step ⟨32, rfl, .inl ⟨_, rfl, rfl⟩⟩ rfl rfl (AOp.moveD rfl rfl) ?_
      refine DRun.step ⟨32, rfl, .inl ⟨_, rfl, rfl⟩⟩ rfl rfl (AOp.sub64 rfl rfl rfl (by omega) (by omega)) ?_
      refine DRun.step ⟨32, rfl, .inl ⟨_, rfl, rfl⟩⟩ rfl rfl (AOp.indexAddr rfl et_23 rfl rfl (k - 1) (by omega) (at_list (by omega)) rfl) ?_
      refine DRun.step ⟨32, rfl, .inl ⟨_, rfl, rfl⟩⟩ rfl rfl (AOp.fieldAddr rfl fo_59_0 rfl) ?_
      refine DRun.step ⟨32, rfl, .inl ⟨_, rfl, rfl⟩⟩ rfl rfl (AOp.load rfl sc_9 rfl) ?_
      refine DRun.step ⟨32, rfl, .inl ⟨_, rfl, rfl⟩⟩ rfl rfl (AOp.sleq rfl rfl rfl) ?_
      refine DRun.step rfl rfl rfl (AOp.pickT rfl rfl rfl) ?_
      refine DRun.step rfl rfl rfl (AOp.assignD rfl rfl) ?_
      refine DRun.nil ?_
      refine AWP.cond rfl (fun h6 => ?_) (fun h6 => ?_)
      · skip
        have H8 := carrFault_8 hlt hnm (by omega) h6
        have HF := (ffst_hit hk.2 (by rw [H8]; decide) _ hlt).trans H8
        refine AWP.seq (AWP.region ?_)
        refine AOps.aD rfl rfl rfl rfl rfl (.nil ?_)
        refine AWP.ret ?_
        refine ⟨RetD.eq rfl ?_, trivial⟩
        all_goals (rw [HF])
      have hs := h6
      refine AWP.seq (AWP.region ?_)
      refine AOps.step rfl rfl rfl (AOp.fieldAddrP rfl fo_59_3 rfl) ?_
      refine AOps.step rfl rfl rfl (AOp.loadP rfl sc_3 rfl (.head _) rfl) ?_
      refine AOps.step rfl rfl rfl (AOp.call rfl (.cons (ArgOk.rfl' rfl) .nil) (c_rDay _)) ?_
      refine AOps.step rfl rfl rfl (AOp.not rfl rfl) ?_
      refine AOps.mD rfl rfl rfl rfl rfl ?_
      refine AOps.split 48 rfl (fun g7 => ?_) (fun g7 => ?_)
      · replace g7 := bnot_t g7; replace g7 := of_decide_eq_false g7
        have H1 := carrFault_1 hlt hnm (by first | exact fun _ => hs | exact fun h => absurd h (by omega)) (.inl g7)
        have HF := (ffst_hit hk.2 (by rw [H1]; decide) _ hlt).trans H1
        refine AOps.pass ⟨48, rfl, .inl ⟨_, rfl, rfl⟩⟩ rfl rfl ?_
        refine AOps.pass ⟨48, rfl, .inl ⟨_, rfl, rfl⟩⟩ rfl rfl ?_
        refine AOps.pass ⟨48, rfl, .inl ⟨_, rfl, rfl⟩⟩ rfl rfl ?_
        refine AOps.pass ⟨48, rfl, .inl ⟨_, rfl, rfl⟩⟩ rfl rfl ?_
        refine AOps.step rfl rfl rfl (AOp.pickT rfl rfl rfl) ?_
        refine AOps.aD rfl rfl rfl rfl rfl (.nil ?_)
        refine AWP.cond rfl (fun _ => ?_) (fun h => nomatch h)
        refine AWP.seq (AWP.region ?_)
        refine AOps.aD rfl rfl rfl rfl rfl (.nil ?_)
        refine AWP.ret ?_
        refine ⟨RetD.eq rfl ?_, trivial⟩
        all_goals (rw [HF])
      replace g7 := bnot_f g7; replace g7 := of_decide_eq_true g7
      have hd := g7
      refine AOps.step ⟨48, rfl, .inl ⟨_, rfl, rfl⟩⟩ rfl rfl (AOp.fieldAddrP rfl fo_59_4 rfl) ?_
      refine AOps.step ⟨48, rfl, .inl ⟨_, rfl, rfl⟩⟩ rfl rfl (AOp.loadP rfl sc_3 rfl (.head _) rfl) ?_
      refine AOps.step ⟨48, rfl, .inl ⟨_, rfl, rfl⟩⟩ rfl rfl (AOp.call rfl (.cons (ArgOk.rfl' rfl) (.cons (ArgOk.rfl' rfl) (.cons (ArgOk.rfl' rfl) .nil))) (c_rWithin _ _ _)) ?_
      refine AOps.step ⟨48, rfl, .inl ⟨_, rfl, rfl⟩⟩ rfl rfl (AOp.not rfl rfl) ?_
      refine AOps.step rfl rfl rfl (AOp.pickF rfl rfl rfl) ?_
      refine AOps.aD rfl rfl rfl rfl rfl (.nil ?_)
      refine AWP.cond rfl (fun h8 => ?_) (fun h8 => ?_)
      · replace h8 := bnot_t h8; replace h8 := of_decide_eq_false h8
        have H1 := carrFault_1 hlt hnm (by first | exact fun _ => hs | exact fun h => absurd h (by omega)) (.inr h8)
        have HF := (ffst_hit hk.2 (by rw [H1]; decide) _ hlt).trans H1
        refine AWP.seq (AWP.region ?_)
        refine AOps.aD rfl rfl rfl rfl rfl (.nil ?_)
        refine AWP.ret ?_
        refine ⟨RetD.eq rfl ?_, trivial⟩
        all_goals (rw [HF])
      replace h8 := bnot_f h8; replace h8 := of_decide_eq_true h8
      have H0 := carrFault_0 hlt hnm (by first | exact fun _ => hs | exact fun h => absurd h (by omega)) hd h8
      refine AWP.skip ?_
      refine AWP.region ?_
      refine AOps.step rfl rfl rfl (AOp.add64 rfl rfl rfl (by omega) (by omega)) ?_
      refine AOps.mD rfl rfl rfl rfl rfl (.nil ?_)
      refine ⟨k + 1, ⟨by omega, ffst_next hk.2 H0⟩, (by dsimp only; omega), Sub.less ⟨(SLe.of_eq rfl), SLe.refl _, SLe.refl _, SLe.refl _, trivial⟩ (fun _ h => by cases h)⟩
    replace g5 := of_decide_eq_false g5
    refine DRun.pass ⟨32, rfl, .inl ⟨_, rfl, rfl⟩⟩ rfl rfl ?_
    refine DRun.pass ⟨32, rfl, .inl ⟨_, rfl, rfl⟩⟩ rfl rfl ?_
    refine DRun.pass ⟨32, rfl, .inl ⟨_, rfl, rfl⟩⟩ rfl rfl ?_
    refine DRun.pass ⟨32, rfl, .inl ⟨_, rfl, rfl⟩⟩ rfl rfl ?_
    refine DRun.pass ⟨32, rfl, .inl ⟨_, rfl, rfl⟩⟩ rfl rfl ?_
    refine DRun.pass ⟨32, rfl, .inl ⟨_, rfl, rfl⟩⟩ rfl rfl ?_
    refine DRun.pass ⟨32, rfl, .inl ⟨_, rfl, rfl⟩⟩ rfl rfl ?_
    refine DRun.pass ⟨32, rfl, .inl ⟨_, rfl, rfl⟩⟩ rfl rfl ?_
    refine DRun.pass ⟨32, rfl, .inl ⟨_, rfl, rfl⟩⟩ rfl rfl ?_
    refine DRun.step rfl rfl rfl (AOp.pickF rfl rfl rfl) ?_
    refine DRun.step rfl rfl rfl (AOp.assignD rfl rfl) ?_
    refine DRun.nil ?_
    refine AWP.cond rfl (fun h => nomatch h) (fun _ => ?_)
    refine AWP.seq (AWP.region ?_)
    refine AOps.step rfl rfl rfl (AOp.fieldAddrP rfl fo_59_3 rfl) ?_
    refine AOps.step rfl rfl rfl (AOp.loadP rfl sc_3 rfl (.head _) rfl) ?_
    refine AOps.step rfl rfl rfl (AOp.call rfl (.cons (ArgOk.rfl' rfl) .nil) (c_rDay _)) ?_
    refine AOps.step rfl rfl rfl (AOp.not rfl rfl) ?_
    refine AOps.mD rfl rfl rfl rfl rfl ?_
    refine AOps.split 48 rfl (fun g9 => ?_) (fun g9 => ?_)
    · replace g9 := bnot_t g9; replace g9 := of_decide_eq_false g9
      have H1 := carrFault_1 hlt hnm (by first | exact fun _ => hs | exact fun h => absurd h (by omega)) (.inl g9)
      have HF := (ffst_hit hk.2 (by rw [H1]; decide) _ hlt).trans H1
      refine AOps.pass ⟨48, rfl, .inl ⟨_, rfl, rfl⟩⟩ rfl rfl ?_
      refine AOps.pass ⟨48, rfl, .inl ⟨_, rfl, rfl⟩⟩ rfl rfl ?_
      refine AOps.pass ⟨48, rfl, .inl ⟨_, rfl, rfl⟩⟩ rfl rfl ?_
      refine AOps.pass ⟨48, rfl, .inl ⟨_, rfl, rfl⟩⟩ rfl rfl ?_
      refine AOps.step rfl rfl rfl (AOp.pickT rfl rfl rfl) ?_
      refine AOps.aD rfl rfl rfl rfl rfl (.nil ?_)
      refine AWP.cond rfl (fun _ => ?_) (fun h => nomatch h)
      refine AWP.seq (AWP.region ?_)
      refine AOps.aD rfl rfl rfl rfl rfl (.nil ?_)
      refine AWP.ret ?_
      refine ⟨RetD.eq rfl ?_, trivial⟩
      all_goals (rw [HF])
    replace g9 := bnot_f g9; replace g9 := of_decide_eq_true g9
    have hd := g9
    refine AOps.step ⟨48, rfl, .inl ⟨_, rfl, rfl⟩⟩ rfl rfl (AOp.fieldAddrP rfl fo_59_4 rfl) ?_
    refine AOps.step ⟨48, rfl, .inl ⟨_, rfl, rfl⟩⟩ rfl rfl (AOp.loadP rfl sc_3 rfl (.head _) rfl) ?_
    refine AOps.step ⟨48, rfl, .inl ⟨_, rfl, rfl⟩⟩ rfl rfl (AOp.call rfl (.cons (ArgOk.rfl' rfl) (.cons (ArgOk.rfl' rfl) (.cons (ArgOk.rfl' rfl) .nil))) (c_rWithin _ _ _)) ?_
    refine AOps.step ⟨48, rfl, .inl ⟨_, rfl, rfl⟩⟩ rfl rfl (AOp.not rfl rfl) ?_
    refine AOps.step rfl rfl rfl (AOp.pickF rfl rfl rfl) ?_
    refine AOps.aD rfl rfl rfl rfl rfl (.nil ?_)
    refine AWP.cond rfl (fun h10 => ?_) (fun h10 => ?_)
    · replace h10 := bnot_t h10; replace h10 := of_decide_eq_false h10
      have H1 := carrFault_1 hlt hnm (by first | exact fun _ => hs | exact fun h => absurd h (by omega)) (.inr h10)
      have HF := (ffst_hit hk.2 (by rw [H1]; decide) _ hlt).trans H1
      refine AWP.seq (AWP.region ?_)
      refine AOps.aD rfl rfl rfl rfl rfl (.nil ?_)
      refine AWP.ret ?_
      refine ⟨RetD.eq rfl ?_, trivial⟩
      all_goals (rw [HF])
    replace h10 := bnot_f h10; replace h10 := of_decide_eq_true h10
    have H0 := carrFault_0 hlt hnm (by first | exact fun _ => hs | exact fun h => absurd h (by omega)) hd h10
    refine AWP.skip ?_
    refine AWP.region ?_
    refine AOps.step rfl rfl rfl (AOp.add64 rfl rfl rfl (by omega) (by omega)) ?_
    refine AOps.mD rfl rfl rfl rfl rfl (.nil ?_)
    refine ⟨k + 1, ⟨by omega, ffst_next hk.2 H0⟩, (by dsimp only; omega), Sub.less ⟨(SLe.of_eq rfl), SLe.refl _, SLe.refl _, SLe.refl _, trivial⟩ (fun _ h => by cases h)⟩
  replace h1 := of_decide_eq_false h1
  rw [List.length_map] at h1
  have HF : ffst (carrFault l) l.length = 0 := by rw [← show k = l.length by omega]; exact hk.2
  refine AWP.exit ?_
  refine AWP.seq (AWP.region ?_)
  refine AOps.aD rfl rfl rfl rfl rfl (.nil ?_)
  refine AWP.ret ?_
  refine ⟨RetD.eq rfl ?_, trivial⟩
  all_goals (rw [HF])

end Go.Proofs.YtieccphckobhjaaGreatDoor
