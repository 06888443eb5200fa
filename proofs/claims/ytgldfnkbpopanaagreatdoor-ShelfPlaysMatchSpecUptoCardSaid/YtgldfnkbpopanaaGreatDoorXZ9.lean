/- Walks and laws over abstract values, merged by tools/merge.py. No statement of the seat. -/
import Derived.Test.YtgldfnkbpopanaaGreatDoorXZ8

namespace Go.Proofs.YtgldfnkbpopanaaGreatDoor
open Go.RowKit
set_option linter.unusedVariables false

/-! Types. -/
namespace TyNB
theorem ag_25 : AggT Tryz.prog 25 2 := .of (by kernel_rfl)
theorem ag_35 : AggT Tryz.prog 35 4 := .of (by kernel_rfl)
theorem bu_25 : StructT Tryz.prog 25 (fun i => (#[(0, 1), (1, 1)] : Array (Nat × Nat))[i]?) [(.slice none 0 0), (.slice none 0 0)] := .of (by kernel_rfl) (by kernel_rfl) (by decide)
theorem et_50 : ElemTy Tryz.prog 50 35 4 96 (.agg #[(.slice none 0 0), (.slice none 0 0), (.slice none 0 0), (.slice none 0 0)]) := ⟨by kernel_rfl, by kernel_rfl, by kernel_rfl, by decide⟩
theorem sz_25 : ∀ w, (sizeOf 25).run Tryz.prog w = .ok 2 w := SizeT.of (by kernel_rfl)
theorem sz_35 : ∀ w, (sizeOf 35).run Tryz.prog w = .ok 4 w := SizeT.of (by kernel_rfl)
theorem zt_25 : (Tryz.prog.info? 25).bind (·.zero) = some (.agg #[(.slice none 0 0), (.slice none 0 0)]) := by kernel_rfl
theorem zt_35 : (Tryz.prog.info? 35).bind (·.zero) = some (.agg #[(.slice none 0 0), (.slice none 0 0), (.slice none 0 0), (.slice none 0 0)]) := by kernel_rfl
end TyNB
open TyNB


theorem cl_one3 {a b c id : Nat} {s s' s'' : S} {sl : List Nat} (ha : sl.contains a = true) (hb : sl.contains b = true) (hc : sl.contains c = true) : ∀ p ∈ [(a, s), (b, s'), (c, s'')], ∀ f ∈ [(⟨id, sl⟩ : Fc)], f.slots.contains p.1 = true ∨ p.2.kill f.id = p.2 := by
  intro p hp f hf
  obtain rfl := List.mem_singleton.1 hf
  simp only [List.mem_cons, List.not_mem_nil, or_false] at hp
  rcases hp with rfl | rfl | rfl
  · exact .inl ha
  · exact .inl hb
  · exact .inl hc


set_option maxRecDepth 100000 in
set_option maxHeartbeats 1000000 in
theorem c_revX (l : List Chg) (hl : l.length ≤ 1000000) : RCall Tryz.prog 53 35 4 (l.map Chg.ds) (l.reverse.map Chg.ds) [] (.tup []) := by
  refine RCall.of1 (chg := fun i => Nat.ble 1000 i) (xcall_of (n := 28) (ds' := []) Tryz.func53 rfl (by kernel_rfl) rfl [] rfl rfl ?_) rfl
  intro B w0 F0 fr ρ0
  refine AWP.seq (AWP.region ?_)
  refine AOps.sA (AOp.moveO rfl rfl) ?_
  refine AOps.sA (AOp.lenOwn rfl et_50.ht rfl (.head _)) ?_
  refine AOps.sA (AOp.sub64 rfl rfl rfl (by rw [List.length_map]; omega) (by rw [List.length_map]; omega)) ?_
  refine AOps.aA ?_
  refine AOps.aA (.nil ?_)
  refine AWP.block ?_
  refine AWP.loop (G := Nat) (fun k => Env.of [(2, .d (.v (.int .i64 (k : Int)))), (3, .d (.v (.int .i64 ((l.length : Int) - 1 - (k : Int))))), (0, .own 1)]) (fun k => [(1, .row 35 4 ((revTo l k).map Chg.ds))]) (fun k => 2 * k ≤ l.length) (fun k => l.length - k) 0 (Nat.zero_le _) (Sub.less ⟨(SLe.of_eq rfl), (SLe.i64 (by simp)), SLe.refl _, trivial⟩ (row_same rfl)) ?_
  intro k hk
  refine AWP.seq ?_
  refine AWP.seq (AWP.region ?_)
  refine AOps.mA ?_
  refine AOps.mA ?_
  refine AOps.sA (AOp.lss rfl rfl rfl) (.nil ?_)
  refine AWP.cond rfl (fun h1 => ?_) (fun h1 => ?_)
  · replace h1 := of_decide_eq_true h1
    have hlt : 2 * k + 1 < l.length := by omega
    refine AWP.skip ?_
    refine AWP.seq ?_
    refine AWP.block ?_
    refine AWP.drawG (fun k => (Nat.beq k 13 || Nat.beq k 15) || (Nat.beq k 6 || Nat.beq k 7 || Nat.beq k 10 || Nat.beq k 11 || Nat.beq k 12 || Nat.beq k 14)) (fun k => Nat.beq k 13 || Nat.beq k 15) (fun k h => Bool.or_eq_true_iff.2 (.inl h)) (by kernel_rfl) (by kernel_rfl) (by kernel_rfl) ?_
    refine GRun.step rfl rfl rfl (fun _ => AOp.moveO rfl rfl) ?_
    refine GRun.step rfl rfl rfl (fun _ => AOp.moveD rfl rfl) ?_
    refine GRun.step rfl rfl rfl (fun _ => AOp.moveO rfl rfl) ?_
    refine GRun.step rfl rfl rfl (fun _ => AOp.moveD rfl rfl) ?_
    refine GRun.step rfl rfl rfl (fun _ => AOp.moveO rfl rfl) ?_
    refine GRun.step rfl rfl rfl (fun _ => AOp.moveD rfl rfl) ?_
    refine GRun.stepS rfl rfl rfl rfl (AOp.indexOwn rfl et_50 rfl rfl (.head _) (l.length - 1 - k) (by omega) (by rw [List.length_map, revTo_len]; omega)) ?_
    refine GRun.stepS rfl rfl rfl rfl (AOp.loadRowAgg rfl ag_35 rfl (.head _) (l.length - 1 - k) rfl (at_list (by rw [revTo_len]; omega))) ?_
    refine GRun.step rfl rfl rfl (fun _ => AOp.moveO rfl rfl) ?_
    refine GRun.step rfl rfl rfl (fun _ => AOp.moveD rfl rfl) ?_
    refine GRun.stepS rfl rfl rfl rfl (AOp.indexOwn rfl et_50 rfl rfl (.head _) k (by omega) (by rw [List.length_map, revTo_len]; omega)) ?_
    refine GRun.stepS rfl rfl rfl rfl (AOp.loadRowAgg rfl ag_35 rfl (.head _) k rfl (at_list (by rw [revTo_len]; omega))) ?_
    refine GRun.stepS rfl rfl rfl rfl (AOp.indexOwn rfl et_50 rfl rfl (.head _) k (by omega) (by rw [List.length_map, revTo_len]; omega)) ?_
    refine GRun.eff rfl rfl rfl (EOp.storeRow rfl rfl sz_35 rfl (.head _) rfl rfl rfl k 0 rfl (at_list (by rw [revTo_len]; omega)) (Nat.le_of_ble_eq_true rfl)) ?_
    refine GRun.stepS rfl rfl rfl rfl (AOp.indexOwn rfl et_50 rfl rfl (.head _) (l.length - 1 - k) (by omega) (by rw [List.length_set, List.length_map, revTo_len]; omega)) ?_
    refine GRun.eff rfl rfl rfl (EOp.storeRow rfl rfl sz_35 rfl (.head _) rfl rfl rfl (l.length - 1 - k) 0 rfl (List.getElem?_eq_getElem (by rw [List.length_set, List.length_map, revTo_len]; omega)) (Nat.le_of_ble_eq_true rfl)) ?_
    refine GRun.nil ?_
    refine AWP.region ?_
    refine AOps.mA ?_
    refine AOps.sA (AOp.add64 rfl rfl rfl (by omega) (by omega)) ?_
    refine AOps.mA ?_
    refine AOps.sA (AOp.sub64 rfl rfl rfl (by omega) (by omega)) ?_
    refine AOps.aA ?_
    refine AOps.aA (.nil ?_)
    refine ⟨k + 1, (by dsimp only; omega), (by dsimp only; omega), Sub.less ⟨(SLe.of_eq rfl), (SLe.i64 (by omega)), SLe.refl _, trivial⟩ (row_same (row_swap (enc := Chg.ds) (size := 4) (cur := revTo l k) (i := k) (j := (l.length - 1 - k)) (fun _ => rfl) (by rw [revTo_len]; omega) (by rw [revTo_len]; omega) rfl (List.getElem?_eq_getElem (by rw [List.length_set, List.length_map, revTo_len]; omega))))⟩
  replace h1 := of_decide_eq_false h1
  have hkn : revTo l k = l.reverse := revTo_all hk (by omega)
  refine AWP.exit ?_
  refine ⟨trivial, ⟨mem_row_eq (.head _) ?_, trivial⟩⟩
  all_goals (rw [hkn])

set_option maxRecDepth 100000 in
set_option maxHeartbeats 1000000 in
theorem c_sameXs (l r : List Chg) : ACall Tryz.prog 21 [.sl (l.map Chg.ds), .sl (r.map Chg.ds)] (.v (.bool (decide (l = r)))) := by
  refine acall_of (n := 27) (ds' := [.v (.bool (decide (l = r)))]) Tryz.func21 rfl (by kernel_rfl) rfl [4] rfl rfl ?_
  intro B w0 F0 fr
  refine AWP.bound 0 rfl (fun hbd0 => ?_)
  rw [List.length_map] at hbd0
  refine AWP.bound 1 rfl (fun hbd1 => ?_)
  rw [List.length_map] at hbd1
  refine AWP.seq (AWP.region ?_)
  refine AOps.aA (.nil ?_)
  refine AWP.seq ?_
  refine AWP.seq (AWP.region ?_)
  refine AOps.mA ?_
  refine AOps.sA (AOp.lenSl rfl et_50.ht rfl) ?_
  refine AOps.mA ?_
  refine AOps.sA (AOp.lenSl rfl et_50.ht rfl) ?_
  refine AOps.sA (AOp.neq rfl rfl rfl) (.nil ?_)
  refine AWP.cond rfl (fun h1 => ?_) (fun h1 => ?_)
  · replace h1 := of_decide_eq_true h1
    rw [List.length_map, List.length_map] at h1
    rw [decide_eq_false (show ¬ l = r from fun e => h1 (by rw [e]))]
    refine AWP.seq (AWP.region ?_)
    refine AOps.aA (.nil ?_)
    refine AWP.ret ?_
    refine ⟨RetD.eq rfl ?_, trivial⟩
    all_goals (rfl)
  replace h1 := of_decide_eq_false h1
  rw [List.length_map, List.length_map] at h1
  have hle : l.length = r.length := by omega
  refine AWP.skip ?_
  refine AWP.seq ?_
  refine AWP.seq (AWP.region ?_)
  refine AOps.mA ?_
  refine AOps.sA (AOp.lenSl rfl et_50.ht rfl) ?_
  refine AOps.mA (.nil ?_)
  refine AWP.block ?_
  refine AWP.loop (G := Nat) (fun k => Env.of [(13, .d (.v (.int .i64 (k : Int)))), (0, .d (.sl (l.map Chg.ds))), (1, .d (.sl (r.map Chg.ds))), (12, .d (.v (.int .i64 ((l.map Chg.ds).length : Int))))]) (fun k => []) (fun k => k ≤ l.length ∧ l.take k = r.take k) (fun k => l.length - k) 0 ⟨Nat.zero_le _, by simp⟩ (Sub.less ⟨(SLe.of_eq rfl), SLe.refl _, SLe.refl _, SLe.refl _, trivial⟩ (fun _ h => h)) ?_
  intro k hk
  refine AWP.seq (AWP.region ?_)
  refine AOps.sA (AOp.lss rfl rfl rfl) (.nil ?_)
  refine AWP.seq ?_
  refine AWP.cond rfl (fun h2 => ?_) (fun h2 => ?_)
  · replace h2 := of_decide_eq_true h2
    rw [List.length_map] at h2
    have hlt : k < l.length := by omega
    have hlr : k < r.length := by omega
    refine AWP.skip ?_
    refine AWP.seq ?_
    refine AWP.block ?_
    refine AWP.seq (AWP.region ?_)
    refine AOps.mA ?_
    refine AOps.aA (.nil ?_)
    refine AWP.seq ?_
    refine AWP.draw (by kernel_rfl) (by kernel_rfl) ?_
    refine DRun.sA (AOp.moveD rfl rfl) ?_
    refine DRun.sA (AOp.moveD rfl rfl) ?_
    refine DRun.sA (AOp.indexAddr rfl et_50 rfl rfl k rfl (at_lst hlt) rfl) ?_
    refine DRun.sA (AOp.loadAgg rfl ag_35 rfl rfl) ?_
    refine DRun.sA (AOp.moveD rfl rfl) ?_
    refine DRun.sA (AOp.moveD rfl rfl) ?_
    refine DRun.sA (AOp.indexAddr rfl et_50 rfl rfl k rfl (at_lst hlr) rfl) ?_
    refine DRun.sA (AOp.loadAgg rfl ag_35 rfl rfl) ?_
    refine DRun.sA (AOp.call rfl (.cons (ArgOk.rfl' rfl) (.cons (ArgOk.rfl' rfl) .nil)) (c_sameX _ _)) ?_
    refine DRun.sA (AOp.not rfl rfl) ?_
    refine DRun.nil ?_
    refine AWP.cond rfl (fun h3 => ?_) (fun h3 => ?_)
    · replace h3 := bnot_t h3; replace h3 := of_decide_eq_false h3
      rw [decide_eq_false (show ¬ l = r from fun e => h3 (by subst e; rfl))]
      refine AWP.seq (AWP.region ?_)
      refine AOps.aA (.nil ?_)
      refine AWP.ret ?_
      refine ⟨RetD.eq rfl ?_, trivial⟩
      all_goals (rfl)
    replace h3 := bnot_f h3; replace h3 := of_decide_eq_true h3
    have hT := take_eq hlt hlr hk.2 (by first | exact h3 | exact Decidable.not_not.1 h3)
    refine AWP.skip ?_
    refine AWP.region ?_
    refine AOps.sA (AOp.add64 rfl rfl rfl (by omega) (by omega)) ?_
    refine AOps.mA (.nil ?_)
    refine ⟨k + 1, ⟨by omega, hT⟩, (by dsimp only; omega), Sub.less ⟨(SLe.of_eq rfl), SLe.refl _, SLe.refl _, SLe.refl _, trivial⟩ (fun _ h => h)⟩
  replace h2 := of_decide_eq_false h2
  rw [List.length_map] at h2
  obtain rfl : k = l.length := by omega
  rw [decide_eq_true (take_all_eq hle hk.2)]
  refine AWP.exit ?_
  refine AWP.seq (AWP.region ?_)
  refine AOps.aA (.nil ?_)
  refine AWP.ret ?_
  refine ⟨RetD.eq rfl ?_, trivial⟩
  all_goals (rfl)

set_option maxRecDepth 100000 in
set_option maxHeartbeats 4000000 in
theorem c_pPlay (c : Ctl) (l : List Chg) (hc : CtlOk c) (hX : ∀ x ∈ l, XIn x) : ACallT Tryz.prog MaxT 19 [.agg c.ds, .sl (l.map Chg.ds)] (.tup [.agg (playV c l).1.ds, .sl ((playV c l).2.1.map Chg.ds), .v (.int .i64 (playV c l).2.2)]) := by
  refine acall_ofRT (n := 54) (ds' := [.agg (playV c l).1.ds, .sl ((playV c l).2.1.map Chg.ds), .v (.int .i64 (playV c l).2.2)]) Tryz.func19 rfl (by kernel_rfl) rfl [.cell 4 25, .tmp 5, .tmp 6] rfl rfl ?_
  intro B w0 F0 hT
  refine AWP.seq (AWP.region ?_)
  refine AOps.boxOwn 100 rfl rfl rfl rfl rfl rfl rfl ?_
  refine AOps.alloc 101 rfl rfl rfl rfl zt_25 rfl rfl rfl ?_
  refine AOps.aA ?_
  refine AOps.aA (.nil ?_)
  refine AWP.seq ?_
  refine AWP.seq (AWP.region ?_)
  refine AOps.sA (AOp.loadPU rfl ag_25 rfl (.tail _ (.head _)) rfl rfl) ?_
  -- wants the world
  refine AOps.callT rfl rfl rfl hT maxT_stays rfl (.cons (ArgOk.rfl' rfl) .nil) (c_pChk c hc) ?_
  refine AOps.aA (.nil ?_)
  refine AWP.seq (AWP.region ?_)
  refine AOps.mA ?_
  refine AOps.sA (AOp.neq rfl rfl rfl) (.nil ?_)
  refine AWP.cond rfl (fun h1 => ?_) (fun h1 => ?_)
  · replace h1 := of_decide_eq_true h1
    rw [playV_c (by first | exact h1 | omega)]
    refine AWP.seq (AWP.region ?_)
    refine AOps.sA (AOp.build rfl bu_25 .nil rfl) ?_
    refine AOps.mA ?_
    refine AOps.store rfl rfl rfl sz_25 rfl (.head _) rfl rfl rfl (Nat.le_of_ble_eq_true rfl) ?_
    refine AOps.aA ?_
    refine AOps.aA (.nil ?_)
    refine AWP.ret ?_
    refine ⟨RetR.agg rfl (.head _) ag_25 rfl (.cons (by first | exact CellD.nil | exact CellD.d | exact CellD.eq (by simp) | (refine CellD.own (by first | exact .head _ | exact .tail _ (.head _)) ?_; rfl)) (.cons (by first | exact CellD.nil | exact CellD.d | exact CellD.eq (by simp) | (refine CellD.own (by first | exact .head _ | exact .tail _ (.head _)) ?_; rfl)) .nil)), RetD.nil rfl, RetD.eq rfl ?_, trivial⟩
    all_goals (rfl)
  replace h1 := of_decide_eq_false h1
  have k0 : chkF c = 0 := (by first | exact h1 | omega)
  have hci := cIn hc k0
  have HL := (catOk k0).lim
  obtain ⟨hl1, hl2⟩ := (catOk k0).lim
  have HC := c_ofC c HL hci.ok hci.parts
  have v1 := hci.vT
  have v2 := hci.vM
  have n1 : (cT c).length ≤ c.things.length := Nat.le_trans (ofE_len _) (Nat.le_of_eq (List.length_map ..))
  have n2 : (cM c).length ≤ c.moved.length := Nat.le_trans (ofE_len _) (Nat.le_of_eq (List.length_map ..))
  refine AWP.skip ?_
  refine AWP.seq ?_
  refine AWP.seq (AWP.region ?_)
  refine AOps.mA ?_
  refine AOps.sA (AOp.lenSl rfl et_50.ht rfl) ?_
  refine AOps.sA (AOp.gtr rfl rfl rfl) (.nil ?_)
  refine AWP.cond rfl (fun h2 => ?_) (fun h2 => ?_)
  · replace h2 := of_decide_eq_true h2
    rw [List.length_map] at h2
    rw [playV_l k0 (by omega)]
    refine AWP.seq (AWP.region ?_)
    refine AOps.sA (AOp.build rfl bu_25 .nil rfl) ?_
    refine AOps.store rfl rfl rfl sz_25 rfl (.head _) rfl rfl rfl (Nat.le_of_ble_eq_true rfl) ?_
    refine AOps.aA ?_
    refine AOps.aA (.nil ?_)
    refine AWP.ret ?_
    refine ⟨RetR.agg rfl (.head _) ag_25 rfl (.cons (by first | exact CellD.nil | exact CellD.d | exact CellD.eq (by simp) | (refine CellD.own (by first | exact .head _ | exact .tail _ (.head _)) ?_; rfl)) (.cons (by first | exact CellD.nil | exact CellD.d | exact CellD.eq (by simp) | (refine CellD.own (by first | exact .head _ | exact .tail _ (.head _)) ?_; rfl)) .nil)), RetD.nil rfl, RetD.eq rfl ?_, trivial⟩
    all_goals (rfl)
  replace h2 := of_decide_eq_false h2
  rw [List.length_map] at h2
  have hll : l.length ≤ 100 := by omega
  refine AWP.skip ?_
  refine AWP.seq (AWP.region ?_)
  refine AOps.sA (AOp.loadPU rfl ag_25 rfl (.tail _ (.head _)) rfl rfl) ?_
  refine AOps.sA (AOp.call rfl (.cons (ArgOk.rfl' rfl) .nil) HC.toA) ?_
  refine AOps.sA (AOp.call rfl (.cons (ArgOk.rfl' rfl) .nil) (c_cat (cT c) (cM c) (ofE_nk _) (ofE_nk _) v1.keys v2.keys (by omega) (by omega) v1.prt)) ?_
  rw [show ctlO (cT c) (cM c) = c from ctl_self k0]
  refine AOps.store rfl rfl rfl sz_25 rfl (.tail _ (.head _)) rfl rfl rfl (Nat.le_of_ble_eq_true rfl) (.nil ?_)
  refine AWP.seq (AWP.region ?_)
  refine AOps.aA (.nil ?_)
  refine AWP.seq ?_
  refine AWP.seq (AWP.region ?_)
  refine AOps.mA ?_
  refine AOps.sA (AOp.lenSl rfl et_50.ht rfl) ?_
  refine AOps.mA (.nil ?_)
  refine AWP.block ?_
  refine AWP.adopt 8 201 35 4 rfl rfl ?_
  refine AWP.loop (G := Nat) (fun k => Env.of [(29, .d (.v (.int .i64 (k : Int)))), (27, .d (.sl (l.map Chg.ds))), (28, .d (.v (.int .i64 ((l.map Chg.ds).length : Int)))), (2, .ptr 100 0), (4, .ptr 101 0), (8, .own 201)]) (fun k => [(201, .row 35 4 ((plB c (l.take k)).map Chg.ds)), (101, .cells [.d (.v (.slice none 0 0)), .d (.v (.slice none 0 0))]), (100, .cells ((plC c (l.take k)).ds.map S.d))]) (fun k => k ≤ l.length ∧ plF c (l.take k) = 0) (fun k => l.length - k) 0 ⟨Nat.zero_le _, rfl⟩ (Sub.less ⟨(SLe.of_eq rfl), SLe.refl _, SLe.refl _, SLe.refl _, SLe.refl _, SLe.refl _, trivial⟩ (obs_e rfl)) ?_
  intro k hk
  refine AWP.seq (AWP.region ?_)
  refine AOps.sA (AOp.lss rfl rfl rfl) (.nil ?_)
  refine AWP.seq ?_
  refine AWP.cond rfl (fun h3 => ?_) (fun h3 => ?_)
  · replace h3 := of_decide_eq_true h3
    rw [List.length_map] at h3
    have hlt : k < l.length := by omega
    have hm : l[k] ∈ l := List.getElem_mem hlt
    have hq : (plB c (l.take k)).length ≤ 100 := by rw [plB_len, List.length_take]; omega
    refine AWP.skip ?_
    refine AWP.seq ?_
    refine AWP.block ?_
    refine AWP.seq (AWP.region ?_)
    refine AOps.sA (AOp.indexAddr rfl et_50 rfl rfl k rfl (at_lst hlt) rfl) ?_
    refine AOps.sA (AOp.loadAgg rfl ag_35 rfl rfl) ?_
    refine AOps.alloc 103 rfl rfl rfl rfl zt_35 rfl rfl rfl ?_
    refine AOps.store rfl rfl rfl sz_35 rfl (.head _) rfl rfl rfl (Nat.le_of_ble_eq_true rfl) ?_
    refine AOps.freezeCells 10 (ds := l[k].ds) rfl (.head _) (.nil ?_)
    refine AWP.seq (AWP.region ?_)
    refine AOps.sA (AOp.loadPU rfl ag_25 rfl (.tail _ (.tail _ (.head _))) rfl rfl) ?_
    refine AOps.sA (AOp.loadAgg rfl ag_35 rfl rfl) ?_
    -- wants the world
    refine AOps.callT rfl rfl rfl hT maxT_stays rfl (.cons (ArgOk.rfl' rfl) (.cons (ArgOk.rfl' rfl) .nil)) (c_pApply (plC c (l.take k)) l[k] (plC_in hc (fun x hx => hX x (List.mem_of_mem_take hx))) (hX _ hm)) ?_
    refine AOps.mA ?_
    refine AOps.sA (AOp.extract rfl rfl rfl) ?_
    refine AOps.sA (AOp.extract rfl rfl rfl) ?_
    refine AOps.sA (AOp.extract rfl rfl rfl) ?_
    refine AOps.alloc 104 rfl rfl rfl rfl zt_25 rfl rfl rfl ?_
    refine AOps.alloc 105 rfl rfl rfl rfl zt_35 rfl rfl rfl ?_
    refine AOps.store rfl rfl rfl sz_25 rfl (.tail _ (.head _)) rfl rfl rfl (Nat.le_of_ble_eq_true rfl) ?_
    refine AOps.freezeCells 11 (ds := (applyV (plC c (l.take k)) l[k]).1.ds) rfl (.tail _ (.head _)) ?_
    refine AOps.store rfl rfl rfl sz_35 rfl (.head _) rfl rfl rfl (Nat.le_of_ble_eq_true rfl) ?_
    refine AOps.freezeCells 12 (ds := (applyV (plC c (l.take k)) l[k]).2.1.ds) rfl (.head _) ?_
    refine AOps.aA (.nil ?_)
    refine AWP.seq ?_
    refine AWP.seq (AWP.region ?_)
    refine AOps.mA ?_
    refine AOps.sA (AOp.neq rfl rfl rfl) (.nil ?_)
    refine AWP.cond rfl (fun h4 => ?_) (fun h4 => ?_)
    · replace h4 := of_decide_eq_true h4
      rw [playV_f k0 hll (plF_hit hlt hk.2 (by first | exact h4 | omega)) (by first | exact h4 | omega)]
      refine AWP.seq (AWP.region ?_)
      refine AOps.sA (AOp.build rfl bu_25 .nil rfl) ?_
      refine AOps.mA ?_
      refine AOps.store rfl rfl rfl sz_25 rfl (.tail _ (.head _)) rfl rfl rfl (Nat.le_of_ble_eq_true rfl) ?_
      refine AOps.aA ?_
      refine AOps.aA (.nil ?_)
      refine AWP.ret ?_
      refine ⟨RetR.agg rfl (.tail _ (.head _)) ag_25 rfl (.cons (by first | exact CellD.nil | exact CellD.d | exact CellD.eq (by simp) | (refine CellD.own (by first | exact .head _ | exact .tail _ (.head _)) ?_; rfl)) (.cons (by first | exact CellD.nil | exact CellD.d | exact CellD.eq (by simp) | (refine CellD.own (by first | exact .head _ | exact .tail _ (.head _)) ?_; rfl)) .nil)), RetD.nil rfl, RetD.eq rfl ?_, trivial⟩
      all_goals (rfl)
    replace h4 := of_decide_eq_false h4
    have HF := plF_next hlt hk.2 (by first | exact h4 | omega)
    have HC1 := plC_next (c := c) hlt
    have HB1 := plB_next (c := c) hlt
    refine AWP.skip ?_
    refine AWP.weaken (e' := Env.of [(29, .d (.v (.int .i64 (k : Int)))), (27, .d (.sl (l.map Chg.ds))), (28, .d (.v (.int .i64 ((l.map Chg.ds).length : Int)))), (2, .ptr 100 0), (4, .ptr 101 0), (8, .own 201), (11, .d (.fp (applyV (plC c (l.take k)) l[k]).1.ds)), (12, .d (.fp (applyV (plC c (l.take k)) l[k]).2.1.ds))]) (σ' := [(201, .row 35 4 ((plB c (l.take k)).map Chg.ds)), (101, .cells [.d (.v (.slice none 0 0)), .d (.v (.slice none 0 0))]), (100, .cells ((plC c (l.take k)).ds.map S.d))]) (Sub.less ⟨SLe.refl _, SLe.refl _, SLe.refl _, SLe.refl _, SLe.refl _, SLe.refl _, SLe.refl _, SLe.refl _, trivial⟩ (fun p h => h)) ?_
    refine AWP.drawLTail 5 [⟨201, [8, 45, 48]⟩] [(4, [8, 45, 48])] (fun _ => True) (by kernel_rfl) (by kernel_rfl) (by kernel_rfl) (by kernel_rfl) ?_
    refine LRun.step rfl rfl rfl trivial (fun τ _ => AOp.loadAgg rfl ag_25 rfl rfl) ?_
    refine LRun.step rfl rfl rfl trivial (fun τ _ => AOp.moveO rfl rfl) ?_
    refine LRun.step rfl rfl rfl trivial (fun τ _ => AOp.loadAgg rfl ag_35 rfl rfl) ?_
    refine LRun.step rfl rfl rfl trivial (fun τ _ => AOp.buildSlice rfl et_50 (.cons rfl rfl rfl .nil) rfl (by decide)) ?_
    refine LRun.eff rfl rfl trivial trivial (GE.append3 201 45 8 (.head _) (fun t h1 h2 h3 => by simp [h1, h2, h3]) (by decide) (by decide) (by decide) rfl rfl rfl rfl et_50 rfl (.head _) rfl (fun y hy => by obtain rfl := List.mem_singleton.1 hy; rfl) (by simp; omega) (by simp; omega) rfl) ?_ (cl_one3 rfl rfl rfl)
    refine LRun.nil ?_
    refine AOps.store rfl rfl rfl sz_25 rfl (.tail _ (.tail _ (.head _))) rfl rfl rfl (Nat.le_of_ble_eq_true rfl) ?_
    refine AOps.sA (AOp.assignO rfl rfl) (.nil ?_)
    refine AWP.region ?_
    refine AOps.sA (AOp.add64 rfl rfl rfl (by omega) (by omega)) ?_
    refine AOps.mA (.nil ?_)
    refine ⟨k + 1, ⟨by omega, HF⟩, (by dsimp only; omega), Sub.less ⟨(SLe.of_eq rfl), SLe.refl _, SLe.refl _, SLe.refl _, SLe.refl _, SLe.refl _, trivial⟩ (obs_e (by dsimp only; rw [HB1, HC1, List.map_append]; rfl))⟩
  replace h3 := of_decide_eq_false h3
  rw [List.length_map] at h3
  obtain rfl : k = l.length := by omega
  have HF : plF c l = 0 := by have := hk.2; rwa [List.take_length] at this
  have hq := plB_len c l
  rw [List.take_length, playV_0 k0 hll HF]
  refine AWP.exit ?_
  refine AWP.seq (AWP.region ?_)
  refine AOps.sA (AOp.moveO rfl rfl) ?_
  -- turns 201
  refine AOps.callX rfl rfl rfl (.cons (SLe.refl _) .nil) ((c_revX (plB c l) (by omega)) 201) ⟨(.head _), trivial⟩ rfl rfl (fun _ h => nomatch h) ?_
  refine AOps.nil ?_
  refine AWP.seq (AWP.region ?_)
  refine AOps.sA (AOp.loadPU rfl ag_25 rfl (.tail _ (.tail _ (.head _))) rfl rfl) ?_
  refine AOps.sA (AOp.moveO rfl rfl) ?_
  refine AOps.store rfl rfl rfl sz_25 rfl (.tail _ (.head _)) rfl rfl rfl (Nat.le_of_ble_eq_true rfl) ?_
  refine AOps.sA (AOp.assignO rfl rfl) ?_
  refine AOps.aA (.nil ?_)
  refine AWP.ret ?_
  refine ⟨RetR.agg rfl (.tail _ (.head _)) ag_25 rfl (.cons (by first | exact CellD.nil | exact CellD.d | exact CellD.eq (by simp) | (refine CellD.own (by first | exact .head _ | exact .tail _ (.head _)) ?_; rfl)) (.cons (by first | exact CellD.nil | exact CellD.d | exact CellD.eq (by simp) | (refine CellD.own (by first | exact .head _ | exact .tail _ (.head _)) ?_; rfl)) .nil)), RetD.own rfl (.head _) ?_, RetD.eq rfl ?_, trivial⟩
  all_goals (rfl)

set_option maxRecDepth 100000 in
set_option maxHeartbeats 4000000 in
theorem c_rPlay (c : Ctl) (l : List Chg) (hc : CtlOk c) (hX : ∀ x ∈ l, XIn x ∧ x.put.length ≤ 1048576 ∧ x.add.length ≤ 1048576) : ACallT Tryz.prog MaxT 20 [.agg c.ds, .sl (l.map Chg.ds)] (.tup [.agg (playV c l).1.ds, .sl ((playV c l).2.1.map Chg.ds), .v (.int .i64 (playV c l).2.2)]) := by
  refine acall_ofRT (n := 51) (ds' := [.agg (playV c l).1.ds, .sl ((playV c l).2.1.map Chg.ds), .v (.int .i64 (playV c l).2.2)]) Tryz.func20 rfl (by kernel_rfl) rfl [.cell 4 25, .tmp 5, .tmp 6] rfl rfl ?_
  intro B w0 F0 hT
  refine AWP.seq (AWP.region ?_)
  refine AOps.boxOwn 100 rfl rfl rfl rfl rfl rfl rfl ?_
  refine AOps.alloc 101 rfl rfl rfl rfl zt_25 rfl rfl rfl ?_
  refine AOps.aA ?_
  refine AOps.aA (.nil ?_)
  refine AWP.seq ?_
  refine AWP.seq (AWP.region ?_)
  refine AOps.sA (AOp.loadPU rfl ag_25 rfl (.tail _ (.head _)) rfl rfl) ?_
  -- wants the world
  refine AOps.callT rfl rfl rfl hT maxT_stays rfl (.cons (ArgOk.rfl' rfl) .nil) (c_rChk c hc) ?_
  refine AOps.aA (.nil ?_)
  refine AWP.seq (AWP.region ?_)
  refine AOps.mA ?_
  refine AOps.sA (AOp.neq rfl rfl rfl) (.nil ?_)
  refine AWP.cond rfl (fun h1 => ?_) (fun h1 => ?_)
  · replace h1 := of_decide_eq_true h1
    rw [playV_c (by first | exact h1 | omega)]
    refine AWP.seq (AWP.region ?_)
    refine AOps.sA (AOp.build rfl bu_25 .nil rfl) ?_
    refine AOps.mA ?_
    refine AOps.store rfl rfl rfl sz_25 rfl (.head _) rfl rfl rfl (Nat.le_of_ble_eq_true rfl) ?_
    refine AOps.aA ?_
    refine AOps.aA (.nil ?_)
    refine AWP.ret ?_
    refine ⟨RetR.agg rfl (.head _) ag_25 rfl (.cons (by first | exact CellD.nil | exact CellD.d | exact CellD.eq (by simp) | (refine CellD.own (by first | exact .head _ | exact .tail _ (.head _)) ?_; rfl)) (.cons (by first | exact CellD.nil | exact CellD.d | exact CellD.eq (by simp) | (refine CellD.own (by first | exact .head _ | exact .tail _ (.head _)) ?_; rfl)) .nil)), RetD.nil rfl, RetD.eq rfl ?_, trivial⟩
    all_goals (rfl)
  replace h1 := of_decide_eq_false h1
  have k0 : chkF c = 0 := (by first | exact h1 | omega)
  refine AWP.skip ?_
  refine AWP.seq ?_
  refine AWP.seq (AWP.region ?_)
  refine AOps.mA ?_
  refine AOps.sA (AOp.lenSl rfl et_50.ht rfl) ?_
  refine AOps.sA (AOp.gtr rfl rfl rfl) (.nil ?_)
  refine AWP.cond rfl (fun h2 => ?_) (fun h2 => ?_)
  · replace h2 := of_decide_eq_true h2
    rw [List.length_map] at h2
    rw [playV_l k0 (by omega)]
    refine AWP.seq (AWP.region ?_)
    refine AOps.sA (AOp.build rfl bu_25 .nil rfl) ?_
    refine AOps.store rfl rfl rfl sz_25 rfl (.head _) rfl rfl rfl (Nat.le_of_ble_eq_true rfl) ?_
    refine AOps.aA ?_
    refine AOps.aA (.nil ?_)
    refine AWP.ret ?_
    refine ⟨RetR.agg rfl (.head _) ag_25 rfl (.cons (by first | exact CellD.nil | exact CellD.d | exact CellD.eq (by simp) | (refine CellD.own (by first | exact .head _ | exact .tail _ (.head _)) ?_; rfl)) (.cons (by first | exact CellD.nil | exact CellD.d | exact CellD.eq (by simp) | (refine CellD.own (by first | exact .head _ | exact .tail _ (.head _)) ?_; rfl)) .nil)), RetD.nil rfl, RetD.eq rfl ?_, trivial⟩
    all_goals (rfl)
  replace h2 := of_decide_eq_false h2
  rw [List.length_map] at h2
  have hll : l.length ≤ 100 := by omega
  refine AWP.skip ?_
  refine AWP.seq (AWP.region ?_)
  refine AOps.aA (.nil ?_)
  refine AWP.seq ?_
  refine AWP.seq (AWP.region ?_)
  refine AOps.mA ?_
  refine AOps.sA (AOp.lenSl rfl et_50.ht rfl) ?_
  refine AOps.mA (.nil ?_)
  refine AWP.block ?_
  refine AWP.adopt 8 201 35 4 rfl rfl ?_
  refine AWP.loop (G := Nat) (fun k => Env.of [(26, .d (.v (.int .i64 (k : Int)))), (24, .d (.sl (l.map Chg.ds))), (25, .d (.v (.int .i64 ((l.map Chg.ds).length : Int)))), (2, .ptr 100 0), (4, .ptr 101 0), (8, .own 201)]) (fun k => [(201, .row 35 4 ((plB c (l.take k)).map Chg.ds)), (101, .cells [.d (.v (.slice none 0 0)), .d (.v (.slice none 0 0))]), (100, .cells ((plC c (l.take k)).ds.map S.d))]) (fun k => k ≤ l.length ∧ plF c (l.take k) = 0) (fun k => l.length - k) 0 ⟨Nat.zero_le _, rfl⟩ (Sub.less ⟨(SLe.of_eq rfl), SLe.refl _, SLe.refl _, SLe.refl _, SLe.refl _, SLe.refl _, trivial⟩ (obs_e rfl)) ?_
  intro k hk
  refine AWP.seq (AWP.region ?_)
  refine AOps.sA (AOp.lss rfl rfl rfl) (.nil ?_)
  refine AWP.seq ?_
  refine AWP.cond rfl (fun h3 => ?_) (fun h3 => ?_)
  · replace h3 := of_decide_eq_true h3
    rw [List.length_map] at h3
    have hlt : k < l.length := by omega
    have hm : l[k] ∈ l := List.getElem_mem hlt
    have hq : (plB c (l.take k)).length ≤ 100 := by rw [plB_len, List.length_take]; omega
    refine AWP.skip ?_
    refine AWP.seq ?_
    refine AWP.block ?_
    refine AWP.seq (AWP.region ?_)
    refine AOps.sA (AOp.indexAddr rfl et_50 rfl rfl k rfl (at_lst hlt) rfl) ?_
    refine AOps.sA (AOp.loadAgg rfl ag_35 rfl rfl) ?_
    refine AOps.alloc 103 rfl rfl rfl rfl zt_35 rfl rfl rfl ?_
    refine AOps.store rfl rfl rfl sz_35 rfl (.head _) rfl rfl rfl (Nat.le_of_ble_eq_true rfl) ?_
    refine AOps.freezeCells 10 (ds := l[k].ds) rfl (.head _) (.nil ?_)
    refine AWP.seq (AWP.region ?_)
    refine AOps.sA (AOp.loadPU rfl ag_25 rfl (.tail _ (.tail _ (.head _))) rfl rfl) ?_
    refine AOps.sA (AOp.loadAgg rfl ag_35 rfl rfl) ?_
    -- wants the world
    refine AOps.callT rfl rfl rfl hT maxT_stays rfl (.cons (ArgOk.rfl' rfl) (.cons (ArgOk.rfl' rfl) .nil)) (c_rApply (plC c (l.take k)) l[k] (plC_in hc (fun x hx => (hX x (List.mem_of_mem_take hx)).1)) (hX _ hm).1.ok (hX _ hm).2.1 (hX _ hm).2.2) ?_
    rw [← apply_same]
    refine AOps.mA ?_
    refine AOps.sA (AOp.extract rfl rfl rfl) ?_
    refine AOps.sA (AOp.extract rfl rfl rfl) ?_
    refine AOps.sA (AOp.extract rfl rfl rfl) ?_
    refine AOps.alloc 104 rfl rfl rfl rfl zt_25 rfl rfl rfl ?_
    refine AOps.alloc 105 rfl rfl rfl rfl zt_35 rfl rfl rfl ?_
    refine AOps.store rfl rfl rfl sz_25 rfl (.tail _ (.head _)) rfl rfl rfl (Nat.le_of_ble_eq_true rfl) ?_
    refine AOps.freezeCells 11 (ds := (applyV (plC c (l.take k)) l[k]).1.ds) rfl (.tail _ (.head _)) ?_
    refine AOps.store rfl rfl rfl sz_35 rfl (.head _) rfl rfl rfl (Nat.le_of_ble_eq_true rfl) ?_
    refine AOps.freezeCells 12 (ds := (applyV (plC c (l.take k)) l[k]).2.1.ds) rfl (.head _) ?_
    refine AOps.aA (.nil ?_)
    refine AWP.seq ?_
    refine AWP.seq (AWP.region ?_)
    refine AOps.mA ?_
    refine AOps.sA (AOp.neq rfl rfl rfl) (.nil ?_)
    refine AWP.cond rfl (fun h4 => ?_) (fun h4 => ?_)
    · replace h4 := of_decide_eq_true h4
      rw [playV_f k0 hll (plF_hit hlt hk.2 (by first | exact h4 | omega)) (by first | exact h4 | omega)]
      refine AWP.seq (AWP.region ?_)
      refine AOps.sA (AOp.build rfl bu_25 .nil rfl) ?_
      refine AOps.mA ?_
      refine AOps.store rfl rfl rfl sz_25 rfl (.tail _ (.head _)) rfl rfl rfl (Nat.le_of_ble_eq_true rfl) ?_
      refine AOps.aA ?_
      refine AOps.aA (.nil ?_)
      refine AWP.ret ?_
      refine ⟨RetR.agg rfl (.tail _ (.head _)) ag_25 rfl (.cons (by first | exact CellD.nil | exact CellD.d | exact CellD.eq (by simp) | (refine CellD.own (by first | exact .head _ | exact .tail _ (.head _)) ?_; rfl)) (.cons (by first | exact CellD.nil | exact CellD.d | exact CellD.eq (by simp) | (refine CellD.own (by first | exact .head _ | exact .tail _ (.head _)) ?_; rfl)) .nil)), RetD.nil rfl, RetD.eq rfl ?_, trivial⟩
      all_goals (rfl)
    replace h4 := of_decide_eq_false h4
    have HF := plF_next hlt hk.2 (by first | exact h4 | omega)
    have HC1 := plC_next (c := c) hlt
    have HB1 := plB_next (c := c) hlt
    refine AWP.skip ?_
    refine AWP.weaken (e' := Env.of [(26, .d (.v (.int .i64 (k : Int)))), (24, .d (.sl (l.map Chg.ds))), (25, .d (.v (.int .i64 ((l.map Chg.ds).length : Int)))), (2, .ptr 100 0), (4, .ptr 101 0), (8, .own 201), (11, .d (.fp (applyV (plC c (l.take k)) l[k]).1.ds)), (12, .d (.fp (applyV (plC c (l.take k)) l[k]).2.1.ds))]) (σ' := [(201, .row 35 4 ((plB c (l.take k)).map Chg.ds)), (101, .cells [.d (.v (.slice none 0 0)), .d (.v (.slice none 0 0))]), (100, .cells ((plC c (l.take k)).ds.map S.d))]) (Sub.less ⟨SLe.refl _, SLe.refl _, SLe.refl _, SLe.refl _, SLe.refl _, SLe.refl _, SLe.refl _, SLe.refl _, trivial⟩ (fun p h => h)) ?_
    refine AWP.drawLTail 5 [⟨201, [8, 42, 45]⟩] [(4, [8, 42, 45])] (fun _ => True) (by kernel_rfl) (by kernel_rfl) (by kernel_rfl) (by kernel_rfl) ?_
    refine LRun.step rfl rfl rfl trivial (fun τ _ => AOp.loadAgg rfl ag_25 rfl rfl) ?_
    refine LRun.step rfl rfl rfl trivial (fun τ _ => AOp.moveO rfl rfl) ?_
    refine LRun.step rfl rfl rfl trivial (fun τ _ => AOp.loadAgg rfl ag_35 rfl rfl) ?_
    refine LRun.step rfl rfl rfl trivial (fun τ _ => AOp.buildSlice rfl et_50 (.cons rfl rfl rfl .nil) rfl (by decide)) ?_
    refine LRun.eff rfl rfl trivial trivial (GE.append3 201 42 8 (.head _) (fun t h1 h2 h3 => by simp [h1, h2, h3]) (by decide) (by decide) (by decide) rfl rfl rfl rfl et_50 rfl (.head _) rfl (fun y hy => by obtain rfl := List.mem_singleton.1 hy; rfl) (by simp; omega) (by simp; omega) rfl) ?_ (cl_one3 rfl rfl rfl)
    refine LRun.nil ?_
    refine AOps.store rfl rfl rfl sz_25 rfl (.tail _ (.tail _ (.head _))) rfl rfl rfl (Nat.le_of_ble_eq_true rfl) ?_
    refine AOps.sA (AOp.assignO rfl rfl) (.nil ?_)
    refine AWP.region ?_
    refine AOps.sA (AOp.add64 rfl rfl rfl (by omega) (by omega)) ?_
    refine AOps.mA (.nil ?_)
    refine ⟨k + 1, ⟨by omega, HF⟩, (by dsimp only; omega), Sub.less ⟨(SLe.of_eq rfl), SLe.refl _, SLe.refl _, SLe.refl _, SLe.refl _, SLe.refl _, trivial⟩ (obs_e (by dsimp only; rw [HB1, HC1, List.map_append]; rfl))⟩
  replace h3 := of_decide_eq_false h3
  rw [List.length_map] at h3
  obtain rfl : k = l.length := by omega
  have HF : plF c l = 0 := by have := hk.2; rwa [List.take_length] at this
  have hq := plB_len c l
  rw [List.take_length, playV_0 k0 hll HF]
  refine AWP.exit ?_
  refine AWP.seq (AWP.region ?_)
  refine AOps.sA (AOp.moveO rfl rfl) ?_
  -- turns 201
  refine AOps.callX rfl rfl rfl (.cons (SLe.refl _) .nil) ((c_revX (plB c l) (by omega)) 201) ⟨(.head _), trivial⟩ rfl rfl (fun _ h => nomatch h) ?_
  refine AOps.nil ?_
  refine AWP.seq (AWP.region ?_)
  refine AOps.sA (AOp.loadPU rfl ag_25 rfl (.tail _ (.tail _ (.head _))) rfl rfl) ?_
  refine AOps.sA (AOp.moveO rfl rfl) ?_
  refine AOps.store rfl rfl rfl sz_25 rfl (.tail _ (.head _)) rfl rfl rfl (Nat.le_of_ble_eq_true rfl) ?_
  refine AOps.sA (AOp.assignO rfl rfl) ?_
  refine AOps.aA (.nil ?_)
  refine AWP.ret ?_
  refine ⟨RetR.agg rfl (.tail _ (.head _)) ag_25 rfl (.cons (by first | exact CellD.nil | exact CellD.d | exact CellD.eq (by simp) | (refine CellD.own (by first | exact .head _ | exact .tail _ (.head _)) ?_; rfl)) (.cons (by first | exact CellD.nil | exact CellD.d | exact CellD.eq (by simp) | (refine CellD.own (by first | exact .head _ | exact .tail _ (.head _)) ?_; rfl)) .nil)), RetD.own rfl (.head _) ?_, RetD.eq rfl ?_, trivial⟩
  all_goals (rfl)

set_option maxRecDepth 100000 in
set_option maxHeartbeats 1000000 in
theorem lawPlay (c : Ctl) (l : List Chg) (hc : CtlOk c) (hX : ∀ x ∈ l, XIn x ∧ x.put.length ≤ 1048576 ∧ x.add.length ≤ 1048576) : ACallT Tryz.prog MaxT 5 [.agg c.ds, .sl (l.map Chg.ds)] (.v (.bool true)) := by
  refine acall_ofT (n := 62) (ds' := [.v (.bool true)]) Tryz.func5 rfl (by kernel_rfl) rfl [4] rfl rfl ?_
  intro B w0 F0 hT
  have hX1 : ∀ x ∈ l, XIn x := fun x hx => (hX x hx).1
  refine AWP.seq (AWP.region ?_)
  refine AOps.sA (AOp.box rfl rfl rfl) ?_
  refine AOps.aA (.nil ?_)
  refine AWP.seq (AWP.region ?_)
  refine AOps.sA (AOp.loadAgg rfl ag_25 rfl rfl) ?_
  refine AOps.mA ?_
  -- wants the world
  refine AOps.callT rfl rfl rfl hT maxT_stays rfl (.cons (ArgOk.rfl' rfl) (.cons (ArgOk.rfl' rfl) .nil)) (c_pPlay c l hc hX1) ?_
  refine AOps.mA ?_
  refine AOps.sA (AOp.extract rfl rfl rfl) ?_
  refine AOps.sA (AOp.extract rfl rfl rfl) ?_
  refine AOps.sA (AOp.extract rfl rfl rfl) ?_
  refine AOps.alloc 101 rfl rfl rfl rfl zt_25 rfl rfl rfl ?_
  refine AOps.store rfl rfl rfl sz_25 rfl (.head _) rfl rfl rfl (Nat.le_of_ble_eq_true rfl) ?_
  refine AOps.freezeCells 5 (ds := (playV c l).1.ds) rfl (.head _) ?_
  refine AOps.aA ?_
  refine AOps.aA (.nil ?_)
  refine AWP.seq (AWP.region ?_)
  refine AOps.sA (AOp.loadAgg rfl ag_25 rfl rfl) ?_
  refine AOps.mA ?_
  -- wants the world
  refine AOps.callT rfl rfl rfl hT maxT_stays rfl (.cons (ArgOk.rfl' rfl) (.cons (ArgOk.rfl' rfl) .nil)) (c_rPlay c l hc hX) ?_
  refine AOps.mA ?_
  refine AOps.sA (AOp.extract rfl rfl rfl) ?_
  refine AOps.sA (AOp.extract rfl rfl rfl) ?_
  refine AOps.sA (AOp.extract rfl rfl rfl) ?_
  refine AOps.alloc 102 rfl rfl rfl rfl zt_25 rfl rfl rfl ?_
  refine AOps.store rfl rfl rfl sz_25 rfl (.head _) rfl rfl rfl (Nat.le_of_ble_eq_true rfl) ?_
  refine AOps.freezeCells 8 (ds := (playV c l).1.ds) rfl (.head _) ?_
  refine AOps.aA ?_
  refine AOps.aA (.nil ?_)
  refine AWP.seq ?_
  refine AWP.seq (AWP.region ?_)
  refine AOps.mA ?_
  refine AOps.mA ?_
  refine AOps.sA (AOp.neq rfl rfl rfl) ?_
  refine AOps.mA ?_
  refine AOps.split 30 rfl (fun g1 => ?_) (fun g1 => ?_)
  · replace g1 := of_decide_eq_true g1
    exact absurd rfl g1
  replace g1 := of_decide_eq_false g1
  refine AOps.sG (AOp.loadAgg rfl ag_25 rfl rfl) ?_
  refine AOps.sG (AOp.loadAgg rfl ag_25 rfl rfl) ?_
  refine AOps.sG (AOp.call rfl (.cons (ArgOk.rfl' rfl) (.cons (ArgOk.rfl' rfl) .nil)) (c_sameC _ _)) ?_
  refine AOps.sG (AOp.not rfl rfl) ?_
  refine AOps.sA (AOp.pickF rfl rfl rfl) ?_
  refine AOps.mA ?_
  refine AOps.split 36 rfl (fun g2 => ?_) (fun g2 => ?_)
  · replace g2 := bnot_t g2; replace g2 := of_decide_eq_false g2
    exact absurd rfl g2
  replace g2 := bnot_f g2; replace g2 := of_decide_eq_true g2
  refine AOps.sG (AOp.moveD rfl rfl) ?_
  refine AOps.sG (AOp.moveD rfl rfl) ?_
  refine AOps.sG (AOp.call rfl (.cons (ArgOk.rfl' rfl) (.cons (ArgOk.rfl' rfl) .nil)) (c_sameXs _ _)) ?_
  refine AOps.sG (AOp.not rfl rfl) ?_
  refine AOps.sA (AOp.pickF rfl rfl rfl) ?_
  refine AOps.mA ?_
  refine AOps.split 42 rfl (fun g3 => ?_) (fun g3 => ?_)
  · replace g3 := bnot_t g3; replace g3 := of_decide_eq_false g3
    exact absurd rfl g3
  replace g3 := bnot_f g3; replace g3 := of_decide_eq_true g3
  refine AOps.sG (AOp.call rfl .nil c_awake) ?_
  refine AOps.sG (AOp.not rfl rfl) ?_
  refine AOps.sA (AOp.pickF rfl rfl rfl) (.nil ?_)
  refine AWP.cond rfl (fun h => nomatch h) (fun _ => ?_)
  refine AWP.skip ?_
  refine AWP.seq ?_
  refine AWP.seq (AWP.region ?_)
  refine AOps.mA ?_
  refine AOps.sA (AOp.neq rfl rfl rfl) (.nil ?_)
  refine AWP.cond rfl (fun h4 => ?_) (fun h4 => ?_)
  · replace h4 := of_decide_eq_true h4
    refine AWP.seq (AWP.region ?_)
    refine AOps.aA (.nil ?_)
    refine AWP.ret ?_
    refine ⟨RetD.eq rfl ?_, trivial⟩
    all_goals (first | rfl | (rw [w2]; simp) | simp)
  replace h4 := of_decide_eq_false h4
  obtain ⟨w1, w2⟩ := plays_back (c := c) (l := l) (by first | exact h4 | omega)
  refine AWP.skip ?_
  refine AWP.seq (AWP.region ?_)
  refine AOps.sA (AOp.loadAgg rfl ag_25 rfl rfl) ?_
  refine AOps.mA ?_
  -- wants the world
  refine AOps.callT rfl rfl rfl hT maxT_stays rfl (.cons (ArgOk.rfl' rfl) (.cons (ArgOk.rfl' rfl) .nil)) (c_pPlay (playV c l).1 (playV c l).2.1 (playV_in hc hX1).1 (playV_in hc hX1).2) ?_
  refine AOps.mA ?_
  refine AOps.sA (AOp.extract rfl rfl rfl) ?_
  refine AOps.sA (AOp.extract rfl rfl rfl) ?_
  refine AOps.sA (AOp.extract rfl rfl rfl) ?_
  refine AOps.alloc 103 rfl rfl rfl rfl zt_25 rfl rfl rfl ?_
  refine AOps.store rfl rfl rfl sz_25 rfl (.head _) rfl rfl rfl (Nat.le_of_ble_eq_true rfl) ?_
  refine AOps.freezeCells 11 (ds := (playV (playV c l).1 (playV c l).2.1).1.ds) rfl (.head _) ?_
  refine AOps.aA ?_
  refine AOps.aA (.nil ?_)
  refine AWP.seq (AWP.region ?_)
  refine AOps.mA ?_
  refine AOps.sA (AOp.eql rfl rfl rfl) ?_
  refine AOps.mA ?_
  refine AOps.split 57 rfl (fun g5 => ?_) (fun g5 => ?_)
  · replace g5 := of_decide_eq_true g5
    refine AOps.sG (AOp.loadAgg rfl ag_25 rfl rfl) ?_
    refine AOps.sG (AOp.loadAgg rfl ag_25 rfl rfl) ?_
    refine AOps.sG (AOp.call rfl (.cons (ArgOk.rfl' rfl) (.cons (ArgOk.rfl' rfl) .nil)) (c_sameC _ _)) ?_
    refine AOps.sA (AOp.pickT rfl rfl rfl) ?_
    refine AOps.aA (.nil ?_)
    refine AWP.ret ?_
    refine ⟨RetD.eq rfl ?_, trivial⟩
    all_goals (first | rfl | (rw [w2]; simp) | simp)
  replace g5 := of_decide_eq_false g5
  exact absurd w1 g5

end Go.Proofs.YtgldfnkbpopanaaGreatDoor
