/- Walks and laws over abstract values, merged by tools/merge.py. No statement of the seat. -/
import Derived.Test.YtgldfnkbpopanaaGreatDoorXT9

namespace Go.Proofs.YtgldfnkbpopanaaGreatDoor
open Go.RowKit
set_option linter.unusedVariables false

/-! Types. -/
namespace TyNK
theorem ag_25 : AggT Tryz.prog 25 2 := .of (by kernel_rfl)
theorem ag_64 : AggT Tryz.prog 64 2 := .of (by kernel_rfl)
theorem bu_25 : StructT Tryz.prog 25 (fun i => (#[(0, 1), (1, 1)] : Array (Nat × Nat))[i]?) [(.slice none 0 0), (.slice none 0 0)] := .of (by kernel_rfl) (by kernel_rfl) (by decide)
theorem bu_73 : StructT Tryz.prog 73 (fun i => (#[(0, 1), (1, 1)] : Array (Nat × Nat))[i]?) [(.int .i64 0), (.bool false)] := .of (by kernel_rfl) (by kernel_rfl) (by decide)
theorem et_26 : ElemTy Tryz.prog 26 73 2 16 (.agg #[(.int .i64 0), (.bool false)]) := ⟨by kernel_rfl, by kernel_rfl, by kernel_rfl, by decide⟩
theorem et_33 : ElemTy Tryz.prog 33 3 1 8 (.int .i64 0) := ⟨by kernel_rfl, by kernel_rfl, by kernel_rfl, by decide⟩
theorem et_59 : ElemTy Tryz.prog 59 25 2 48 (.agg #[(.slice none 0 0), (.slice none 0 0)]) := ⟨by kernel_rfl, by kernel_rfl, by kernel_rfl, by decide⟩
theorem et_67 : ElemTy Tryz.prog 67 64 2 16 (.agg #[(.map none), (.map none)]) := ⟨by kernel_rfl, by kernel_rfl, by kernel_rfl, by decide⟩
theorem fo_64_0 : fieldOff Tryz.prog 64 0 = some 0 := by kernel_rfl
theorem fo_64_1 : fieldOff Tryz.prog 64 1 = some 1 := by kernel_rfl
theorem sc_3 : Scal Tryz.prog 3 := .of (by kernel_rfl)
theorem sc_61 : Scal Tryz.prog 61 := .of (by kernel_rfl)
theorem sc_62 : Scal Tryz.prog 62 := .of (by kernel_rfl)
theorem sz_25 : ∀ w, (sizeOf 25).run Tryz.prog w = .ok 2 w := SizeT.of (by kernel_rfl)
theorem sz_64 : ∀ w, (sizeOf 64).run Tryz.prog w = .ok 2 w := SizeT.of (by kernel_rfl)
theorem zt_25 : (Tryz.prog.info? 25).bind (·.zero) = some (.agg #[(.slice none 0 0), (.slice none 0 0)]) := by kernel_rfl
theorem zt_64 : (Tryz.prog.info? 64).bind (·.zero) = some (.agg #[(.map none), (.map none)]) := by kernel_rfl
end TyNK
open TyNK


set_option linter.unusedSimpArgs false
theorem SLe.fn (f : Nat) : SLe (.d (.v (.func (.func f) #[] #[]))) (.d (.clo (.func f) [])) := fun F ρ w x h => by
  cases repS_v h
  exact .d (.clo _ [] [] rfl (fun i h => absurd h (Nat.not_lt_zero i)))
section
variable {β : Type} [DecidableEq β] {o p q : GL (Option β)} {k : Int}
theorem pk_y (h : lkG p k = lkG o k) : pkG o p q k = lkG q k := if_pos h
theorem pk_n (h : ¬ lkG p k = lkG o k) : pkG o p q k = lkG p k := if_neg h
theorem dis_1 (h : lkG p k = lkG o k) : disG o p q k = false := by unfold disG; simp [h]
theorem dis_2 (h : lkG q k = lkG o k) : disG o p q k = false := by unfold disG; simp [h]
theorem dis_3 (h : lkG p k = lkG q k) : disG o p q k = false := by unfold disG; simp [h]
theorem dis_y (h : ¬ lkG p k = lkG o k) (h2 : ¬ lkG q k = lkG o k) (h3 : ¬ lkG p k = lkG q k) : disG o p q k = true := by unfold disG; simp [h, h2, h3]
end


set_option maxRecDepth 100000 in
set_option maxHeartbeats 8000000 in
theorem c_tog (u v w : Ctl) (hu : CtlOk u) (hv : CtlOk v) (hw : CtlOk w) : ACallT Tryz.prog MaxT 8 [.agg u.ds, .agg v.ds, .agg w.ds] (.tup [.agg (togV srtD u v w).1.ds, .sl ((togV srtD u v w).2.1.map Dsp.ds), .v (.int .i64 (togV srtD u v w).2.2)]) := by
  refine acall_ofRT (n := 182) (ds' := [.agg (togV srtD u v w).1.ds, .sl ((togV srtD u v w).2.1.map Dsp.ds), .v (.int .i64 (togV srtD u v w).2.2)]) Tryz.func8 rfl (by kernel_rfl) rfl [.cell 6 25, .tmp 7, .tmp 8] rfl rfl ?_
  intro B w0 F0 hT
  refine AWP.seq (AWP.region ?_)
  refine AOps.sA (AOp.box rfl rfl rfl) ?_
  refine AOps.sA (AOp.box rfl rfl rfl) ?_
  refine AOps.sA (AOp.box rfl rfl rfl) ?_
  refine AOps.alloc 101 rfl rfl rfl rfl zt_25 rfl rfl rfl ?_
  refine AOps.aA ?_
  refine AOps.aA (.nil ?_)
  refine AWP.seq ?_
  refine AWP.seq (AWP.region ?_)
  refine AOps.sA (AOp.loadAgg rfl ag_25 rfl rfl) ?_
  refine AOps.sA (AOp.loadAgg rfl ag_25 rfl rfl) ?_
  refine AOps.sA (AOp.loadAgg rfl ag_25 rfl rfl) ?_
  refine AOps.sA (AOp.buildSlice rfl et_59 (.cons rfl rfl rfl (.cons rfl rfl rfl (.cons rfl rfl rfl .nil))) rfl (by decide)) ?_
  refine AOps.sA (AOp.lenSl rfl et_59.ht rfl) ?_
  refine AOps.mA (.nil ?_)
  refine AWP.block ?_
  refine AWP.loop (G := Nat) (fun k => Env.of [(36, .d (.v (.int .i64 (k : Int)))), (34, .d (.sl ([u, v, w].map Ctl.ds))), (35, .d (.v (.int .i64 3))), (3, .d (.fp u.ds)), (4, .d (.fp v.ds)), (5, .d (.fp w.ds)), (6, .ptr 101 0)]) (fun k => [(101, .cells [.d (.v (.slice none 0 0)), .d (.v (.slice none 0 0))])]) (fun k => k ≤ 3 ∧ ∀ z ∈ [u, v, w].take k, chkF z = 0) (fun k => 3 - k) 0 ⟨Nat.zero_le _, fun z h => by simp at h⟩ (Sub.less ⟨(SLe.of_eq rfl), (SLe.of_eq rfl), (SLe.of_eq rfl), SLe.refl _, SLe.refl _, SLe.refl _, SLe.refl _, trivial⟩ (obs_e rfl)) ?_
  intro k hk
  refine AWP.seq (AWP.region ?_)
  refine AOps.sA (AOp.lss rfl rfl rfl) (.nil ?_)
  refine AWP.seq ?_
  refine AWP.cond rfl (fun h1 => ?_) (fun h1 => ?_)
  · replace h1 := of_decide_eq_true h1
    have hlt : k < [u, v, w].length := by have := h1; simp at this ⊢; omega
    refine AWP.skip ?_
    refine AWP.seq ?_
    refine AWP.block ?_
    refine AWP.seq (AWP.region ?_)
    refine AOps.sA (AOp.indexAddr rfl et_59 rfl rfl k rfl (at_lst (l := [u, v, w]) hlt) rfl) ?_
    refine AOps.sA (AOp.loadAgg rfl ag_25 rfl rfl) ?_
    refine AOps.alloc 102 rfl rfl rfl rfl zt_25 rfl rfl rfl ?_
    refine AOps.store rfl rfl rfl sz_25 rfl (.head _) rfl rfl rfl (Nat.le_of_ble_eq_true rfl) ?_
    refine AOps.freezeCells 10 (ds := ([u, v, w][k]).ds) rfl (.head _) (.nil ?_)
    refine AWP.seq (AWP.region ?_)
    refine AOps.sA (AOp.loadAgg rfl ag_25 rfl rfl) ?_
    -- wants the world
    refine AOps.callT rfl rfl rfl hT maxT_stays rfl (.cons (ArgOk.rfl' rfl) .nil) (c_pChk _ (thr_m (p := CtlOk) hu hv hw hlt)) ?_
    refine AOps.aA (.nil ?_)
    refine AWP.seq (AWP.region ?_)
    refine AOps.mA ?_
    refine AOps.sA (AOp.neq rfl rfl rfl) (.nil ?_)
    refine AWP.cond rfl (fun h2 => ?_) (fun h2 => ?_)
    · replace h2 := of_decide_eq_true h2
      rw [tog_k (S := srtD) hlt hk.2 (by first | exact h2 | omega)]
      refine AWP.seq (AWP.region ?_)
      refine AOps.sA (AOp.build rfl bu_25 .nil rfl) ?_
      refine AOps.mA ?_
      refine AOps.store rfl rfl rfl sz_25 rfl (.head _) rfl rfl rfl (Nat.le_of_ble_eq_true rfl) ?_
      refine AOps.aA ?_
      refine AOps.aA (.nil ?_)
      refine AWP.ret ?_
      refine ⟨RetR.agg rfl (.head _) ag_25 rfl (.cons (by first | exact CellD.nil | exact CellD.d | exact CellD.eq (by simp) | (refine CellD.own (by first | exact .head _ | exact .tail _ (.head _)) ?_; rfl)) (.cons (by first | exact CellD.nil | exact CellD.d | exact CellD.eq (by simp) | (refine CellD.own (by first | exact .head _ | exact .tail _ (.head _)) ?_; rfl)) .nil)), RetD.nil rfl, RetD.eq rfl ?_, trivial⟩
      all_goals (rfl)
    replace h2 := of_decide_eq_false h2
    have HN := lst_s (f := chkF) hlt hk.2 (by first | exact h2 | omega)
    refine AWP.skip ?_
    refine AWP.region ?_
    refine AOps.sA (AOp.add64 rfl rfl rfl (by omega) (by omega)) ?_
    refine AOps.mA (.nil ?_)
    refine ⟨k + 1, ⟨by simp at hlt; omega, HN⟩, (by dsimp only; simp at hlt; omega), Sub.less ⟨(SLe.of_eq rfl), SLe.refl _, SLe.refl _, SLe.refl _, SLe.refl _, SLe.refl _, SLe.refl _, trivial⟩ (obs_e rfl)⟩
  replace h1 := of_decide_eq_false h1
  obtain ⟨ku, kv, kw⟩ := thr_e (f := chkF) (by have := h1; simp at this ⊢; omega) hk.2
  have su := sh_ok hu ku
  have sv := sh_ok hv kv
  have sw1 := sh_ok hw kw
  have hv1 := (cIn hv kv).vT
  have hw1 := (cIn hw kw).vT
  have hv2 := (cIn hv kv).vM
  have hw2 := (cIn hw kw).vM
  have HU := c_ofC u (catOk ku).lim hu (cIn hu ku).parts
  have HV := c_ofC v (catOk kv).lim hv (cIn hv kv).parts
  have HW := c_ofC w (catOk kw).lim hw (cIn hw kw).parts
  refine AWP.exit ?_
  refine AWP.seq ?_
  refine AWP.weaken (e' := Env.of [(3, .d (.fp u.ds)), (4, .d (.fp v.ds)), (5, .d (.fp w.ds)), (6, .ptr 101 0)]) (σ' := [(101, .cells [.d (.v (.slice none 0 0)), .d (.v (.slice none 0 0))])]) (Sub.less ⟨SLe.refl _, SLe.refl _, SLe.refl _, SLe.refl _, trivial⟩ (fun p h => h)) ?_
  refine AWP.drawGroups 11 [⟨53, .own 99, [(99, .val [.own 81, .own 82]), (81, .map []), (82, .map [])], fun n => Nat.beq n 99 || Nat.beq n 81 || Nat.beq n 82⟩, ⟨12, .ptr 103 0, [(103, .cells [.d (.v (.map none)), .d (.v (.map none))])], fun n => Nat.beq n 103⟩, ⟨13, .ptr 104 0, [(104, .cells [.d (.v (.map none)), .d (.v (.map none))])], fun n => Nat.beq n 104⟩, ⟨14, .ptr 105 0, [(105, .cells [.d (.v (.map none)), .d (.v (.map none))])], fun n => Nat.beq n 105⟩, ⟨15, .ptr 106 0, [(106, .cells [.d (.v (.map none)), .d (.v (.map none))])], fun n => Nat.beq n 106⟩] (by
    constructor
    · intro f hf g hg h; simp only [List.mem_cons, List.not_mem_nil, or_false] at hf hg; rcases hf with rfl | rfl | rfl | rfl | rfl <;> rcases hg with rfl | rfl | rfl | rfl | rfl <;> first | rfl | (exfalso; dsimp only at h; omega)
    · intro f hf; simp only [List.mem_cons, List.not_mem_nil, or_false] at hf; rcases hf with rfl | rfl | rfl | rfl | rfl <;> exact ⟨rfl, by intro h; cases h⟩
    · intro f hf g hg hne; simp only [List.mem_cons, List.not_mem_nil, or_false] at hf hg; rcases hf with rfl | rfl | rfl | rfl | rfl <;> rcases hg with rfl | rfl | rfl | rfl | rfl <;> first | exact absurd rfl hne | exact ⟨rfl, fun p hp => by (simp only [List.mem_cons, List.not_mem_nil, or_false] at hp; rcases hp with rfl | rfl | rfl <;> rfl)⟩ | exact ⟨rfl, fun p hp => by (simp only [List.mem_cons, List.not_mem_nil, or_false] at hp; subst hp; rfl)⟩
    · intro f hf p hp; simp only [List.mem_cons, List.not_mem_nil, or_false] at hf hp; rcases hf with rfl | rfl | rfl | rfl | rfl <;> subst hp <;> rfl
    intro f hf; simp only [List.mem_cons, List.not_mem_nil, or_false] at hf; rcases hf with rfl | rfl | rfl | rfl | rfl <;> rfl) (by kernel_rfl) (by kernel_rfl) (by kernel_rfl) (by kernel_rfl) ?_
  refine YRun.step rfl rfl rfl (AOp.loadAgg rfl ag_25 rfl rfl) ?_ rfl ⟨.inl rfl, .inl rfl, .inl rfl, .inl rfl, .inl rfl, trivial⟩
  refine YRun.step rfl rfl rfl (AOp.call rfl (.cons (ArgOk.rfl' rfl) .nil) HU.toA) ?_ rfl ⟨.inl rfl, .inl rfl, .inl rfl, .inl rfl, .inl rfl, trivial⟩
  refine YRun.step rfl rfl rfl (AOp.loadAgg rfl ag_25 rfl rfl) ?_ rfl ⟨.inl rfl, .inl rfl, .inl rfl, .inl rfl, .inl rfl, trivial⟩
  refine YRun.step rfl rfl rfl (AOp.call rfl (.cons (ArgOk.rfl' rfl) .nil) HV.toA) ?_ rfl ⟨.inl rfl, .inl rfl, .inl rfl, .inl rfl, .inl rfl, trivial⟩
  refine YRun.step rfl rfl rfl (AOp.loadAgg rfl ag_25 rfl rfl) ?_ rfl ⟨.inl rfl, .inl rfl, .inl rfl, .inl rfl, .inl rfl, trivial⟩
  refine YRun.step rfl rfl rfl (AOp.call rfl (.cons (ArgOk.rfl' rfl) .nil) HW.toA) ?_ rfl ⟨.inl rfl, .inl rfl, .inl rfl, .inl rfl, .inl rfl, trivial⟩
  refine YRun.callS 99 81 82 _ (.head _) rfl rfl rfl rfl rfl .nil c_new (by decide) (by decide) (by decide) rfl rfl rfl ?_
  refine YRun.alloc 103 _ (.tail _ (.head _)) rfl rfl rfl rfl rfl zt_64 rfl rfl rfl rfl rfl ?_
  refine YRun.alloc 104 _ (.tail _ (.tail _ (.head _))) rfl rfl rfl rfl rfl zt_64 rfl rfl rfl rfl rfl ?_
  refine YRun.alloc 105 _ (.tail _ (.tail _ (.tail _ (.head _)))) rfl rfl rfl rfl rfl zt_64 rfl rfl rfl rfl rfl ?_
  refine YRun.alloc 106 _ (.tail _ (.tail _ (.tail _ (.tail _ (.head _))))) rfl rfl rfl rfl rfl zt_64 rfl rfl rfl rfl rfl ?_
  refine YRun.nil ⟨rfl, rfl, rfl, rfl, rfl, trivial⟩ ?_
  refine AOps.store rfl rfl rfl sz_64 rfl (.tail _ (.tail _ (.tail _ (.head _)))) rfl rfl rfl (Nat.le_of_ble_eq_true rfl) ?_
  refine AOps.freezeCells 12 (ds := [.fm (encT (cT u)), .fm (encM (cM u))]) rfl (.tail _ (.tail _ (.tail _ (.head _)))) ?_
  refine AOps.store rfl rfl rfl sz_64 rfl (.tail _ (.tail _ (.tail _ (.head _)))) rfl rfl rfl (Nat.le_of_ble_eq_true rfl) ?_
  refine AOps.freezeCells 13 (ds := [.fm (encT (cT v)), .fm (encM (cM v))]) rfl (.tail _ (.tail _ (.tail _ (.head _)))) ?_
  refine AOps.store rfl rfl rfl sz_64 rfl (.tail _ (.tail _ (.tail _ (.head _)))) rfl rfl rfl (Nat.le_of_ble_eq_true rfl) ?_
  refine AOps.freezeCells 14 (ds := [.fm (encT (cT w)), .fm (encM (cM w))]) rfl (.tail _ (.tail _ (.tail _ (.head _)))) ?_
  refine AOps.eff rfl rfl (EOp.storeVal (ss' := [.own 81, .own 82]) rfl rfl sz_64 rfl (.tail _ (.tail _ (.tail _ (.head _)))) rfl (.head _) rfl (Nat.le_refl 2)) (.nil ?_)
  refine AWP.seq ?_
  refine AWP.weaken (e' := Env.of [(6, .ptr 101 0), (12, .d (.fp [.fm (encT (cT u)), .fm (encM (cM u))])), (13, .d (.fp [.fm (encT (cT v)), .fm (encM (cM v))])), (14, .d (.fp [.fm (encT (cT w)), .fm (encM (cM w))])), (15, .ptr 106 0)]) (σ' := [(99, .val [.own 81, .own 82]), (81, .map (encT [])), (82, .map (encM [])), (106, .cells [.own 81, .own 82]), (101, .cells [.d (.v (.slice none 0 0)), .d (.v (.slice none 0 0))])]) (Sub.less ⟨SLe.refl _, SLe.refl _, SLe.refl _, SLe.refl _, SLe.refl _, trivial⟩ (fun p h => h)) ?_
  refine AWP.region ?_
  refine AOps.aA (.nil ?_)
  refine AWP.seq (AWP.region ?_)
  refine AOps.callXS rfl rfl rfl ArgsS.nil (c_new.toX 100 91 92 (by decide) (by decide) (by decide)) trivial rfl rfl (fun _ _ => rfl) ?_
  refine AOps.callXS rfl rfl rfl ArgsS.nil (c_new.toX 200 191 192 (by decide) (by decide) (by decide)) trivial rfl rfl (fun _ _ => rfl) ?_
  refine AOps.alloc 107 rfl rfl rfl rfl zt_64 rfl rfl rfl ?_
  refine AOps.alloc 108 rfl rfl rfl rfl zt_64 rfl rfl rfl ?_
  refine AOps.eff rfl rfl (EOp.storeVal (ss' := [.own 91, .own 92]) rfl rfl sz_64 rfl (.tail _ (.head _)) rfl (.tail _ (.tail _ (.tail _ (.tail _ (.tail _ (.head _)))))) rfl (Nat.le_refl 2)) ?_
  refine AOps.eff rfl rfl (EOp.storeVal (ss' := [.own 191, .own 192]) rfl rfl sz_64 rfl (.head _) rfl (.tail _ (.tail _ (.head _))) rfl (Nat.le_refl 2)) (.nil ?_)
  refine AWP.seq ?_
  refine AWP.seq ?_
  refine AWP.obs (σ' := [(200, .val [.own 191, .own 192]), (191, .map []), (192, .map []), (100, .val [.own 91, .own 92]), (91, .map []), (92, .map []), (108, .cells [.own 191, .own 192]), (107, .cells [.own 91, .own 92]), (99, .val [.own 81, .own 82]), (81, .map (encT [])), (82, .map (encM [])), (106, .cells [.own 81, .own 82]), (101, .cells [.d (.v (.slice none 0 0)), .d (.v (.slice none 0 0))])]) (in_cons (.tail _ (.tail _ (.head _))) (in_cons (.tail _ (.tail _ (.tail _ (.head _)))) (in_cons (.tail _ (.tail _ (.tail _ (.tail _ (.head _))))) (in_cons (.tail _ (.tail _ (.tail _ (.tail _ (.tail _ (.head _)))))) (in_cons (.tail _ (.tail _ (.tail _ (.tail _ (.tail _ (.tail _ (.head _))))))) (in_cons (.tail _ (.tail _ (.tail _ (.tail _ (.tail _ (.tail _ (.tail _ (.head _)))))))) (in_cons (.head _) (in_cons (.tail _ (.head _)) (in_cons (.tail _ (.tail _ (.tail _ (.tail _ (.tail _ (.tail _ (.tail _ (.tail _ (.head _))))))))) (in_cons (.tail _ (.tail _ (.tail _ (.tail _ (.tail _ (.tail _ (.tail _ (.tail _ (.tail _ (.head _)))))))))) (in_cons (.tail _ (.tail _ (.tail _ (.tail _ (.tail _ (.tail _ (.tail _ (.tail _ (.tail _ (.tail _ (.head _))))))))))) (in_cons (.tail _ (.tail _ (.tail _ (.tail _ (.tail _ (.tail _ (.tail _ (.tail _ (.tail _ (.tail _ (.tail _ (.head _)))))))))))) (in_cons (.tail _ (.tail _ (.tail _ (.tail _ (.tail _ (.tail _ (.tail _ (.tail _ (.tail _ (.tail _ (.tail _ (.tail _ (.head _))))))))))))) (in_nil)))))))))))))) ?_
  refine AWP.region ?_
  refine AOps.sA (AOp.loadAgg rfl ag_64 rfl rfl) ?_
  refine AOps.sA (AOp.loadAgg rfl ag_64 rfl rfl) ?_
  refine AOps.sA (AOp.loadAgg rfl ag_64 rfl rfl) ?_
  refine AOps.sA (AOp.buildSlice rfl et_67 (.cons rfl rfl rfl (.cons rfl rfl rfl (.cons rfl rfl rfl .nil))) rfl (by decide)) ?_
  refine AOps.sA (AOp.lenSl rfl et_67.ht rfl) ?_
  refine AOps.mA (.nil ?_)
  refine AWP.block ?_
  refine AWP.loop (G := Nat × (TL × ML) × (TL × ML)) (fun g => Env.of [(61, .d (.v (.int .i64 (g.1 : Int)))), (59, .d (.sl ((shL u v w).map encP))), (60, .d (.v (.int .i64 3))), (6, .ptr 101 0), (12, .d (.fp [.fm (encT (cT u)), .fm (encM (cM u))])), (13, .d (.fp [.fm (encT (cT v)), .fm (encM (cM v))])), (14, .d (.fp [.fm (encT (cT w)), .fm (encM (cM w))])), (15, .ptr 106 0), (16, .d (.v (.slice none 0 0))), (17, .ptr 107 0), (18, .ptr 108 0)]) (fun g => [(200, .val [.own 191, .own 192]), (191, .map (encT g.2.2.1)), (192, .map (encM g.2.2.2)), (100, .val [.own 91, .own 92]), (91, .map (encT g.2.1.1)), (92, .map (encM g.2.1.2)), (108, .cells [.own 191, .own 192]), (107, .cells [.own 91, .own 92]), (99, .val [.own 81, .own 82]), (81, .map (encT [])), (82, .map (encM [])), (106, .cells [.own 81, .own 82]), (101, .cells [.d (.v (.slice none 0 0)), .d (.v (.slice none 0 0))])]) (fun g => g.1 ≤ 3 ∧ OvN [cT u, cT v, cT w] g.1 g.2.1.1 ∧ OvN [cM u, cM v, cM w] g.1 g.2.1.2 ∧ OvN [cT u, cT v, cT w] g.1 g.2.2.1 ∧ OvN [cM u, cM v, cM w] g.1 g.2.2.2) (fun g => 3 - g.1) (0, ([], []), ([], [])) ⟨Nat.zero_le _, OvN.zero _, OvN.zero _, OvN.zero _, OvN.zero _⟩ (Sub.less ⟨(SLe.of_eq rfl), (SLe.of_eq rfl), (SLe.of_eq rfl), SLe.refl _, SLe.refl _, SLe.refl _, SLe.refl _, SLe.refl _, SLe.refl _, SLe.refl _, SLe.refl _, trivial⟩ (obs_e rfl)) ?_
  rintro ⟨k, ⟨t1, m1⟩, ⟨t2, m2⟩⟩ ⟨hk, o1, o2, o3, o4⟩
  dsimp only at hk o1 o2 o3 o4 ⊢
  refine AWP.seq (AWP.region ?_)
  refine AOps.sA (AOp.lss rfl rfl rfl) (.nil ?_)
  refine AWP.seq ?_
  refine AWP.cond rfl (fun h3 => ?_) (fun h3 => ?_)
  · replace h3 := of_decide_eq_true h3
    have hlt : k < (shL u v w).length := by have := h3; simp [shL] at this ⊢; omega
    have HK := shL_ok su sv sw1 hlt
    obtain ⟨e1, e2⟩ := shL_at hlt
    refine AWP.skip ?_
    refine AWP.seq ?_
    refine AWP.block ?_
    refine AWP.seq (AWP.region ?_)
    refine AOps.sA (AOp.indexAddr rfl et_67 rfl rfl k rfl (at_lst (l := shL u v w) (f := encP) hlt) rfl) ?_
    refine AOps.sA (AOp.loadAgg rfl ag_64 rfl rfl) ?_
    refine AOps.alloc 105 rfl rfl rfl rfl zt_64 rfl rfl rfl ?_
    refine AOps.store rfl rfl rfl sz_64 rfl (.head _) rfl rfl rfl (Nat.le_of_ble_eq_true rfl) ?_
    refine AOps.freezeCells 20 (ds := encP (shL u v w)[k]) rfl (.head _) (.nil ?_)
    refine AWP.seq (AWP.region ?_)
    refine AOps.sA (AOp.loadSame rfl ag_64 rfl (.tail _ (.tail _ (.tail _ (.tail _ (.tail _ (.tail _ (.tail _ (.head _)))))))) (.tail _ (.tail _ (.tail _ (.head _))))) ?_
    refine AOps.sA (AOp.loadAgg rfl ag_64 rfl rfl) ?_
    refine AOps.callXE rfl rfl rfl (ArgsS.cons (SLe.refl _) (ArgsS.cons (SLe.refl _) ArgsS.nil)) (c_over t1 (shL u v w)[k].1 m1 (shL u v w)[k].2 o1.nk HK.nT o2.nk HK.nM o1.keys HK.kT o2.keys HK.kM) ⟨(.tail _ (.tail _ (.tail _ (.head _)))), (.tail _ (.tail _ (.tail _ (.tail _ (.head _))))), (.tail _ (.tail _ (.tail _ (.tail _ (.tail _ (.head _)))))), trivial⟩ rfl (fun _ => rfl) (fun _ _ => rfl) (fun i1 hi1 => ?_)
    obtain ⟨t3, m3⟩ := i1
    obtain ⟨i1a, i1b⟩ := hi1
    refine AOps.nil ?_
    refine AWP.region ?_
    refine AOps.sA (AOp.loadSame rfl ag_64 rfl (.tail _ (.tail _ (.tail _ (.tail _ (.tail _ (.tail _ (.head _))))))) (.tail _ (.tail _ (.tail _ (.head _))))) ?_
    refine AOps.sA (AOp.loadAgg rfl ag_64 rfl rfl) ?_
    refine AOps.callXE rfl rfl rfl (ArgsS.cons (SLe.refl _) (ArgsS.cons (SLe.refl _) ArgsS.nil)) (c_overB t2 (shL u v w)[k].1 m2 (shL u v w)[k].2 o3.nk HK.nT o4.nk HK.nM o3.keys HK.kT o4.keys HK.kM) ⟨(.tail _ (.tail _ (.tail _ (.head _)))), (.tail _ (.tail _ (.tail _ (.tail _ (.head _))))), (.tail _ (.tail _ (.tail _ (.tail _ (.tail _ (.head _)))))), trivial⟩ rfl (fun _ => rfl) (fun _ _ => rfl) (fun i2 hi2 => ?_)
    obtain ⟨t4, m4⟩ := i2
    obtain ⟨i2a, i2b⟩ := hi2
    refine AOps.nil ?_
    refine AWP.region ?_
    refine AOps.sA (AOp.add64 rfl rfl rfl (by omega) (by omega)) ?_
    refine AOps.mA (.nil ?_)
    refine ⟨(k + 1, (t3, m3), (t4, m4)), ⟨by simp [shL] at hlt; dsimp only; omega, o1.next hlt e1 HK.nT HK.lT i1a, o2.next hlt e2 HK.nM HK.lM i1b, o3.next hlt e1 HK.nT HK.lT i2a, o4.next hlt e2 HK.nM HK.lM i2b⟩, (by simp [shL] at hlt; dsimp only; omega), Sub.less ⟨(SLe.of_eq rfl), SLe.refl _, SLe.refl _, SLe.refl _, SLe.refl _, SLe.refl _, SLe.refl _, SLe.refl _, SLe.refl _, SLe.refl _, SLe.refl _, trivial⟩ (obs_e rfl)⟩
  replace h3 := of_decide_eq_false h3
  obtain rfl : k = 3 := by have := h3; simp at this; omega
  have hbI : ∀ n ∈ (idT u v w), i64 n := fun n hn => keysG_ok o1.kok hn
  have hbJ : ∀ n ∈ (idM u v w), i64 n := fun n hn => keysG_ok o4.kok hn
  have z1 := o1.oln
  have z2 := o4.oln
  have z3 : (idT u v w).length ≤ 900 := by show (keysG _).length ≤ 900; rw [keysG_len]; exact z1
  have z4 : (idM u v w).length ≤ 900 := by show (keysG _).length ≤ 900; rw [keysG_len]; exact z2
  refine AWP.exit ?_
  refine AWP.seq ?_
  refine AWP.seq ?_
  refine AWP.obs (σ' := [(91, .map (encT t1)), (192, .map (encM m2)), (107, .cells [.own 91, .own 92]), (108, .cells [.own 191, .own 192]), (99, .val [.own 81, .own 82]), (81, .map (encT [])), (82, .map (encM [])), (106, .cells [.own 81, .own 82]), (101, .cells [.d (.v (.slice none 0 0)), .d (.v (.slice none 0 0))])]) (in_cons (.tail _ (.tail _ (.tail _ (.tail _ (.head _))))) (in_cons (.tail _ (.tail _ (.head _))) (in_cons (.tail _ (.tail _ (.tail _ (.tail _ (.tail _ (.tail _ (.tail _ (.head _)))))))) (in_cons (.tail _ (.tail _ (.tail _ (.tail _ (.tail _ (.tail _ (.head _))))))) (in_cons (.tail _ (.tail _ (.tail _ (.tail _ (.tail _ (.tail _ (.tail _ (.tail _ (.head _))))))))) (in_cons (.tail _ (.tail _ (.tail _ (.tail _ (.tail _ (.tail _ (.tail _ (.tail _ (.tail _ (.head _)))))))))) (in_cons (.tail _ (.tail _ (.tail _ (.tail _ (.tail _ (.tail _ (.tail _ (.tail _ (.tail _ (.tail _ (.head _))))))))))) (in_cons (.tail _ (.tail _ (.tail _ (.tail _ (.tail _ (.tail _ (.tail _ (.tail _ (.tail _ (.tail _ (.tail _ (.head _)))))))))))) (in_cons (.tail _ (.tail _ (.tail _ (.tail _ (.tail _ (.tail _ (.tail _ (.tail _ (.tail _ (.tail _ (.tail _ (.tail _ (.head _))))))))))))) (in_nil)))))))))) ?_
  refine AWP.freezeMapIn 107 0 (encT (ov3 (cT u) (cT v) (cT w))) rfl (.tail _ (.head _)) (.head _) (o1.perm.map _) ?_
  refine AWP.freezeMapIn 108 1 (encM (ov3 (cM u) (cM v) (cM w))) rfl (.tail _ (.head _)) (.head _) (o4.perm.map _) ?_
  refine AWP.weaken (e' := Env.of [(6, .ptr 101 0), (12, .d (.fp [.fm (encT (cT u)), .fm (encM (cM u))])), (13, .d (.fp [.fm (encT (cT v)), .fm (encM (cM v))])), (14, .d (.fp [.fm (encT (cT w)), .fm (encM (cM w))])), (15, .ptr 106 0), (16, .d (.v (.slice none 0 0))), (17, .ptr 107 0), (18, .ptr 108 0)]) (σ' := [(107, .cells [.d (.fm (encT (ov3 (cT u) (cT v) (cT w)))), .own 92]), (108, .cells [.own 191, .d (.fm (encM (ov3 (cM u) (cM v) (cM w))))]), (99, .val [.own 81, .own 82]), (81, .map (encT [])), (82, .map (encM [])), (106, .cells [.own 81, .own 82]), (101, .cells [.d (.v (.slice none 0 0)), .d (.v (.slice none 0 0))])]) (Sub.less ⟨SLe.refl _, SLe.refl _, SLe.refl _, SLe.refl _, SLe.refl _, SLe.refl _, SLe.refl _, SLe.refl _, trivial⟩ (fun p h => h)) ?_
  refine AWP.region ?_
  refine AOps.sA (AOp.fieldAddrP rfl fo_64_0 rfl) ?_
  refine AOps.sA (AOp.loadP rfl sc_61 rfl (.head _) rfl) ?_
  refine AOps.sA (AOp.call rfl (.cons (ArgOk.rfl' rfl) .nil) (c_keysT (ov3 (cT u) (cT v) (cT w)) ov3_nk o1.kok (by omega)).toA) ?_
  rw [show keysG (ov3 (cT u) (cT v) (cT w)) = (idT u v w) from rfl]
  refine AOps.sA (AOp.lenSl rfl et_33.ht rfl) ?_
  refine AOps.mA (.nil ?_)
  refine AWP.block ?_
  refine AWP.adopt 16 201 73 2 rfl rfl ?_
  refine AWP.loop (G := Nat) (fun k => Env.of [(76, .d (.v (.int .i64 (k : Int)))), (74, .d (.sl ((idT u v w).map intD))), (75, .d (.v (.int .i64 (((idT u v w).map intD).length : Int)))), (6, .ptr 101 0), (12, .d (.fp [.fm (encT (cT u)), .fm (encM (cM u))])), (13, .d (.fp [.fm (encT (cT v)), .fm (encM (cM v))])), (14, .d (.fp [.fm (encT (cT w)), .fm (encM (cM w))])), (15, .ptr 106 0), (16, .own 201), (18, .ptr 108 0)]) (fun k => [(201, .row 73 2 (((dgTo (cT u) (cT v) (cT w) (idT u v w) k).map fun n => Dsp.mk n false).map Dsp.ds)), (107, .cells [.d (.fm (encT (ov3 (cT u) (cT v) (cT w)))), .own 92]), (108, .cells [.own 191, .d (.fm (encM (ov3 (cM u) (cM v) (cM w))))]), (99, .val [.own 81, .own 82]), (81, .map (encT (tgTo (cT u) (cT v) (cT w) (idT u v w) k))), (82, .map (encM [])), (106, .cells [.own 81, .own 82]), (101, .cells [.d (.v (.slice none 0 0)), .d (.v (.slice none 0 0))])]) (fun k => k ≤ (idT u v w).length) (fun k => (idT u v w).length - k) 0 (Nat.zero_le _) (Sub.less ⟨(SLe.of_eq rfl), SLe.refl _, SLe.refl _, SLe.refl _, SLe.refl _, SLe.refl _, SLe.refl _, SLe.refl _, SLe.refl _, SLe.refl _, trivial⟩ (obs_e rfl)) ?_
  intro k hk
  refine AWP.seq (AWP.region ?_)
  refine AOps.sA (AOp.lss rfl rfl rfl) (.nil ?_)
  refine AWP.seq ?_
  refine AWP.cond rfl (fun h4 => ?_) (fun h4 => ?_)
  · replace h4 := of_decide_eq_true h4
    rw [List.length_map] at h4
    have hlk : k < (idT u v w).length := by omega
    have hbk := hbI _ (List.getElem_mem hlk)
    have hq := dgTo_len (o := cT u) (p := cT v) (q := cT w) (ids := (idT u v w)) (n := k)
    refine AWP.skip ?_
    refine AWP.seq ?_
    refine AWP.block ?_
    refine AWP.seq (AWP.region ?_)
    refine AOps.sA (AOp.indexAddr rfl et_33 rfl rfl k rfl (at_lst hlk) rfl) ?_
    refine AOps.sA (AOp.load rfl sc_3 rfl) ?_
    refine AOps.aA (.nil ?_)
    refine AWP.seq ?_
    refine AWP.draw (by kernel_rfl) (by kernel_rfl) ?_
    refine DRun.sA (AOp.fieldAddr rfl fo_64_0 rfl) ?_
    refine DRun.sA (AOp.load rfl sc_61 rfl) ?_
    refine DRun.sA (AOp.moveD rfl rfl) ?_
    refine DRun.sA (AOp.lookupF (key := kI (idT u v w)[k]) rfl mt_T kd_int zt_pT zd_p rfl rfl (DExact.v _) (kI_ok hbk) (enc_keys (cIn hv kv).vT.keys) (mget_T (cT_nk v) _)) ?_
    refine DRun.sA (AOp.fieldAddr rfl fo_64_0 rfl) ?_
    refine DRun.sA (AOp.load rfl sc_61 rfl) ?_
    refine DRun.sA (AOp.moveD rfl rfl) ?_
    refine DRun.sA (AOp.lookupF (key := kI (idT u v w)[k]) rfl mt_T kd_int zt_pT zd_p rfl rfl (DExact.v _) (kI_ok hbk) (enc_keys (cIn hw kw).vT.keys) (mget_T (cT_nk w) _)) ?_
    refine DRun.sA (AOp.assignD rfl rfl) ?_
    refine DRun.sA (AOp.assignD rfl rfl) ?_
    refine DRun.nil ?_
    refine AWP.seq (AWP.region ?_)
    refine AOps.sA (AOp.fieldAddrP rfl fo_64_0 rfl) ?_
    refine AOps.sA (AOp.loadP rfl sc_61 rfl (.tail _ (.tail _ (.tail _ (.tail _ (.tail _ (.tail _ (.head _))))))) rfl) ?_
    refine AOps.mA ?_
    refine AOps.mA ?_
    refine AOps.eff rfl rfl (EOp.mapUpdateX (key := kI (idT u v w)[k]) (d := ptD (lkG (cT v) (idT u v w)[k])) rfl rfl mt_T kd_int rfl (.tail _ (.tail _ (.tail _ (.tail _ (.head _))))) rfl (DExact.v _) rfl (kI_ok hbk) (enc_keys ((VOk.tg (o := cT u) hv1 hw1 (fun n hn => hbI n (List.mem_of_mem_take hn)))).keys) (mput_T tgTo_nk _ _)) (.nil ?_)
    refine AWP.seq (AWP.region ?_)
    refine AOps.mA ?_
    refine AOps.sA (AOp.fieldAddr rfl fo_64_0 rfl) ?_
    refine AOps.sA (AOp.load rfl sc_61 rfl) ?_
    refine AOps.mA ?_
    refine AOps.sA (AOp.lookupF (key := kI (idT u v w)[k]) rfl mt_T kd_int zt_pT zd_p rfl rfl (DExact.v _) (kI_ok hbk) (enc_keys (cIn hu ku).vT.keys) (mget_T (cT_nk u) _)) ?_
    refine AOps.sA (AOp.call rfl (.cons (ArgOk.rfl' rfl) (.cons (ArgOk.rfl' rfl) .nil)) (c_sameThing _ _)) (.nil ?_)
    refine AWP.cond rfl (fun h5 => ?_) (fun h5 => ?_)
    · replace h5 := of_decide_eq_true h5
      have HN : (tgTo (cT u) (cT v) (cT w) (idT u v w) (k + 1)) = putG (putG (tgTo (cT u) (cT v) (cT w) (idT u v w) (k)) (idT u v w)[k] (lkG (cT v) (idT u v w)[k])) (idT u v w)[k] (lkG (cT w) (idT u v w)[k]) := by rw [tgTo_next hlk, pk_y h5, putG_two]
      have HD := dgTo_no (o := cT u) (p := cT v) (q := cT w) hlk (dis_1 h5)
      refine AWP.region ?_
      refine AOps.sA (AOp.fieldAddrP rfl fo_64_0 rfl) ?_
      refine AOps.sA (AOp.loadP rfl sc_61 rfl (.tail _ (.tail _ (.tail _ (.tail _ (.tail _ (.tail _ (.head _))))))) rfl) ?_
      refine AOps.mA ?_
      refine AOps.mA ?_
      refine AOps.eff rfl rfl (EOp.mapUpdateX (key := kI (idT u v w)[k]) (d := ptD (lkG (cT w) (idT u v w)[k])) rfl rfl mt_T kd_int rfl (.tail _ (.tail _ (.tail _ (.tail _ (.head _))))) rfl (DExact.v _) rfl (kI_ok hbk) (enc_keys (putG_keys ((VOk.tg (o := cT u) hv1 hw1 (fun n hn => hbI n (List.mem_of_mem_take hn)))).keys hbk _)) (mput_T (putG_nk tgTo_nk _ _) _ _)) (.nil ?_)
      refine AWP.region ?_
      refine AOps.sA (AOp.add64 rfl rfl rfl (by omega) (by omega)) ?_
      refine AOps.mA (.nil ?_)
      refine ⟨k + 1, (by dsimp only; omega), (by dsimp only; omega), Sub.less ⟨(SLe.of_eq rfl), SLe.refl _, SLe.refl _, SLe.refl _, SLe.refl _, SLe.refl _, SLe.refl _, SLe.refl _, SLe.refl _, SLe.refl _, trivial⟩ (obs_e (by dsimp only; rw [HN, HD]; first | done | (rw [List.map_append, List.map_append]; rfl) | (simp only [List.map_append]; rfl) | rfl))⟩
    replace h5 := of_decide_eq_false h5
    have wn := h5
    have HN : (tgTo (cT u) (cT v) (cT w) (idT u v w) (k + 1)) = putG (tgTo (cT u) (cT v) (cT w) (idT u v w) (k)) (idT u v w)[k] (lkG (cT v) (idT u v w)[k]) := by rw [tgTo_next hlk, pk_n h5]
    refine AWP.seq (AWP.region ?_)
    refine AOps.mA ?_
    refine AOps.sA (AOp.fieldAddr rfl fo_64_0 rfl) ?_
    refine AOps.sA (AOp.load rfl sc_61 rfl) ?_
    refine AOps.mA ?_
    refine AOps.sA (AOp.lookupF (key := kI (idT u v w)[k]) rfl mt_T kd_int zt_pT zd_p rfl rfl (DExact.v _) (kI_ok hbk) (enc_keys (cIn hu ku).vT.keys) (mget_T (cT_nk u) _)) ?_
    refine AOps.sA (AOp.call rfl (.cons (ArgOk.rfl' rfl) (.cons (ArgOk.rfl' rfl) .nil)) (c_sameThing _ _)) ?_
    refine AOps.sA (AOp.not rfl rfl) ?_
    refine AOps.mA ?_
    refine AOps.split 109 rfl (fun g6 => ?_) (fun g6 => ?_)
    · replace g6 := bnot_t g6; replace g6 := of_decide_eq_false g6
      have wq := g6
      refine AOps.sG (AOp.moveD rfl rfl) ?_
      refine AOps.sG (AOp.moveD rfl rfl) ?_
      refine AOps.sG (AOp.call rfl (.cons (ArgOk.rfl' rfl) (.cons (ArgOk.rfl' rfl) .nil)) (c_sameThing _ _)) ?_
      refine AOps.sG (AOp.not rfl rfl) ?_
      refine AOps.sA (AOp.pickT rfl rfl rfl) (.nil ?_)
      refine AWP.cond rfl (fun h7 => ?_) (fun h7 => ?_)
      · replace h7 := bnot_t h7; replace h7 := of_decide_eq_false h7
        have HD := dgTo_yes (o := cT u) (p := cT v) (q := cT w) hlk (dis_y wn wq h7)
        refine AWP.region ?_
        refine AOps.sA (AOp.moveO rfl rfl) ?_
        refine AOps.mA ?_
        refine AOps.sA (AOp.build rfl bu_73 (.cons rfl rfl .nil) rfl) ?_
        refine AOps.sA (AOp.buildSlice rfl et_26 (.cons rfl rfl rfl .nil) rfl (by decide)) ?_
        -- append 119
        refine AOps.append rfl rfl rfl rfl et_26 rfl (.head _) rfl (fun y hy => by obtain rfl := List.mem_singleton.1 hy; rfl) (by simp; omega) (by simp; omega) ?_
        refine AOps.sA (AOp.assignO rfl rfl) (.nil ?_)
        refine AWP.region ?_
        refine AOps.sA (AOp.add64 rfl rfl rfl (by omega) (by omega)) ?_
        refine AOps.mA (.nil ?_)
        refine ⟨k + 1, (by dsimp only; omega), (by dsimp only; omega), Sub.less ⟨(SLe.of_eq rfl), SLe.refl _, SLe.refl _, SLe.refl _, SLe.refl _, SLe.refl _, SLe.refl _, SLe.refl _, SLe.refl _, SLe.refl _, trivial⟩ (obs_e (by dsimp only; rw [HN, HD]; first | done | (rw [List.map_append, List.map_append]; rfl) | (simp only [List.map_append]; rfl) | rfl))⟩
      replace h7 := bnot_f h7; replace h7 := of_decide_eq_true h7
      have HD := dgTo_no (o := cT u) (p := cT v) (q := cT w) hlk (dis_3 (by first | exact h7 | exact Decidable.not_not.1 h7))
      refine AWP.skip ?_
      refine AWP.region ?_
      refine AOps.sA (AOp.add64 rfl rfl rfl (by omega) (by omega)) ?_
      refine AOps.mA (.nil ?_)
      refine ⟨k + 1, (by dsimp only; omega), (by dsimp only; omega), Sub.less ⟨(SLe.of_eq rfl), SLe.refl _, SLe.refl _, SLe.refl _, SLe.refl _, SLe.refl _, SLe.refl _, SLe.refl _, SLe.refl _, SLe.refl _, trivial⟩ (obs_e (by dsimp only; rw [HN, HD]; first | done | (rw [List.map_append, List.map_append]; rfl) | (simp only [List.map_append]; rfl) | rfl))⟩
    replace g6 := bnot_f g6; replace g6 := of_decide_eq_true g6
    have HD := dgTo_no (o := cT u) (p := cT v) (q := cT w) hlk (dis_2 (by first | exact g6 | exact Decidable.not_not.1 g6))
    refine AOps.pA ?_
    refine AOps.pA ?_
    refine AOps.pA ?_
    refine AOps.pA ?_
    refine AOps.sA (AOp.pickF rfl rfl rfl) (.nil ?_)
    refine AWP.cond rfl (fun h => nomatch h) (fun _ => ?_)
    refine AWP.skip ?_
    refine AWP.region ?_
    refine AOps.sA (AOp.add64 rfl rfl rfl (by omega) (by omega)) ?_
    refine AOps.mA (.nil ?_)
    refine ⟨k + 1, (by dsimp only; omega), (by dsimp only; omega), Sub.less ⟨(SLe.of_eq rfl), SLe.refl _, SLe.refl _, SLe.refl _, SLe.refl _, SLe.refl _, SLe.refl _, SLe.refl _, SLe.refl _, SLe.refl _, trivial⟩ (obs_e (by dsimp only; rw [HN, HD]; first | done | (rw [List.map_append, List.map_append]; rfl) | (simp only [List.map_append]; rfl) | rfl))⟩
  replace h4 := of_decide_eq_false h4
  rw [List.length_map] at h4
  obtain rfl : k = (idT u v w).length := by omega
  rw [tgTo_all]
  have hq := dgTo_len (o := cT u) (p := cT v) (q := cT w) (ids := (idT u v w)) (n := (idT u v w).length)
  refine AWP.exit ?_
  refine AWP.seq ?_
  refine AWP.seq (AWP.region ?_)
  refine AOps.sA (AOp.fieldAddrP rfl fo_64_1 rfl) ?_
  refine AOps.sA (AOp.loadP rfl sc_62 rfl (.tail _ (.tail _ (.head _))) rfl) ?_
  refine AOps.sA (AOp.call rfl (.cons (ArgOk.rfl' rfl) .nil) (c_keysM (ov3 (cM u) (cM v) (cM w)) ov3_nk o4.kok (by omega)).toA) ?_
  rw [show keysG (ov3 (cM u) (cM v) (cM w)) = (idM u v w) from rfl]
  refine AOps.sA (AOp.lenSl rfl et_33.ht rfl) ?_
  refine AOps.mA (.nil ?_)
  refine AWP.block ?_
  refine AWP.loop (G := Nat) (fun j => Env.of [(125, .d (.v (.int .i64 (j : Int)))), (123, .d (.sl ((idM u v w).map intD))), (124, .d (.v (.int .i64 (((idM u v w).map intD).length : Int)))), (6, .ptr 101 0), (12, .d (.fp [.fm (encT (cT u)), .fm (encM (cM u))])), (13, .d (.fp [.fm (encT (cT v)), .fm (encM (cM v))])), (14, .d (.fp [.fm (encT (cT w)), .fm (encM (cM w))])), (15, .ptr 106 0), (16, .own 201)]) (fun j => [(201, .row 73 2 ((((dgTo (cT u) (cT v) (cT w) (idT u v w) (idT u v w).length).map fun n => Dsp.mk n false) ++ ((dgTo (cM u) (cM v) (cM w) (idM u v w) j).map fun n => Dsp.mk n true)).map Dsp.ds)), (107, .cells [.d (.fm (encT (ov3 (cT u) (cT v) (cT w)))), .own 92]), (108, .cells [.own 191, .d (.fm (encM (ov3 (cM u) (cM v) (cM w))))]), (99, .val [.own 81, .own 82]), (81, .map (encT (tgT u v w))), (82, .map (encM (tgTo (cM u) (cM v) (cM w) (idM u v w) j))), (106, .cells [.own 81, .own 82]), (101, .cells [.d (.v (.slice none 0 0)), .d (.v (.slice none 0 0))])]) (fun j => j ≤ (idM u v w).length) (fun j => (idM u v w).length - j) 0 (Nat.zero_le _) (Sub.less ⟨(SLe.of_eq rfl), SLe.refl _, SLe.refl _, SLe.refl _, SLe.refl _, SLe.refl _, SLe.refl _, SLe.refl _, SLe.refl _, trivial⟩ (obs_e (by simp only [dgTo, List.take_zero, List.filter_nil, List.map_nil, List.append_nil]; rfl))) ?_
  intro j hj
  refine AWP.seq (AWP.region ?_)
  refine AOps.sA (AOp.lss rfl rfl rfl) (.nil ?_)
  refine AWP.seq ?_
  refine AWP.cond rfl (fun h8 => ?_) (fun h8 => ?_)
  · replace h8 := of_decide_eq_true h8
    rw [List.length_map] at h8
    have hlj : j < (idM u v w).length := by omega
    have hbj := hbJ _ (List.getElem_mem hlj)
    have hq2 := dgTo_len (o := cM u) (p := cM v) (q := cM w) (ids := (idM u v w)) (n := j)
    refine AWP.skip ?_
    refine AWP.seq ?_
    refine AWP.block ?_
    refine AWP.seq (AWP.region ?_)
    refine AOps.sA (AOp.indexAddr rfl et_33 rfl rfl j rfl (at_lst hlj) rfl) ?_
    refine AOps.sA (AOp.load rfl sc_3 rfl) ?_
    refine AOps.aA (.nil ?_)
    refine AWP.seq ?_
    refine AWP.draw (by kernel_rfl) (by kernel_rfl) ?_
    refine DRun.sA (AOp.fieldAddr rfl fo_64_1 rfl) ?_
    refine DRun.sA (AOp.load rfl sc_62 rfl) ?_
    refine DRun.sA (AOp.moveD rfl rfl) ?_
    refine DRun.sA (AOp.lookupF (key := kI (idM u v w)[j]) rfl mt_M kd_int zt_pM zd_p rfl rfl (DExact.v _) (kI_ok hbj) (enc_keys (cIn hv kv).vM.keys) (mget_M (cM_nk v) _)) ?_
    refine DRun.sA (AOp.fieldAddr rfl fo_64_1 rfl) ?_
    refine DRun.sA (AOp.load rfl sc_62 rfl) ?_
    refine DRun.sA (AOp.moveD rfl rfl) ?_
    refine DRun.sA (AOp.lookupF (key := kI (idM u v w)[j]) rfl mt_M kd_int zt_pM zd_p rfl rfl (DExact.v _) (kI_ok hbj) (enc_keys (cIn hw kw).vM.keys) (mget_M (cM_nk w) _)) ?_
    refine DRun.sA (AOp.assignD rfl rfl) ?_
    refine DRun.sA (AOp.assignD rfl rfl) ?_
    refine DRun.nil ?_
    refine AWP.seq (AWP.region ?_)
    refine AOps.sA (AOp.fieldAddrP rfl fo_64_1 rfl) ?_
    refine AOps.sA (AOp.loadP rfl sc_62 rfl (.tail _ (.tail _ (.tail _ (.tail _ (.tail _ (.tail _ (.head _))))))) rfl) ?_
    refine AOps.mA ?_
    refine AOps.mA ?_
    refine AOps.eff rfl rfl (EOp.mapUpdateX (key := kI (idM u v w)[j]) (d := pmD (lkG (cM v) (idM u v w)[j])) rfl rfl mt_M kd_int rfl (.tail _ (.tail _ (.tail _ (.tail _ (.tail _ (.head _)))))) rfl (DExact.v _) rfl (kI_ok hbj) (enc_keys ((VOk.tg (o := cM u) hv2 hw2 (fun n hn => hbJ n (List.mem_of_mem_take hn)))).keys) (mput_M tgTo_nk _ _)) (.nil ?_)
    refine AWP.seq (AWP.region ?_)
    refine AOps.mA ?_
    refine AOps.sA (AOp.fieldAddr rfl fo_64_1 rfl) ?_
    refine AOps.sA (AOp.load rfl sc_62 rfl) ?_
    refine AOps.mA ?_
    refine AOps.sA (AOp.lookupF (key := kI (idM u v w)[j]) rfl mt_M kd_int zt_pM zd_p rfl rfl (DExact.v _) (kI_ok hbj) (enc_keys (cIn hu ku).vM.keys) (mget_M (cM_nk u) _)) ?_
    refine AOps.sA (AOp.call rfl (.cons (ArgOk.rfl' rfl) (.cons (ArgOk.rfl' rfl) .nil)) (c_sameTo _ _)) (.nil ?_)
    refine AWP.cond rfl (fun h9 => ?_) (fun h9 => ?_)
    · replace h9 := of_decide_eq_true h9
      have HN : (tgTo (cM u) (cM v) (cM w) (idM u v w) (j + 1)) = putG (putG (tgTo (cM u) (cM v) (cM w) (idM u v w) (j)) (idM u v w)[j] (lkG (cM v) (idM u v w)[j])) (idM u v w)[j] (lkG (cM w) (idM u v w)[j]) := by rw [tgTo_next hlj, pk_y h9, putG_two]
      have HD := dgTo_no (o := cM u) (p := cM v) (q := cM w) hlj (dis_1 h9)
      refine AWP.region ?_
      refine AOps.sA (AOp.fieldAddrP rfl fo_64_1 rfl) ?_
      refine AOps.sA (AOp.loadP rfl sc_62 rfl (.tail _ (.tail _ (.tail _ (.tail _ (.tail _ (.tail _ (.head _))))))) rfl) ?_
      refine AOps.mA ?_
      refine AOps.mA ?_
      refine AOps.eff rfl rfl (EOp.mapUpdateX (key := kI (idM u v w)[j]) (d := pmD (lkG (cM w) (idM u v w)[j])) rfl rfl mt_M kd_int rfl (.tail _ (.tail _ (.tail _ (.tail _ (.tail _ (.head _)))))) rfl (DExact.v _) rfl (kI_ok hbj) (enc_keys (putG_keys ((VOk.tg (o := cM u) hv2 hw2 (fun n hn => hbJ n (List.mem_of_mem_take hn)))).keys hbj _)) (mput_M (putG_nk tgTo_nk _ _) _ _)) (.nil ?_)
      refine AWP.region ?_
      refine AOps.sA (AOp.add64 rfl rfl rfl (by omega) (by omega)) ?_
      refine AOps.mA (.nil ?_)
      refine ⟨j + 1, (by dsimp only; omega), (by dsimp only; omega), Sub.less ⟨(SLe.of_eq rfl), SLe.refl _, SLe.refl _, SLe.refl _, SLe.refl _, SLe.refl _, SLe.refl _, SLe.refl _, SLe.refl _, trivial⟩ (obs_e (by dsimp only; rw [HN, HD]; first | done | (rw [List.map_append, List.map_append]; rfl) | (simp only [List.map_append, List.append_assoc]; rfl) | rfl))⟩
    replace h9 := of_decide_eq_false h9
    have wn := h9
    have HN : (tgTo (cM u) (cM v) (cM w) (idM u v w) (j + 1)) = putG (tgTo (cM u) (cM v) (cM w) (idM u v w) (j)) (idM u v w)[j] (lkG (cM v) (idM u v w)[j]) := by rw [tgTo_next hlj, pk_n h9]
    refine AWP.seq (AWP.region ?_)
    refine AOps.mA ?_
    refine AOps.sA (AOp.fieldAddr rfl fo_64_1 rfl) ?_
    refine AOps.sA (AOp.load rfl sc_62 rfl) ?_
    refine AOps.mA ?_
    refine AOps.sA (AOp.lookupF (key := kI (idM u v w)[j]) rfl mt_M kd_int zt_pM zd_p rfl rfl (DExact.v _) (kI_ok hbj) (enc_keys (cIn hu ku).vM.keys) (mget_M (cM_nk u) _)) ?_
    refine AOps.sA (AOp.call rfl (.cons (ArgOk.rfl' rfl) (.cons (ArgOk.rfl' rfl) .nil)) (c_sameTo _ _)) ?_
    refine AOps.sA (AOp.not rfl rfl) ?_
    refine AOps.mA ?_
    refine AOps.split 158 rfl (fun g10 => ?_) (fun g10 => ?_)
    · replace g10 := bnot_t g10; replace g10 := of_decide_eq_false g10
      have wq := g10
      refine AOps.sG (AOp.moveD rfl rfl) ?_
      refine AOps.sG (AOp.moveD rfl rfl) ?_
      refine AOps.sG (AOp.call rfl (.cons (ArgOk.rfl' rfl) (.cons (ArgOk.rfl' rfl) .nil)) (c_sameTo _ _)) ?_
      refine AOps.sG (AOp.not rfl rfl) ?_
      refine AOps.sA (AOp.pickT rfl rfl rfl) (.nil ?_)
      refine AWP.cond rfl (fun h11 => ?_) (fun h11 => ?_)
      · replace h11 := bnot_t h11; replace h11 := of_decide_eq_false h11
        have HD := dgTo_yes (o := cM u) (p := cM v) (q := cM w) hlj (dis_y wn wq h11)
        refine AWP.region ?_
        refine AOps.sA (AOp.moveO rfl rfl) ?_
        refine AOps.mA ?_
        refine AOps.sA (AOp.build rfl bu_73 (.cons rfl rfl (.cons rfl rfl .nil)) rfl) ?_
        refine AOps.sA (AOp.buildSlice rfl et_26 (.cons rfl rfl rfl .nil) rfl (by decide)) ?_
        -- append 168
        refine AOps.append rfl rfl rfl rfl et_26 rfl (.head _) rfl (fun y hy => by obtain rfl := List.mem_singleton.1 hy; rfl) (by simp; omega) (by simp; omega) ?_
        refine AOps.sA (AOp.assignO rfl rfl) (.nil ?_)
        refine AWP.region ?_
        refine AOps.sA (AOp.add64 rfl rfl rfl (by omega) (by omega)) ?_
        refine AOps.mA (.nil ?_)
        refine ⟨j + 1, (by dsimp only; omega), (by dsimp only; omega), Sub.less ⟨(SLe.of_eq rfl), SLe.refl _, SLe.refl _, SLe.refl _, SLe.refl _, SLe.refl _, SLe.refl _, SLe.refl _, SLe.refl _, trivial⟩ (obs_e (by dsimp only; rw [HN, HD]; first | done | (rw [List.map_append, List.map_append]; rfl) | (simp only [List.map_append, List.append_assoc]; rfl) | rfl))⟩
      replace h11 := bnot_f h11; replace h11 := of_decide_eq_true h11
      have HD := dgTo_no (o := cM u) (p := cM v) (q := cM w) hlj (dis_3 (by first | exact h11 | exact Decidable.not_not.1 h11))
      refine AWP.skip ?_
      refine AWP.region ?_
      refine AOps.sA (AOp.add64 rfl rfl rfl (by omega) (by omega)) ?_
      refine AOps.mA (.nil ?_)
      refine ⟨j + 1, (by dsimp only; omega), (by dsimp only; omega), Sub.less ⟨(SLe.of_eq rfl), SLe.refl _, SLe.refl _, SLe.refl _, SLe.refl _, SLe.refl _, SLe.refl _, SLe.refl _, SLe.refl _, trivial⟩ (obs_e (by dsimp only; rw [HN, HD]; first | done | (rw [List.map_append, List.map_append]; rfl) | (simp only [List.map_append, List.append_assoc]; rfl) | rfl))⟩
    replace g10 := bnot_f g10; replace g10 := of_decide_eq_true g10
    have HD := dgTo_no (o := cM u) (p := cM v) (q := cM w) hlj (dis_2 (by first | exact g10 | exact Decidable.not_not.1 g10))
    refine AOps.pA ?_
    refine AOps.pA ?_
    refine AOps.pA ?_
    refine AOps.pA ?_
    refine AOps.sA (AOp.pickF rfl rfl rfl) (.nil ?_)
    refine AWP.cond rfl (fun h => nomatch h) (fun _ => ?_)
    refine AWP.skip ?_
    refine AWP.region ?_
    refine AOps.sA (AOp.add64 rfl rfl rfl (by omega) (by omega)) ?_
    refine AOps.mA (.nil ?_)
    refine ⟨j + 1, (by dsimp only; omega), (by dsimp only; omega), Sub.less ⟨(SLe.of_eq rfl), SLe.refl _, SLe.refl _, SLe.refl _, SLe.refl _, SLe.refl _, SLe.refl _, SLe.refl _, SLe.refl _, trivial⟩ (obs_e (by dsimp only; rw [HN, HD]; first | done | (rw [List.map_append, List.map_append]; rfl) | (simp only [List.map_append, List.append_assoc]; rfl) | rfl))⟩
  replace h8 := of_decide_eq_false h8
  rw [List.length_map] at h8
  obtain rfl : j = (idM u v w).length := by omega
  rw [tgTo_all]
  have hq2 := dgTo_len (o := cM u) (p := cM v) (q := cM w) (ids := (idM u v w)) (n := (idM u v w).length)
  refine AWP.exit ?_
  refine AWP.seq ?_
  refine AWP.freezeMapIn 106 0 (encT (tgT u v w)) rfl (.tail _ (.tail _ (.tail _ (.tail _ (.tail _ (.head _)))))) (.tail _ (.tail _ (.tail _ (.tail _ (.head _))))) (List.Perm.refl _) ?_
  refine AWP.freezeMapIn 106 1 (encM (tgM u v w)) rfl (.tail _ (.tail _ (.tail _ (.tail _ (.head _))))) (.tail _ (.tail _ (.tail _ (.tail _ (.head _))))) (List.Perm.refl _) ?_
  refine AWP.region ?_
  refine AOps.sA (AOp.moveO rfl rfl) ?_
  -- turns 201
  refine AOps.callX rfl rfl rfl (.cons (SLe.refl _) (.cons (SLe.fn _) .nil)) ((c_srtD (dsL u v w) (by unfold dsL; rw [List.length_append, List.length_map, List.length_map]; omega)) 201) ⟨(.head _), trivial⟩ rfl rfl (fun _ h => nomatch h) ?_
  refine AOps.nil ?_
  refine AWP.seq (AWP.region ?_)
  refine AOps.sA (AOp.loadPU rfl ag_64 rfl (.tail _ (.tail _ (.tail _ (.tail _ (.head _))))) rfl rfl) ?_
  refine AOps.sA (AOp.call rfl (.cons (ArgOk.rfl' rfl) .nil) (c_cat (tgT u v w) (tgM u v w) tgG_nk tgG_nk (VOk.tg (o := cT u) hv1 hw1 hbI).keys (VOk.tg (o := cM u) hv2 hw2 hbJ).keys (Nat.le_trans tgG_len (by omega)) (Nat.le_trans tgG_len (by omega)) (VOk.tg (o := cT u) hv1 hw1 hbI).prt)) ?_
  refine AOps.alloc 109 rfl rfl rfl rfl zt_25 rfl rfl rfl ?_
  refine AOps.store rfl rfl rfl sz_25 rfl (.head _) rfl rfl rfl (Nat.le_of_ble_eq_true rfl) ?_
  refine AOps.freezeCells 29 (ds := (togC u v w).ds) rfl (.head _) (.nil ?_)
  refine AWP.seq ?_
  refine AWP.seq (AWP.region ?_)
  refine AOps.sA (AOp.loadAgg rfl ag_25 rfl rfl) ?_
  -- wants the world
  refine AOps.callT rfl rfl rfl hT maxT_stays rfl (.cons (ArgOk.rfl' rfl) .nil) (c_pChk (togC u v w) (ctlO_ok tgG_nk tgG_nk (VOk.tg (o := cT u) hv1 hw1 hbI) (VOk.tg (o := cM u) hv2 hw2 hbJ))) ?_
  refine AOps.aA (.nil ?_)
  refine AWP.seq (AWP.region ?_)
  refine AOps.mA ?_
  refine AOps.sA (AOp.neq rfl rfl rfl) (.nil ?_)
  refine AWP.cond rfl (fun h12 => ?_) (fun h12 => ?_)
  · replace h12 := of_decide_eq_true h12
    rw [togV_f ku kv kw (by first | exact h12 | omega)]
    refine AWP.seq (AWP.region ?_)
    refine AOps.sA (AOp.build rfl bu_25 .nil rfl) ?_
    refine AOps.mA ?_
    refine AOps.store rfl rfl rfl sz_25 rfl (.tail _ (.tail _ (.tail _ (.tail _ (.tail _ (.head _)))))) rfl rfl rfl (Nat.le_of_ble_eq_true rfl) ?_
    refine AOps.aA ?_
    refine AOps.aA (.nil ?_)
    refine AWP.ret ?_
    refine ⟨RetR.agg rfl (.tail _ (.tail _ (.tail _ (.tail _ (.tail _ (.head _)))))) ag_25 rfl (.cons (by first | exact CellD.nil | exact CellD.d | exact CellD.eq (by simp) | (refine CellD.own (by first | exact .head _ | exact .tail _ (.head _)) ?_; rfl)) (.cons (by first | exact CellD.nil | exact CellD.d | exact CellD.eq (by simp) | (refine CellD.own (by first | exact .head _ | exact .tail _ (.head _)) ?_; rfl)) .nil)), RetD.nil rfl, RetD.eq rfl ?_, trivial⟩
    all_goals (rfl)
  replace h12 := of_decide_eq_false h12
  rw [togV_0 ku kv kw (by first | exact h12 | omega)]
  refine AWP.skip ?_
  refine AWP.seq (AWP.region ?_)
  refine AOps.sA (AOp.loadAgg rfl ag_25 rfl rfl) ?_
  refine AOps.sA (AOp.moveO rfl rfl) ?_
  refine AOps.store rfl rfl rfl sz_25 rfl (.tail _ (.tail _ (.tail _ (.tail _ (.tail _ (.head _)))))) rfl rfl rfl (Nat.le_of_ble_eq_true rfl) ?_
  refine AOps.sA (AOp.assignO rfl rfl) ?_
  refine AOps.aA (.nil ?_)
  refine AWP.ret ?_
  refine ⟨RetR.agg rfl (.tail _ (.tail _ (.tail _ (.tail _ (.tail _ (.head _)))))) ag_25 rfl (.cons (by first | exact CellD.nil | exact CellD.d | exact CellD.eq (by simp) | (refine CellD.own (by first | exact .head _ | exact .tail _ (.head _)) ?_; rfl)) (.cons (by first | exact CellD.nil | exact CellD.d | exact CellD.eq (by simp) | (refine CellD.own (by first | exact .head _ | exact .tail _ (.head _)) ?_; rfl)) .nil)), RetD.own rfl (.head _) ?_, RetD.eq rfl ?_, trivial⟩
  all_goals (rfl)

end Go.Proofs.YtgldfnkbpopanaaGreatDoor


namespace Go.Proofs.YtgldfnkbpopanaaGreatDoor
open Go.RowKit
set_option linter.unusedVariables false

/-! Types. -/
namespace TyNL
theorem ag_25 : AggT Tryz.prog 25 2 := .of (by kernel_rfl)
theorem et_26 : ElemTy Tryz.prog 26 73 2 16 (.agg #[(.int .i64 0), (.bool false)]) := ⟨by kernel_rfl, by kernel_rfl, by kernel_rfl, by decide⟩
theorem sz_25 : ∀ w, (sizeOf 25).run Tryz.prog w = .ok 2 w := SizeT.of (by kernel_rfl)
theorem zt_25 : (Tryz.prog.info? 25).bind (·.zero) = some (.agg #[(.slice none 0 0), (.slice none 0 0)]) := by kernel_rfl
end TyNL
open TyNL

set_option maxRecDepth 100000 in
set_option maxHeartbeats 1000000 in
theorem lawAgr (u v w : Ctl) (hu : CtlOk u) (hv : CtlOk v) (hw : CtlOk w) : ACallT Tryz.prog MaxT 3 [.agg u.ds, .agg v.ds, .agg w.ds] (.v (.bool true)) := by
  refine acall_ofT (n := 94) (ds' := [.v (.bool true)]) Tryz.func3 rfl (by kernel_rfl) rfl [6] rfl rfl ?_
  intro B w0 F0 hT
  obtain ⟨q1, q2⟩ := tog_same (S := srtD) (base := u) (a := v) srtD_len
  have q3 := tog_swap (S := srtD) (base := u) (a := v) (b := w) srtD_len
  refine AWP.seq (AWP.region ?_)
  refine AOps.sA (AOp.box rfl rfl rfl) ?_
  refine AOps.sA (AOp.box rfl rfl rfl) ?_
  refine AOps.sA (AOp.box rfl rfl rfl) ?_
  refine AOps.aA (.nil ?_)
  refine AWP.seq (AWP.region ?_)
  refine AOps.sA (AOp.loadAgg rfl ag_25 rfl rfl) ?_
  refine AOps.sA (AOp.loadAgg rfl ag_25 rfl rfl) ?_
  refine AOps.sA (AOp.loadAgg rfl ag_25 rfl rfl) ?_
  -- wants the world
  refine AOps.callT rfl rfl rfl hT maxT_stays rfl (.cons (ArgOk.rfl' rfl) (.cons (ArgOk.rfl' rfl) (.cons (ArgOk.rfl' rfl) .nil))) (c_tog u v u hu hv hu) ?_
  refine AOps.mA ?_
  refine AOps.sA (AOp.extract rfl rfl rfl) ?_
  refine AOps.sA (AOp.extract rfl rfl rfl) ?_
  refine AOps.sA (AOp.extract rfl rfl rfl) ?_
  refine AOps.alloc 101 rfl rfl rfl rfl zt_25 rfl rfl rfl ?_
  refine AOps.store rfl rfl rfl sz_25 rfl (.head _) rfl rfl rfl (Nat.le_of_ble_eq_true rfl) ?_
  refine AOps.aA ?_
  refine AOps.aA (.nil ?_)
  refine AWP.seq (AWP.region ?_)
  refine AOps.sA (AOp.loadAgg rfl ag_25 rfl rfl) ?_
  refine AOps.sA (AOp.loadAgg rfl ag_25 rfl rfl) ?_
  refine AOps.sA (AOp.loadAgg rfl ag_25 rfl rfl) ?_
  -- wants the world
  refine AOps.callT rfl rfl rfl hT maxT_stays rfl (.cons (ArgOk.rfl' rfl) (.cons (ArgOk.rfl' rfl) (.cons (ArgOk.rfl' rfl) .nil))) (c_tog u u v hu hu hv) ?_
  refine AOps.mA ?_
  refine AOps.sA (AOp.extract rfl rfl rfl) ?_
  refine AOps.sA (AOp.extract rfl rfl rfl) ?_
  refine AOps.sA (AOp.extract rfl rfl rfl) ?_
  refine AOps.alloc 102 rfl rfl rfl rfl zt_25 rfl rfl rfl ?_
  refine AOps.store rfl rfl rfl sz_25 rfl (.head _) rfl rfl rfl (Nat.le_of_ble_eq_true rfl) ?_
  refine AOps.aA ?_
  refine AOps.aA (.nil ?_)
  refine AWP.seq ?_
  refine AWP.seq (AWP.region ?_)
  refine AOps.mA ?_
  refine AOps.mA ?_
  refine AOps.sA (AOp.neq rfl rfl rfl) ?_
  refine AOps.mA ?_
  refine AOps.split 32 rfl (fun g1 => ?_) (fun g1 => ?_)
  · replace g1 := of_decide_eq_true g1
    exact absurd q1 g1
  replace g1 := of_decide_eq_false g1
  refine AOps.sG (AOp.call rfl .nil c_awake) ?_
  refine AOps.sG (AOp.not rfl rfl) ?_
  refine AOps.sA (AOp.pickF rfl rfl rfl) (.nil ?_)
  refine AWP.cond rfl (fun h => nomatch h) (fun _ => ?_)
  refine AWP.skip ?_
  refine AWP.seq ?_
  refine AWP.seq (AWP.region ?_)
  refine AOps.mA ?_
  refine AOps.sA (AOp.eql rfl rfl rfl) ?_
  refine AOps.mA ?_
  refine AOps.split 38 rfl (fun g2 => ?_) (fun g2 => ?_)
  · replace g2 := of_decide_eq_true g2
    obtain ⟨w1, w2, w3, w4⟩ := q2 g2
    refine AOps.sG (AOp.loadPU rfl ag_25 rfl (.tail _ (.head _)) rfl rfl) ?_
    refine AOps.sG (AOp.loadAgg rfl ag_25 rfl rfl) ?_
    refine AOps.sG (AOp.call rfl (.cons (ArgOk.rfl' rfl) (.cons (ArgOk.rfl' rfl) .nil)) (c_sameC (togV srtD u v u).1 v)) ?_
    refine AOps.sG (AOp.moveD rfl rfl) ?_
    refine AOps.split 42 rfl (fun g3 => ?_) (fun g3 => ?_)
    · replace g3 := of_decide_eq_true g3
      refine AOps.sG (AOp.loadPU rfl ag_25 rfl (.head _) rfl rfl) ?_
      refine AOps.sG (AOp.loadAgg rfl ag_25 rfl rfl) ?_
      refine AOps.sG (AOp.call rfl (.cons (ArgOk.rfl' rfl) (.cons (ArgOk.rfl' rfl) .nil)) (c_sameC (togV srtD u u v).1 v)) ?_
      refine AOps.sG (AOp.pickT rfl rfl rfl) ?_
      refine AOps.sG (AOp.moveD rfl rfl) ?_
      refine AOps.split 47 rfl (fun g4 => ?_) (fun g4 => ?_)
      · replace g4 := of_decide_eq_true g4
        refine AOps.sG (AOp.moveD rfl rfl) ?_
        refine AOps.sG (AOp.lenSl rfl et_26.ht rfl) ?_
        refine AOps.sG (AOp.eql rfl rfl rfl) ?_
        refine AOps.sG (AOp.pickT rfl rfl rfl) ?_
        refine AOps.sG (AOp.moveD rfl rfl) ?_
        refine AOps.split 52 rfl (fun g5 => ?_) (fun g5 => ?_)
        · replace g5 := of_decide_eq_true g5
          refine AOps.sG (AOp.moveD rfl rfl) ?_
          refine AOps.sG (AOp.lenSl rfl et_26.ht rfl) ?_
          refine AOps.sG (AOp.eql rfl rfl rfl) ?_
          refine AOps.sG (AOp.pickT rfl rfl rfl) ?_
          refine AOps.sG (AOp.not rfl rfl) ?_
          refine AOps.sA (AOp.pickT rfl rfl rfl) (.nil ?_)
          refine AWP.cond rfl (fun h6 => ?_) (fun h6 => ?_)
          · replace h6 := bnot_t h6; replace h6 := of_decide_eq_false h6
            rw [List.length_map] at h6; omega
          replace h6 := bnot_f h6; replace h6 := of_decide_eq_true h6
          refine AWP.skip ?_
          refine AWP.seq (AWP.region ?_)
          refine AOps.sA (AOp.loadAgg rfl ag_25 rfl rfl) ?_
          refine AOps.sA (AOp.loadAgg rfl ag_25 rfl rfl) ?_
          refine AOps.sA (AOp.loadAgg rfl ag_25 rfl rfl) ?_
          -- wants the world
          refine AOps.callT rfl rfl rfl hT maxT_stays rfl (.cons (ArgOk.rfl' rfl) (.cons (ArgOk.rfl' rfl) (.cons (ArgOk.rfl' rfl) .nil))) (c_tog u v w hu hv hw) ?_
          refine AOps.mA ?_
          refine AOps.sA (AOp.extract rfl rfl rfl) ?_
          refine AOps.sA (AOp.extract rfl rfl rfl) ?_
          refine AOps.sA (AOp.extract rfl rfl rfl) ?_
          refine AOps.store rfl rfl rfl sz_25 rfl (.tail _ (.head _)) rfl rfl rfl (Nat.le_of_ble_eq_true rfl) ?_
          refine AOps.aA ?_
          refine AOps.aA (.nil ?_)
          refine AWP.seq (AWP.region ?_)
          refine AOps.sA (AOp.loadAgg rfl ag_25 rfl rfl) ?_
          refine AOps.sA (AOp.loadAgg rfl ag_25 rfl rfl) ?_
          refine AOps.sA (AOp.loadAgg rfl ag_25 rfl rfl) ?_
          -- wants the world
          refine AOps.callT rfl rfl rfl hT maxT_stays rfl (.cons (ArgOk.rfl' rfl) (.cons (ArgOk.rfl' rfl) (.cons (ArgOk.rfl' rfl) .nil))) (c_tog u w v hu hw hv) ?_
          refine AOps.mA ?_
          refine AOps.sA (AOp.extract rfl rfl rfl) ?_
          refine AOps.sA (AOp.extract rfl rfl rfl) ?_
          refine AOps.sA (AOp.extract rfl rfl rfl) ?_
          refine AOps.store rfl rfl rfl sz_25 rfl (.head _) rfl rfl rfl (Nat.le_of_ble_eq_true rfl) ?_
          refine AOps.aA ?_
          refine AOps.aA (.nil ?_)
          refine AWP.seq ?_
          refine AWP.seq (AWP.region ?_)
          refine AOps.mA ?_
          refine AOps.sA (AOp.neq rfl rfl rfl) ?_
          refine AOps.mA ?_
          refine AOps.split 77 rfl (fun g7 => ?_) (fun g7 => ?_)
          · replace g7 := of_decide_eq_true g7
            refine AOps.pA ?_
            refine AOps.pA ?_
            refine AOps.pA ?_
            refine AOps.sA (AOp.pickT rfl rfl rfl) (.nil ?_)
            refine AWP.cond rfl (fun _ => ?_) (fun h => nomatch h)
            refine AWP.seq (AWP.region ?_)
            refine AOps.aA (.nil ?_)
            refine AWP.ret ?_
            refine ⟨RetD.eq rfl ?_, trivial⟩
            all_goals (first | rfl | (simp; exact List.eq_nil_of_length_eq_zero r3) | (simp; omega) | simp)
          replace g7 := of_decide_eq_false g7
          have z1 : (togV srtD u v w).2.2 = 0 := (by first | exact g7 | exact Decidable.not_not.1 g7)
          refine AOps.sG (AOp.moveD rfl rfl) ?_
          refine AOps.sG (AOp.lenSl rfl et_26.ht rfl) ?_
          refine AOps.sG (AOp.gtr rfl rfl rfl) ?_
          refine AOps.sA (AOp.pickF rfl rfl rfl) (.nil ?_)
          refine AWP.cond rfl (fun h8 => ?_) (fun h8 => ?_)
          · replace h8 := of_decide_eq_true h8
            refine AWP.seq (AWP.region ?_)
            refine AOps.aA (.nil ?_)
            refine AWP.ret ?_
            refine ⟨RetD.eq rfl ?_, trivial⟩
            all_goals (first | rfl | (simp; exact List.eq_nil_of_length_eq_zero r3) | (simp; omega) | simp)
          replace h8 := of_decide_eq_false h8
          rw [List.length_map] at h8
          obtain ⟨r1, r2, r3⟩ := q3 z1 (by omega)
          refine AWP.skip ?_
          refine AWP.seq (AWP.region ?_)
          refine AOps.mA ?_
          refine AOps.sA (AOp.eql rfl rfl rfl) ?_
          refine AOps.mA ?_
          refine AOps.split 84 rfl (fun g9 => ?_) (fun g9 => ?_)
          · replace g9 := of_decide_eq_true g9
            refine AOps.sG (AOp.loadPU rfl ag_25 rfl (.tail _ (.head _)) rfl rfl) ?_
            refine AOps.sG (AOp.loadPU rfl ag_25 rfl (.head _) rfl rfl) ?_
            refine AOps.sG (AOp.call rfl (.cons (ArgOk.rfl' rfl) (.cons (ArgOk.rfl' rfl) .nil)) (c_sameC (togV srtD u v w).1 (togV srtD u w v).1)) ?_
            refine AOps.sA (AOp.pickT rfl rfl rfl) ?_
            refine AOps.mA ?_
            refine AOps.split 89 rfl (fun g10 => ?_) (fun g10 => ?_)
            · replace g10 := of_decide_eq_true g10
              refine AOps.sG (AOp.moveD rfl rfl) ?_
              refine AOps.sG (AOp.lenSl rfl et_26.ht rfl) ?_
              refine AOps.sG (AOp.eql rfl rfl rfl) ?_
              refine AOps.sA (AOp.pickT rfl rfl rfl) ?_
              refine AOps.aA (.nil ?_)
              refine AWP.ret ?_
              refine ⟨RetD.eq rfl ?_, trivial⟩
              all_goals (first | rfl | (simp; exact List.eq_nil_of_length_eq_zero r3) | (simp; omega) | simp)
            replace g10 := of_decide_eq_false g10
            exact absurd r2 g10
          replace g9 := of_decide_eq_false g9
          exact absurd r1 g9
        replace g5 := of_decide_eq_false g5
        rw [List.length_map] at g5; omega
      replace g4 := of_decide_eq_false g4
      exact absurd w2 g4
    replace g3 := of_decide_eq_false g3
    exact absurd w1 g3
  replace g2 := of_decide_eq_false g2
  refine AOps.pA ?_
  refine AOps.pA ?_
  refine AOps.pA ?_
  refine AOps.pA ?_
  refine AOps.pass ⟨42, rfl, .inr ⟨rfl, rfl⟩⟩ rfl rfl ?_
  refine AOps.pass ⟨42, rfl, .inr ⟨rfl, rfl⟩⟩ rfl rfl ?_
  refine AOps.pass ⟨42, rfl, .inr ⟨rfl, rfl⟩⟩ rfl rfl ?_
  refine AOps.pA ?_
  refine AOps.pA ?_
  refine AOps.pass ⟨47, rfl, .inr ⟨rfl, rfl⟩⟩ rfl rfl ?_
  refine AOps.pass ⟨47, rfl, .inr ⟨rfl, rfl⟩⟩ rfl rfl ?_
  refine AOps.pass ⟨47, rfl, .inr ⟨rfl, rfl⟩⟩ rfl rfl ?_
  refine AOps.pA ?_
  refine AOps.pA ?_
  refine AOps.pass ⟨52, rfl, .inr ⟨rfl, rfl⟩⟩ rfl rfl ?_
  refine AOps.pass ⟨52, rfl, .inr ⟨rfl, rfl⟩⟩ rfl rfl ?_
  refine AOps.pass ⟨52, rfl, .inr ⟨rfl, rfl⟩⟩ rfl rfl ?_
  refine AOps.pA ?_
  refine AOps.pA ?_
  refine AOps.sA (AOp.pickF rfl rfl rfl) (.nil ?_)
  refine AWP.cond rfl (fun h => nomatch h) (fun _ => ?_)
  refine AWP.skip ?_
  refine AWP.seq (AWP.region ?_)
  refine AOps.sA (AOp.loadAgg rfl ag_25 rfl rfl) ?_
  refine AOps.sA (AOp.loadAgg rfl ag_25 rfl rfl) ?_
  refine AOps.sA (AOp.loadAgg rfl ag_25 rfl rfl) ?_
  -- wants the world
  refine AOps.callT rfl rfl rfl hT maxT_stays rfl (.cons (ArgOk.rfl' rfl) (.cons (ArgOk.rfl' rfl) (.cons (ArgOk.rfl' rfl) .nil))) (c_tog u v w hu hv hw) ?_
  refine AOps.mA ?_
  refine AOps.sA (AOp.extract rfl rfl rfl) ?_
  refine AOps.sA (AOp.extract rfl rfl rfl) ?_
  refine AOps.sA (AOp.extract rfl rfl rfl) ?_
  refine AOps.store rfl rfl rfl sz_25 rfl (.tail _ (.head _)) rfl rfl rfl (Nat.le_of_ble_eq_true rfl) ?_
  refine AOps.aA ?_
  refine AOps.aA (.nil ?_)
  refine AWP.seq (AWP.region ?_)
  refine AOps.sA (AOp.loadAgg rfl ag_25 rfl rfl) ?_
  refine AOps.sA (AOp.loadAgg rfl ag_25 rfl rfl) ?_
  refine AOps.sA (AOp.loadAgg rfl ag_25 rfl rfl) ?_
  -- wants the world
  refine AOps.callT rfl rfl rfl hT maxT_stays rfl (.cons (ArgOk.rfl' rfl) (.cons (ArgOk.rfl' rfl) (.cons (ArgOk.rfl' rfl) .nil))) (c_tog u w v hu hw hv) ?_
  refine AOps.mA ?_
  refine AOps.sA (AOp.extract rfl rfl rfl) ?_
  refine AOps.sA (AOp.extract rfl rfl rfl) ?_
  refine AOps.sA (AOp.extract rfl rfl rfl) ?_
  refine AOps.store rfl rfl rfl sz_25 rfl (.head _) rfl rfl rfl (Nat.le_of_ble_eq_true rfl) ?_
  refine AOps.aA ?_
  refine AOps.aA (.nil ?_)
  refine AWP.seq ?_
  refine AWP.seq (AWP.region ?_)
  refine AOps.mA ?_
  refine AOps.sA (AOp.neq rfl rfl rfl) ?_
  refine AOps.mA ?_
  refine AOps.split 77 rfl (fun g11 => ?_) (fun g11 => ?_)
  · replace g11 := of_decide_eq_true g11
    refine AOps.pA ?_
    refine AOps.pA ?_
    refine AOps.pA ?_
    refine AOps.sA (AOp.pickT rfl rfl rfl) (.nil ?_)
    refine AWP.cond rfl (fun _ => ?_) (fun h => nomatch h)
    refine AWP.seq (AWP.region ?_)
    refine AOps.aA (.nil ?_)
    refine AWP.ret ?_
    refine ⟨RetD.eq rfl ?_, trivial⟩
    all_goals (first | rfl | (simp; exact List.eq_nil_of_length_eq_zero r3) | (simp; omega) | simp)
  replace g11 := of_decide_eq_false g11
  have z1 : (togV srtD u v w).2.2 = 0 := (by first | exact g11 | exact Decidable.not_not.1 g11)
  refine AOps.sG (AOp.moveD rfl rfl) ?_
  refine AOps.sG (AOp.lenSl rfl et_26.ht rfl) ?_
  refine AOps.sG (AOp.gtr rfl rfl rfl) ?_
  refine AOps.sA (AOp.pickF rfl rfl rfl) (.nil ?_)
  refine AWP.cond rfl (fun h12 => ?_) (fun h12 => ?_)
  · replace h12 := of_decide_eq_true h12
    refine AWP.seq (AWP.region ?_)
    refine AOps.aA (.nil ?_)
    refine AWP.ret ?_
    refine ⟨RetD.eq rfl ?_, trivial⟩
    all_goals (first | rfl | (simp; exact List.eq_nil_of_length_eq_zero r3) | (simp; omega) | simp)
  replace h12 := of_decide_eq_false h12
  rw [List.length_map] at h12
  obtain ⟨r1, r2, r3⟩ := q3 z1 (by omega)
  refine AWP.skip ?_
  refine AWP.seq (AWP.region ?_)
  refine AOps.mA ?_
  refine AOps.sA (AOp.eql rfl rfl rfl) ?_
  refine AOps.mA ?_
  refine AOps.split 84 rfl (fun g13 => ?_) (fun g13 => ?_)
  · replace g13 := of_decide_eq_true g13
    refine AOps.sG (AOp.loadPU rfl ag_25 rfl (.tail _ (.head _)) rfl rfl) ?_
    refine AOps.sG (AOp.loadPU rfl ag_25 rfl (.head _) rfl rfl) ?_
    refine AOps.sG (AOp.call rfl (.cons (ArgOk.rfl' rfl) (.cons (ArgOk.rfl' rfl) .nil)) (c_sameC (togV srtD u v w).1 (togV srtD u w v).1)) ?_
    refine AOps.sA (AOp.pickT rfl rfl rfl) ?_
    refine AOps.mA ?_
    refine AOps.split 89 rfl (fun g14 => ?_) (fun g14 => ?_)
    · replace g14 := of_decide_eq_true g14
      refine AOps.sG (AOp.moveD rfl rfl) ?_
      refine AOps.sG (AOp.lenSl rfl et_26.ht rfl) ?_
      refine AOps.sG (AOp.eql rfl rfl rfl) ?_
      refine AOps.sA (AOp.pickT rfl rfl rfl) ?_
      refine AOps.aA (.nil ?_)
      refine AWP.ret ?_
      refine ⟨RetD.eq rfl ?_, trivial⟩
      all_goals (first | rfl | (simp; exact List.eq_nil_of_length_eq_zero r3) | (simp; omega) | simp)
    replace g14 := of_decide_eq_false g14
    exact absurd r2 g14
  replace g13 := of_decide_eq_false g13
  exact absurd r1 g13

end Go.Proofs.YtgldfnkbpopanaaGreatDoor
