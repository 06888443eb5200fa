/- Walks and laws over abstract values, merged by tools/merge.py. No statement of the seat. -/
import Derived.Test.YtgldfnkbpopanaaGreatDoorXU9

namespace Go.Proofs.YtgldfnkbpopanaaGreatDoor
open Go.RowKit
set_option linter.unusedVariables false

/-! Types. -/
namespace TyUG
theorem ag_25 : AggT Tryz.prog 25 2 := .of (by kernel_rfl)
theorem ag_35 : AggT Tryz.prog 35 4 := .of (by kernel_rfl)
theorem ag_41 : AggT Tryz.prog 41 7 := .of (by kernel_rfl)
theorem et_22 : ElemTy Tryz.prog 22 41 7 88 (.agg #[(.int .i64 0), (.int .i64 0), (.string ⟨#[]⟩), (.string ⟨#[]⟩), (.int .i64 0), (.int .i64 0), (.slice none 0 0)]) := ⟨by kernel_rfl, by kernel_rfl, by kernel_rfl, by decide⟩
theorem et_33 : ElemTy Tryz.prog 33 3 1 8 (.int .i64 0) := ⟨by kernel_rfl, by kernel_rfl, by kernel_rfl, by decide⟩
theorem fo_25_0 : fieldOff Tryz.prog 25 0 = some 0 := by kernel_rfl
theorem fo_35_0 : fieldOff Tryz.prog 35 0 = some 0 := by kernel_rfl
theorem fo_41_0 : fieldOff Tryz.prog 41 0 = some 0 := by kernel_rfl
theorem fo_41_1 : fieldOff Tryz.prog 41 1 = some 1 := by kernel_rfl
theorem sc_22 : Scal Tryz.prog 22 := .of (by kernel_rfl)
theorem sc_3 : Scal Tryz.prog 3 := .of (by kernel_rfl)
theorem sz_25 : ∀ w, (sizeOf 25).run Tryz.prog w = .ok 2 w := SizeT.of (by kernel_rfl)
theorem sz_35 : ∀ w, (sizeOf 35).run Tryz.prog w = .ok 4 w := SizeT.of (by kernel_rfl)
theorem sz_41 : ∀ w, (sizeOf 41).run Tryz.prog w = .ok 7 w := SizeT.of (by kernel_rfl)
theorem zt_25 : (Tryz.prog.info? 25).bind (·.zero) = some (.agg #[(.slice none 0 0), (.slice none 0 0)]) := by kernel_rfl
theorem zt_35 : (Tryz.prog.info? 35).bind (·.zero) = some (.agg #[(.slice none 0 0), (.slice none 0 0), (.slice none 0 0), (.slice none 0 0)]) := by kernel_rfl
theorem zt_41 : (Tryz.prog.info? 41).bind (·.zero) = some (.agg #[(.int .i64 0), (.int .i64 0), (.string ⟨#[]⟩), (.string ⟨#[]⟩), (.int .i64 0), (.int .i64 0), (.slice none 0 0)]) := by kernel_rfl
end TyUG
open TyUG


set_option linter.unusedSimpArgs false
theorem ref_ok {c : Ctl} {a b : Int} (h : Mrg c a b) (hc : CtlOk c) (ha : i64 a) (hb : i64 b) : CtlOk (refC c a b) := by
  have h1 : (applyV c (mrgX c a b)).1 = (applyV c (mrgX c a b)).1 := rfl
  have h2 := (applyV_in hc (mrgX_in hc h.ok ha hb)).1
  refine ⟨fun t ht => ?_, fun m hm => ?_⟩
  · obtain ⟨u, hu, rfl⟩ := List.mem_map.1 (show t ∈ refL c a b c.things.length from ht)
    have hu := List.mem_of_mem_take (List.mem_filter.1 hu).1
    rw [← h.same u hu]
    unfold mrgT
    split
    · exact mrgF_ok (getT_ok hc.things a) (getT_ok hc.things b)
    · exact renF_ok hb (hc.things u hu)
  · rcases putF_mem (f := Mvd.src) (show m ∈ putF Mvd.src c.moved ⟨a, b⟩ from hm) with rfl | h3
    · exact ⟨ha, hb⟩
    · exact hc.moved m h3
theorem in_same {c : Ctl} {a b : Int} (hc : chkF c = 0) (hk : chkF (refC c a b) = 0) {t : Thg} (ht : t ∈ c.things) (ha : t.id ≠ a) (hb : t.id ≠ b) (h3 : t.kind = 3) : inV (refC c a b) t.id = onceL ((inV c t.id).map (renN a b)) ∧ useF (refC c a b) t.id = 0 ∧ useF c t.id = 0 ∧ (inV c t.id).length ≤ 300 := by
  obtain ⟨p1, p2⟩ := in_3 (c := refC c a b) (id := t.id) (fun hh => hh hk) (ref_get hk ht ha).2
  obtain ⟨q1, q2⟩ := in_3 (c := c) (id := t.id) (fun hh => hh hc) ((catOk hc).ris.get ht).2
  refine ⟨by rw [p2, q2]; exact ref_in hc hk ht ha hb h3, p1, q1, ?_⟩
  have e1 := ((catOk hc).ris.get ht).1
  have hp := (catOk hc).parts t.id
  rw [q2, in_d (by rw [e1, h3]; omega) (by rw [e1, h3]; omega), e1]
  rw [e1] at hp
  have := once_len t.parts.length t.parts (Nat.le_refl _)
  rw [List.take_length] at this
  omega


set_option maxRecDepth 100000 in
set_option maxHeartbeats 1000000 in
theorem c_rLed (n a b : Int) : ACall Tryz.prog 14 [.v (.int .i64 n), .v (.int .i64 a), .v (.int .i64 b)] (.v (.int .i64 (renN a b n))) := by
  refine acall_of (n := 12) (ds' := [.v (.int .i64 (renN a b n))]) Tryz.func14 rfl (by kernel_rfl) rfl [6] rfl rfl ?_
  intro B w0 F0 fr
  refine AWP.seq (AWP.region ?_)
  refine AOps.aA (.nil ?_)
  refine AWP.seq ?_
  refine AWP.seq (AWP.region ?_)
  refine AOps.mA ?_
  refine AOps.mA ?_
  refine AOps.sA (AOp.eql rfl rfl rfl) (.nil ?_)
  refine AWP.cond rfl (fun h1 => ?_) (fun h1 => ?_)
  · replace h1 := of_decide_eq_true h1
    rw [show renN a b n = b from if_pos h1]
    refine AWP.seq (AWP.region ?_)
    refine AOps.mA ?_
    refine AOps.aA (.nil ?_)
    refine AWP.ret ?_
    refine ⟨RetD.eq rfl ?_, trivial⟩
    all_goals (rfl)
  replace h1 := of_decide_eq_false h1
  rw [show renN a b n = n from if_neg h1]
  refine AWP.skip ?_
  refine AWP.seq (AWP.region ?_)
  refine AOps.mA ?_
  refine AOps.aA (.nil ?_)
  refine AWP.ret ?_
  refine ⟨RetD.eq rfl ?_, trivial⟩
  all_goals (rfl)


theorem mt_next {l : List Int} {k : Nat} {f : Int → Int} (h : k < l.length) : (l.take (k + 1)).map f = (l.take k).map f ++ [f l[k]] := by rw [List.take_add_one, List.getElem?_eq_getElem h, Option.toList_some, List.map_append]; rfl
theorem mt_len {l : List Int} {k : Nat} {f : Int → Int} : ((l.take k).map f).length ≤ l.length := by rw [List.length_map, List.length_take]; omega


set_option maxRecDepth 100000 in
set_option maxHeartbeats 1000000 in
theorem c_allLed (l : List Int) (a b : Int) (hl : l.length ≤ 300) : ACall Tryz.prog 18 [.sl (l.map intD), .v (.int .i64 a), .v (.int .i64 b)] (.sl ((onceL (l.map (renN a b))).map intD)) := by
  refine acall_of (n := 26) (ds' := [.sl ((onceL (l.map (renN a b))).map intD)]) Tryz.func18 rfl (by kernel_rfl) rfl [6] rfl rfl ?_
  intro B w0 F0 fr
  refine AWP.seq (AWP.region ?_)
  refine AOps.aA (.nil ?_)
  refine AWP.seq (AWP.region ?_)
  refine AOps.aA (.nil ?_)
  refine AWP.seq ?_
  refine AWP.seq (AWP.region ?_)
  refine AOps.mA ?_
  refine AOps.sA (AOp.lenSl rfl et_33.ht rfl) ?_
  refine AOps.mA (.nil ?_)
  refine AWP.block ?_
  refine AWP.adopt 7 1 3 1 rfl rfl ?_
  refine AWP.loop (G := Nat) (fun k => Env.of [(12, .d (.v (.int .i64 (k : Int)))), (10, .d (.sl (l.map intD))), (11, .d (.v (.int .i64 ((l.map intD).length : Int)))), (1, .d (.v (.int .i64 a))), (2, .d (.v (.int .i64 b))), (7, .own 1)]) (fun k => [(1, .row 3 1 (((l.take k).map (renN a b)).map intD))]) (fun k => k ≤ l.length) (fun k => l.length - k) 0 (Nat.zero_le _) (Sub.less ⟨(SLe.of_eq rfl), SLe.refl _, SLe.refl _, SLe.refl _, SLe.refl _, SLe.refl _, trivial⟩ (row_same rfl)) ?_
  intro k hk
  refine AWP.seq (AWP.region ?_)
  refine AOps.sA (AOp.lss rfl rfl rfl) (.nil ?_)
  refine AWP.seq ?_
  refine AWP.cond rfl (fun h1 => ?_) (fun h1 => ?_)
  · replace h1 := of_decide_eq_true h1
    rw [List.length_map] at h1
    have hlt : k < l.length := by omega
    have hq := mt_len (l := l) (k := k) (f := renN a b)
    refine AWP.skip ?_
    refine AWP.seq ?_
    refine AWP.block ?_
    refine AWP.seq (AWP.region ?_)
    refine AOps.sA (AOp.indexAddr rfl et_33 rfl rfl k rfl (at_lst hlt) rfl) ?_
    refine AOps.sA (AOp.load rfl sc_3 rfl) ?_
    refine AOps.aA (.nil ?_)
    refine AWP.region ?_
    refine AOps.sA (AOp.moveO rfl rfl) ?_
    refine AOps.mA ?_
    refine AOps.mA ?_
    refine AOps.mA ?_
    refine AOps.sA (AOp.call rfl (.cons (ArgOk.rfl' rfl) (.cons (ArgOk.rfl' rfl) (.cons (ArgOk.rfl' rfl) .nil))) (c_rLed _ _ _)) ?_
    refine AOps.sA (AOp.buildSlice rfl et_33 (.cons rfl rfl rfl .nil) rfl (by decide)) ?_
    -- append 22
    refine AOps.append rfl rfl rfl rfl et_33 rfl (.head _) rfl (fun y hy => by obtain rfl := List.mem_singleton.1 hy; rfl) (by simp; omega) (by simp; omega) ?_
    refine AOps.sA (AOp.assignO rfl rfl) (.nil ?_)
    refine AWP.region ?_
    refine AOps.sA (AOp.add64 rfl rfl rfl (by omega) (by omega)) ?_
    refine AOps.mA (.nil ?_)
    refine ⟨k + 1, (by omega), (by dsimp only; omega), Sub.less ⟨(SLe.of_eq rfl), SLe.refl _, SLe.refl _, SLe.refl _, SLe.refl _, SLe.refl _, trivial⟩ (row_same (by rw [mt_next hlt, List.map_append]; rfl))⟩
  replace h1 := of_decide_eq_false h1
  rw [List.length_map] at h1
  obtain rfl : k = l.length := by omega
  rw [List.take_length]
  refine AWP.exit ?_
  refine AWP.seq (AWP.region ?_)
  refine AOps.sA (AOp.moveO rfl rfl) ?_
  refine AOps.freeze 24 rfl (.head _) ?_
  refine AOps.sA (AOp.call rfl (.cons (ArgOk.rfl' rfl) .nil) (c_rOnce (l.map (renN a b)) (by rw [List.length_map]; exact hl))) ?_
  refine AOps.aA (.nil ?_)
  refine AWP.ret ?_
  refine ⟨RetD.eq rfl ?_, trivial⟩
  all_goals (rfl)

set_option maxRecDepth 100000 in
set_option maxHeartbeats 1000000 in
theorem lawKeep (c : Ctl) (a b : Int) (hc : CtlOk c) (ha : i64 a) (hb : i64 b) : ACallT Tryz.prog MaxT 4 [.agg c.ds, .v (.int .i64 a), .v (.int .i64 b)] (.v (.bool true)) := by
  refine acall_ofT (n := 117) (ds' := [.v (.bool true)]) Tryz.func4 rfl (by kernel_rfl) rfl [6] rfl rfl ?_
  intro B w0 F0 hT
  refine AWP.seq (AWP.region ?_)
  refine AOps.sA (AOp.box rfl rfl rfl) ?_
  refine AOps.aA (.nil ?_)
  refine AWP.seq (AWP.region ?_)
  refine AOps.sA (AOp.loadAgg rfl ag_25 rfl rfl) ?_
  refine AOps.mA ?_
  refine AOps.mA ?_
  -- wants the world
  refine AOps.callT rfl rfl rfl hT maxT_stays rfl (.cons (ArgOk.rfl' rfl) (.cons (ArgOk.rfl' rfl) (.cons (ArgOk.rfl' rfl) .nil))) (c_pMerge c a b hc ha hb) ?_
  refine AOps.mA ?_
  refine AOps.sA (AOp.extract rfl rfl rfl) ?_
  refine AOps.sA (AOp.extract rfl rfl rfl) ?_
  refine AOps.alloc 101 rfl rfl rfl rfl zt_35 rfl rfl rfl ?_
  refine AOps.store rfl rfl rfl sz_35 rfl (.head _) rfl rfl rfl (Nat.le_of_ble_eq_true rfl) ?_
  refine AOps.freezeCells 7 (ds := (mrgV c a b).1.ds) rfl (.head _) ?_
  refine AOps.aA (.nil ?_)
  refine AWP.seq ?_
  refine AWP.seq (AWP.region ?_)
  refine AOps.mA ?_
  refine AOps.sA (AOp.neq rfl rfl rfl) (.nil ?_)
  refine AWP.cond rfl (fun h1 => ?_) (fun h1 => ?_)
  · replace h1 := of_decide_eq_true h1
    rw [mrg_bad h1]
    refine AWP.seq (AWP.region ?_)
    refine AOps.sA (AOp.fieldAddr rfl fo_35_0 rfl) ?_
    refine AOps.sA (AOp.load rfl sc_22 rfl) ?_
    refine AOps.sA (AOp.lenSl rfl et_22.ht rfl) ?_
    refine AOps.sA (AOp.eql rfl rfl rfl) ?_
    refine AOps.mA ?_
    refine AOps.split 31 rfl (fun g2 => ?_) (fun g2 => ?_)
    · replace g2 := of_decide_eq_true g2
      refine AOps.sG (AOp.call rfl .nil c_awake) ?_
      refine AOps.sA (AOp.pickT rfl rfl rfl) ?_
      refine AOps.aA (.nil ?_)
      refine AWP.ret ?_
      refine ⟨RetD.eq rfl ?_, trivial⟩
      all_goals (first | rfl | simp)
    replace g2 := of_decide_eq_false g2
    exact absurd rfl g2
  replace h1 := of_decide_eq_false h1
  obtain ⟨hM, e1, e2, e3, e4⟩ := mrg_app (c := c) (a := a) (b := b) (by first | exact h1 | omega)
  rw [e1]
  have hcR := ref_ok hM hc ha hb
  have hl1 := (catOk hM.ok).lim.1
  refine AWP.skip ?_
  refine AWP.seq (AWP.region ?_)
  refine AOps.sA (AOp.loadAgg rfl ag_25 rfl rfl) ?_
  refine AOps.sA (AOp.loadAgg rfl ag_35 rfl rfl) ?_
  -- wants the world
  refine AOps.callT rfl rfl rfl hT maxT_stays rfl (.cons (ArgOk.rfl' rfl) (.cons (ArgOk.rfl' rfl) .nil)) (c_pApply c (mrgX c a b) hc (mrgX_in hc hM.ok ha hb)) ?_
  rw [e3]
  refine AOps.mA ?_
  refine AOps.sA (AOp.extract rfl rfl rfl) ?_
  refine AOps.sA (AOp.extract rfl rfl rfl) ?_
  refine AOps.sA (AOp.extract rfl rfl rfl) ?_
  refine AOps.alloc 102 rfl rfl rfl rfl zt_25 rfl rfl rfl ?_
  refine AOps.alloc 103 rfl rfl rfl rfl zt_35 rfl rfl rfl ?_
  refine AOps.store rfl rfl rfl sz_25 rfl (.tail _ (.head _)) rfl rfl rfl (Nat.le_of_ble_eq_true rfl) ?_
  refine AOps.freezeCells 9 (ds := (refC c a b).ds) rfl (.tail _ (.head _)) ?_
  refine AOps.store rfl rfl rfl sz_35 rfl (.head _) rfl rfl rfl (Nat.le_of_ble_eq_true rfl) ?_
  refine AOps.freezeCells 10 (ds := (applyV c (mrgX c a b)).2.1.ds) rfl (.head _) ?_
  refine AOps.aA (.nil ?_)
  refine AWP.seq ?_
  refine AWP.seq (AWP.region ?_)
  refine AOps.mA ?_
  refine AOps.sA (AOp.neq rfl rfl rfl) ?_
  refine AOps.mA ?_
  refine AOps.split 43 rfl (fun g3 => ?_) (fun g3 => ?_)
  · replace g3 := of_decide_eq_true g3
    exact absurd e2 g3
  replace g3 := of_decide_eq_false g3
  refine AOps.sG (AOp.call rfl .nil c_awake) ?_
  refine AOps.sG (AOp.not rfl rfl) ?_
  refine AOps.sA (AOp.pickF rfl rfl rfl) (.nil ?_)
  refine AWP.cond rfl (fun h => nomatch h) (fun _ => ?_)
  refine AWP.skip ?_
  refine AWP.seq ?_
  refine AWP.seq (AWP.region ?_)
  refine AOps.sA (AOp.fieldAddr rfl fo_25_0 rfl) ?_
  refine AOps.sA (AOp.load rfl sc_22 rfl) ?_
  refine AOps.sA (AOp.lenSl rfl et_22.ht rfl) ?_
  refine AOps.mA (.nil ?_)
  refine AWP.block ?_
  refine AWP.loop (G := Nat) (fun k => Env.of [(50, .d (.v (.int .i64 (k : Int)))), (48, .d (.sl (c.things.map Thg.ds))), (49, .d (.v (.int .i64 ((c.things.map Thg.ds).length : Int)))), (1, .d (.v (.int .i64 a))), (2, .d (.v (.int .i64 b))), (3, .d (.fp c.ds)), (9, .d (.fp (refC c a b).ds))]) (fun k => []) (fun k => k ≤ c.things.length) (fun k => c.things.length - k) 0 (Nat.zero_le _) (Sub.less ⟨(SLe.of_eq rfl), SLe.refl _, SLe.refl _, SLe.refl _, SLe.refl _, SLe.refl _, SLe.refl _, trivial⟩ (fun _ h => h)) ?_
  intro k hk
  refine AWP.seq (AWP.region ?_)
  refine AOps.sA (AOp.lss rfl rfl rfl) (.nil ?_)
  refine AWP.seq ?_
  refine AWP.cond rfl (fun h4 => ?_) (fun h4 => ?_)
  · replace h4 := of_decide_eq_true h4
    rw [List.length_map] at h4
    have hlt : k < c.things.length := by omega
    have hm := List.getElem_mem hlt
    have hbk := hc.things _ hm
    have HL := ref_led hM e4 hm
    obtain ⟨f1, f2⟩ := find_3 (c := (refC c a b)) (id := c.things[k].id) (fun hh => hh e4) (by rw [HL]; rfl)
    have f3 : findV (refC c a b) c.things[k].id = renN a b c.things[k].id := by rw [f2, HL]; rfl
    refine AWP.skip ?_
    refine AWP.seq ?_
    refine AWP.block ?_
    refine AWP.seq (AWP.region ?_)
    refine AOps.sA (AOp.indexAddr rfl et_22 rfl rfl k rfl (at_lst hlt) rfl) ?_
    refine AOps.sA (AOp.loadAgg rfl ag_41 rfl rfl) ?_
    refine AOps.alloc 104 rfl rfl rfl rfl zt_41 rfl rfl rfl ?_
    refine AOps.store rfl rfl rfl sz_41 rfl (.head _) rfl rfl rfl (Nat.le_of_ble_eq_true rfl) ?_
    refine AOps.freezeCells 12 (ds := c.things[k].ds) rfl (.head _) (.nil ?_)
    refine AWP.seq (AWP.region ?_)
    refine AOps.sA (AOp.loadAgg rfl ag_25 rfl rfl) ?_
    refine AOps.sA (AOp.fieldAddr rfl fo_41_0 rfl) ?_
    refine AOps.sA (AOp.load rfl sc_3 rfl) ?_
    -- wants the world
    refine AOps.callT rfl rfl rfl hT maxT_stays rfl (.cons (ArgOk.rfl' rfl) (.cons (ArgOk.rfl' rfl) .nil)) (c_pFind (refC c a b) c.things[k].id hcR hbk.id) ?_
    refine AOps.mA ?_
    refine AOps.sA (AOp.extract rfl rfl rfl) ?_
    refine AOps.sA (AOp.extract rfl rfl rfl) ?_
    refine AOps.aA ?_
    refine AOps.aA (.nil ?_)
    refine AWP.seq ?_
    refine AWP.seq (AWP.region ?_)
    refine AOps.mA ?_
    refine AOps.sA (AOp.neq rfl rfl rfl) ?_
    refine AOps.mA ?_
    refine AOps.split 63 rfl (fun g5 => ?_) (fun g5 => ?_)
    · replace g5 := of_decide_eq_true g5
      exact absurd f1 g5
    replace g5 := of_decide_eq_false g5
    refine AOps.sG (AOp.moveD rfl rfl) ?_
    refine AOps.sG (AOp.fieldAddr rfl fo_41_0 rfl) ?_
    refine AOps.sG (AOp.load rfl sc_3 rfl) ?_
    refine AOps.sG (AOp.moveD rfl rfl) ?_
    refine AOps.sG (AOp.moveD rfl rfl) ?_
    refine AOps.sG (AOp.call rfl (.cons (ArgOk.rfl' rfl) (.cons (ArgOk.rfl' rfl) (.cons (ArgOk.rfl' rfl) .nil))) (c_rLed _ _ _)) ?_
    refine AOps.sG (AOp.neq rfl rfl rfl) ?_
    refine AOps.sA (AOp.pickF rfl rfl rfl) (.nil ?_)
    refine AWP.cond rfl (fun h6 => ?_) (fun h6 => ?_)
    · replace h6 := of_decide_eq_true h6
      exact absurd f3 h6
    replace h6 := of_decide_eq_false h6
    refine AWP.skip ?_
    refine AWP.seq ?_
    refine AWP.seq (AWP.region ?_)
    refine AOps.sA (AOp.fieldAddr rfl fo_41_0 rfl) ?_
    refine AOps.sA (AOp.load rfl sc_3 rfl) ?_
    refine AOps.mA ?_
    refine AOps.sA (AOp.eql rfl rfl rfl) ?_
    refine AOps.mA ?_
    refine AOps.split 76 rfl (fun g7 => ?_) (fun g7 => ?_)
    · replace g7 := of_decide_eq_true g7
      refine AOps.pA ?_
      refine AOps.pA ?_
      refine AOps.pA ?_
      refine AOps.pA ?_
      refine AOps.sA (AOp.pickT rfl rfl rfl) ?_
      refine AOps.mA ?_
      refine AOps.pA ?_
      refine AOps.pA ?_
      refine AOps.pA ?_
      refine AOps.sA (AOp.pickT rfl rfl rfl) (.nil ?_)
      refine AWP.cond rfl (fun _ => ?_) (fun h => nomatch h)
      refine AWP.exit ?_
      refine AWP.region ?_
      refine AOps.sA (AOp.add64 rfl rfl rfl (by omega) (by omega)) ?_
      refine AOps.mA (.nil ?_)
      refine ⟨k + 1, (by omega), (by dsimp only; omega), Sub.less ⟨(SLe.of_eq rfl), SLe.refl _, SLe.refl _, SLe.refl _, SLe.refl _, SLe.refl _, SLe.refl _, trivial⟩ (fun _ h => h)⟩
    replace g7 := of_decide_eq_false g7
    have na := g7
    refine AOps.sG (AOp.fieldAddr rfl fo_41_0 rfl) ?_
    refine AOps.sG (AOp.load rfl sc_3 rfl) ?_
    refine AOps.sG (AOp.moveD rfl rfl) ?_
    refine AOps.sG (AOp.eql rfl rfl rfl) ?_
    refine AOps.sA (AOp.pickF rfl rfl rfl) ?_
    refine AOps.mA ?_
    refine AOps.split 82 rfl (fun g8 => ?_) (fun g8 => ?_)
    · replace g8 := of_decide_eq_true g8
      refine AOps.pA ?_
      refine AOps.pA ?_
      refine AOps.pA ?_
      refine AOps.sA (AOp.pickT rfl rfl rfl) (.nil ?_)
      refine AWP.cond rfl (fun _ => ?_) (fun h => nomatch h)
      refine AWP.exit ?_
      refine AWP.region ?_
      refine AOps.sA (AOp.add64 rfl rfl rfl (by omega) (by omega)) ?_
      refine AOps.mA (.nil ?_)
      refine ⟨k + 1, (by omega), (by dsimp only; omega), Sub.less ⟨(SLe.of_eq rfl), SLe.refl _, SLe.refl _, SLe.refl _, SLe.refl _, SLe.refl _, SLe.refl _, trivial⟩ (fun _ h => h)⟩
    replace g8 := of_decide_eq_false g8
    have nb := g8
    refine AOps.sG (AOp.fieldAddr rfl fo_41_1 rfl) ?_
    refine AOps.sG (AOp.load rfl sc_3 rfl) ?_
    refine AOps.sG (AOp.neq rfl rfl rfl) ?_
    refine AOps.sA (AOp.pickF rfl rfl rfl) (.nil ?_)
    refine AWP.cond rfl (fun h9 => ?_) (fun h9 => ?_)
    · replace h9 := of_decide_eq_true h9
      skip
      refine AWP.exit ?_
      refine AWP.region ?_
      refine AOps.sA (AOp.add64 rfl rfl rfl (by omega) (by omega)) ?_
      refine AOps.mA (.nil ?_)
      refine ⟨k + 1, (by omega), (by dsimp only; omega), Sub.less ⟨(SLe.of_eq rfl), SLe.refl _, SLe.refl _, SLe.refl _, SLe.refl _, SLe.refl _, SLe.refl _, trivial⟩ (fun _ h => h)⟩
    replace h9 := of_decide_eq_false h9
    obtain ⟨j1, j2, j3, j4⟩ := in_same hM.ok e4 hm na nb (by first | exact h9 | omega)
    refine AWP.skip ?_
    refine AWP.seq (AWP.region ?_)
    refine AOps.sA (AOp.loadAgg rfl ag_25 rfl rfl) ?_
    refine AOps.sA (AOp.fieldAddr rfl fo_41_0 rfl) ?_
    refine AOps.sA (AOp.load rfl sc_3 rfl) ?_
    -- wants the world
    refine AOps.callT rfl rfl rfl hT maxT_stays rfl (.cons (ArgOk.rfl' rfl) (.cons (ArgOk.rfl' rfl) .nil)) (c_pIn (refC c a b) c.things[k].id hcR hbk.id) ?_
    refine AOps.mA ?_
    refine AOps.sA (AOp.extract rfl rfl rfl) ?_
    refine AOps.sA (AOp.extract rfl rfl rfl) ?_
    refine AOps.aA ?_
    refine AOps.aA (.nil ?_)
    refine AWP.seq (AWP.region ?_)
    refine AOps.sA (AOp.loadAgg rfl ag_25 rfl rfl) ?_
    refine AOps.sA (AOp.fieldAddr rfl fo_41_0 rfl) ?_
    refine AOps.sA (AOp.load rfl sc_3 rfl) ?_
    -- wants the world
    refine AOps.callT rfl rfl rfl hT maxT_stays rfl (.cons (ArgOk.rfl' rfl) (.cons (ArgOk.rfl' rfl) .nil)) (c_rWithin c c.things[k].id hc) ?_
    refine AOps.mA ?_
    refine AOps.sA (AOp.extract rfl rfl rfl) ?_
    refine AOps.sA (AOp.extract rfl rfl rfl) ?_
    refine AOps.aA ?_
    refine AOps.aA (.nil ?_)
    refine AWP.seq (AWP.region ?_)
    refine AOps.mA ?_
    refine AOps.sA (AOp.neq rfl rfl rfl) ?_
    refine AOps.mA ?_
    refine AOps.split 103 rfl (fun g10 => ?_) (fun g10 => ?_)
    · replace g10 := of_decide_eq_true g10
      exact absurd j2 g10
    replace g10 := of_decide_eq_false g10
    refine AOps.sG (AOp.moveD rfl rfl) ?_
    refine AOps.sG (AOp.neq rfl rfl rfl) ?_
    refine AOps.sA (AOp.pickF rfl rfl rfl) ?_
    refine AOps.mA ?_
    refine AOps.split 107 rfl (fun g11 => ?_) (fun g11 => ?_)
    · replace g11 := of_decide_eq_true g11
      exact absurd j3 g11
    replace g11 := of_decide_eq_false g11
    refine AOps.sG (AOp.moveD rfl rfl) ?_
    refine AOps.sG (AOp.moveD rfl rfl) ?_
    refine AOps.sG (AOp.moveD rfl rfl) ?_
    refine AOps.sG (AOp.moveD rfl rfl) ?_
    refine AOps.sG (AOp.call rfl (.cons (ArgOk.rfl' rfl) (.cons (ArgOk.rfl' rfl) (.cons (ArgOk.rfl' rfl) .nil))) (c_allLed _ a b j4)) ?_
    refine AOps.sG (AOp.call rfl (.cons (ArgOk.rfl' rfl) (.cons (ArgOk.rfl' rfl) .nil)) (c_eqI _ _)) ?_
    refine AOps.sG (AOp.not rfl rfl) ?_
    refine AOps.sA (AOp.pickF rfl rfl rfl) (.nil ?_)
    refine AWP.cond rfl (fun h12 => ?_) (fun h12 => ?_)
    · replace h12 := bnot_t h12; replace h12 := of_decide_eq_false h12
      exact absurd j1 h12
    replace h12 := bnot_f h12; replace h12 := of_decide_eq_true h12
    refine AWP.skip ?_
    refine AWP.region ?_
    refine AOps.sA (AOp.add64 rfl rfl rfl (by omega) (by omega)) ?_
    refine AOps.mA (.nil ?_)
    refine ⟨k + 1, (by omega), (by dsimp only; omega), Sub.less ⟨(SLe.of_eq rfl), SLe.refl _, SLe.refl _, SLe.refl _, SLe.refl _, SLe.refl _, SLe.refl _, trivial⟩ (fun _ h => h)⟩
  replace h4 := of_decide_eq_false h4
  rw [List.length_map] at h4
  obtain rfl : k = c.things.length := by omega
  refine AWP.exit ?_
  refine AWP.seq (AWP.region ?_)
  refine AOps.aA (.nil ?_)
  refine AWP.ret ?_
  refine ⟨RetD.eq rfl ?_, trivial⟩
  all_goals (first | rfl | simp)

end Go.Proofs.YtgldfnkbpopanaaGreatDoor
