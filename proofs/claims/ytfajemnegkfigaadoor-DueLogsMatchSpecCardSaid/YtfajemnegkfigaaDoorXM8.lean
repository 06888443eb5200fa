/- Walks and laws over abstract values, merged by tools/merge.py. No statement of the seat. -/
import Derived.Test.YtfajemnegkfigaaDoorXM7

namespace Go.Proofs.YtfajemnegkfigaaDoor
open Go.RowKit
set_option linter.unusedVariables false

/-! Types. -/
namespace TyM10
theorem ag_48 : AggT Tryd.prog 48 5 := .of (by kernel_rfl)
theorem et_40 : ElemTy Tryd.prog 40 48 5 64 (.agg #[(.string ⟨#[]⟩), (.int .i64 0), (.int .i64 0), (.int .i64 0), (.slice none 0 0)]) := ⟨by kernel_rfl, by kernel_rfl, by kernel_rfl, by decide⟩
theorem fo_48_0 : fieldOff Tryd.prog 48 0 = some 0 := by kernel_rfl
theorem fo_48_1 : fieldOff Tryd.prog 48 1 = some 1 := by kernel_rfl
theorem fo_48_3 : fieldOff Tryd.prog 48 3 = some 3 := by kernel_rfl
theorem sc_3 : Scal Tryd.prog 3 := .of (by kernel_rfl)
theorem sc_9 : Scal Tryd.prog 9 := .of (by kernel_rfl)
theorem sz_48 : ∀ w, (sizeOf 48).run Tryd.prog w = .ok 5 w := SizeT.of (by kernel_rfl)
theorem zt_48 : (Tryd.prog.info? 48).bind (·.zero) = some (.agg #[(.string ⟨#[]⟩), (.int .i64 0), (.int .i64 0), (.int .i64 0), (.slice none 0 0)]) := by kernel_rfl
end TyM10
open TyM10


def cellsR (y : Rpt) : List S := [.d (.v (.string y.source)), .d (.v (.int .i64 y.no)), .d (.v (.int .i64 y.period)), .d (.v (.int .i64 y.corrects)), .d (.sl (y.lines.map Usd.ds))]
theorem cells_sameM {i : Nat} {a b : List S} {τ : Obs} (h : a = b) : ∀ p ∈ [(i, Ob.cells b)], p ∈ (i, Ob.cells a) :: τ := fun p hp => by
  subst h
  rw [List.mem_singleton] at hp; subst hp; exact .head _
theorem rootA_0 (l : List Rpt) (y : Rpt) : rootA l 0 y = y.no := rfl
theorem rootA_no {l : List Rpt} {y : Rpt} {d : Nat} (h : y.corrects = 0) : rootA l (d + 1) y = y.no := if_pos h
theorem rootA_cor {l : List Rpt} {y : Rpt} {d : Nat} (h : ¬ y.corrects = 0) (h2 : upTo l y l.length < 0) : rootA l (d + 1) y = y.corrects := (if_neg h).trans (if_pos h2)
theorem rootA_up {l : List Rpt} {y : Rpt} {d : Nat} (h : ¬ y.corrects = 0) (h2 : ¬ upTo l y l.length < 0) : ∃ u, ∃ hu : u < l.length, upTo l y l.length = (u : Int) ∧ rootA l (d + 1) y = rootA l d l[u] := by
  rcases up_cases (l := l) y with ⟨h1, _⟩ | ⟨u, hu, h1, _⟩
  · exact absurd h1 h2
  · refine ⟨u, hu, h1, ?_⟩
    have e : upX l y = (u : Int) := h1
    rw [rootA, if_neg h, if_neg (by omega), e, Int.toNat_natCast, gd hu]
theorem up_yes {l : List Rpt} {y : Rpt} {k : Nat} (hk : k < l.length) (h1 : l[k].source = y.source) (h2 : l[k].no = y.corrects) : upTo l y (k + 1) = (k : Int) := by
  unfold upTo
  rw [if_pos]
  rw [gd hk]
  unfold mtB
  rw [decide_eq_true h1, decide_eq_true h2]; rfl
theorem up_no {l : List Rpt} {y : Rpt} {k : Nat} (hk : k < l.length) (h : ¬ (l[k].source = y.source ∧ l[k].no = y.corrects)) : upTo l y (k + 1) = upTo l y k := by
  rw [upTo, if_neg]
  rw [gd hk]
  intro hh
  exact h (mt_key hh)
theorem sg_at {l : List Rpt} {i j : Nat} (hi : i < l.length) (hj : j < l.length) : sameG l i j = (decide (l[j].source = l[i].source) && decide (rootQ l l[j] = rootQ l l[i])) := by unfold sameG; rw [gd hj, gd hi]


set_option maxRecDepth 100000 in
set_option maxHeartbeats 1000000 in
theorem c_pValid (l : List Rpt) (ho : ∀ x ∈ l, okRpt x) : ACallT Tryd.prog MaxT 22 [.sl (l.map Rpt.ds)] (.tup [.sl ((valR l).map Rpt.ds), .v (.int .i64 (logF l))]) := by
  refine acall_ofT (n := 27) (ds' := [.sl ((valR l).map Rpt.ds), .v (.int .i64 (logF l))]) Tryd.func22 rfl (by kernel_rfl) rfl [2, 3] rfl rfl ?_
  intro B w0 F0 hT
  refine AWP.seq (AWP.region ?_)
  refine AOps.aD rfl rfl rfl rfl rfl ?_
  refine AOps.aD rfl rfl rfl rfl rfl (.nil ?_)
  refine AWP.seq ?_
  refine AWP.seq (AWP.region ?_)
  refine AOps.mD rfl rfl rfl rfl rfl ?_
  -- wants the world
  refine AOps.callT rfl rfl rfl hT maxT_stays rfl (.cons (ArgOk.rfl' rfl) .nil) (c_pLog l ho) ?_
  refine AOps.aD rfl rfl rfl rfl rfl (.nil ?_)
  refine AWP.seq (AWP.region ?_)
  refine AOps.mD rfl rfl rfl rfl rfl ?_
  refine AOps.step rfl rfl rfl (AOp.neq rfl rfl rfl) (.nil ?_)
  refine AWP.cond rfl (fun h1 => ?_) (fun h1 => ?_)
  · replace h1 := of_decide_eq_true h1
    have HV : valR l = [] := if_neg h1
    rw [HV]
    refine AWP.seq (AWP.region ?_)
    refine AOps.mD rfl rfl rfl rfl rfl ?_
    refine AOps.aD rfl rfl rfl rfl rfl ?_
    refine AOps.aD rfl rfl rfl rfl rfl (.nil ?_)
    refine AWP.ret ?_
    refine ⟨RetD.nil rfl, RetD.eq rfl ?_, trivial⟩
    all_goals (rfl)
  replace h1 := of_decide_eq_false h1
  have h0 : logF l = 0 := by omega
  have hl := log_of h0
  have hll := hl.len
  have HV : valR l = validR l := if_pos h0
  rw [HV, h0]
  have hvl : (validR l).length ≤ l.length := List.length_filter_le _ _
  refine AWP.skip ?_
  refine AWP.seq (AWP.region ?_)
  refine AOps.aD rfl rfl rfl rfl rfl (.nil ?_)
  refine AWP.seq ?_
  refine AWP.seq (AWP.region ?_)
  refine AOps.mD rfl rfl rfl rfl rfl ?_
  refine AOps.step rfl rfl rfl (AOp.call rfl (.cons (ArgOk.rfl' rfl) .nil) (c_pVal l hl ho)) ?_
  refine AOps.step rfl rfl rfl (AOp.lenSl rfl et_40.ht rfl) ?_
  refine AOps.mD rfl rfl rfl rfl rfl (.nil ?_)
  refine AWP.block ?_
  refine AWP.adopt 5 61 48 5 rfl rfl ?_
  refine AWP.loop (G := Nat) (fun k => Env.of [(16, .d (.v (.int .i64 (k : Int)))), (14, .d (.sl ((validR l).map Rpt.ds))), (15, .d (.v (.int .i64 (((validR l).map Rpt.ds).length : Int)))), (5, .own 61)]) (fun k => [(61, .row 48 5 (((validR l).take k).map Rpt.ds))]) (fun k => k ≤ (validR l).length) (fun k => (validR l).length - k) 0 (Nat.zero_le _) (Sub.less ⟨(SLe.of_eq rfl), SLe.refl _, SLe.refl _, SLe.refl _, trivial⟩ (row_sameM rfl)) ?_
  intro k hk
  refine AWP.seq (AWP.region ?_)
  refine AOps.step rfl rfl rfl (AOp.lss rfl rfl rfl) (.nil ?_)
  refine AWP.seq ?_
  refine AWP.cond rfl (fun h2 => ?_) (fun h2 => ?_)
  · replace h2 := of_decide_eq_true h2
    rw [List.length_map] at h2
    have hlt : k < (validR l).length := by omega
    refine AWP.skip ?_
    refine AWP.seq ?_
    refine AWP.block ?_
    refine AWP.seq (AWP.region ?_)
    refine AOps.step rfl rfl rfl (AOp.indexAddr rfl et_40 rfl rfl k rfl (at_lst hlt) rfl) ?_
    refine AOps.step rfl rfl rfl (AOp.loadAgg rfl ag_48 rfl rfl) ?_
    refine AOps.alloc 101 rfl rfl rfl rfl zt_48 rfl rfl rfl ?_
    refine AOps.store rfl rfl rfl sz_48 rfl (.head _) rfl rfl rfl (Nat.le_of_ble_eq_true rfl) ?_
    refine AOps.freezeCells 7 (ds := (validR l)[k].ds) rfl (.head _) (.nil ?_)
    refine AWP.region ?_
    refine AOps.step rfl rfl rfl (AOp.moveO rfl rfl) ?_
    refine AOps.step rfl rfl rfl (AOp.loadAgg rfl ag_48 rfl rfl) ?_
    refine AOps.step rfl rfl rfl (AOp.call rfl (.cons (ArgOk.rfl' rfl) .nil) (c_own (validR l)[k] (by have := rpt_lines (hl.ok _ (List.mem_filter.1 (List.getElem_mem hlt)).1); omega))) ?_
    refine AOps.step rfl rfl rfl (AOp.buildSlice rfl et_40 (.cons rfl rfl rfl .nil) rfl (by decide)) ?_
    -- append 24
    refine AOps.append rfl rfl rfl rfl et_40 rfl (.head _) rfl (fun y hy => by obtain rfl := List.mem_singleton.1 hy; rfl) (by simp; omega) (by simp; omega) ?_
    refine AOps.step rfl rfl rfl (AOp.assignO rfl rfl) (.nil ?_)
    refine AWP.region ?_
    refine AOps.step rfl rfl rfl (AOp.add64 rfl rfl rfl (by omega) (by omega)) ?_
    refine AOps.mD rfl rfl rfl rfl rfl (.nil ?_)
    refine ⟨k + 1, (by omega), (by dsimp only; omega), Sub.less ⟨(SLe.of_eq rfl), SLe.refl _, SLe.refl _, SLe.refl _, trivial⟩ (row_sameM (by rw [List.take_add_one, List.getElem?_eq_getElem hlt, Option.toList_some, List.map_append]; rfl))⟩
  replace h2 := of_decide_eq_false h2
  rw [List.length_map] at h2
  obtain rfl : k = (validR l).length := by omega
  rw [List.take_length]
  refine AWP.exit ?_
  refine AWP.seq (AWP.region ?_)
  refine AOps.step rfl rfl rfl (AOp.moveO rfl rfl) ?_
  refine AOps.step rfl rfl rfl (AOp.assignO rfl rfl) ?_
  refine AOps.aD rfl rfl rfl rfl rfl (.nil ?_)
  refine AWP.ret ?_
  refine ⟨RetD.own rfl (.head _) ?_, RetD.eq rfl ?_, trivial⟩
  all_goals (rfl)

set_option maxRecDepth 100000 in
set_option maxHeartbeats 4000000 in
theorem c_root (l : List Rpt) (x : Rpt) (hll : l.length ≤ 300) : ACall Tryd.prog 83 [.sl (l.map Rpt.ds), .agg x.ds] (.v (.int .i64 (rootQ l x))) := by
  refine acall_of (n := 50) (ds' := [.v (.int .i64 (rootQ l x))]) Tryd.func83 rfl (by kernel_rfl) rfl [4] rfl rfl ?_
  intro B w0 F0 fr
  refine AWP.seq (AWP.region ?_)
  refine AOps.boxOwn 91 rfl rfl rfl rfl rfl rfl rfl ?_
  refine AOps.aD rfl rfl rfl rfl rfl (.nil ?_)
  refine AWP.seq ?_
  refine AWP.seq (AWP.region ?_)
  refine AOps.mD rfl rfl rfl rfl rfl ?_
  refine AOps.step rfl rfl rfl (AOp.lenSl rfl et_40.ht rfl) ?_
  refine AOps.step rfl rfl rfl (AOp.add64 rfl rfl rfl (by simp only [List.length_map]; omega) (by simp only [List.length_map]; omega)) ?_
  refine AOps.mD rfl rfl rfl rfl rfl (.nil ?_)
  refine AWP.block ?_
  refine AWP.loop (G := Nat × Rpt) (fun g => Env.of [(11, .d (.v (.int .i64 (g.1 : Int)))), (10, .d (.v (.int .i64 ((l.length : Int) + 1)))), (0, .d (.sl (l.map Rpt.ds))), (3, .ptr 91 0)]) (fun g => [(91, .cells (cellsR g.2))]) (fun g => g.1 ≤ l.length + 1 ∧ rootQ l x = rootA l (l.length + 1 - g.1) g.2) (fun g => l.length + 1 - g.1) (0, x) ⟨Nat.zero_le _, rfl⟩ (Sub.less ⟨(SLe.of_eq rfl), (SLe.i64 (by rw [List.length_map])), SLe.refl _, SLe.refl _, trivial⟩ (cells_sameM rfl)) ?_
  rintro ⟨m, y⟩ ⟨hm, hr⟩
  dsimp only at hm hr ⊢
  refine AWP.seq (AWP.region ?_)
  refine AOps.step rfl rfl rfl (AOp.lss rfl rfl rfl) (.nil ?_)
  refine AWP.seq ?_
  refine AWP.cond rfl (fun h1 => ?_) (fun h1 => ?_)
  · replace h1 := of_decide_eq_true h1
    have hml : m < l.length + 1 := by omega
    obtain ⟨d, hd⟩ : ∃ d, l.length + 1 - m = d + 1 := ⟨l.length - m, by omega⟩
    rw [hd] at hr
    refine AWP.skip ?_
    refine AWP.seq ?_
    refine AWP.block ?_
    refine AWP.seq ?_
    refine AWP.seq (AWP.region ?_)
    refine AOps.step rfl rfl rfl (AOp.fieldAddrP rfl fo_48_3 rfl) ?_
    refine AOps.step rfl rfl rfl (AOp.loadP rfl sc_3 rfl (.head _) rfl) ?_
    refine AOps.step rfl rfl rfl (AOp.eql rfl rfl rfl) (.nil ?_)
    refine AWP.cond rfl (fun h2 => ?_) (fun h2 => ?_)
    · replace h2 := of_decide_eq_true h2
      rw [hr, rootA_no h2]
      refine AWP.seq (AWP.region ?_)
      refine AOps.step rfl rfl rfl (AOp.fieldAddrP rfl fo_48_1 rfl) ?_
      refine AOps.step rfl rfl rfl (AOp.loadP rfl sc_3 rfl (.head _) rfl) ?_
      refine AOps.aD rfl rfl rfl rfl rfl (.nil ?_)
      refine AWP.ret ?_
      refine ⟨RetD.eq rfl ?_, trivial⟩
      all_goals (rfl)
    replace h2 := of_decide_eq_false h2
    have hc := h2
    refine AWP.skip ?_
    refine AWP.seq (AWP.region ?_)
    refine AOps.aD rfl rfl rfl rfl rfl (.nil ?_)
    refine AWP.seq ?_
    refine AWP.seq (AWP.region ?_)
    refine AOps.mD rfl rfl rfl rfl rfl ?_
    refine AOps.step rfl rfl rfl (AOp.lenSl rfl et_40.ht rfl) ?_
    refine AOps.mD rfl rfl rfl rfl rfl (.nil ?_)
    refine AWP.block ?_
    refine AWP.loop (G := Nat) (fun k => Env.of [(20, .d (.v (.int .i64 (k : Int)))), (18, .d (.sl (l.map Rpt.ds))), (19, .d (.v (.int .i64 ((l.map Rpt.ds).length : Int)))), (5, .d (.v (.int .i64 (upTo l y k)))), (11, .d (.v (.int .i64 (m : Int)))), (10, .d (.v (.int .i64 ((l.length : Int) + 1)))), (0, .d (.sl (l.map Rpt.ds))), (3, .ptr 91 0)]) (fun k => [(91, .cells (cellsR y))]) (fun k => k ≤ l.length) (fun k => l.length - k) 0 (Nat.zero_le _) (Sub.less ⟨(SLe.of_eq rfl), SLe.refl _, SLe.refl _, (SLe.of_eq rfl), SLe.refl _, SLe.refl _, SLe.refl _, SLe.refl _, trivial⟩ (cells_sameM rfl)) ?_
    intro k hk
    refine AWP.seq (AWP.region ?_)
    refine AOps.step rfl rfl rfl (AOp.lss rfl rfl rfl) (.nil ?_)
    refine AWP.seq ?_
    refine AWP.cond rfl (fun h3 => ?_) (fun h3 => ?_)
    · replace h3 := of_decide_eq_true h3
      rw [List.length_map] at h3
      have hlt : k < l.length := by omega
      refine AWP.skip ?_
      refine AWP.seq ?_
      refine AWP.block ?_
      refine AWP.seq (AWP.region ?_)
      refine AOps.mD rfl rfl rfl rfl rfl ?_
      refine AOps.step rfl rfl rfl (AOp.indexAddr rfl et_40 rfl rfl k rfl (at_lst hlt) rfl) ?_
      refine AOps.step rfl rfl rfl (AOp.loadAgg rfl ag_48 rfl rfl) ?_
      refine AOps.alloc 102 rfl rfl rfl rfl zt_48 rfl rfl rfl ?_
      refine AOps.aD rfl rfl rfl rfl rfl ?_
      refine AOps.store rfl rfl rfl sz_48 rfl (.head _) rfl rfl rfl (Nat.le_of_ble_eq_true rfl) ?_
      refine AOps.freezeCells 7 (ds := l[k].ds) rfl (.head _) (.nil ?_)
      refine AWP.seq (AWP.region ?_)
      refine AOps.step rfl rfl rfl (AOp.fieldAddr rfl fo_48_0 rfl) ?_
      refine AOps.step rfl rfl rfl (AOp.load rfl sc_9 rfl) ?_
      refine AOps.step rfl rfl rfl (AOp.fieldAddrP rfl fo_48_0 rfl) ?_
      refine AOps.step rfl rfl rfl (AOp.loadP rfl sc_9 rfl (.head _) rfl) ?_
      refine AOps.step rfl rfl rfl (AOp.seql rfl rfl rfl) ?_
      refine AOps.mD rfl rfl rfl rfl rfl ?_
      refine AOps.split 30 rfl (fun g4 => ?_) (fun g4 => ?_)
      · replace g4 := of_decide_eq_true g4
        have e1 := g4
        refine AOps.step ⟨30, rfl, .inl ⟨_, rfl, rfl⟩⟩ rfl rfl (AOp.fieldAddr rfl fo_48_1 rfl) ?_
        refine AOps.step ⟨30, rfl, .inl ⟨_, rfl, rfl⟩⟩ rfl rfl (AOp.load rfl sc_3 rfl) ?_
        refine AOps.step ⟨30, rfl, .inl ⟨_, rfl, rfl⟩⟩ rfl rfl (AOp.fieldAddrP rfl fo_48_3 rfl) ?_
        refine AOps.step ⟨30, rfl, .inl ⟨_, rfl, rfl⟩⟩ rfl rfl (AOp.loadP rfl sc_3 rfl (.head _) rfl) ?_
        refine AOps.step ⟨30, rfl, .inl ⟨_, rfl, rfl⟩⟩ rfl rfl (AOp.eql rfl rfl rfl) ?_
        refine AOps.step rfl rfl rfl (AOp.pickT rfl rfl rfl) (.nil ?_)
        refine AWP.cond rfl (fun h5 => ?_) (fun h5 => ?_)
        · replace h5 := of_decide_eq_true h5
          have HU := up_yes hlt e1 h5
          refine AWP.region ?_
          refine AOps.mD rfl rfl rfl rfl rfl ?_
          refine AOps.aD rfl rfl rfl rfl rfl (.nil ?_)
          refine AWP.region ?_
          refine AOps.step rfl rfl rfl (AOp.add64 rfl rfl rfl (by omega) (by omega)) ?_
          refine AOps.mD rfl rfl rfl rfl rfl (.nil ?_)
          refine ⟨k + 1, (by dsimp only; omega), (by dsimp only; omega), Sub.less ⟨(SLe.of_eq rfl), SLe.refl _, SLe.refl _, (SLe.i64 HU.symm), SLe.refl _, SLe.refl _, SLe.refl _, SLe.refl _, trivial⟩ (cells_sameM rfl)⟩
        replace h5 := of_decide_eq_false h5
        have HU := up_no (l := l) (y := y) hlt (fun hh => h5 hh.2)
        refine AWP.skip ?_
        refine AWP.region ?_
        refine AOps.step rfl rfl rfl (AOp.add64 rfl rfl rfl (by omega) (by omega)) ?_
        refine AOps.mD rfl rfl rfl rfl rfl (.nil ?_)
        refine ⟨k + 1, (by dsimp only; omega), (by dsimp only; omega), Sub.less ⟨(SLe.of_eq rfl), SLe.refl _, SLe.refl _, (SLe.i64 HU.symm), SLe.refl _, SLe.refl _, SLe.refl _, SLe.refl _, trivial⟩ (cells_sameM rfl)⟩
      replace g4 := of_decide_eq_false g4
      have HU := up_no (l := l) (y := y) hlt (fun hh => g4 hh.1)
      refine AOps.pass ⟨30, rfl, .inl ⟨_, rfl, rfl⟩⟩ rfl rfl ?_
      refine AOps.pass ⟨30, rfl, .inl ⟨_, rfl, rfl⟩⟩ rfl rfl ?_
      refine AOps.pass ⟨30, rfl, .inl ⟨_, rfl, rfl⟩⟩ rfl rfl ?_
      refine AOps.pass ⟨30, rfl, .inl ⟨_, rfl, rfl⟩⟩ rfl rfl ?_
      refine AOps.pass ⟨30, rfl, .inl ⟨_, rfl, rfl⟩⟩ rfl rfl ?_
      refine AOps.step rfl rfl rfl (AOp.pickF rfl rfl rfl) (.nil ?_)
      refine AWP.cond rfl (fun h => nomatch h) (fun _ => ?_)
      refine AWP.skip ?_
      refine AWP.region ?_
      refine AOps.step rfl rfl rfl (AOp.add64 rfl rfl rfl (by omega) (by omega)) ?_
      refine AOps.mD rfl rfl rfl rfl rfl (.nil ?_)
      refine ⟨k + 1, (by dsimp only; omega), (by dsimp only; omega), Sub.less ⟨(SLe.of_eq rfl), SLe.refl _, SLe.refl _, (SLe.i64 HU.symm), SLe.refl _, SLe.refl _, SLe.refl _, SLe.refl _, trivial⟩ (cells_sameM rfl)⟩
    replace h3 := of_decide_eq_false h3
    rw [List.length_map] at h3
    obtain rfl : k = l.length := by omega
    refine AWP.exit ?_
    refine AWP.seq ?_
    refine AWP.seq (AWP.region ?_)
    refine AOps.mD rfl rfl rfl rfl rfl ?_
    refine AOps.step rfl rfl rfl (AOp.lss rfl rfl rfl) (.nil ?_)
    refine AWP.cond rfl (fun h6 => ?_) (fun h6 => ?_)
    · replace h6 := of_decide_eq_true h6
      rw [hr, rootA_cor hc h6]
      refine AWP.seq (AWP.region ?_)
      refine AOps.step rfl rfl rfl (AOp.fieldAddrP rfl fo_48_3 rfl) ?_
      refine AOps.step rfl rfl rfl (AOp.loadP rfl sc_3 rfl (.head _) rfl) ?_
      refine AOps.aD rfl rfl rfl rfl rfl (.nil ?_)
      refine AWP.ret ?_
      refine ⟨RetD.eq rfl ?_, trivial⟩
      all_goals (rfl)
    replace h6 := of_decide_eq_false h6
    obtain ⟨u, hu, hue, hur⟩ := rootA_up (d := d) hc (by omega)
    refine AWP.skip ?_
    refine AWP.region ?_
    refine AOps.mD rfl rfl rfl rfl rfl ?_
    refine AOps.mD rfl rfl rfl rfl rfl ?_
    refine AOps.step rfl rfl rfl (AOp.indexAddr rfl et_40 rfl rfl u hue (at_lst hu) rfl) ?_
    refine AOps.step rfl rfl rfl (AOp.loadAgg rfl ag_48 rfl rfl) ?_
    refine AOps.store rfl rfl rfl sz_48 rfl (.head _) rfl rfl rfl (Nat.le_of_ble_eq_true rfl) (.nil ?_)
    refine AWP.region ?_
    refine AOps.step rfl rfl rfl (AOp.add64 rfl rfl rfl (by omega) (by omega)) ?_
    refine AOps.mD rfl rfl rfl rfl rfl (.nil ?_)
    refine ⟨(m + 1, l[u]), ⟨by dsimp only; omega, by dsimp only; rw [hr, hur, show l.length + 1 - (m + 1) = d by omega]⟩, (by dsimp only; omega), Sub.less ⟨(SLe.of_eq rfl), SLe.refl _, SLe.refl _, SLe.refl _, trivial⟩ (cells_sameM rfl)⟩
  replace h1 := of_decide_eq_false h1
  obtain rfl : m = l.length + 1 := by omega
  rw [Nat.sub_self, rootA_0] at hr
  rw [hr]
  refine AWP.exit ?_
  refine AWP.seq (AWP.region ?_)
  refine AOps.step rfl rfl rfl (AOp.fieldAddrP rfl fo_48_1 rfl) ?_
  refine AOps.step rfl rfl rfl (AOp.loadP rfl sc_3 rfl (.head _) rfl) ?_
  refine AOps.aD rfl rfl rfl rfl rfl (.nil ?_)
  refine AWP.ret ?_
  refine ⟨RetD.eq rfl ?_, trivial⟩
  all_goals (rfl)

end Go.Proofs.YtfajemnegkfigaaDoor


namespace Go.Proofs.YtfajemnegkfigaaDoor
open Go.RowKit
set_option linter.unusedVariables false

/-! Types. -/
namespace TyM11
theorem ag_48 : AggT Tryd.prog 48 5 := .of (by kernel_rfl)
theorem et_40 : ElemTy Tryd.prog 40 48 5 64 (.agg #[(.string ⟨#[]⟩), (.int .i64 0), (.int .i64 0), (.int .i64 0), (.slice none 0 0)]) := ⟨by kernel_rfl, by kernel_rfl, by kernel_rfl, by decide⟩
theorem fo_48_0 : fieldOff Tryd.prog 48 0 = some 0 := by kernel_rfl
theorem sc_9 : Scal Tryd.prog 9 := .of (by kernel_rfl)
theorem sz_48 : ∀ w, (sizeOf 48).run Tryd.prog w = .ok 5 w := SizeT.of (by kernel_rfl)
theorem zt_48 : (Tryd.prog.info? 48).bind (·.zero) = some (.agg #[(.string ⟨#[]⟩), (.int .i64 0), (.int .i64 0), (.int .i64 0), (.slice none 0 0)]) := by kernel_rfl
end TyM11
open TyM11


theorem drop_ds {l : List Rpt} (m : Nat) : (l.map Rpt.ds).drop m = (l.drop m).map Rpt.ds := (List.map_drop).symm


set_option maxRecDepth 100000 in
set_option maxHeartbeats 4000000 in
theorem c_rVal (l : List Rpt) (hll : l.length ≤ 300) : ACall Tryd.prog 58 [.sl (l.map Rpt.ds)] (.sl ((outV l l.length).map Rpt.ds)) := by
  refine acall_of (n := 47) (ds' := [.sl ((outV l l.length).map Rpt.ds)]) Tryd.func58 rfl (by kernel_rfl) rfl [2] rfl rfl ?_
  intro B w0 F0 fr
  refine AWP.seq (AWP.region ?_)
  refine AOps.aD rfl rfl rfl rfl rfl (.nil ?_)
  refine AWP.seq (AWP.region ?_)
  refine AOps.aD rfl rfl rfl rfl rfl (.nil ?_)
  refine AWP.seq ?_
  refine AWP.seq (AWP.region ?_)
  refine AOps.mD rfl rfl rfl rfl rfl ?_
  refine AOps.step rfl rfl rfl (AOp.lenSl rfl et_40.ht rfl) ?_
  refine AOps.mD rfl rfl rfl rfl rfl (.nil ?_)
  refine AWP.block ?_
  refine AWP.adopt 3 61 48 5 rfl rfl ?_
  refine AWP.loop (G := Nat) (fun k => Env.of [(11, .d (.v (.int .i64 (k : Int)))), (9, .d (.sl (l.map Rpt.ds))), (10, .d (.v (.int .i64 ((l.map Rpt.ds).length : Int)))), (0, .d (.sl (l.map Rpt.ds))), (3, .own 61)]) (fun k => [(61, .row 48 5 ((outV l k).map Rpt.ds))]) (fun k => k ≤ l.length) (fun k => l.length - k) 0 (Nat.zero_le _) (Sub.less ⟨(SLe.of_eq rfl), SLe.refl _, SLe.refl _, SLe.refl _, SLe.refl _, trivial⟩ (row_sameM rfl)) ?_
  intro k hk
  refine AWP.seq (AWP.region ?_)
  refine AOps.step rfl rfl rfl (AOp.lss rfl rfl rfl) (.nil ?_)
  refine AWP.seq ?_
  refine AWP.cond rfl (fun h1 => ?_) (fun h1 => ?_)
  · replace h1 := of_decide_eq_true h1
    rw [List.length_map] at h1
    have hlt : k < l.length := by omega
    have hol := outV_len l k
    refine AWP.skip ?_
    refine AWP.seq ?_
    refine AWP.block ?_
    refine AWP.seq (AWP.region ?_)
    refine AOps.mD rfl rfl rfl rfl rfl ?_
    refine AOps.step rfl rfl rfl (AOp.indexAddr rfl et_40 rfl rfl k rfl (at_lst hlt) rfl) ?_
    refine AOps.step rfl rfl rfl (AOp.loadAgg rfl ag_48 rfl rfl) ?_
    refine AOps.alloc 101 rfl rfl rfl rfl zt_48 rfl rfl rfl ?_
    refine AOps.aD rfl rfl rfl rfl rfl ?_
    refine AOps.store rfl rfl rfl sz_48 rfl (.head _) rfl rfl rfl (Nat.le_of_ble_eq_true rfl) ?_
    refine AOps.freezeCells 5 (ds := l[k].ds) rfl (.head _) (.nil ?_)
    refine AWP.seq (AWP.region ?_)
    refine AOps.aD rfl rfl rfl rfl rfl (.nil ?_)
    refine AWP.seq ?_
    refine AWP.seq (AWP.region ?_)
    refine AOps.mD rfl rfl rfl rfl rfl ?_
    refine AOps.mD rfl rfl rfl rfl rfl ?_
    refine AOps.step rfl rfl rfl (AOp.add64 rfl rfl rfl (by omega) (by omega)) ?_
    refine AOps.step rfl rfl rfl (AOp.sliceL rfl et_40 rfl rfl (by omega) (by rw [List.length_map]; omega) (fun y hy => by obtain ⟨r, _, rfl⟩ := List.mem_map.1 hy; rfl)) ?_
    rw [show ((k : Int) + 1).toNat = k + 1 by omega, drop_ds]
    refine AOps.step rfl rfl rfl (AOp.lenSl rfl et_40.ht rfl) ?_
    refine AOps.mD rfl rfl rfl rfl rfl (.nil ?_)
    refine AWP.block ?_
    refine AWP.loop (G := Nat) (fun j => Env.of [(21, .d (.v (.int .i64 (j : Int)))), (19, .d (.sl ((l.drop (k + 1)).map Rpt.ds))), (20, .d (.v (.int .i64 (((l.drop (k + 1)).map Rpt.ds).length : Int)))), (6, .d (.v (.bool (okI l k j)))), (5, .d (.fp l[k].ds)), (11, .d (.v (.int .i64 (k : Int)))), (9, .d (.sl (l.map Rpt.ds))), (10, .d (.v (.int .i64 ((l.map Rpt.ds).length : Int)))), (0, .d (.sl (l.map Rpt.ds))), (3, .own 61)]) (fun j => [(61, .row 48 5 ((outV l k).map Rpt.ds))]) (fun j => j ≤ l.length - (k + 1)) (fun j => l.length - (k + 1) - j) 0 (Nat.zero_le _) (Sub.less ⟨(SLe.of_eq rfl), SLe.refl _, SLe.refl _, (SLe.of_eq rfl), SLe.refl _, SLe.refl _, SLe.refl _, SLe.refl _, SLe.refl _, SLe.refl _, trivial⟩ (row_sameM rfl)) ?_
    intro j hj
    refine AWP.seq (AWP.region ?_)
    refine AOps.step rfl rfl rfl (AOp.lss rfl rfl rfl) (.nil ?_)
    refine AWP.seq ?_
    refine AWP.cond rfl (fun h2 => ?_) (fun h2 => ?_)
    · replace h2 := of_decide_eq_true h2
      rw [List.length_map, List.length_drop] at h2
      have hjl : k + 1 + j < l.length := by omega
      have hsg := sg_at (l := l) hlt hjl
      have hnx := okI_next l k j
      rw [hsg] at hnx
      refine AWP.skip ?_
      refine AWP.seq ?_
      refine AWP.block ?_
      refine AWP.seq (AWP.region ?_)
      refine AOps.step rfl rfl rfl (AOp.indexAddr rfl et_40 rfl rfl j rfl (at_drop hjl) rfl) ?_
      refine AOps.step rfl rfl rfl (AOp.loadAgg rfl ag_48 rfl rfl) ?_
      refine AOps.alloc 102 rfl rfl rfl rfl zt_48 rfl rfl rfl ?_
      refine AOps.store rfl rfl rfl sz_48 rfl (.head _) rfl rfl rfl (Nat.le_of_ble_eq_true rfl) ?_
      refine AOps.freezeCells 8 (ds := l[k + 1 + j].ds) rfl (.head _) (.nil ?_)
      refine AWP.seq ?_
      refine AWP.draw (by kernel_rfl) (by kernel_rfl) ?_
      refine DRun.step rfl rfl rfl (AOp.fieldAddr rfl fo_48_0 rfl) ?_
      refine DRun.step rfl rfl rfl (AOp.load rfl sc_9 rfl) ?_
      refine DRun.step rfl rfl rfl (AOp.fieldAddr rfl fo_48_0 rfl) ?_
      refine DRun.step rfl rfl rfl (AOp.load rfl sc_9 rfl) ?_
      refine DRun.step rfl rfl rfl (AOp.seql rfl rfl rfl) ?_
      refine DRun.step rfl rfl rfl (AOp.moveD rfl rfl) ?_
      refine DRun.split 30 rfl (fun g3 => ?_) (fun g3 => ?_)
      · replace g3 := of_decide_eq_true g3
        have e1 := g3
        refine DRun.step ⟨30, rfl, .inl ⟨_, rfl, rfl⟩⟩ rfl rfl (AOp.moveD rfl rfl) ?_
        refine DRun.step ⟨30, rfl, .inl ⟨_, rfl, rfl⟩⟩ rfl rfl (AOp.loadAgg rfl ag_48 rfl rfl) ?_
        refine DRun.step ⟨30, rfl, .inl ⟨_, rfl, rfl⟩⟩ rfl rfl (AOp.call rfl (.cons (ArgOk.rfl' rfl) (.cons (ArgOk.rfl' rfl) .nil)) (c_root l _ hll)) ?_
        refine DRun.step ⟨30, rfl, .inl ⟨_, rfl, rfl⟩⟩ rfl rfl (AOp.moveD rfl rfl) ?_
        refine DRun.step ⟨30, rfl, .inl ⟨_, rfl, rfl⟩⟩ rfl rfl (AOp.loadAgg rfl ag_48 rfl rfl) ?_
        refine DRun.step ⟨30, rfl, .inl ⟨_, rfl, rfl⟩⟩ rfl rfl (AOp.call rfl (.cons (ArgOk.rfl' rfl) (.cons (ArgOk.rfl' rfl) .nil)) (c_root l _ hll)) ?_
        refine DRun.step ⟨30, rfl, .inl ⟨_, rfl, rfl⟩⟩ rfl rfl (AOp.eql rfl rfl rfl) ?_
        refine DRun.step rfl rfl rfl (AOp.pickT rfl rfl rfl) ?_
        refine DRun.nil ?_
        refine AWP.cond rfl (fun h4 => ?_) (fun h4 => ?_)
        · replace h4 := of_decide_eq_true h4
          have HU : okI l k (j + 1) = false := by rw [hnx, decide_eq_true e1, decide_eq_true h4]; simp
          refine AWP.region ?_
          refine AOps.aD rfl rfl rfl rfl rfl (.nil ?_)
          refine AWP.region ?_
          refine AOps.step rfl rfl rfl (AOp.add64 rfl rfl rfl (by omega) (by omega)) ?_
          refine AOps.mD rfl rfl rfl rfl rfl (.nil ?_)
          refine ⟨j + 1, (by dsimp only; omega), (by dsimp only; omega), Sub.less ⟨(SLe.of_eq rfl), SLe.refl _, SLe.refl _, (SLe.of_eq (by rw [HU]; rfl)), SLe.refl _, SLe.refl _, SLe.refl _, SLe.refl _, SLe.refl _, SLe.refl _, trivial⟩ (row_sameM rfl)⟩
        replace h4 := of_decide_eq_false h4
        have HU : okI l k (j + 1) = okI l k j := by rw [hnx, decide_eq_false h4]; simp
        refine AWP.skip ?_
        refine AWP.region ?_
        refine AOps.step rfl rfl rfl (AOp.add64 rfl rfl rfl (by omega) (by omega)) ?_
        refine AOps.mD rfl rfl rfl rfl rfl (.nil ?_)
        refine ⟨j + 1, (by dsimp only; omega), (by dsimp only; omega), Sub.less ⟨(SLe.of_eq rfl), SLe.refl _, SLe.refl _, (SLe.of_eq (by rw [HU]; rfl)), SLe.refl _, SLe.refl _, SLe.refl _, SLe.refl _, SLe.refl _, SLe.refl _, trivial⟩ (row_sameM rfl)⟩
      replace g3 := of_decide_eq_false g3
      have HU : okI l k (j + 1) = okI l k j := by rw [hnx, decide_eq_false g3]; simp
      refine DRun.pass ⟨30, rfl, .inl ⟨_, rfl, rfl⟩⟩ rfl rfl ?_
      refine DRun.pass ⟨30, rfl, .inl ⟨_, rfl, rfl⟩⟩ rfl rfl ?_
      refine DRun.pass ⟨30, rfl, .inl ⟨_, rfl, rfl⟩⟩ rfl rfl ?_
      refine DRun.pass ⟨30, rfl, .inl ⟨_, rfl, rfl⟩⟩ rfl rfl ?_
      refine DRun.pass ⟨30, rfl, .inl ⟨_, rfl, rfl⟩⟩ rfl rfl ?_
      refine DRun.pass ⟨30, rfl, .inl ⟨_, rfl, rfl⟩⟩ rfl rfl ?_
      refine DRun.pass ⟨30, rfl, .inl ⟨_, rfl, rfl⟩⟩ rfl rfl ?_
      refine DRun.step rfl rfl rfl (AOp.pickF rfl rfl rfl) ?_
      refine DRun.nil ?_
      refine AWP.cond rfl (fun h => nomatch h) (fun _ => ?_)
      refine AWP.skip ?_
      refine AWP.region ?_
      refine AOps.step rfl rfl rfl (AOp.add64 rfl rfl rfl (by omega) (by omega)) ?_
      refine AOps.mD rfl rfl rfl rfl rfl (.nil ?_)
      refine ⟨j + 1, (by dsimp only; omega), (by dsimp only; omega), Sub.less ⟨(SLe.of_eq rfl), SLe.refl _, SLe.refl _, (SLe.of_eq (by rw [HU]; rfl)), SLe.refl _, SLe.refl _, SLe.refl _, SLe.refl _, SLe.refl _, SLe.refl _, trivial⟩ (row_sameM rfl)⟩
    replace h2 := of_decide_eq_false h2
    rw [List.length_map, List.length_drop] at h2
    obtain rfl : j = l.length - (k + 1) := by omega
    refine AWP.exit ?_
    refine AWP.seq (AWP.region ?_)
    refine AOps.mD rfl rfl rfl rfl rfl (.nil ?_)
    refine AWP.cond rfl (fun h5 => ?_) (fun h5 => ?_)
    · skip
      have HN := outV_yes hlt h5
      refine AWP.region ?_
      refine AOps.step rfl rfl rfl (AOp.moveO rfl rfl) ?_
      refine AOps.step rfl rfl rfl (AOp.loadAgg rfl ag_48 rfl rfl) ?_
      refine AOps.step rfl rfl rfl (AOp.buildSlice rfl et_40 (.cons rfl rfl rfl .nil) rfl (by decide)) ?_
      -- append 44
      refine AOps.append rfl rfl rfl rfl et_40 rfl (.head _) rfl (fun y hy => by obtain rfl := List.mem_singleton.1 hy; rfl) (by simp; omega) (by simp; omega) ?_
      refine AOps.step rfl rfl rfl (AOp.assignO rfl rfl) (.nil ?_)
      refine AWP.region ?_
      refine AOps.step rfl rfl rfl (AOp.add64 rfl rfl rfl (by omega) (by omega)) ?_
      refine AOps.mD rfl rfl rfl rfl rfl (.nil ?_)
      refine ⟨k + 1, (by omega), (by dsimp only; omega), Sub.less ⟨(SLe.of_eq rfl), SLe.refl _, SLe.refl _, SLe.refl _, SLe.refl _, trivial⟩ (row_sameM (by rw [HN]; first | done | rfl))⟩
    have HN := outV_no (l := l) (k := k) h5
    refine AWP.skip ?_
    refine AWP.region ?_
    refine AOps.step rfl rfl rfl (AOp.add64 rfl rfl rfl (by omega) (by omega)) ?_
    refine AOps.mD rfl rfl rfl rfl rfl (.nil ?_)
    refine ⟨k + 1, (by omega), (by dsimp only; omega), Sub.less ⟨(SLe.of_eq rfl), SLe.refl _, SLe.refl _, SLe.refl _, SLe.refl _, trivial⟩ (row_sameM (by rw [HN]; first | done | rfl))⟩
  replace h1 := of_decide_eq_false h1
  rw [List.length_map] at h1
  obtain rfl : k = l.length := by omega
  refine AWP.exit ?_
  refine AWP.seq (AWP.region ?_)
  refine AOps.step rfl rfl rfl (AOp.moveO rfl rfl) ?_
  refine AOps.step rfl rfl rfl (AOp.assignO rfl rfl) (.nil ?_)
  refine AWP.ret ?_
  refine ⟨RetD.own rfl (.head _) ?_, trivial⟩
  all_goals (rfl)

set_option maxRecDepth 100000 in
set_option maxHeartbeats 1000000 in
theorem c_rValid (l : List Rpt) (ho : ∀ x ∈ l, okRpt x) : ACallT Tryd.prog MaxT 23 [.sl (l.map Rpt.ds)] (.tup [.sl ((valR l).map Rpt.ds), .v (.int .i64 (logF l))]) := by
  refine acall_ofT (n := 12) (ds' := [.sl ((valR l).map Rpt.ds), .v (.int .i64 (logF l))]) Tryd.func23 rfl (by kernel_rfl) rfl [2, 3] rfl rfl ?_
  intro B w0 F0 hT
  refine AWP.seq (AWP.region ?_)
  refine AOps.aD rfl rfl rfl rfl rfl ?_
  refine AOps.aD rfl rfl rfl rfl rfl (.nil ?_)
  refine AWP.seq ?_
  refine AWP.seq (AWP.region ?_)
  refine AOps.mD rfl rfl rfl rfl rfl ?_
  -- wants the world
  refine AOps.callT rfl rfl rfl hT maxT_stays rfl (.cons (ArgOk.rfl' rfl) .nil) (c_rLog l ho) ?_
  refine AOps.aD rfl rfl rfl rfl rfl (.nil ?_)
  refine AWP.seq (AWP.region ?_)
  refine AOps.mD rfl rfl rfl rfl rfl ?_
  refine AOps.step rfl rfl rfl (AOp.neq rfl rfl rfl) (.nil ?_)
  refine AWP.cond rfl (fun h1 => ?_) (fun h1 => ?_)
  · replace h1 := of_decide_eq_true h1
    have HV : valR l = [] := if_neg h1
    rw [HV]
    refine AWP.seq (AWP.region ?_)
    refine AOps.mD rfl rfl rfl rfl rfl ?_
    refine AOps.aD rfl rfl rfl rfl rfl ?_
    refine AOps.aD rfl rfl rfl rfl rfl (.nil ?_)
    refine AWP.ret ?_
    refine ⟨RetD.nil rfl, RetD.eq rfl ?_, trivial⟩
    all_goals (rfl)
  replace h1 := of_decide_eq_false h1
  have h0 : logF l = 0 := by omega
  have hl := log_of h0
  have hll := hl.len
  have HV : valR l = validR l := if_pos h0
  rw [HV, h0, ← out_eq hl]
  refine AWP.skip ?_
  refine AWP.seq (AWP.region ?_)
  refine AOps.mD rfl rfl rfl rfl rfl ?_
  refine AOps.step rfl rfl rfl (AOp.call rfl (.cons (ArgOk.rfl' rfl) .nil) (c_rVal l hll)) ?_
  refine AOps.aD rfl rfl rfl rfl rfl ?_
  refine AOps.aD rfl rfl rfl rfl rfl (.nil ?_)
  refine AWP.ret ?_
  refine ⟨RetD.eq rfl ?_, RetD.eq rfl ?_, trivial⟩
  all_goals (rfl)

end Go.Proofs.YtfajemnegkfigaaDoor


namespace Go.Proofs.YtfajemnegkfigaaDoor
open Go.RowKit
set_option linter.unusedVariables false

/-! Types. -/
namespace TyM12
theorem ag_48 : AggT Tryd.prog 48 5 := .of (by kernel_rfl)
theorem et_40 : ElemTy Tryd.prog 40 48 5 64 (.agg #[(.string ⟨#[]⟩), (.int .i64 0), (.int .i64 0), (.int .i64 0), (.slice none 0 0)]) := ⟨by kernel_rfl, by kernel_rfl, by kernel_rfl, by decide⟩
theorem sz_48 : ∀ w, (sizeOf 48).run Tryd.prog w = .ok 5 w := SizeT.of (by kernel_rfl)
theorem zt_48 : (Tryd.prog.info? 48).bind (·.zero) = some (.agg #[(.string ⟨#[]⟩), (.int .i64 0), (.int .i64 0), (.int .i64 0), (.slice none 0 0)]) := by kernel_rfl
end TyM12
open TyM12

set_option maxRecDepth 100000 in
set_option maxHeartbeats 4000000 in
theorem lawLogs (a b : List Rpt) (ha : ∀ x ∈ a, okRpt x) (hb : ∀ x ∈ b, okRpt x) : ACallT Tryd.prog MaxT 5 [.sl (a.map Rpt.ds), .sl (b.map Rpt.ds)] (.v (.bool true)) := by
  refine acall_ofT (n := 72) (ds' := [.v (.bool true)]) Tryd.func5 rfl (by kernel_rfl) rfl [4] rfl rfl ?_
  intro B w0 F0 hT
  refine AWP.seq (AWP.region ?_)
  refine AOps.aD rfl rfl rfl rfl rfl (.nil ?_)
  refine AWP.seq ?_
  refine AWP.seq (AWP.region ?_)
  refine AOps.mD rfl rfl rfl rfl rfl ?_
  refine AOps.step rfl rfl rfl (AOp.lenSl rfl et_40.ht rfl) ?_
  refine AOps.mD rfl rfl rfl rfl rfl (.nil ?_)
  refine AWP.block ?_
  refine AWP.bound 11 rfl (fun hbd => ?_)
  rw [List.length_map] at hbd
  refine AWP.loop (G := Nat) (fun k => Env.of [(13, .d (.v (.int .i64 (k : Int)))), (11, .d (.sl (a.map Rpt.ds))), (12, .d (.v (.int .i64 ((a.map Rpt.ds).length : Int)))), (0, .d (.sl (a.map Rpt.ds))), (1, .d (.sl (b.map Rpt.ds)))]) (fun k => []) (fun k => k ≤ a.length) (fun k => a.length - k) 0 (Nat.zero_le _) (Sub.less ⟨(SLe.of_eq rfl), SLe.refl _, SLe.refl _, SLe.refl _, SLe.refl _, trivial⟩ (fun _ h => h)) ?_
  intro k hk
  refine AWP.seq (AWP.region ?_)
  refine AOps.step rfl rfl rfl (AOp.lss rfl rfl rfl) (.nil ?_)
  refine AWP.seq ?_
  refine AWP.cond rfl (fun h1 => ?_) (fun h1 => ?_)
  · replace h1 := of_decide_eq_true h1
    rw [List.length_map] at h1
    have hlt : k < a.length := by omega
    have hak := ha _ (List.getElem_mem hlt)
    refine AWP.skip ?_
    refine AWP.seq ?_
    refine AWP.block ?_
    refine AWP.seq (AWP.region ?_)
    refine AOps.step rfl rfl rfl (AOp.indexAddr rfl et_40 rfl rfl k rfl (at_lst hlt) rfl) ?_
    refine AOps.step rfl rfl rfl (AOp.loadAgg rfl ag_48 rfl rfl) ?_
    refine AOps.alloc 101 rfl rfl rfl rfl zt_48 rfl rfl rfl ?_
    refine AOps.store rfl rfl rfl sz_48 rfl (.head _) rfl rfl rfl (Nat.le_of_ble_eq_true rfl) ?_
    refine AOps.freezeCells 6 (ds := a[k].ds) rfl (.head _) (.nil ?_)
    refine AWP.seq ?_
    refine AWP.drawK (by kernel_rfl) (by kernel_rfl) ?_
    refine KRun.step rfl rfl rfl (AOp.toK (AOp.loadAgg rfl ag_48 rfl rfl)) ?_
    refine KRun.step rfl rfl rfl (AOpK.callT maxT_stays rfl hT rfl (.cons (ArgOk.rfl' rfl) .nil) (c_pRpt a[k] hak)) ?_
    refine KRun.step rfl rfl rfl (AOp.toK (AOp.loadAgg rfl ag_48 rfl rfl)) ?_
    refine KRun.step rfl rfl rfl (AOpK.callT maxT_stays rfl hT rfl (.cons (ArgOk.rfl' rfl) .nil) (c_rRpt a[k] hak)) ?_
    refine KRun.step rfl rfl rfl (AOp.toK (AOp.neq rfl rfl rfl)) ?_
    refine KRun.nil ?_
    refine AWP.cond rfl (fun h2 => ?_) (fun h2 => ?_)
    · replace h2 := of_decide_eq_true h2
      exact absurd rfl h2
    replace h2 := of_decide_eq_false h2
    refine AWP.skip ?_
    refine AWP.region ?_
    refine AOps.step rfl rfl rfl (AOp.add64 rfl rfl rfl (by omega) (by omega)) ?_
    refine AOps.mD rfl rfl rfl rfl rfl (.nil ?_)
    refine ⟨k + 1, (by omega), (by dsimp only; omega), Sub.less ⟨(SLe.of_eq rfl), SLe.refl _, SLe.refl _, SLe.refl _, SLe.refl _, trivial⟩ (fun _ h => h)⟩
  replace h1 := of_decide_eq_false h1
  rw [List.length_map] at h1
  obtain rfl : k = a.length := by omega
  refine AWP.exit ?_
  refine AWP.seq (AWP.region ?_)
  refine AOps.mD rfl rfl rfl rfl rfl ?_
  refine AOps.mD rfl rfl rfl rfl rfl ?_
  -- wants the world
  refine AOps.callT rfl rfl rfl hT maxT_stays rfl (.cons (ArgOk.rfl' rfl) (.cons (ArgOk.rfl' rfl) .nil)) (c_pJoin a b ha hb) ?_
  refine AOps.mD rfl rfl rfl rfl rfl ?_
  refine AOps.step rfl rfl rfl (AOp.extract rfl rfl rfl) ?_
  refine AOps.step rfl rfl rfl (AOp.extract rfl rfl rfl) ?_
  refine AOps.aD rfl rfl rfl rfl rfl ?_
  refine AOps.aD rfl rfl rfl rfl rfl (.nil ?_)
  refine AWP.seq (AWP.region ?_)
  refine AOps.mD rfl rfl rfl rfl rfl ?_
  refine AOps.mD rfl rfl rfl rfl rfl ?_
  -- wants the world
  refine AOps.callT rfl rfl rfl hT maxT_stays rfl (.cons (ArgOk.rfl' rfl) (.cons (ArgOk.rfl' rfl) .nil)) (c_rJoin a b ha hb) ?_
  refine AOps.mD rfl rfl rfl rfl rfl ?_
  refine AOps.step rfl rfl rfl (AOp.extract rfl rfl rfl) ?_
  refine AOps.step rfl rfl rfl (AOp.extract rfl rfl rfl) ?_
  refine AOps.aD rfl rfl rfl rfl rfl ?_
  refine AOps.aD rfl rfl rfl rfl rfl (.nil ?_)
  refine AWP.seq ?_
  refine AWP.seq (AWP.region ?_)
  refine AOps.mD rfl rfl rfl rfl rfl ?_
  -- wants the world
  refine AOps.callT rfl rfl rfl hT maxT_stays rfl (.cons (ArgOk.rfl' rfl) .nil) (c_pLog a ha) ?_
  refine AOps.mD rfl rfl rfl rfl rfl ?_
  -- wants the world
  refine AOps.callT rfl rfl rfl hT maxT_stays rfl (.cons (ArgOk.rfl' rfl) .nil) (c_rLog a ha) ?_
  refine AOps.step rfl rfl rfl (AOp.neq rfl rfl rfl) ?_
  refine AOps.mD rfl rfl rfl rfl rfl ?_
  refine AOps.split 40 rfl (fun g3 => ?_) (fun g3 => ?_)
  · replace g3 := of_decide_eq_true g3
    exact absurd rfl g3
  replace g3 := of_decide_eq_false g3
  refine AOps.step ⟨40, rfl, .inl ⟨_, rfl, rfl⟩⟩ rfl rfl (AOp.moveD rfl rfl) ?_
  refine AOps.step ⟨40, rfl, .inl ⟨_, rfl, rfl⟩⟩ rfl rfl (AOp.moveD rfl rfl) ?_
  refine AOps.step ⟨40, rfl, .inl ⟨_, rfl, rfl⟩⟩ rfl rfl (AOp.neq rfl rfl rfl) ?_
  refine AOps.step rfl rfl rfl (AOp.pickF rfl rfl rfl) ?_
  refine AOps.mD rfl rfl rfl rfl rfl ?_
  refine AOps.split 45 rfl (fun g4 => ?_) (fun g4 => ?_)
  · replace g4 := of_decide_eq_true g4
    exact absurd rfl g4
  replace g4 := of_decide_eq_false g4
  refine AOps.step ⟨45, rfl, .inl ⟨_, rfl, rfl⟩⟩ rfl rfl (AOp.moveD rfl rfl) ?_
  refine AOps.step ⟨45, rfl, .inl ⟨_, rfl, rfl⟩⟩ rfl rfl (AOp.moveD rfl rfl) ?_
  refine AOps.step ⟨45, rfl, .inl ⟨_, rfl, rfl⟩⟩ rfl rfl (AOp.call rfl (.cons (ArgOk.rfl' rfl) (.cons (ArgOk.rfl' rfl) .nil)) (c_sameL _ _)) ?_
  refine AOps.step ⟨45, rfl, .inl ⟨_, rfl, rfl⟩⟩ rfl rfl (AOp.not rfl rfl) ?_
  refine AOps.step rfl rfl rfl (AOp.pickF rfl rfl rfl) (.nil ?_)
  refine AWP.cond rfl (fun h5 => ?_) (fun h5 => ?_)
  · replace h5 := bnot_t h5; replace h5 := of_decide_eq_false h5
    exact absurd rfl h5
  replace h5 := bnot_f h5; replace h5 := of_decide_eq_true h5
  refine AWP.skip ?_
  refine AWP.seq (AWP.region ?_)
  refine AOps.mD rfl rfl rfl rfl rfl ?_
  -- wants the world
  refine AOps.callT rfl rfl rfl hT maxT_stays rfl (.cons (ArgOk.rfl' rfl) .nil) (c_pValid a ha) ?_
  refine AOps.mD rfl rfl rfl rfl rfl ?_
  refine AOps.step rfl rfl rfl (AOp.extract rfl rfl rfl) ?_
  refine AOps.step rfl rfl rfl (AOp.extract rfl rfl rfl) ?_
  refine AOps.aD rfl rfl rfl rfl rfl ?_
  refine AOps.aD rfl rfl rfl rfl rfl (.nil ?_)
  refine AWP.seq (AWP.region ?_)
  refine AOps.mD rfl rfl rfl rfl rfl ?_
  -- wants the world
  refine AOps.callT rfl rfl rfl hT maxT_stays rfl (.cons (ArgOk.rfl' rfl) .nil) (c_rValid a ha) ?_
  refine AOps.mD rfl rfl rfl rfl rfl ?_
  refine AOps.step rfl rfl rfl (AOp.extract rfl rfl rfl) ?_
  refine AOps.step rfl rfl rfl (AOp.extract rfl rfl rfl) ?_
  refine AOps.aD rfl rfl rfl rfl rfl ?_
  refine AOps.aD rfl rfl rfl rfl rfl (.nil ?_)
  refine AWP.seq (AWP.region ?_)
  refine AOps.mD rfl rfl rfl rfl rfl ?_
  refine AOps.mD rfl rfl rfl rfl rfl ?_
  refine AOps.step rfl rfl rfl (AOp.eql rfl rfl rfl) ?_
  refine AOps.mD rfl rfl rfl rfl rfl ?_
  refine AOps.split 64 rfl (fun g6 => ?_) (fun g6 => ?_)
  · replace g6 := of_decide_eq_true g6
    refine AOps.step ⟨64, rfl, .inl ⟨_, rfl, rfl⟩⟩ rfl rfl (AOp.moveD rfl rfl) ?_
    refine AOps.step ⟨64, rfl, .inl ⟨_, rfl, rfl⟩⟩ rfl rfl (AOp.moveD rfl rfl) ?_
    refine AOps.step ⟨64, rfl, .inl ⟨_, rfl, rfl⟩⟩ rfl rfl (AOp.call rfl (.cons (ArgOk.rfl' rfl) (.cons (ArgOk.rfl' rfl) .nil)) (c_sameL _ _)) ?_
    refine AOps.step rfl rfl rfl (AOp.pickT rfl rfl rfl) ?_
    refine AOps.mD rfl rfl rfl rfl rfl ?_
    refine AOps.split 69 rfl (fun g7 => ?_) (fun g7 => ?_)
    · replace g7 := of_decide_eq_true g7
      refine AOps.step ⟨69, rfl, .inl ⟨_, rfl, rfl⟩⟩ rfl rfl (AOp.call rfl .nil c_awake) ?_
      refine AOps.step rfl rfl rfl (AOp.pickT rfl rfl rfl) ?_
      refine AOps.aD rfl rfl rfl rfl rfl (.nil ?_)
      refine AWP.ret ?_
      refine ⟨RetD.eq rfl ?_, trivial⟩
      all_goals (first | rfl | simp)
    replace g7 := of_decide_eq_false g7
    exact absurd rfl g7
  replace g6 := of_decide_eq_false g6
  exact absurd rfl g6

end Go.Proofs.YtfajemnegkfigaaDoor
