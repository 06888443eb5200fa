/- Walks and laws over abstract values, merged by tools/merge.py. No statement of the seat. -/
import Derived.Shelf.Spec.SlicesInsertGrow
import Derived.Deep.RegionLaw
import Derived.Laws.NewBlocks
import Derived.Test.YtieccphckobhjaaDoorXJ6

namespace Go.Proofs.YtieccphckobhjaaDoor
open Go.RowKit
set_option linter.unusedVariables false

/-! Types. -/
namespace TyW11
theorem ag_26 : AggT Tryd.prog 26 3 := .of (by kernel_rfl)
theorem ag_77 : AggT Tryd.prog 77 7 := .of (by kernel_rfl)
theorem et_24 : ElemTy Tryd.prog 24 77 7 96 (.agg #[(.string ⟨#[]⟩), (.string ⟨#[]⟩), (.string ⟨#[]⟩), (.int .i64 0), (.int .i64 0), (.int .i64 0), (.slice none 0 0)]) := ⟨by kernel_rfl, by kernel_rfl, by kernel_rfl, by decide⟩
theorem et_75 : ElemTy Tryd.prog 75 3 1 8 (.int .i64 0) := ⟨by kernel_rfl, by kernel_rfl, by kernel_rfl, by decide⟩
theorem fo_28_5 : fieldOff Tryd.prog 28 5 = some 5 := by kernel_rfl
theorem fo_77_5 : fieldOff Tryd.prog 77 5 = some 5 := by kernel_rfl
theorem fo_77_6 : fieldOff Tryd.prog 77 6 = some 6 := by kernel_rfl
theorem sc_3 : Scal Tryd.prog 3 := .of (by kernel_rfl)
theorem sc_75 : Scal Tryd.prog 75 := .of (by kernel_rfl)
theorem sz_77 : ∀ w, (sizeOf 77).run Tryd.prog w = .ok 7 w := SizeT.of (by kernel_rfl)
theorem zt_77 : (Tryd.prog.info? 77).bind (·.zero) = some (.agg #[(.string ⟨#[]⟩), (.string ⟨#[]⟩), (.string ⟨#[]⟩), (.int .i64 0), (.int .i64 0), (.int .i64 0), (.slice none 0 0)]) := by kernel_rfl
end TyW11
open TyW11


def zCpyD : List D := [.v (.string ⟨#[]⟩), .v (.string ⟨#[]⟩), .v (.string ⟨#[]⟩), .v (.int .i64 0), .v (.int .i64 0), .v (.int .i64 0), .v (.slice none 0 0)]
def genO : Option Cpy → Int
  | none => 0
  | some c => c.gen
def bestD : Option Cpy → List D
  | none => zCpyD
  | some c => c.ds
def srcP (b : Option Cpy) (c : Cpy) : Option Cpy := if (decide ((c.bad.length : Int) = 0) && (decide (genO b = 0) || decide (c.gen < genO b))) = true then some c else b
def srcO (v : Vlt) (it : ByteArray) (k : Nat) : Option Cpy := ((copiesOf v it).take k).foldl srcP none
theorem srcO_next {v : Vlt} {it : ByteArray} {k : Nat} (h : k < (copiesOf v it).length) : srcO v it (k + 1) = srcP (srcO v it k) (copiesOf v it)[k] := by
  unfold srcO
  rw [List.take_add_one, List.getElem?_eq_getElem h, Option.toList_some, List.foldl_append]
  rfl
theorem bestD_len (b : Option Cpy) : ((bestD b).map S.d).length = 7 := by cases b <;> rfl
theorem bestD_gen (b : Option Cpy) : ((bestD b).map S.d)[5]? = some (.d (.v (.int .i64 (genO b)))) := by cases b <;> rfl
theorem best_store (b : Option Cpy) (c : Cpy) : ((bestD b).map S.d).take 0 ++ (D.agg c.ds).parts.map S.d ++ ((bestD b).map S.d).drop (0 + 7) = (bestD (some c)).map S.d := by cases b <;> rfl
theorem cells_mem {i j : Nat} {a b : List S} {x : Ob} {τ : Obs} (h : a = b) : ∀ p ∈ [(i, Ob.cells b), (j, x)], p ∈ (i, Ob.cells a) :: (j, x) :: τ := fun p hp => by
  subst h
  rcases List.mem_cons.1 hp with rfl | hp
  · exact .head _
  · rw [List.mem_singleton] at hp; subst hp; exact .tail _ (.head _)


set_option maxRecDepth 100000 in
set_option maxHeartbeats 1000000 in
theorem c_source0 (v : Vlt) (it : ByteArray) (p : Pol) (hn : v.copies.length ≤ 200) (hso : srcO v it (copiesOf v it).length = none) : ACall Tryd.prog 69 [.agg v.ds, .v (.string it), .agg p.ds] (.tup [.agg zCpyD, .v (.bool (false))]) := by
  refine acall_ofR (n := 48) (ds' := [.agg zCpyD, .v (.bool (false))]) Tryd.func69 rfl (by kernel_rfl) rfl [.cell 6 77, .tmp 7] rfl rfl ?_
  intro B w0 F0 fr
  have hol := copiesOf_len v it
  refine AWP.seq (AWP.region ?_)
  refine AOps.step rfl rfl rfl (AOp.box rfl rfl rfl) ?_
  refine AOps.step rfl rfl rfl (AOp.box rfl rfl rfl) ?_
  refine AOps.alloc 11 rfl rfl rfl rfl zt_77 rfl rfl rfl ?_
  refine AOps.aD rfl rfl rfl rfl rfl (.nil ?_)
  refine AWP.seq (AWP.region ?_)
  refine AOps.alloc 13 rfl rfl rfl rfl zt_77 rfl rfl rfl (.nil ?_)
  refine AWP.seq ?_
  refine AWP.seq (AWP.region ?_)
  refine AOps.step rfl rfl rfl (AOp.loadAgg rfl ag_26 rfl rfl) ?_
  refine AOps.mD rfl rfl rfl rfl rfl ?_
  refine AOps.step rfl rfl rfl (AOp.call rfl (.cons (ArgOk.rfl' rfl) (.cons (ArgOk.rfl' rfl) .nil)) (c_copiesOf v it hn)) ?_
  refine AOps.step rfl rfl rfl (AOp.lenSl rfl et_24.ht rfl) ?_
  refine AOps.mD rfl rfl rfl rfl rfl (.nil ?_)
  refine AWP.block ?_
  refine AWP.loop (G := Nat) (fun k => Env.of [(15, .d (.v (.int .i64 (k : Int)))), (13, .d (.sl ((copiesOf v it).map Cpy.ds))), (14, .d (.v (.int .i64 (((copiesOf v it).map Cpy.ds).length : Int)))), (5, .d (.fp p.ds)), (8, .ptr 13 0), (6, .ptr 11 0)]) (fun k => [(13, .cells ((bestD (srcO v it k)).map S.d)), (11, .cells [.d (.v (.string ⟨#[]⟩)), .d (.v (.string ⟨#[]⟩)), .d (.v (.string ⟨#[]⟩)), .d (.v (.int .i64 0)), .d (.v (.int .i64 0)), .d (.v (.int .i64 0)), .d (.v (.slice none 0 0))])]) (fun k => k ≤ (copiesOf v it).length) (fun k => (copiesOf v it).length - k) 0 (Nat.zero_le _) (Sub.less ⟨(SLe.of_eq rfl), SLe.refl _, SLe.refl _, SLe.refl _, SLe.refl _, SLe.refl _, trivial⟩ (cells_mem rfl)) ?_
  intro k hk
  refine AWP.seq (AWP.region ?_)
  refine AOps.step rfl rfl rfl (AOp.lss rfl rfl rfl) (.nil ?_)
  refine AWP.seq ?_
  refine AWP.cond rfl (fun h1 => ?_) (fun h1 => ?_)
  · replace h1 := of_decide_eq_true h1
    rw [List.length_map] at h1
    have hlt : k < (copiesOf v it).length := by omega
    have HN := srcO_next hlt
    refine AWP.skip ?_
    refine AWP.seq ?_
    refine AWP.block ?_
    refine AWP.seq (AWP.region ?_)
    refine AOps.step rfl rfl rfl (AOp.indexAddr rfl et_24 rfl rfl k rfl (at_list hlt) rfl) ?_
    refine AOps.step rfl rfl rfl (AOp.loadAgg rfl ag_77 rfl rfl) ?_
    refine AOps.alloc 14 rfl rfl rfl rfl zt_77 rfl rfl rfl ?_
    refine AOps.store rfl rfl rfl sz_77 rfl (.head _) rfl rfl rfl (by first | exact Nat.le_of_ble_eq_true rfl | (rw [bestD_len]; decide)) ?_
    refine AOps.freezeCells 10 (ds := (copiesOf v it)[k].ds) rfl (.head _) (.nil ?_)
    refine AWP.seq ?_
    refine AWP.obsEq [(13, .cells ((bestD (srcO v it k)).map S.d)), (11, .cells [.d (.v (.string ⟨#[]⟩)), .d (.v (.string ⟨#[]⟩)), .d (.v (.string ⟨#[]⟩)), .d (.v (.int .i64 0)), .d (.v (.int .i64 0)), .d (.v (.int .i64 0)), .d (.v (.slice none 0 0))])] (by generalize srcO v it k = b; cases b <;> rfl) ?_
    refine AWP.region ?_
    refine AOps.step rfl rfl rfl (AOp.fieldAddr rfl fo_77_6 rfl) ?_
    refine AOps.step rfl rfl rfl (AOp.load rfl sc_75 rfl) ?_
    refine AOps.step rfl rfl rfl (AOp.lenSl rfl et_75.ht rfl) ?_
    refine AOps.step rfl rfl rfl (AOp.eql rfl rfl rfl) ?_
    refine AOps.mD rfl rfl rfl rfl rfl ?_
    refine AOps.split 23 rfl (fun g2 => ?_) (fun g2 => ?_)
    · replace g2 := of_decide_eq_true g2
      rw [List.length_map] at g2
      have hA := g2
      refine AOps.step ⟨23, rfl, .inl ⟨_, rfl, rfl⟩⟩ rfl rfl (AOp.fieldAddrP rfl fo_77_5 rfl) ?_
      refine AOps.step ⟨23, rfl, .inl ⟨_, rfl, rfl⟩⟩ rfl rfl (AOp.loadP rfl sc_3 rfl (.head _) (bestD_gen _)) ?_
      refine AOps.step ⟨23, rfl, .inl ⟨_, rfl, rfl⟩⟩ rfl rfl (AOp.eql rfl rfl rfl) ?_
      refine AOps.step ⟨23, rfl, .inl ⟨_, rfl, rfl⟩⟩ rfl rfl (AOp.moveD rfl rfl) ?_
      refine AOps.split 27 rfl (fun g3 => ?_) (fun g3 => ?_)
      · replace g3 := of_decide_eq_true g3
        have HX : srcO v it (k + 1) = some (copiesOf v it)[k] := by rw [HN]; unfold srcP; rw [decide_eq_true hA, decide_eq_true g3]; rfl
        refine AOps.pass ⟨27, rfl, .inl ⟨_, rfl, rfl⟩⟩ rfl rfl ?_
        refine AOps.pass ⟨27, rfl, .inl ⟨_, rfl, rfl⟩⟩ rfl rfl ?_
        refine AOps.pass ⟨27, rfl, .inl ⟨_, rfl, rfl⟩⟩ rfl rfl ?_
        refine AOps.pass ⟨27, rfl, .inl ⟨_, rfl, rfl⟩⟩ rfl rfl ?_
        refine AOps.pass ⟨27, rfl, .inl ⟨_, rfl, rfl⟩⟩ rfl rfl ?_
        refine AOps.step ⟨23, rfl, .inl ⟨_, rfl, rfl⟩⟩ rfl rfl (AOp.pickT rfl rfl rfl) ?_
        refine AOps.step rfl rfl rfl (AOp.pickT rfl rfl rfl) (.nil ?_)
        refine AWP.cond rfl (fun _ => ?_) (fun h => nomatch h)
        refine AWP.region ?_
        refine AOps.step rfl rfl rfl (AOp.loadAgg rfl ag_77 rfl rfl) ?_
        refine AOps.store rfl rfl rfl sz_77 rfl (.head _) rfl rfl rfl (by first | exact Nat.le_of_ble_eq_true rfl | (rw [bestD_len]; decide)) (.nil ?_)
        refine AWP.region ?_
        refine AOps.step rfl rfl rfl (AOp.add64 rfl rfl rfl (by omega) (by omega)) ?_
        refine AOps.mD rfl rfl rfl rfl rfl (.nil ?_)
        refine ⟨k + 1, (by omega), (by dsimp only; omega), Sub.less ⟨(SLe.of_eq rfl), SLe.refl _, SLe.refl _, SLe.refl _, SLe.refl _, SLe.refl _, trivial⟩ (cells_mem (by rw [HX]; first | done | exact best_store _ _))⟩
      replace g3 := of_decide_eq_false g3
      have hB := g3
      refine AOps.step ⟨27, rfl, .inl ⟨_, rfl, rfl⟩⟩ rfl rfl (AOp.fieldAddr rfl fo_77_5 rfl) ?_
      refine AOps.step ⟨27, rfl, .inl ⟨_, rfl, rfl⟩⟩ rfl rfl (AOp.load rfl sc_3 rfl) ?_
      refine AOps.step ⟨27, rfl, .inl ⟨_, rfl, rfl⟩⟩ rfl rfl (AOp.fieldAddrP rfl fo_77_5 rfl) ?_
      refine AOps.step ⟨27, rfl, .inl ⟨_, rfl, rfl⟩⟩ rfl rfl (AOp.loadP rfl sc_3 rfl (.head _) (bestD_gen _)) ?_
      refine AOps.step ⟨27, rfl, .inl ⟨_, rfl, rfl⟩⟩ rfl rfl (AOp.lss rfl rfl rfl) ?_
      refine AOps.step ⟨23, rfl, .inl ⟨_, rfl, rfl⟩⟩ rfl rfl (AOp.pickF rfl rfl rfl) ?_
      refine AOps.step rfl rfl rfl (AOp.pickT rfl rfl rfl) (.nil ?_)
      refine AWP.cond rfl (fun h4 => ?_) (fun h4 => ?_)
      · replace h4 := of_decide_eq_true h4
        have HX : srcO v it (k + 1) = some (copiesOf v it)[k] := by rw [HN]; unfold srcP; rw [decide_eq_true hA, decide_eq_true h4]; simp
        refine AWP.region ?_
        refine AOps.step rfl rfl rfl (AOp.loadAgg rfl ag_77 rfl rfl) ?_
        refine AOps.store rfl rfl rfl sz_77 rfl (.head _) rfl rfl rfl (by first | exact Nat.le_of_ble_eq_true rfl | (rw [bestD_len]; decide)) (.nil ?_)
        refine AWP.region ?_
        refine AOps.step rfl rfl rfl (AOp.add64 rfl rfl rfl (by omega) (by omega)) ?_
        refine AOps.mD rfl rfl rfl rfl rfl (.nil ?_)
        refine ⟨k + 1, (by omega), (by dsimp only; omega), Sub.less ⟨(SLe.of_eq rfl), SLe.refl _, SLe.refl _, SLe.refl _, SLe.refl _, SLe.refl _, trivial⟩ (cells_mem (by rw [HX]; first | done | exact best_store _ _))⟩
      replace h4 := of_decide_eq_false h4
      have HX : srcO v it (k + 1) = srcO v it k := by rw [HN]; unfold srcP; rw [decide_eq_true hA, decide_eq_false hB, decide_eq_false h4]; rfl
      refine AWP.skip ?_
      refine AWP.region ?_
      refine AOps.step rfl rfl rfl (AOp.add64 rfl rfl rfl (by omega) (by omega)) ?_
      refine AOps.mD rfl rfl rfl rfl rfl (.nil ?_)
      refine ⟨k + 1, (by omega), (by dsimp only; omega), Sub.less ⟨(SLe.of_eq rfl), SLe.refl _, SLe.refl _, SLe.refl _, SLe.refl _, SLe.refl _, trivial⟩ (cells_mem (by rw [HX]; first | done | exact best_store _ _))⟩
    replace g2 := of_decide_eq_false g2
    rw [List.length_map] at g2
    have HX : srcO v it (k + 1) = srcO v it k := by rw [HN]; unfold srcP; rw [decide_eq_false g2]; rfl
    refine AOps.pass ⟨23, rfl, .inl ⟨_, rfl, rfl⟩⟩ rfl rfl ?_
    refine AOps.pass ⟨23, rfl, .inl ⟨_, rfl, rfl⟩⟩ rfl rfl ?_
    refine AOps.pass ⟨23, rfl, .inl ⟨_, rfl, rfl⟩⟩ rfl rfl ?_
    refine AOps.pass ⟨23, rfl, .inl ⟨_, rfl, rfl⟩⟩ rfl rfl ?_
    refine AOps.pass ⟨27, rfl, .inr ⟨rfl, rfl⟩⟩ rfl rfl ?_
    refine AOps.pass ⟨27, rfl, .inr ⟨rfl, rfl⟩⟩ rfl rfl ?_
    refine AOps.pass ⟨27, rfl, .inr ⟨rfl, rfl⟩⟩ rfl rfl ?_
    refine AOps.pass ⟨27, rfl, .inr ⟨rfl, rfl⟩⟩ rfl rfl ?_
    refine AOps.pass ⟨27, rfl, .inr ⟨rfl, rfl⟩⟩ rfl rfl ?_
    refine AOps.pass ⟨23, rfl, .inl ⟨_, rfl, rfl⟩⟩ rfl rfl ?_
    refine AOps.step rfl rfl rfl (AOp.pickF rfl rfl rfl) (.nil ?_)
    refine AWP.cond rfl (fun h => nomatch h) (fun _ => ?_)
    refine AWP.skip ?_
    refine AWP.region ?_
    refine AOps.step rfl rfl rfl (AOp.add64 rfl rfl rfl (by omega) (by omega)) ?_
    refine AOps.mD rfl rfl rfl rfl rfl (.nil ?_)
    refine ⟨k + 1, (by omega), (by dsimp only; omega), Sub.less ⟨(SLe.of_eq rfl), SLe.refl _, SLe.refl _, SLe.refl _, SLe.refl _, SLe.refl _, trivial⟩ (cells_mem (by rw [HX]; first | done | exact best_store _ _))⟩
  replace h1 := of_decide_eq_false h1
  rw [List.length_map] at h1
  obtain rfl : k = (copiesOf v it).length := by omega
  rw [hso]
  refine AWP.exit ?_
  refine AWP.seq ?_
  refine AWP.freezeCells 8 (ds := zCpyD) rfl (.head _) ?_
  refine AWP.drawG (fun k => (Nat.beq k 11) || (false)) (fun k => Nat.beq k 11) (fun k h => Bool.or_eq_true_iff.2 (.inl h)) (by kernel_rfl) (by kernel_rfl) (by kernel_rfl) ?_
  refine GRun.step rfl rfl rfl (fun _ => AOp.loadAgg rfl ag_77 rfl rfl) ?_
  refine GRun.step rfl rfl rfl (fun _ => AOp.fieldAddr rfl fo_77_5 rfl) ?_
  refine GRun.step rfl rfl rfl (fun _ => AOp.load rfl sc_3 rfl) ?_
  refine GRun.step rfl rfl rfl (fun _ => AOp.gtr rfl rfl rfl) ?_
  refine GRun.step rfl rfl rfl (fun _ => AOp.moveD rfl rfl) ?_
  refine GRun.split 41 rfl (fun g5 => ?_) (fun g5 => ?_)
  · replace g5 := of_decide_eq_true g5
    exact absurd g5 (by show ¬ (0 : Int) > 0; decide)
  replace g5 := of_decide_eq_false g5
  skip
  refine GRun.pass ⟨41, rfl, .inl ⟨_, rfl, rfl⟩⟩ rfl rfl ?_
  refine GRun.pass ⟨41, rfl, .inl ⟨_, rfl, rfl⟩⟩ rfl rfl ?_
  refine GRun.pass ⟨41, rfl, .inl ⟨_, rfl, rfl⟩⟩ rfl rfl ?_
  refine GRun.pass ⟨41, rfl, .inl ⟨_, rfl, rfl⟩⟩ rfl rfl ?_
  refine GRun.pass ⟨41, rfl, .inl ⟨_, rfl, rfl⟩⟩ rfl rfl ?_
  refine GRun.step rfl rfl rfl (fun _ => AOp.pickF rfl rfl rfl) ?_
  refine GRun.eff rfl rfl rfl (EOp.store rfl rfl sz_77 rfl (.head _) rfl rfl rfl (Nat.le_of_ble_eq_true rfl)) ?_
  refine GRun.step rfl rfl rfl (fun _ => AOp.assignD rfl rfl) ?_
  refine GRun.nil ?_
  refine AWP.ret ?_
  refine ⟨RetR.agg rfl (.head _) ag_77 rfl (.cons (by first | exact CellD.nil | exact CellD.d | exact CellD.eq (by simp) | (refine CellD.own (by first | exact .head _ | exact .tail _ (.head _)) ?_; rfl)) (.cons (by first | exact CellD.nil | exact CellD.d | exact CellD.eq (by simp) | (refine CellD.own (by first | exact .head _ | exact .tail _ (.head _)) ?_; rfl)) (.cons (by first | exact CellD.nil | exact CellD.d | exact CellD.eq (by simp) | (refine CellD.own (by first | exact .head _ | exact .tail _ (.head _)) ?_; rfl)) (.cons (by first | exact CellD.nil | exact CellD.d | exact CellD.eq (by simp) | (refine CellD.own (by first | exact .head _ | exact .tail _ (.head _)) ?_; rfl)) (.cons (by first | exact CellD.nil | exact CellD.d | exact CellD.eq (by simp) | (refine CellD.own (by first | exact .head _ | exact .tail _ (.head _)) ?_; rfl)) (.cons (by first | exact CellD.nil | exact CellD.d | exact CellD.eq (by simp) | (refine CellD.own (by first | exact .head _ | exact .tail _ (.head _)) ?_; rfl)) (.cons (by first | exact CellD.nil | exact CellD.d | exact CellD.eq (by simp) | (refine CellD.own (by first | exact .head _ | exact .tail _ (.head _)) ?_; rfl)) .nil))))))), RetD.eq rfl ?_, trivial⟩
  all_goals (first | rfl | simp)

set_option maxRecDepth 100000 in
set_option maxHeartbeats 1000000 in
theorem c_source1 (v : Vlt) (it : ByteArray) (p : Pol) (hn : v.copies.length ≤ 200) (c0 : Cpy) (hso : srcO v it (copiesOf v it).length = some c0) (hg : 0 < c0.gen) : ACall Tryd.prog 69 [.agg v.ds, .v (.string it), .agg p.ds] (.tup [.agg c0.ds, .v (.bool (decide (c0.gen < p.gens)))]) := by
  refine acall_ofR (n := 48) (ds' := [.agg c0.ds, .v (.bool (decide (c0.gen < p.gens)))]) Tryd.func69 rfl (by kernel_rfl) rfl [.cell 6 77, .tmp 7] rfl rfl ?_
  intro B w0 F0 fr
  have hol := copiesOf_len v it
  refine AWP.seq (AWP.region ?_)
  refine AOps.step rfl rfl rfl (AOp.box rfl rfl rfl) ?_
  refine AOps.step rfl rfl rfl (AOp.box rfl rfl rfl) ?_
  refine AOps.alloc 11 rfl rfl rfl rfl zt_77 rfl rfl rfl ?_
  refine AOps.aD rfl rfl rfl rfl rfl (.nil ?_)
  refine AWP.seq (AWP.region ?_)
  refine AOps.alloc 13 rfl rfl rfl rfl zt_77 rfl rfl rfl (.nil ?_)
  refine AWP.seq ?_
  refine AWP.seq (AWP.region ?_)
  refine AOps.step rfl rfl rfl (AOp.loadAgg rfl ag_26 rfl rfl) ?_
  refine AOps.mD rfl rfl rfl rfl rfl ?_
  refine AOps.step rfl rfl rfl (AOp.call rfl (.cons (ArgOk.rfl' rfl) (.cons (ArgOk.rfl' rfl) .nil)) (c_copiesOf v it hn)) ?_
  refine AOps.step rfl rfl rfl (AOp.lenSl rfl et_24.ht rfl) ?_
  refine AOps.mD rfl rfl rfl rfl rfl (.nil ?_)
  refine AWP.block ?_
  refine AWP.loop (G := Nat) (fun k => Env.of [(15, .d (.v (.int .i64 (k : Int)))), (13, .d (.sl ((copiesOf v it).map Cpy.ds))), (14, .d (.v (.int .i64 (((copiesOf v it).map Cpy.ds).length : Int)))), (5, .d (.fp p.ds)), (8, .ptr 13 0), (6, .ptr 11 0)]) (fun k => [(13, .cells ((bestD (srcO v it k)).map S.d)), (11, .cells [.d (.v (.string ⟨#[]⟩)), .d (.v (.string ⟨#[]⟩)), .d (.v (.string ⟨#[]⟩)), .d (.v (.int .i64 0)), .d (.v (.int .i64 0)), .d (.v (.int .i64 0)), .d (.v (.slice none 0 0))])]) (fun k => k ≤ (copiesOf v it).length) (fun k => (copiesOf v it).length - k) 0 (Nat.zero_le _) (Sub.less ⟨(SLe.of_eq rfl), SLe.refl _, SLe.refl _, SLe.refl _, SLe.refl _, SLe.refl _, trivial⟩ (cells_mem rfl)) ?_
  intro k hk
  refine AWP.seq (AWP.region ?_)
  refine AOps.step rfl rfl rfl (AOp.lss rfl rfl rfl) (.nil ?_)
  refine AWP.seq ?_
  refine AWP.cond rfl (fun h1 => ?_) (fun h1 => ?_)
  · replace h1 := of_decide_eq_true h1
    rw [List.length_map] at h1
    have hlt : k < (copiesOf v it).length := by omega
    have HN := srcO_next hlt
    refine AWP.skip ?_
    refine AWP.seq ?_
    refine AWP.block ?_
    refine AWP.seq (AWP.region ?_)
    refine AOps.step rfl rfl rfl (AOp.indexAddr rfl et_24 rfl rfl k rfl (at_list hlt) rfl) ?_
    refine AOps.step rfl rfl rfl (AOp.loadAgg rfl ag_77 rfl rfl) ?_
    refine AOps.alloc 14 rfl rfl rfl rfl zt_77 rfl rfl rfl ?_
    refine AOps.store rfl rfl rfl sz_77 rfl (.head _) rfl rfl rfl (by first | exact Nat.le_of_ble_eq_true rfl | (rw [bestD_len]; decide)) ?_
    refine AOps.freezeCells 10 (ds := (copiesOf v it)[k].ds) rfl (.head _) (.nil ?_)
    refine AWP.seq ?_
    refine AWP.obsEq [(13, .cells ((bestD (srcO v it k)).map S.d)), (11, .cells [.d (.v (.string ⟨#[]⟩)), .d (.v (.string ⟨#[]⟩)), .d (.v (.string ⟨#[]⟩)), .d (.v (.int .i64 0)), .d (.v (.int .i64 0)), .d (.v (.int .i64 0)), .d (.v (.slice none 0 0))])] (by generalize srcO v it k = b; cases b <;> rfl) ?_
    refine AWP.region ?_
    refine AOps.step rfl rfl rfl (AOp.fieldAddr rfl fo_77_6 rfl) ?_
    refine AOps.step rfl rfl rfl (AOp.load rfl sc_75 rfl) ?_
    refine AOps.step rfl rfl rfl (AOp.lenSl rfl et_75.ht rfl) ?_
    refine AOps.step rfl rfl rfl (AOp.eql rfl rfl rfl) ?_
    refine AOps.mD rfl rfl rfl rfl rfl ?_
    refine AOps.split 23 rfl (fun g2 => ?_) (fun g2 => ?_)
    · replace g2 := of_decide_eq_true g2
      rw [List.length_map] at g2
      have hA := g2
      refine AOps.step ⟨23, rfl, .inl ⟨_, rfl, rfl⟩⟩ rfl rfl (AOp.fieldAddrP rfl fo_77_5 rfl) ?_
      refine AOps.step ⟨23, rfl, .inl ⟨_, rfl, rfl⟩⟩ rfl rfl (AOp.loadP rfl sc_3 rfl (.head _) (bestD_gen _)) ?_
      refine AOps.step ⟨23, rfl, .inl ⟨_, rfl, rfl⟩⟩ rfl rfl (AOp.eql rfl rfl rfl) ?_
      refine AOps.step ⟨23, rfl, .inl ⟨_, rfl, rfl⟩⟩ rfl rfl (AOp.moveD rfl rfl) ?_
      refine AOps.split 27 rfl (fun g3 => ?_) (fun g3 => ?_)
      · replace g3 := of_decide_eq_true g3
        have HX : srcO v it (k + 1) = some (copiesOf v it)[k] := by rw [HN]; unfold srcP; rw [decide_eq_true hA, decide_eq_true g3]; rfl
        refine AOps.pass ⟨27, rfl, .inl ⟨_, rfl, rfl⟩⟩ rfl rfl ?_
        refine AOps.pass ⟨27, rfl, .inl ⟨_, rfl, rfl⟩⟩ rfl rfl ?_
        refine AOps.pass ⟨27, rfl, .inl ⟨_, rfl, rfl⟩⟩ rfl rfl ?_
        refine AOps.pass ⟨27, rfl, .inl ⟨_, rfl, rfl⟩⟩ rfl rfl ?_
        refine AOps.pass ⟨27, rfl, .inl ⟨_, rfl, rfl⟩⟩ rfl rfl ?_
        refine AOps.step ⟨23, rfl, .inl ⟨_, rfl, rfl⟩⟩ rfl rfl (AOp.pickT rfl rfl rfl) ?_
        refine AOps.step rfl rfl rfl (AOp.pickT rfl rfl rfl) (.nil ?_)
        refine AWP.cond rfl (fun _ => ?_) (fun h => nomatch h)
        refine AWP.region ?_
        refine AOps.step rfl rfl rfl (AOp.loadAgg rfl ag_77 rfl rfl) ?_
        refine AOps.store rfl rfl rfl sz_77 rfl (.head _) rfl rfl rfl (by first | exact Nat.le_of_ble_eq_true rfl | (rw [bestD_len]; decide)) (.nil ?_)
        refine AWP.region ?_
        refine AOps.step rfl rfl rfl (AOp.add64 rfl rfl rfl (by omega) (by omega)) ?_
        refine AOps.mD rfl rfl rfl rfl rfl (.nil ?_)
        refine ⟨k + 1, (by omega), (by dsimp only; omega), Sub.less ⟨(SLe.of_eq rfl), SLe.refl _, SLe.refl _, SLe.refl _, SLe.refl _, SLe.refl _, trivial⟩ (cells_mem (by rw [HX]; first | done | exact best_store _ _))⟩
      replace g3 := of_decide_eq_false g3
      have hB := g3
      refine AOps.step ⟨27, rfl, .inl ⟨_, rfl, rfl⟩⟩ rfl rfl (AOp.fieldAddr rfl fo_77_5 rfl) ?_
      refine AOps.step ⟨27, rfl, .inl ⟨_, rfl, rfl⟩⟩ rfl rfl (AOp.load rfl sc_3 rfl) ?_
      refine AOps.step ⟨27, rfl, .inl ⟨_, rfl, rfl⟩⟩ rfl rfl (AOp.fieldAddrP rfl fo_77_5 rfl) ?_
      refine AOps.step ⟨27, rfl, .inl ⟨_, rfl, rfl⟩⟩ rfl rfl (AOp.loadP rfl sc_3 rfl (.head _) (bestD_gen _)) ?_
      refine AOps.step ⟨27, rfl, .inl ⟨_, rfl, rfl⟩⟩ rfl rfl (AOp.lss rfl rfl rfl) ?_
      refine AOps.step ⟨23, rfl, .inl ⟨_, rfl, rfl⟩⟩ rfl rfl (AOp.pickF rfl rfl rfl) ?_
      refine AOps.step rfl rfl rfl (AOp.pickT rfl rfl rfl) (.nil ?_)
      refine AWP.cond rfl (fun h4 => ?_) (fun h4 => ?_)
      · replace h4 := of_decide_eq_true h4
        have HX : srcO v it (k + 1) = some (copiesOf v it)[k] := by rw [HN]; unfold srcP; rw [decide_eq_true hA, decide_eq_true h4]; simp
        refine AWP.region ?_
        refine AOps.step rfl rfl rfl (AOp.loadAgg rfl ag_77 rfl rfl) ?_
        refine AOps.store rfl rfl rfl sz_77 rfl (.head _) rfl rfl rfl (by first | exact Nat.le_of_ble_eq_true rfl | (rw [bestD_len]; decide)) (.nil ?_)
        refine AWP.region ?_
        refine AOps.step rfl rfl rfl (AOp.add64 rfl rfl rfl (by omega) (by omega)) ?_
        refine AOps.mD rfl rfl rfl rfl rfl (.nil ?_)
        refine ⟨k + 1, (by omega), (by dsimp only; omega), Sub.less ⟨(SLe.of_eq rfl), SLe.refl _, SLe.refl _, SLe.refl _, SLe.refl _, SLe.refl _, trivial⟩ (cells_mem (by rw [HX]; first | done | exact best_store _ _))⟩
      replace h4 := of_decide_eq_false h4
      have HX : srcO v it (k + 1) = srcO v it k := by rw [HN]; unfold srcP; rw [decide_eq_true hA, decide_eq_false hB, decide_eq_false h4]; rfl
      refine AWP.skip ?_
      refine AWP.region ?_
      refine AOps.step rfl rfl rfl (AOp.add64 rfl rfl rfl (by omega) (by omega)) ?_
      refine AOps.mD rfl rfl rfl rfl rfl (.nil ?_)
      refine ⟨k + 1, (by omega), (by dsimp only; omega), Sub.less ⟨(SLe.of_eq rfl), SLe.refl _, SLe.refl _, SLe.refl _, SLe.refl _, SLe.refl _, trivial⟩ (cells_mem (by rw [HX]; first | done | exact best_store _ _))⟩
    replace g2 := of_decide_eq_false g2
    rw [List.length_map] at g2
    have HX : srcO v it (k + 1) = srcO v it k := by rw [HN]; unfold srcP; rw [decide_eq_false g2]; rfl
    refine AOps.pass ⟨23, rfl, .inl ⟨_, rfl, rfl⟩⟩ rfl rfl ?_
    refine AOps.pass ⟨23, rfl, .inl ⟨_, rfl, rfl⟩⟩ rfl rfl ?_
    refine AOps.pass ⟨23, rfl, .inl ⟨_, rfl, rfl⟩⟩ rfl rfl ?_
    refine AOps.pass ⟨23, rfl, .inl ⟨_, rfl, rfl⟩⟩ rfl rfl ?_
    refine AOps.pass ⟨27, rfl, .inr ⟨rfl, rfl⟩⟩ rfl rfl ?_
    refine AOps.pass ⟨27, rfl, .inr ⟨rfl, rfl⟩⟩ rfl rfl ?_
    refine AOps.pass ⟨27, rfl, .inr ⟨rfl, rfl⟩⟩ rfl rfl ?_
    refine AOps.pass ⟨27, rfl, .inr ⟨rfl, rfl⟩⟩ rfl rfl ?_
    refine AOps.pass ⟨27, rfl, .inr ⟨rfl, rfl⟩⟩ rfl rfl ?_
    refine AOps.pass ⟨23, rfl, .inl ⟨_, rfl, rfl⟩⟩ rfl rfl ?_
    refine AOps.step rfl rfl rfl (AOp.pickF rfl rfl rfl) (.nil ?_)
    refine AWP.cond rfl (fun h => nomatch h) (fun _ => ?_)
    refine AWP.skip ?_
    refine AWP.region ?_
    refine AOps.step rfl rfl rfl (AOp.add64 rfl rfl rfl (by omega) (by omega)) ?_
    refine AOps.mD rfl rfl rfl rfl rfl (.nil ?_)
    refine ⟨k + 1, (by omega), (by dsimp only; omega), Sub.less ⟨(SLe.of_eq rfl), SLe.refl _, SLe.refl _, SLe.refl _, SLe.refl _, SLe.refl _, trivial⟩ (cells_mem (by rw [HX]; first | done | exact best_store _ _))⟩
  replace h1 := of_decide_eq_false h1
  rw [List.length_map] at h1
  obtain rfl : k = (copiesOf v it).length := by omega
  rw [hso]
  refine AWP.exit ?_
  refine AWP.seq ?_
  refine AWP.freezeCells 8 (ds := c0.ds) rfl (.head _) ?_
  refine AWP.drawG (fun k => (Nat.beq k 11) || (false)) (fun k => Nat.beq k 11) (fun k h => Bool.or_eq_true_iff.2 (.inl h)) (by kernel_rfl) (by kernel_rfl) (by kernel_rfl) ?_
  refine GRun.step rfl rfl rfl (fun _ => AOp.loadAgg rfl ag_77 rfl rfl) ?_
  refine GRun.step rfl rfl rfl (fun _ => AOp.fieldAddr rfl fo_77_5 rfl) ?_
  refine GRun.step rfl rfl rfl (fun _ => AOp.load rfl sc_3 rfl) ?_
  refine GRun.step rfl rfl rfl (fun _ => AOp.gtr rfl rfl rfl) ?_
  refine GRun.step rfl rfl rfl (fun _ => AOp.moveD rfl rfl) ?_
  refine GRun.split 41 rfl (fun g5 => ?_) (fun g5 => ?_)
  · replace g5 := of_decide_eq_true g5
    skip
    refine GRun.step ⟨41, rfl, .inl ⟨_, rfl, rfl⟩⟩ rfl rfl (fun _ => AOp.fieldAddr rfl fo_77_5 rfl) ?_
    refine GRun.step ⟨41, rfl, .inl ⟨_, rfl, rfl⟩⟩ rfl rfl (fun _ => AOp.load rfl sc_3 rfl) ?_
    refine GRun.step ⟨41, rfl, .inl ⟨_, rfl, rfl⟩⟩ rfl rfl (fun _ => AOp.fieldAddr rfl fo_28_5 rfl) ?_
    refine GRun.step ⟨41, rfl, .inl ⟨_, rfl, rfl⟩⟩ rfl rfl (fun _ => AOp.load rfl sc_3 rfl) ?_
    refine GRun.step ⟨41, rfl, .inl ⟨_, rfl, rfl⟩⟩ rfl rfl (fun _ => AOp.lss rfl rfl rfl) ?_
    refine GRun.step rfl rfl rfl (fun _ => AOp.pickT rfl rfl rfl) ?_
    refine GRun.eff rfl rfl rfl (EOp.store rfl rfl sz_77 rfl (.head _) rfl rfl rfl (Nat.le_of_ble_eq_true rfl)) ?_
    refine GRun.step rfl rfl rfl (fun _ => AOp.assignD rfl rfl) ?_
    refine GRun.nil ?_
    refine AWP.ret ?_
    refine ⟨RetR.agg rfl (.head _) ag_77 rfl (.cons (by first | exact CellD.nil | exact CellD.d | exact CellD.eq (by simp) | (refine CellD.own (by first | exact .head _ | exact .tail _ (.head _)) ?_; rfl)) (.cons (by first | exact CellD.nil | exact CellD.d | exact CellD.eq (by simp) | (refine CellD.own (by first | exact .head _ | exact .tail _ (.head _)) ?_; rfl)) (.cons (by first | exact CellD.nil | exact CellD.d | exact CellD.eq (by simp) | (refine CellD.own (by first | exact .head _ | exact .tail _ (.head _)) ?_; rfl)) (.cons (by first | exact CellD.nil | exact CellD.d | exact CellD.eq (by simp) | (refine CellD.own (by first | exact .head _ | exact .tail _ (.head _)) ?_; rfl)) (.cons (by first | exact CellD.nil | exact CellD.d | exact CellD.eq (by simp) | (refine CellD.own (by first | exact .head _ | exact .tail _ (.head _)) ?_; rfl)) (.cons (by first | exact CellD.nil | exact CellD.d | exact CellD.eq (by simp) | (refine CellD.own (by first | exact .head _ | exact .tail _ (.head _)) ?_; rfl)) (.cons (by first | exact CellD.nil | exact CellD.d | exact CellD.eq (by simp) | (refine CellD.own (by first | exact .head _ | exact .tail _ (.head _)) ?_; rfl)) .nil))))))), RetD.eq rfl ?_, trivial⟩
    all_goals (first | rfl | simp)
  replace g5 := of_decide_eq_false g5
  exact absurd hg g5

end Go.Proofs.YtieccphckobhjaaDoor


namespace Go.Proofs.YtieccphckobhjaaDoor
open Go.RowKit
set_option linter.unusedVariables false

/-! Types. -/
namespace TyW12
theorem ag_28 : AggT Tryd.prog 28 6 := .of (by kernel_rfl)
theorem ag_73 : AggT Tryd.prog 73 5 := .of (by kernel_rfl)
theorem et_23 : ElemTy Tryd.prog 23 73 5 64 (.agg #[(.string ⟨#[]⟩), (.string ⟨#[]⟩), (.string ⟨#[]⟩), (.int .i64 0), (.int .i64 0)]) := ⟨by kernel_rfl, by kernel_rfl, by kernel_rfl, by decide⟩
theorem et_75 : ElemTy Tryd.prog 75 3 1 8 (.int .i64 0) := ⟨by kernel_rfl, by kernel_rfl, by kernel_rfl, by decide⟩
theorem sc_23 : Scal Tryd.prog 23 := .of (by kernel_rfl)
theorem sc_3 : Scal Tryd.prog 3 := .of (by kernel_rfl)
end TyW12
open TyW12


def tgAt (tg : List Carr) (i : Nat) : Carr := tg.getD i ⟨⟨#[]⟩, ⟨#[]⟩, ⟨#[]⟩, 0, 0⟩
def allC (gd tg : List Carr) (l : List Nat) : List Carr := gd ++ l.map (tgAt tg)
theorem tgAt_at {tg : List Carr} {i : Nat} (h : i < tg.length) : tgAt tg i = tg[i] := by unfold tgAt; rw [List.getD_eq_getElem?_getD, List.getElem?_eq_getElem h]; rfl
theorem allC_next {gd tg : List Carr} {l : List Nat} {j : Nat} (hj : j < l.length) (h : l[j] < tg.length) : (allC gd tg (l.take (j + 1))).map Carr.ds = (allC gd tg (l.take j)).map Carr.ds ++ [tg[l[j]].ds] := by
  unfold allC
  rw [take_next hj, List.map_append, List.map_append, List.map_append, List.map_append, ← List.append_assoc]
  show _ ++ [(tgAt tg l[j]).ds] = _
  rw [tgAt_at h]


set_option maxRecDepth 100000 in
set_option maxHeartbeats 1000000 in
theorem c_planIn (gd tg : List Carr) (p : Pol) (l : List Nat) (po : POk p) (hv : Vld tg.length l) (hl : gd.length ≤ 200) (ht : tg.length ≤ 16) : ACall Tryd.prog 73 [.sl (l.map numD), .fp [.sl (gd.map Carr.ds)], .fp [.sl (tg.map Carr.ds)], .fp p.ds] (.v (.bool (enoughB p (allC gd tg l)))) := by
  refine acall_of (n := 29) (ds' := [.v (.bool (enoughB p (allC gd tg l)))]) Tryd.func73 rfl (by kernel_rfl) rfl [5] rfl rfl ?_
  intro B w0 F0 fr
  have hln := hv.1
  refine AWP.seq (AWP.region ?_)
  refine AOps.aD rfl rfl rfl rfl rfl (.nil ?_)
  refine AWP.seq (AWP.region ?_)
  refine AOps.step rfl rfl rfl (AOp.load rfl sc_23 rfl) ?_
  refine AOps.callO 61 rfl rfl rfl rfl (.cons (ArgOk.rfl' rfl) .nil) (c_clCarr gd (by omega)) rfl ?_
  refine AOps.step rfl rfl rfl (AOp.assignO rfl rfl) (.nil ?_)
  refine AWP.seq ?_
  refine AWP.seq (AWP.region ?_)
  refine AOps.mD rfl rfl rfl rfl rfl ?_
  refine AOps.step rfl rfl rfl (AOp.lenSl rfl et_75.ht rfl) ?_
  refine AOps.mD rfl rfl rfl rfl rfl (.nil ?_)
  refine AWP.block ?_
  refine AWP.loop (G := Nat) (fun j => Env.of [(13, .d (.v (.int .i64 (j : Int)))), (11, .d (.sl (l.map numD))), (12, .d (.v (.int .i64 ((l.map numD).length : Int)))), (6, .own 61), (2, .d (.fp [.sl (tg.map Carr.ds)])), (3, .d (.fp p.ds))]) (fun j => [(61, .row 73 5 ((allC gd tg (l.take j)).map Carr.ds))]) (fun j => j ≤ l.length) (fun j => l.length - j) 0 (Nat.zero_le _) (Sub.less ⟨(SLe.of_eq rfl), SLe.refl _, SLe.refl _, SLe.refl _, SLe.refl _, SLe.refl _, trivial⟩ (row_numEq (by unfold allC; simp))) ?_
  intro j hj
  refine AWP.seq (AWP.region ?_)
  refine AOps.step rfl rfl rfl (AOp.lss rfl rfl rfl) (.nil ?_)
  refine AWP.seq ?_
  refine AWP.cond rfl (fun h1 => ?_) (fun h1 => ?_)
  · replace h1 := of_decide_eq_true h1
    rw [List.length_map] at h1
    have hjl : j < l.length := by omega
    have hlj : l[j] < tg.length := by have := hv.2 j hjl; omega
    refine AWP.skip ?_
    refine AWP.seq ?_
    refine AWP.block ?_
    refine AWP.seq (AWP.region ?_)
    refine AOps.step rfl rfl rfl (AOp.indexAddr rfl et_75 rfl rfl j rfl (at_list hjl) rfl) ?_
    refine AOps.step rfl rfl rfl (AOp.load rfl sc_3 rfl) ?_
    refine AOps.aD rfl rfl rfl rfl rfl (.nil ?_)
    refine AWP.region ?_
    refine AOps.step rfl rfl rfl (AOp.moveO rfl rfl) ?_
    refine AOps.step rfl rfl rfl (AOp.load rfl sc_23 rfl) ?_
    refine AOps.mD rfl rfl rfl rfl rfl ?_
    refine AOps.step rfl rfl rfl (AOp.indexAddr rfl et_23 rfl rfl l[j] rfl (at_list hlj) rfl) ?_
    refine AOps.step rfl rfl rfl (AOp.loadAgg rfl ag_73 rfl rfl) ?_
    refine AOps.step rfl rfl rfl (AOp.buildSlice rfl et_23 (.cons rfl rfl rfl .nil) rfl (by decide)) ?_
    -- append 23
    refine AOps.append rfl rfl rfl rfl et_23 rfl (.head _) rfl (fun y hy => by obtain rfl := List.mem_singleton.1 hy; rfl) (by simp [allC]; omega) (by simp [allC]; omega) ?_
    refine AOps.step rfl rfl rfl (AOp.assignO rfl rfl) (.nil ?_)
    refine AWP.region ?_
    refine AOps.step rfl rfl rfl (AOp.add64 rfl rfl rfl (by omega) (by omega)) ?_
    refine AOps.mD rfl rfl rfl rfl rfl (.nil ?_)
    refine ⟨j + 1, (by dsimp only; omega), (by dsimp only; omega), Sub.less ⟨(SLe.of_eq rfl), SLe.refl _, SLe.refl _, SLe.refl _, SLe.refl _, SLe.refl _, trivial⟩ (row_numEq (allC_next hjl hlj).symm)⟩
  replace h1 := of_decide_eq_false h1
  rw [List.length_map] at h1
  obtain rfl : j = l.length := by omega
  rw [List.take_length]
  refine AWP.exit ?_
  refine AWP.seq ?_
  refine AWP.freeze 6 rfl (.head _) ?_
  refine AWP.draw (by kernel_rfl) (by kernel_rfl) ?_
  refine DRun.step rfl rfl rfl (AOp.moveD rfl rfl) ?_
  refine DRun.step rfl rfl rfl (AOp.call rfl (.cons (ArgOk.rfl' rfl) .nil) (c_spreadOf (allC gd tg l) (by unfold allC; simp; omega))) ?_
  refine DRun.step rfl rfl rfl (AOp.loadAgg rfl ag_28 rfl rfl) ?_
  refine DRun.step rfl rfl rfl (AOp.call rfl (.cons (ArgOk.rfl' rfl) (.cons (ArgOk.rfl' rfl) .nil)) (c_enough (allC gd tg l) p po (by unfold allC; simp; omega))) ?_
  refine DRun.step rfl rfl rfl (AOp.assignD rfl rfl) ?_
  refine DRun.nil ?_
  refine AWP.ret ?_
  refine ⟨RetD.eq rfl ?_, trivial⟩
  all_goals (rfl)

end Go.Proofs.YtieccphckobhjaaDoor


namespace Go.Proofs.YtieccphckobhjaaDoor
open Go.RowKit
set_option linter.unusedVariables false

/-! Types. -/
namespace TyW13

end TyW13
open TyW13


def srcF (it : ByteArray) (b : Option Cpy) (c : Cpy) : Option Cpy := if ofItem it c = true then srcP b c else b
theorem fold_filter {it : ByteArray} : ∀ (l : List Cpy) (b : Option Cpy), (l.filter (ofItem it)).foldl srcP b = l.foldl (srcF it) b
  | [], _ => rfl
  | c :: l, b => by
    rw [List.filter_cons]
    cases h : ofItem it c with
    | true => rw [if_pos rfl, List.foldl_cons, List.foldl_cons, fold_filter l, srcF, if_pos h]
    | false => rw [if_neg (by simp), List.foldl_cons, fold_filter l, srcF, if_neg (by rw [h]; simp)]
theorem srcF_I {v : Vlt} {it : ByteArray} (vo : VOk v) : ∀ k, k ≤ v.copies.length → (v.copies.take k).foldl (srcF it) none = if srcI v it k < 0 then none else v.copies[(srcI v it k).toNat]?
  | 0, _ => rfl
  | k + 1, hk => by
    have hlt : k < v.copies.length := by omega
    have ih := srcF_I vo (it := it) k (by omega)
    rw [List.take_add_one, List.getElem?_eq_getElem hlt, Option.toList_some, List.foldl_append, ih]
    show srcF it _ v.copies[k] = _
    have hI : ofItem it v.copies[k] = decide (v.copies[k].item = it) := rfl
    by_cases hs : srcI v it k < 0
    · rw [if_pos hs]
      cases hn : srcNow v it (srcI v it k) v.copies[k] with
      | true =>
        rw [srcI_t hlt hn, if_neg (by omega), Int.toNat_natCast, List.getElem?_eq_getElem hlt]
        unfold srcNow at hn
        rw [decide_eq_true hs] at hn
        simp only [Bool.and_eq_true, Bool.true_or, decide_eq_true_eq, and_true] at hn
        unfold srcF srcP genO
        rw [if_pos (by rw [hI]; exact decide_eq_true hn.1), if_pos (by simp [hn.2])]
      | false =>
        rw [srcI_f hlt hn, if_pos hs]
        unfold srcNow at hn
        rw [decide_eq_true hs] at hn
        simp only [Bool.true_or, Bool.and_true, Bool.and_eq_false_iff, decide_eq_false_iff_not] at hn
        unfold srcF srcP genO
        rcases hn with hn | hn
        · rw [if_neg (by rw [hI]; simpa using hn)]
        · split
          · rw [if_neg (by simpa using hn)]
          · rfl
    · obtain ⟨b, hb, eb, hbe⟩ := srcI_at (v := v) (it := it) (k := k) (by omega) hs
      have hg := (vo.cpy _ (List.getElem_mem hb)).gen
      rw [if_neg hs, eb, Int.toNat_natCast, List.getElem?_eq_getElem hb]
      cases hn : srcNow v it (srcI v it k) v.copies[k] with
      | true =>
        rw [srcI_t hlt hn, if_neg (by omega), Int.toNat_natCast, List.getElem?_eq_getElem hlt]
        unfold srcNow at hn
        rw [hbe, decide_eq_false hs] at hn
        simp only [Bool.and_eq_true, Bool.false_or, decide_eq_true_eq] at hn
        unfold srcF srcP genO
        rw [if_pos (by rw [hI]; exact decide_eq_true hn.1), if_pos (by simp only [Bool.and_eq_true, Bool.or_eq_true, decide_eq_true_eq]; exact ⟨hn.2.1, .inr hn.2.2⟩)]
      | false =>
        rw [srcI_f hlt hn, if_neg hs, eb, Int.toNat_natCast, List.getElem?_eq_getElem hb]
        unfold srcNow at hn
        rw [hbe, decide_eq_false hs] at hn
        unfold srcF srcP genO
        by_cases hi : v.copies[k].item = it
        · rw [if_pos (by rw [hI]; exact decide_eq_true hi), if_neg]
          intro hh
          simp only [Bool.and_eq_true, Bool.or_eq_true, decide_eq_true_eq] at hh
          have hgz : ¬ v.copies[b].gen = 0 := by omega
          simp [hi, hh.1, hh.2.resolve_left hgz] at hn
        · rw [if_neg (by rw [hI]; simpa using hi)]
theorem srcO_I {v : Vlt} {it : ByteArray} (vo : VOk v) : srcO v it (copiesOf v it).length = if srcI v it v.copies.length < 0 then none else v.copies[(srcI v it v.copies.length).toNat]? := by
  unfold srcO
  rw [List.take_length]
  show ((v.copies.filter (ofItem it)).foldl srcP none) = _
  rw [fold_filter, ← srcF_I vo _ (Nat.le_refl _), List.take_length]


end Go.Proofs.YtieccphckobhjaaDoor


namespace Go.Proofs.YtieccphckobhjaaDoor
open Go.RowKit
set_option linter.unusedVariables false

/-! Types. -/
namespace TyW14

end TyW14
open TyW14


theorem allC_with {v : Vlt} {gd : List Carr} {cd l : List Nat} (h : Vld cd.length l) : allC gd (cd.map (carrN v)) l = withL v gd cd l := by
  unfold allC withL
  congr 1
  refine List.map_congr_left fun i hi => ?_
  obtain ⟨j, hj, rfl⟩ := List.mem_iff_getElem.1 hi
  have h1 := h.2 j hj
  have h2 : l[j] < cd.length := by omega
  rw [tgAt_at (by rw [List.length_map]; exact h2), List.getElem_map, numAt h2]


end Go.Proofs.YtieccphckobhjaaDoor


namespace Go.Proofs.YtieccphckobhjaaDoor
open Go.RowKit Go.Shelf
set_option linter.unusedVariables false

/-- copy(d, s), elements of whatever size. -/
theorem run_copy_sz {P : Program} (w : World) (dT sT ty elem : TypeId) (size b o dLen dCap : Nat) (a : Addr) (sLen sCap : Nat) (cs : List Value)
    (hu : P.underlying dT = some (.slice elem)) (hs : (P.info? elem).map (·.size) = some size) (hn : cs.length = Nat.min sLen dLen * size)
    (hsrc : ∀ j v, cs[j]? = some v → w.cell? (a.add j) = some v) (hc : ∀ j, j < cs.length → (w.cell? ⟨b, o + j, none⟩).isSome = true) (hf : ∀ j, j < cs.length → w.frozen? ⟨b, o + j, none⟩ = false) (h1 : ∀ v ∈ cs, v.oneCell' = true) :
    (Builtin.copy_ #[dT, sT] ty #[.slice (some ⟨b, o, none⟩) dLen dCap, .slice (some a) sLen sCap]).run P w = .ok (goInt (Nat.min sLen dLen)) (w.setCells b o cs) := by
  have hl := run_firstCells_some (P := P) w size (Nat.min sLen dLen) a sLen sCap cs hn hsrc
  have hst := run_storeCells_cells (P := P) b o cs 0 w (by simpa using hc) (by simpa using hf) h1
  cases hq : P.info? elem with
  | none => simp [hq] at hs
  | some i =>
    have hi : i.size = size := by simpa [hq] using hs
    simp only [Nat.min_def] at hl
    simp [Builtin.copy_, run_underlying hu, Builtin.lenOf, sizeOf, typeInfo, hq, hi, Nat.min_def, hl, hst]

/-- What an insertion leaves, told cell by cell. -/
theorem ins_takeS {xs F x : List Value} {i n s : Nat} (hn : xs.length = n) (hi : i ≤ n) (hx : x.length = s) (h1 : ∀ k, k < i → F[k]? = xs[k]?) (h2 : ∀ k, k < s → F[i + k]? = x[k]?) (h3 : ∀ k, i ≤ k → k < n → F[k + s]? = xs[k]?) : F.take (n + s) = xs.take i ++ x ++ xs.drop i := by
  apply List.ext_getElem?
  intro k
  have hL : (F.take (n + s))[k]? = if k < n + s then F[k]? else none := by rw [List.getElem?_take]
  have hT : (xs.take i).length = i := by rw [List.length_take]; omega
  rw [hL, get3, hT, hx]
  by_cases k1 : k < i
  · rw [if_pos (by omega), if_pos k1, h1 k k1, List.getElem?_take, if_pos k1]
  · rw [if_neg k1]
    by_cases k2 : k < i + s
    · rw [if_pos (by omega), if_pos k2]
      have := h2 (k - i) (by omega)
      rw [show i + (k - i) = k by omega] at this
      exact this
    · rw [if_neg k2]
      by_cases k3 : k < n + s
      · rw [if_pos k3, List.getElem?_drop]
        have := h3 (k - s) (by omega) (by omega)
        rw [show k - s + s = k by omega] at this
        rw [this]
        congr 1
        omega
      · rw [if_neg k3, List.getElem?_eq_none (by simp; omega)]

section
variable {cx : Cx} {e : Env} {σ : Obs} {Q : Post}
theorem R0.rowOfS {F : Nat → Prop} {ρ : Nat → Value} {a : Act} {w : World} (h : R0 cx F ρ e σ a w) {id ee size : Nat} {els : List (List S)} {ds : List (List D)} {σs σ' : Obs} (hm : (id, Ob.rowS ee size els) ∈ σ') (hl : els.length = ds.length)
    (hs : ∀ i (k1 : i < els.length) (k2 : i < ds.length), els[i].length = ds[i].length)
    (hr : ∀ i (k1 : i < els.length) (k2 : i < ds.length) j (k3 : j < els[i].length) (k4 : j < ds[i].length), Snap σs els[i][j] ds[i][j]) (h1 : ∀ p ∈ σs, p ∈ σ) (h2 : ∀ p ∈ σ', p ∈ σ) (h3 : ∀ p ∈ σs, ∀ q ∈ σ', q.1 ≠ p.1) :
    R0 cx (endF F ρ σs) ρ e (Obs.upd id (.row ee size ds) σ') a w := by
  have hF2 : ∀ b, endF F ρ σs b → b < w.heap.size := by
    rintro b (hb | ⟨p, hp, hb⟩)
    · exact h.lt b hb
    · exact ((h.obs.ok p (h1 p hp)).blk_lt hb).2
  have h4 : R0 cx (endF F ρ σs) ρ e σ' a w := by
    refine ⟨h.size, h.defers, hF2, fun b hb => .inl (h.base b hb), ?_, h.below, h.hB, fun u => ?_, ?_, h.up, fun p hp => h.kown p (h2 p hp), h.fixed⟩
    · rintro b (hb | ⟨p, hp, hb⟩)
      · exact h.new b hb
      · exact .inr (h.kown p (h1 p hp) b hb)
    · exact RepS.turn (row := none) (h.env u) h.lt (fun g hg => by simp at hg) ⟨rfl, rfl, rfl, Nat.le_refl _, fun _ _ _ => rfl⟩ (fun b hb => .inl hb)
    · refine ⟨fun p hp => ?_, fun p hp q hq => h.obs.apart p (h2 p hp) q (h2 q hq), fun p hp q hq => h.obs.uniq p (h2 p hp) q (h2 q hq)⟩
      refine (h.obs.ok p (h2 p hp)).more h.lt (fun b hb => .inl hb) ?_
      rintro g hg (hf | ⟨q, hq, hb⟩)
      · exact (h.obs.ok p (h2 p hp)).nF hg hf
      · exact h.obs.apart p (h2 p hp) q (h1 q hq) (h3 q hq p hp) g hg hb
  obtain ⟨xs, g1, g2, g3, g4⟩ := h.obs.ok _ (h2 _ hm)
  have k4 : ∀ g, blk (ρ id) = some g → ¬ endF F ρ σs g := fun g hg => (h4.obs.ok _ hm).nF hg
  dsimp only at g1 g4
  refine h4.reOb hm ⟨xs, by rw [← hl]; exact g1, fun i hi => by rw [← hs i (by omega) hi]; exact g2 i (by omega), fun i hi j hj => ?_, fun g hg => k4 g hg⟩
  have hi' : i < els.length := by omega
  have hj' : j < els[i].length := by rw [hs i hi' hi]; exact hj
  exact ⟨(g3 i hi' j hj').1, (hr i hi' hi j hj' hj).rep (h.obs.sub h1) _ (g3 i hi' j hj').2⟩
/-- A row whose cells hold own rows becomes a row of data; what they held is frozen. -/
theorem AWP.rowOfS {c : Code} (id : Nat) {ee size : Nat} {els : List (List S)} (ds : List (List D)) (σs σ' : Obs) (hm : (id, Ob.rowS ee size els) ∈ σ') (hl : els.length = ds.length)
    (hs : ∀ i (k1 : i < els.length) (k2 : i < ds.length), els[i].length = ds[i].length)
    (hr : ∀ i (k1 : i < els.length) (k2 : i < ds.length) j (k3 : j < els[i].length) (k4 : j < ds[i].length), Snap σs els[i][j] ds[i][j]) (h1 : ∀ p ∈ σs, p ∈ σ) (h2 : ∀ p ∈ σ', p ∈ σ) (h3 : ∀ p ∈ σs, ∀ q ∈ σ', q.1 ≠ p.1)
    (k : AWP cx c e (Obs.upd id (.row ee size ds) σ') Q) : AWP cx c e σ Q := fun a w ⟨F, ρ, hr'⟩ => k a w ⟨_, ρ, hr'.rowOfS hm hl hs hr h1 h2 h3⟩
end

section
variable {cx : Cx} {ops : Array Oper} {o : Oper} {rest : List Oper} {e : Env} {σ : Obs} {Q : Post}
/-- []T{x}: an own row of one element. -/
theorem AOps.buildS {t el size bytes dst : Nat} {z : Value} {x : Operand} {d : D} (id : Nat) (hg : o.guard = none) (ht : o.dst = some dst) (hdn : Nat.blt dst cx.N = true) (ho : o.op = .buildSlice t 1 #[(0, x)]) (T : ElemTy cx.P t el size bytes z) (hsz : Nat.ble size 1000 = true) (hx : e.ev x = .d d) (h1 : d.one = true) (h2 : d.parts.length = size) (hid : Obs.fresh id σ = true)
    (k : AOps cx ops rest ((e.kill id).put (some dst) (.own id)) ((id, .row el size [d.parts]) :: Obs.kill id σ) Q) (hfx : cx.free id = true := by rfl) : AOps cx ops (o :: rest) e σ Q := by
  intro a w ⟨F, ρ, hr⟩
  have hsz' : size ≤ 1000 := by simpa [Nat.ble_eq] using hsz
  have hdn' : dst < cx.N := by simpa [Nat.blt_eq] using hdn
  have r1 := ev_rep (e := e) (x := x) (a := a) (fun t _ => hr.env t)
  rw [hx] at r1
  obtain ⟨h3, h4⟩ := parts_rep (repS_d r1) h1
  have hcl : (a.eval x).cells.toList.length = size := by rw [h3.1]; exact h2
  obtain ⟨c, hc⟩ : ∃ c, c = (a.eval x).cells.toList := ⟨_, rfl⟩
  have hcl' : c.length = size := by rw [hc]; exact hcl
  obtain ⟨i, hi, hz0, hz1, hz2⟩ := info_parts T.hi
  have hzc : z.cells.size = size := T.hz
  have hs0 : 0 < size := T.hs
  obtain ⟨cs', h5, h6⟩ := fill_inorder (size := size) 0 [(0, a.eval x)] ((Array.range size).map (fun j => z.cells[j % z.cells.size]!)) (fun j hj => by
    have hj0 : j = 0 := by simpa using hj
    subst hj0
    refine ⟨rfl, ?_⟩
    have : (a.eval x).cells.size = size := by rw [← Array.length_toList]; exact hcl
    simpa using this) (by simp)
  have h7 : cs'.toList = c := by
    have h9 : List.drop size (List.map (fun j => z.cells[j % z.cells.size]!) (List.range size)) = [] := List.drop_eq_nil_of_le (by simp)
    simpa [← hc, h9] using h6
  have hcs : cs' = c.toArray := by rw [← h7]
  have hrun : (execOp a.eval o).run cx.P w = .ok (.value (.slice (some ⟨w.heap.size, 0, none⟩) 1 1)) (w.alloc (.cells c.toArray el)) := by
    unfold execOp
    simp only [ho, Instr.buildSlice, Sem.run_bind, run_underlying T.ht, Result.andThen_ok, T.sizeOf]
    rw [if_neg (show ¬ (1 * size > 2 ^ 24) by omega), if_neg (show ¬ (1 * size = 0) by omega)]
    have hprog : (program : Sem Program).run cx.P w = .ok cx.P w := rfl
    simp only [Sem.run_bind, zeroValue, typeInfo, hprog, Result.andThen_ok, hi, Sem.run_pure, hz0]
    have h8 : Array.map (fun (p : Nat × Operand) => (p.fst, a.eval p.snd)) #[(0, x)] = #[(0, a.eval x)] := by simp
    rw [h8]
    rw [hcs] at h5
    simp only [Nat.one_mul, List.toArray] at h5 ⊢
    first | rw [h5] | skip
    rfl
  have hrow : (w.alloc (.cells c.toArray el)).ownsRow cx.B el size (.slice (some ⟨w.heap.size, 0, none⟩) 1 1) 1 c :=
    ⟨by rw [Nat.one_mul]; exact hcl', .inr ⟨w.heap.size, 1, c.toArray, rfl, hr.hB, heap_alloc_new w _, Nat.le_refl _, by unfold maxLen; omega, by simpa using hcl', by rw [Nat.one_mul, ← hcl']; simp⟩⟩
  have hfl : flat (fun _ j => c.getD j undef) 1 size = c := by
    unfold flat
    simp only [List.range_one, List.map_cons, List.map_nil, List.flatten_cons, List.flatten_nil, List.append_nil]
    apply List.ext_getElem
    · simp [hcl']
    · intro j hj hj2
      simp [List.getD_eq_getElem?_getD, hj2]
  obtain ⟨ρ', h9⟩ := hr.newRow (v := .slice (some ⟨w.heap.size, 0, none⟩) 1 1) (els := [d.parts]) (Obs.fresh_spec hid) hdn' ((Below.refl _ _).alloc (Nat.le_refl _) (.cells c.toArray el))
    ⟨fun _ j => c.getD j undef, by dsimp only; rw [if_pos rfl]; show World.ownsRow _ _ _ _ _ _ (flat (fun _ j => c.getD j undef) 1 size); rw [hfl]; exact hrow, fun i hi => by
      have : i = 0 := by simpa using hi
      subst this
      simpa using h2, fun i hi j hj => by
      have : i = 0 := by simpa using hi
      subst this
      have hj' : j < d.parts.length := by simpa using hj
      have hjc : j < c.length := by omega
      have hgd : c.getD j undef = c[j] := by simp [List.getD_eq_getElem?_getD, hjc]
      dsimp only
      rw [hgd]
      subst hc
      refine ⟨h4 _ (List.getElem_mem hjc), ?_⟩
      have h10 := h3.2 j hjc (by omega)
      have hE : Ext F w F (w.alloc (.cells (a.eval x).cells.toList.toArray el)) := Ext.of_below hr.lt ((Below.refl _ _).alloc (Nat.le_refl _) _)
      simpa using h10.ext hr.lt hE, fun g hg hf => by dsimp only at hg; rw [if_pos rfl] at hg; simp [blk] at hg; have := hr.lt g hf; omega⟩
    (fun g hg => by simp [blk] at hg; omega) hfx
  refine wpList_plain hg fun K hK => ?_
  unfold Oper.wp
  rw [hrun]
  have := k _ _ ⟨F, ρ', h9⟩
  rw [← ht] at this
  exact hK _ _ this
theorem XRun.buildS {Φ : List Fr} {l : List Oper} {Qe : Env → Prop} {t el size bytes : Nat} {z : Value} {x : Operand} {d : D} (f : Fr) (hf : f ∈ Φ) (hg : GW ops o e true) (hgn : o.guard = none) (ht : o.dst = some f.dst) (hd : Nat.blt f.dst cx.N = true) (ho : o.op = .buildSlice t 1 #[(0, x)]) (T : ElemTy cx.P t el size bytes z) (hsz : Nat.ble size 1000 = true) (hx : e.ev x = .d d) (h1 : d.one = true) (h2 : d.parts.length = size)
    (hob : f.ob = .row el size [d.parts]) (hs : f.s0 = .own f.id) (k : XRun cx ops σ Φ l (e.put (some f.dst) f.s0) Qe) (hfx : cx.free f.id = true := by rfl) : XRun cx ops σ Φ (o :: l) e Qe :=
  ⟨by unfold DstOk; rw [ht]; exact hd, _, .inl ⟨hg, .inl ⟨f, hf, ⟨ht, fun e0 σ _ he hfr => by
    have h3 : e0.ev x = e.ev x := ev_same fun t ht => he t (looks_op (by rw [ho, ht]; simp [Op.operands]))
    exact AOps.buildS f.id hgn ht hd ho T hsz (h3.trans hx) h1 h2 hfr (.nil ⟨by rw [hs], by rw [hob]⟩) hfx⟩, rfl⟩⟩, by rw [ht]; exact k⟩
end
end Go.Proofs.YtieccphckobhjaaDoor


namespace Go.Proofs.YtieccphckobhjaaDoor
open Go.RowKit Go.Shelf Go.Lib
set_option linter.unusedVariables false
set_option linter.unusedSimpArgs false

theorem et_cpyI : ElemTy Tryd.prog 24 77 7 96 (.agg #[(.string ⟨#[]⟩), (.string ⟨#[]⟩), (.string ⟨#[]⟩), (.int .i64 0), (.int .i64 0), (.int .i64 0), (.slice none 0 0)]) := ⟨by kernel_rfl, by kernel_rfl, by kernel_rfl, by decide⟩

/-- What Insert does with an own row of copies. -/
structure InsEndC (B : Nat) (w : World) (v : Value) (n : Nat) (ys : List Value) (v' : Value) (w' : World) : Prop where
  own : w'.ownsRow B 77 7 v' n ys
  turn : Turn w w' (blk v)
  new : ∀ g, blk v' = some g → blk v = some g ∨ w.heap.size ≤ g

theorem blk_own {w : World} {B e size n : Nat} {v : Value} {xs : List Value} (h : w.ownsRow B e size v n xs) : v.ownBlock = blk v := by
  rcases h.2 with ⟨rfl, _⟩ | ⟨g, cap, cur, rfl, _⟩ <;> rfl

theorem insEnd_cat {B : Nat} {w w' : World} {v v' : Value} {n : Nat} {xs ys : List Value} (hown : w.ownsRow B 77 7 v n xs) (h1 : w'.ownsRow B 77 7 v' (n + 1) ys) (h2 : w.grownBy w' v.ownBlock) (h3 : v'.ownBlock = v.ownBlock ∨ ∃ g, v'.ownBlock = some g ∧ w.heap.size ≤ g) : InsEndC B w v (n + 1) ys v' w' := by
  rw [blk_own hown] at h2
  rw [blk_own hown, blk_own h1] at h3
  refine ⟨h1, ⟨h2.os, h2.tape, h2.output, h2.size, h2.block⟩, fun g hg => ?_⟩
  rcases h3 with h3 | ⟨g2, h3, h4⟩
  · exact .inl (by rw [← h3]; exact hg)
  · rw [h3] at hg
    exact .inr (by have := Option.some.inj hg; omega)

set_option maxHeartbeats 4000000 in
set_option maxRecDepth 100000 in
/-- At the end. -/
theorem insC_end {B : Nat} {w : World} {v : Value} {n vb vcap : Nat} {xs y : List Value} (hown : w.ownsRow B 77 7 v n xs) (hB : B ≤ w.heap.size) (hb : (n + 1) * 96 ≤ 140737488355328) (hsl : Sl w 7 (.slice (some ⟨vb, 0, none⟩) 1 vcap) 1 y) (hy1 : ∀ u ∈ y, u.oneCell' = true) :
    Calls Tryd.prog 98 #[v, .int .i64 n, .slice (some ⟨vb, 0, none⟩) 1 vcap] w fun e w' => ∃ v', e = .returned v' ∧ InsEndC B w v (n + 1) (xs ++ y) v' w' := by
  have HO := Lib.hid hown
  have HS := Lib.hid hsl
  clear hsl
  rcases hown.2 with ⟨rfl, rfl⟩ | ⟨g, cap, cur, rfl, hg, hh, hn, hmx, hcs, htk⟩
  · clear hown
    go_enter Tryd.func98, Tryd.ntmps98
    go_wp2_with (at_builtin; refine wpList_cat2 et_cpyI _ _ rfl rfl HO.out rfl rfl HS.out hy1 hb (by omega) hB ?_; intro v' w' h1 h2 h3)
    all_goals (go_ret; exact ⟨_, rfl, insEnd_cat HO.out h1 h2 h3⟩)
  · clear hown hh hcs htk
    have hn9 : n ≤ 9223372036854775807 := by omega
    unfold maxLen at hmx
    by_cases hcn : cap = n
    · subst hcn
      go_enter Tryd.func98, Tryd.ntmps98
      go_wp2_with (at_builtin; refine wpList_cat2 et_cpyI _ _ rfl rfl HO.out rfl rfl HS.out hy1 hb (by omega) hB ?_; intro v' w' h1 h2 h3)
      all_goals (go_ret; exact ⟨_, rfl, insEnd_cat HO.out h1 h2 h3⟩)
    · skip
      go_enter Tryd.func98, Tryd.ntmps98
      go_wp2_with (at_builtin; refine wpList_cat2 et_cpyI _ _ rfl rfl HO.out rfl rfl HS.out hy1 hb (by omega) hB ?_; intro v' w' h1 h2 h3)
      all_goals (go_ret; exact ⟨_, rfl, insEnd_cat HO.out h1 h2 h3⟩)

set_option maxHeartbeats 4000000 in
set_option maxRecDepth 100000 in
/-- Before an element, there is room: in place. -/
theorem insC_shift (b n c i vb vc : Nat) (cs vs : List Value) (w : World) (hi : i < n) (hroom : n + 1 ≤ c) (hc63 : c ≤ 9223372036854775807) (hvb : vb ≠ b) (hcl : cs.length = n * 7) (hvl : vs.length = 7)
    (hcs : ∀ j v, cs[j]? = some v → w.cell? ⟨b, j, none⟩ = some v) (hsp : ∀ j, j < (n + 1) * 7 → (w.cell? ⟨b, j, none⟩).isSome = true) (hfz : ∀ j, w.frozen? ⟨b, j, none⟩ = false)
    (hvs : ∀ j v, vs[j]? = some v → w.cell? ⟨vb, j, none⟩ = some v) (h1c : ∀ v ∈ cs, v.oneCell' = true) (h1v : ∀ v ∈ vs, v.oneCell' = true)
    (tA tB : TypeId) (kA kB : Nat) (hsa : w.shape? vb = some (tA, kA)) (hsb : w.shape? b = some (tB, kB)) (hkB : kB ≠ 0) (hfa : w.frozen? ⟨vb, 0, none⟩ = false) (hfe : w.frozen? ⟨vb, kA, none⟩ = false) :
    Calls Tryd.prog 98 #[.slice (some ⟨b, 0, none⟩) n c, .int .i64 i, .slice (some ⟨vb, 0, none⟩) 1 vc] w fun e w' =>
      e = .returned (.slice (some ⟨b, 0, none⟩) (n + 1) c) ∧ w' = (w.drew.setCells b ((i + 1) * 7) (cs.drop (i * 7))).setCells b (i * 7) vs := by
  have hsz : (Tryd.prog.info? 77).map (·.size) = some 7 := by
    obtain ⟨i0, hi0, h0, h1, h2⟩ := info_parts et_cpyI.hi
    rw [hi0]; simp [h1]
  have hov : ∀ lb cb, (callFunc 120 #[.slice (some ⟨vb, 0, none⟩) 1 vc, .slice (some ⟨b, (i + 1) * 7, none⟩) lb cb]).run Tryd.prog w = .ok (.value (.bool false)) w := fun lb cb => by
    rw [run_callFunc_extern Tryd.func120 (by kernel_rfl) (by kernel_rfl) (by kernel_rfl) (e := Extern.SlicesOverlaps.overlaps #[24, 24] #[4]) (by kernel_rfl),
      Lib.run_overlaps_apart w 24 4 77 et_cpyI.ht 7 et_cpyI.sizeOf ⟨vb, 0, none⟩ ⟨b, (i + 1) * 7, none⟩ 1 vc lb cb hvb tA tB kA kB hsa hsb hkB hfa hfe]
    rfl
  have hdl : (cs.drop (i * 7)).length = (n - i) * 7 := by rw [List.length_drop, hcl]; omega
  have hw1 : IntKind.i64.wrap ((i : Int) + 1) = (i : Int) + 1 := by rw [IntKind.wrap_i64]; omega
  have hw2 : IntKind.i64.wrap ((n : Int) + 1) = (n : Int) + 1 := by rw [IntKind.wrap_i64]; omega
  have hz2 : ¬ ((i : Int) = (n : Int)) := by omega
  have hb1 : (0 : Int) ≤ (i : Int) + 1 := by omega
  have hin : i ≤ n := by omega
  have htn : ((i : Int) + 1).toNat = i + 1 := by omega
  have hb2 : ¬ (c = i + 1) := by omega
  have hb3 : (i : Int) ≤ (n : Int) + 1 := by omega
  have hb4 : ¬ (c = i) := by omega
  have hcp1 : ∀ ty dc sc, (Builtin.copy_ #[24, 24] ty #[.slice (some ⟨b, (i + 1) * 7, none⟩) (n - i) dc, .slice (some ⟨b, i * 7, none⟩) (n + 1 - i) sc]).run Tryd.prog w.drew = .ok (goInt (Nat.min (n + 1 - i) (n - i))) (w.drew.setCells b ((i + 1) * 7) (cs.drop (i * 7))) := fun ty dc sc =>
    run_copy_sz w.drew _ _ ty 77 7 b ((i + 1) * 7) (n - i) dc ⟨b, i * 7, none⟩ (n + 1 - i) sc (cs.drop (i * 7)) et_cpyI.ht hsz (by rw [hdl]; simp only [Nat.min_def]; split <;> omega)
      (fun j v hj => by rw [Addr.add_lit]; exact hcs (i * 7 + j) v (by rwa [List.getElem?_drop] at hj))
      (fun j hj => hsp _ (by omega)) (fun j hj => hfz _) (fun v hv => h1c v (List.mem_of_mem_drop hv))
  obtain ⟨W1, hW1⟩ : ∃ W1, W1 = w.drew.setCells b ((i + 1) * 7) (cs.drop (i * 7)) := ⟨_, rfl⟩
  have hsp1 : ∀ k, k < (n + 1) * 7 → (W1.cell? ⟨b, k, none⟩).isSome = true := fun k hk => by
    rw [hW1]
    exact isSome_setCells b (cs.drop (i * 7)) ((i + 1) * 7) w.drew (fun j hj => hsp ((i + 1) * 7 + j) (by omega)) k (hsp k hk)
  have hcp2 : ∀ (W : World), (∀ x, W.cell? x = W1.cell? x) → (∀ x, W.frozen? x = W1.frozen? x) → ∀ ty dc, (Builtin.copy_ #[24, 24] ty #[.slice (some ⟨b, i * 7, none⟩) (n + 1 - i) dc, .slice (some ⟨vb, 0, none⟩) 1 vc]).run Tryd.prog W = .ok (goInt (Nat.min 1 (n + 1 - i))) (W.setCells b (i * 7) vs) := fun W hWc hWf ty dc =>
    run_copy_sz W _ _ ty 77 7 b (i * 7) (n + 1 - i) dc ⟨vb, 0, none⟩ 1 vc vs et_cpyI.ht hsz (by rw [hvl]; simp only [Nat.min_def]; split <;> omega)
      (fun j v hj => by
        rw [Addr.add_lit, hWc, hW1, World.cell?_setCells_out b _ _ _ _ (fun h _ => absurd h hvb), Nat.zero_add]
        exact hvs j v hj)
      (fun j hj => by rw [hWc]; exact hsp1 _ (by omega)) (fun j hj => by rw [hWf, hW1, World.frozen?_setCells]; exact hfz _) h1v
  rw [← hW1] at hcp1
  go_enter Tryd.func98, Tryd.ntmps98
  go_wp2_with (simp only [hov])
  go_region_law (refine step_copy_runI rfl _ _ 24 24 rfl _ _ (by simp [Act.eval, Act.put]) (by simp [Act.eval, Act.put]) (hcp1 _ _ _) ?_)
  go_wp2_with (at_builtin; refine wpList_copy_runI _ rfl _ _ 24 24 rfl _ _ rfl rfl (hcp2 _ (fun _ => rfl) (fun _ => rfl) _ _) ?_)
  go_ret
  first | exact ⟨rfl, rfl⟩ | exact ⟨rfl, by rw [hW1]⟩

def zcpyV : Value := (Value.agg #[(.string ⟨#[]⟩), (.string ⟨#[]⟩), (.string ⟨#[]⟩), (.int .i64 0), (.int .i64 0), (.int .i64 0), (.slice none 0 0)])
theorem zeros7 (k : Nat) : (Builtin.zeroCells zcpyV.cells k).size = k * 7 := by simp [Builtin.zeroCells, Value.cells, zcpyV]
set_option maxHeartbeats 4000000 in
set_option maxRecDepth 100000 in
/-- Before an element, there is no room: a new row. -/
theorem insC_grow (b n c i vb vc : Nat) (cs vs : List Value) (w : World) (hi : i < n) (hnc : n ≤ c) (hroom : c < n + 1) (hbig : (n + 1) * 96 ≤ 140737488355328) (hcl : cs.length = n * 7) (hvl : vs.length = 7)
    (hcs : ∀ j v, cs[j]? = some v → w.cell? ⟨b, j, none⟩ = some v)
    (hvs : ∀ j v, vs[j]? = some v → w.cell? ⟨vb, j, none⟩ = some v) (h1c : ∀ v ∈ cs, v.oneCell' = true) (h1v : ∀ v ∈ vs, v.oneCell' = true) :
    Calls Tryd.prog 98 #[.slice (some ⟨b, 0, none⟩) n c, .int .i64 i, .slice (some ⟨vb, 0, none⟩) 1 vc] w fun e w' =>
      e = .returned (.slice (some ⟨w.heap.size, 0, none⟩) (n + 1) (grownCap w (n + 1) c 77)) ∧
      w' = (((w.alloc (.cells ((cs.take (i * 7)).toArray ++ Builtin.zeroCells zcpyV.cells (n + 1 - i) ++ Builtin.zeroCells zcpyV.cells (grownCap w (n + 1) c 77 - (n + 1))) 77)).drew.setCells w.heap.size (i * 7) vs).drew).setCells w.heap.size ((i + 1) * 7) (cs.drop (i * 7)) := by
  obtain ⟨i0, hi0, hz0, hzs, hzb⟩ := info_parts et_cpyI.hi
  have hz0 : i0.zero = some zcpyV := hz0
  have htI : Tryd.prog.underlying 3 = some (.int .i64) := by kernel_rfl
  have hz2 : ¬ ((i : Int) = (n : Int)) := by omega
  have hz3 : (c : Int) < (n : Int) + 1 := by omega
  have hsz : (Tryd.prog.info? 77).map (·.size) = some 7 := by rw [hi0]; simp [hzs]
  have hbw : b < w.heap.size := block_lt_of_cell (hcs 0 _ (List.getElem?_eq_getElem (by omega)))
  have hvw : vb < w.heap.size := block_lt_of_cell (hvs 0 _ (List.getElem?_eq_getElem (by omega)))
  have hkk : (n : Int) + 1 - (i : Int) = ((n + 1 - i : Nat) : Int) := by omega
  have hik : i + (n + 1 - i) = n + 1 := by omega
  have hold : (Builtin.firstCells i0.size i (.slice (some ⟨b, 0, none⟩) i c)).run Tryd.prog w.drew = .ok (cs.take (i * 7)).toArray w.drew := by
    rw [hzs]
    exact run_firstCells_some w.drew 7 i ⟨b, 0, none⟩ i c (cs.take (i * 7)) (by rw [List.length_take]; omega) (fun j v hj => by
      rw [Addr.add_lit]
      rw [List.getElem?_take] at hj
      split at hj
      · rw [Nat.zero_add]; exact hcs j v hj
      · cases hj)
  have hrz : ∀ ty, (Builtin.append_ #[24, 3] ty #[.slice (some ⟨b, 0, none⟩) i c, .int .i64 ((n : Int) + 1 - (i : Int))]).run Tryd.prog w =
      .ok (.slice (some ⟨w.heap.size, 0, none⟩) (n + 1) (grownCap w (n + 1) c 77)) (w.drew.alloc (.cells ((cs.take (i * 7)).toArray ++ Builtin.zeroCells zcpyV.cells (n + 1 - i) ++ Builtin.zeroCells zcpyV.cells (grownCap w (n + 1) c 77 - (n + 1))) 77)) := fun ty => by
    have h := Lib.run_append_grow_zeros w 24 3 ty 77 i0 _ .i64 .i64 et_cpyI.ht htI hi0 hz0 (some ⟨b, 0, none⟩) i c (cs.take (i * 7)) hold (n + 1 - i) (by omega) (by omega) (by omega) (by omega) (by rw [hzb]; omega) (by rw [hzb, hik]; exact growslice_fits hroom hbig)
    rw [hik] at h
    rw [hkk]
    exact h
  obtain ⟨G, hG⟩ : ∃ G, G = grownCap w (n + 1) c 77 := ⟨_, rfl⟩
  obtain ⟨ROW, hROW⟩ : ∃ ROW : Array Value, ROW = (cs.take (i * 7)).toArray ++ Builtin.zeroCells zcpyV.cells (n + 1 - i) ++ Builtin.zeroCells zcpyV.cells (G - (n + 1)) := ⟨_, rfl⟩
  rw [← hG] at hrz ⊢
  rw [← hROW] at hrz ⊢
  have hRl : (n + 1) * 7 ≤ ROW.size := by
    rw [hROW]
    simp only [Array.size_append, zeros7, List.size_toArray, List.length_take]
    omega
  obtain ⟨W1, hW1⟩ : ∃ W1, W1 = w.drew.alloc (.cells ROW 77) := ⟨_, rfl⟩
  rw [← hW1] at hrz
  have hN : ∀ j, j < (n + 1) * 7 → (W1.cell? ⟨w.heap.size, j, none⟩).isSome = true := fun j hj => by
    rw [hW1, World.cell?_alloc_at (w := w.drew) ROW _ w.heap.size j rfl, Array.getElem?_eq_getElem (by omega)]; rfl
  have hNf : ∀ j, W1.frozen? ⟨w.heap.size, j, none⟩ = false := fun j => by rw [hW1]; exact World.frozen?_alloc_at (w := w.drew) ROW _ w.heap.size j rfl
  have hOb : ∀ j v, w.cell? ⟨b, j, none⟩ = some v → W1.cell? ⟨b, j, none⟩ = some v := fun j v h => by rw [hW1, World.cell?_alloc_past (w := w.drew) _ b j hbw]; exact h
  have hOv : ∀ j v, w.cell? ⟨vb, j, none⟩ = some v → W1.cell? ⟨vb, j, none⟩ = some v := fun j v h => by rw [hW1, World.cell?_alloc_past (w := w.drew) _ vb j hvw]; exact h
  have hcpA : ∀ (W : World), (∀ x, W.cell? x = W1.cell? x) → (∀ x, W.frozen? x = W1.frozen? x) → ∀ ty dc, (Builtin.copy_ #[24, 24] ty #[.slice (some ⟨w.heap.size, i * 7, none⟩) (n + 1 - i) dc, .slice (some ⟨vb, 0, none⟩) 1 vc]).run Tryd.prog W = .ok (goInt (Nat.min 1 (n + 1 - i))) (W.setCells w.heap.size (i * 7) vs) := fun W hWc hWf ty dc =>
    run_copy_sz W _ _ ty 77 7 w.heap.size (i * 7) (n + 1 - i) dc ⟨vb, 0, none⟩ 1 vc vs et_cpyI.ht hsz (by rw [hvl]; simp only [Nat.min_def]; split <;> omega)
      (fun j v hj => by rw [Addr.add_lit, hWc, Nat.zero_add]; exact hOv _ v (hvs j v hj))
      (fun j hj => by rw [hWc]; exact hN _ (by omega)) (fun j hj => by rw [hWf]; exact hNf _) h1v
  have hGn : n + 1 ≤ G := by rw [hG]; exact grownCap_ge w _ _ _
  have hG63 : G ≤ 9223372036854775807 := by
    have := grownCap_le_maxLen w (n + 1) c 77 (by unfold maxLen; omega)
    rw [← hG] at this
    unfold maxLen at this
    omega
  have hGi : ¬ (G = i) := by omega
  have hGim : ¬ (G = i + 1) := by omega
  have hci : ¬ (c = i) := by omega
  have hbN : b ≠ w.heap.size := by omega
  have hdl : (cs.drop (i * 7)).length = (n - i) * 7 := by rw [List.length_drop, hcl]; omega
  have hcpB : ∀ (W : World), (∀ x, W.cell? x = (W1.setCells w.heap.size (i * 7) vs).cell? x) → (∀ x, W.frozen? x = (W1.setCells w.heap.size (i * 7) vs).frozen? x) → ∀ ty dc sc, (Builtin.copy_ #[24, 24] ty #[.slice (some ⟨w.heap.size, (i + 1) * 7, none⟩) (n - i) dc, .slice (some ⟨b, i * 7, none⟩) (n - i) sc]).run Tryd.prog W = .ok (goInt (Nat.min (n - i) (n - i))) (W.setCells w.heap.size ((i + 1) * 7) (cs.drop (i * 7))) := fun W hWc hWf ty dc sc =>
    run_copy_sz W _ _ ty 77 7 w.heap.size ((i + 1) * 7) (n - i) dc ⟨b, i * 7, none⟩ (n - i) sc (cs.drop (i * 7)) et_cpyI.ht hsz (by rw [hdl]; simp only [Nat.min_def]; split <;> omega)
      (fun j v hj => by
        rw [Addr.add_lit, hWc, World.cell?_setCells_out _ _ _ _ _ (fun h _ => absurd h hbN)]
        exact hOb _ v (hcs (i * 7 + j) v (by rwa [List.getElem?_drop] at hj)))
      (fun j hj => by rw [hWc]; exact isSome_setCells w.heap.size vs (i * 7) W1 (fun t ht => hN _ (by omega)) _ (hN _ (by omega)))
      (fun j hj => by rw [hWf, World.frozen?_setCells]; exact hNf _) (fun v hv => h1c v (List.mem_of_mem_drop hv))
  subst hW1
  have hE1 : ∀ x, ((w.alloc (.cells ROW 77)).drew).cell? x = (w.drew.alloc (.cells ROW 77)).cell? x := fun x => rfl
  have hE2 : ∀ x, ((w.alloc (.cells ROW 77)).drew).frozen? x = (w.drew.alloc (.cells ROW 77)).frozen? x := fun x => rfl
  have hF1 : ∀ x, (((w.alloc (.cells ROW 77)).drew.setCells w.heap.size (i * 7) vs).drew).cell? x = ((w.drew.alloc (.cells ROW 77)).setCells w.heap.size (i * 7) vs).cell? x := fun x => rfl
  have hF2 : ∀ x, (((w.alloc (.cells ROW 77)).drew.setCells w.heap.size (i * 7) vs).drew).frozen? x = ((w.drew.alloc (.cells ROW 77)).setCells w.heap.size (i * 7) vs).frozen? x := fun x => rfl
  have hw1 : IntKind.i64.wrap ((i : Int) + 1) = (i : Int) + 1 := by rw [IntKind.wrap_i64]; omega
  have hb1 : (0 : Int) ≤ (i : Int) + 1 := by omega
  have hin : i ≤ n := by omega
  have htn : ((i : Int) + 1).toNat = i + 1 := by omega
  have hb3 : (i : Int) ≤ (n : Int) := by omega
  clear hkk hik hold hROW hG hRl
  go_enter Tryd.func98, Tryd.ntmps98
  go_wp2_with (first
    | (at_builtin; refine Lib.wpList_append_run _ rfl _ _ _ _ rfl _ _ rfl rfl _ _ (hrz _) ?_)
    | (at_builtin; refine wpList_copy_runI _ rfl _ _ 24 24 rfl _ _ rfl rfl (hcpA _ hE1 hE2 _ _) ?_)
    | (at_builtin; refine wpList_copy_runI _ rfl _ _ 24 24 rfl _ _ rfl rfl (hcpB _ (fun _ => rfl) (fun _ => rfl) _ _ _) ?_))
  go_region_law (refine step_copy_runI rfl _ _ 24 24 rfl (.slice (some ⟨w.heap.size, (i + 1) * 7, none⟩) (n - i) (G - (i + 1))) (.slice (some ⟨b, i * 7, none⟩) (n - i) (c - i)) (by simp [Act.eval, Act.put]) (by simp [Act.eval, Act.put]) (hcpB _ hF1 hF2 3 (G - (i + 1)) (c - i)) ?_)
  go_wp2
  go_ret
  exact ⟨rfl, rfl⟩

theorem own_allocC {w : World} {B n cap : Nat} {ys : List Value} {A : Array Value} (hB : B ≤ w.heap.size) (hn : ys.length = n * 7) (hc : n ≤ cap) (hm : cap ≤ maxLen) (hA : A.size = cap * 7) (hy : A.toList.take (n * 7) = ys) {w' : World} (hw : w'.heap[w.heap.size]? = some (.cells A 77 (0, 0))) :
    w'.ownsRow B 77 7 (.slice (some ⟨w.heap.size, 0, none⟩) n cap) n ys :=
  ⟨hn, .inr ⟨w.heap.size, cap, A, rfl, hB, hw, hc, hm, hA, hy⟩⟩
set_option maxHeartbeats 1000000 in
theorem insC_calls {B : Nat} {w : World} {v : Value} {n i vb vcap : Nat} {xs y : List Value} {ecur : Array Value} {ety : TypeId} (hown : w.ownsRow B 77 7 v n xs) (hxs : ∀ u ∈ xs, u.oneCell' = true) (hi : i ≤ n) (hB : B ≤ w.heap.size) (hb : (n + 1) * 96 ≤ 140737488355328)
    (hvb : w.heap[vb]? = some (.cells ecur ety (0, 0))) (hvc : 1 ≤ vcap ∧ vcap ≤ 9223372036854775807) (hyl : y.length = 7) (hye : ecur.toList.take 7 = y) (hy1 : ∀ u ∈ y, u.oneCell' = true) (hne : blk v ≠ some vb) :
    Calls Tryd.prog 98 #[v, .int .i64 i, .slice (some ⟨vb, 0, none⟩) 1 vcap] w fun e w' => ∃ v', e = .returned v' ∧ InsEndC B w v (n + 1) (xs.take (i * 7) ++ y ++ xs.drop (i * 7)) v' w' := by
  have hxl : xs.length = n * 7 := hown.1
  have hG : n + 1 ≤ maxLen := by unfold maxLen; omega
  have hvs : ∀ j u, y[j]? = some u → w.cell? ⟨vb, j, none⟩ = some u := fun j u hj => by
    rw [cell_of_row w vb j ecur ety (0, 0) hvb, ← Array.getElem?_toList]
    rw [← hye, List.getElem?_take] at hj
    split at hj
    · exact hj
    · cases hj
  have hsl : Sl w 7 (.slice (some ⟨vb, 0, none⟩) 1 vcap) 1 y := ⟨by rw [hyl], .inr ⟨⟨vb, 0, none⟩, vcap, rfl, hvc.1, hvc.2, fun q hq => by
    rw [addr_add, Nat.zero_add]
    exact hvs q _ (List.getElem?_eq_getElem hq)⟩⟩
  by_cases hend : i = n
  · subst hend
    rw [List.take_of_length_le (by omega), List.drop_eq_nil_of_le (by omega), List.append_nil]
    exact insC_end hown hB hb hsl hy1
  have hlt : i < n := by omega
  rcases hown.2 with ⟨rfl, h0⟩ | ⟨g, cap, cur, rfl, hg, hh, hn, hmx, hcs, htk⟩
  · omega
  have hlen : (xs.take (i * 7) ++ y ++ xs.drop (i * 7)).length = (n + 1) * 7 := by simp; omega
  have hcl : cur.toList.length = cap * 7 := by rw [Array.length_toList, hcs]
  have hget : ∀ k, k < n * 7 → cur.toList[k]? = xs[k]? := fun k hk => by rw [← htk, List.getElem?_take, if_pos hk]
  have hcell : ∀ k, w.cell? ⟨g, k, none⟩ = cur[k]? := fun k => by rw [cell_of_row w g k cur 77 (0, 0) hh]
  have hcells : ∀ j u, xs[j]? = some u → w.cell? ⟨g, j, none⟩ = some u := fun j u hj => by
    have hjl := (List.getElem?_eq_some_iff.1 hj).1
    rw [hcell, ← hj, ← hget j (by omega), Array.getElem?_toList]
  have hsome : ∀ j, j < cap * 7 → (w.cell? ⟨g, j, none⟩).isSome = true := fun j hj => by
    rw [hcell, Array.getElem?_eq_getElem (by omega)]; rfl
  have hfz : ∀ k, w.frozen? ⟨g, k, none⟩ = false := fun k => by unfold World.frozen?; rw [hh]; simp
  have hfv : ∀ k, w.frozen? ⟨vb, k, none⟩ = false := fun k => by unfold World.frozen?; rw [hvb]; simp
  have hmx' : cap ≤ 9223372036854775807 := by unfold maxLen at hmx; omega
  by_cases hroom : n + 1 ≤ cap
  · refine (insC_shift g n cap i vb vcap xs y w hlt hroom hmx' (fun h => hne (by rw [h]; rfl)) hxl hyl hcells (fun j hj => hsome _ (by omega)) hfz hvs hxs hy1 ety 77 ecur.size cur.size (by unfold World.shape?; rw [hvb]) (by unfold World.shape?; rw [hh]) (by omega) (hfv _) (hfv _)).mono ?_
    rintro e w' ⟨rfl, rfl⟩
    have hs1 := setCells_heap (g := g) (e := 77) (xs.drop (i * 7)) ((i + 1) * 7) w.drew cur.toList (by rw [Array.toArray_toList]; exact hh) (by simp; omega)
    have hs := setCells_heap (g := g) (e := 77) y (i * 7) _ _ hs1 (by simp; omega)
    refine ⟨_, rfl, ⟨hlen, .inr ⟨g, cap, _, rfl, hg, hs, hroom, hmx, ?_, ?_⟩⟩, ((drew_turn w _).trans (setCells_turn g _ _ _)).trans (setCells_turn g _ _ _), fun g' hg' => .inl hg'⟩
    · simp; omega
    · rw [show (n + 1) * 7 = n * 7 + 7 by omega]
      refine ins_takeS hxl (by omega) hyl (fun k hk => ?_) (fun k hk => ?_) (fun k h1 h2 => ?_)
      · rw [get3]
        simp only [List.length_take, List.length_append, List.length_drop, hcl, hxl]
        rw [if_pos (by omega), List.getElem?_take, if_pos hk, get3]
        simp only [List.length_take, hcl]
        rw [if_pos (by omega), List.getElem?_take, if_pos (by omega), hget k (by omega)]
      · rw [get3]
        simp only [List.length_take, List.length_append, List.length_drop, hcl, hxl]
        rw [if_neg (by omega), if_pos (by omega)]
        congr 1
        omega
      · rw [get3]
        simp only [List.length_take, List.length_append, List.length_drop, hcl, hxl, hyl]
        rw [if_neg (by omega), if_neg (by omega), List.getElem?_drop, get3]
        simp only [List.length_take, List.length_drop, hcl, hxl]
        rw [if_neg (by omega), if_pos (by omega), List.getElem?_drop]
        congr 1
        omega
  · refine (insC_grow g n cap i vb vcap xs y w hlt hn (by omega) hb hxl hyl hcells hvs hxs hy1).mono ?_
    rintro e w' ⟨rfl, rfl⟩
    have hge := grownCap_ge w (n + 1) cap 77
    have hle := grownCap_le_maxLen w (n + 1) cap 77 hG
    generalize grownCap w (n + 1) cap 77 = G at hge hle
    have h0 := alloc_at w (.cells ((xs.take (i * 7)).toArray ++ Builtin.zeroCells zcpyV.cells (n + 1 - i) ++ Builtin.zeroCells zcpyV.cells (G - (n + 1))) 77 (0, 0))
    generalize hA : (xs.take (i * 7)).toArray ++ Builtin.zeroCells zcpyV.cells (n + 1 - i) ++ Builtin.zeroCells zcpyV.cells (G - (n + 1)) = A at h0
    have hAs : A.size = G * 7 := by rw [← hA]; simp only [Array.size_append, zeros7, List.size_toArray, List.length_take]; omega
    have hAg : ∀ k, k < i * 7 → A.toList[k]? = xs[k]? := fun k hk => by
      rw [← hA]
      simp only [Array.toList_append]
      rw [List.append_assoc, List.getElem?_append_left (by simp; omega)]
      simp only [List.getElem?_take]
      rw [if_pos hk]
    have hs1 := setCells_heap (g := w.heap.size) (e := 77) y (i * 7) (w.alloc (.cells A 77 (0, 0))).drew A.toList (by rw [Array.toArray_toList]; exact h0) (by simp; omega)
    have hs := setCells_heap (g := w.heap.size) (e := 77) (xs.drop (i * 7)) ((i + 1) * 7) (((w.alloc (.cells A 77 (0, 0))).drew.setCells w.heap.size (i * 7) y).drew) (A.toList.take (i * 7) ++ y ++ A.toList.drop (i * 7 + y.length)) hs1 (by simp; omega)
    refine ⟨_, rfl, own_allocC hB hlen hge hle ?_ ?_ hs, ?_, fun g' hg' => .inr ?_⟩
    · simp; omega
    · rw [show (n + 1) * 7 = n * 7 + 7 by omega]
      refine ins_takeS hxl (by omega) hyl (fun k hk => ?_) (fun k hk => ?_) (fun k h1 h2 => ?_)
      · rw [get3]
        simp only [List.length_take, List.length_append, List.length_drop, Array.length_toList, hAs, hxl, hyl]
        rw [if_pos (by omega), List.getElem?_take, if_pos (by omega), get3]
        simp only [List.length_take, Array.length_toList, hAs]
        rw [if_pos (by omega), List.getElem?_take, if_pos hk, hAg k hk]
      · rw [get3]
        simp only [List.length_take, List.length_append, List.length_drop, Array.length_toList, hAs, hxl, hyl]
        rw [if_pos (by omega), List.getElem?_take, if_pos (by omega), get3]
        simp only [List.length_take, Array.length_toList, hAs]
        rw [if_neg (by omega), if_pos (by omega)]
        congr 1
        omega
      · rw [get3]
        simp only [List.length_take, List.length_append, List.length_drop, Array.length_toList, hAs, hxl, hyl]
        rw [if_neg (by omega), if_pos (by omega), List.getElem?_drop]
        congr 1
        omega
    · have k1 := Turn.behind (alloc_turn w (.cells A 77 (0, 0)) (some g)) (Nat.le_refl _) ((drew_turn _ _).trans (setCells_turn w.heap.size y (i * 7) _))
      exact Turn.behind k1 (Nat.le_refl _) ((drew_turn _ _).trans (setCells_turn w.heap.size (xs.drop (i * 7)) ((i + 1) * 7) _))
    · simp [blk] at hg'; omega
end Go.Proofs.YtieccphckobhjaaDoor


namespace Go.Proofs.YtieccphckobhjaaDoor
open Go.RowKit Go.Shelf
set_option linter.unusedVariables false

theorem flat_ins (xs ys : Nat → Nat → Value) {n k : Nat} (s : Nat) (hk : k ≤ n) : (flat xs n s).take (k * s) ++ flat ys 1 s ++ (flat xs n s).drop (k * s) = flat (fun i j => if i < k then xs i j else if i = k then ys 0 j else xs (i - 1) j) (n + 1) s := by
  have h1 : flat xs n s = flat xs k s ++ flat (fun i => xs (k + i)) (n - k) s := by
    rw [flat_append, show k + (n - k) = n by omega]
    refine flat_congr fun i j hi hj => ?_
    by_cases h : i < k
    · rw [if_pos h]
    · rw [if_neg h, show k + (i - k) = i by omega]
  have hl := flat_length xs k s
  rw [h1, List.take_left' hl, List.drop_left' hl, flat_append, flat_append, show k + 1 + (n - k) = n + 1 by omega]
  refine flat_congr fun i j hi hj => ?_
  by_cases h : i < k
  · rw [if_pos (by omega), if_pos h, if_pos h]
  · rw [if_neg h]
    by_cases h2 : i = k
    · subst h2
      rw [if_pos (by omega), if_neg (by omega), if_pos rfl, Nat.sub_self]
    · rw [if_neg (by omega), show k + (i - (k + 1)) = i - 1 by omega, if_neg h, if_neg h2]
theorem ins_get {α : Type} {l : List α} {c : α} {p i : Nat} (hp : p ≤ l.length) (hi : i < (l.take p ++ [c] ++ l.drop p).length) : (l.take p ++ [c] ++ l.drop p)[i] = if h : i < p then l[i]'(by omega) else if h2 : i = p then c else l[i - 1]'(by simp at hi; omega) := by
  have hT : (l.take p).length = p := by rw [List.length_take]; omega
  have hi2 : i < l.length + 1 := by simp at hi; omega
  by_cases h1 : i < p
  · rw [dif_pos h1, List.getElem_append_left (by simp; omega), List.getElem_append_left (by omega), List.getElem_take]
  · rw [dif_neg h1]
    by_cases h2 : i = p
    · subst h2
      rw [dif_pos rfl, List.getElem_append_left (by simp; omega), List.getElem_append_right (by omega)]
      simp
    · rw [dif_neg h2, List.getElem_append_right (by simp; omega), List.getElem_drop]
      congr 1
      simp
      omega
theorem Rep.turn {F : Nat → Prop} {w w' : World} {x : Value} {d : D} {row : Option Nat} (h : Rep F w x d) (hF : ∀ b, F b → b < w.heap.size) (hr : ∀ g, row = some g → ¬ F g) (ht : Turn w w' row) : Rep F w' x d :=
  repS_d (RepS.turn (ρ := fun _ => x) (.d h) hF hr ht fun b hb => hb)
section
variable {cx : Cx} {ops : Array Oper} {o : Oper} {rest : List Oper} {e : Env} {σ : Obs} {Q : Post}
/-- slices.Insert(s, i, x) at an own []api.Copy of data. -/
theorem AOps.insertC {s i x : Operand} {ts : Array TypeId} {id idx ex dst k : Nat} {els : List (List D)} {y : List D} {m : Int} (σ' : Obs) (hP : cx.P = Tryd.prog) (hg : o.guard = none) (ht : o.dst = some dst) (hdn : Nat.blt dst cx.N = true)
    (ho : o.op = .call { callee := .value (.func 98), args := #[s, i, x], argTypes := ts }) (hs : e.ev s = .own id) (hm : (id, Ob.row 77 7 els) ∈ σ) (hi : e.ev i = .d (.v (.int .i64 m))) (hk : m = (k : Int)) (hkl : k ≤ els.length)
    (hx : e.ev x = .own idx) (hmx : (idx, Ob.row ex 7 [y]) ∈ σ) (hne : idx ≠ id) (hb : (els.length + 1) * 96 ≤ 140737488355328)
    (hσ : ∀ p ∈ σ', p = (id, Ob.row 77 7 (els.take k ++ [y] ++ els.drop k)) ∨ ∃ q ∈ σ, q.1 ≠ id ∧ p = (q.1, q.2.kill id))
    (q : AOps cx ops rest ((e.kill id).put (some dst) (.own id)) σ' Q) (hfx : cx.free id = true := by rfl) : AOps cx ops (o :: rest) e σ Q := by
  intro a w ⟨F, ρ, hr⟩
  have r1 := ev_rep (e := e) (x := s) (a := a) (fun t _ => hr.env t)
  have r2 := ev_rep (e := e) (x := i) (a := a) (fun t _ => hr.env t)
  have r3 := ev_rep (e := e) (x := x) (a := a) (fun t _ => hr.env t)
  rw [hs] at r1
  rw [hi] at r2
  rw [hx] at r3
  have v1 : a.eval s = ρ id := by generalize a.eval s = v at r1; cases r1; rfl
  have v2 := repS_v r2
  have v3 : a.eval x = ρ idx := by generalize a.eval x = v at r3; cases r3; rfl
  obtain ⟨xs, hown, hlen, hrep, hnF⟩ := hr.obs.ok _ hm
  obtain ⟨ys, hox, hylen, hyrep, _⟩ := hr.obs.ok _ hmx
  dsimp only at hown hox hnF
  have hyl : y.length = 7 := by simpa using hylen 0 (by simp)
  have hown' : w.ownsRow cx.B 77 7 (ρ id) els.length (flat xs els.length 7) := hown
  have hox' : w.ownsRow cx.B ex 7 (ρ idx) 1 (flat ys 1 7) := hox
  rcases hox'.2 with ⟨_, h0⟩ | ⟨vb, vcap, ecur, hvb, _, hh, hn1, hvm, hcs, htk⟩
  · simp at h0
  have one1 : ∀ u ∈ flat xs els.length 7, u.oneCell' = true := fun u hu => by
    obtain ⟨l, hl, hu⟩ := List.mem_flatten.1 hu
    obtain ⟨i, hi, rfl⟩ := List.mem_map.1 hl
    obtain ⟨j, hj, rfl⟩ := List.mem_map.1 hu
    have hi' : i < els.length := by simpa using hi
    exact (hrep i hi' j (by rw [hlen i hi']; simpa using hj)).1
  have one2 : ∀ u ∈ flat ys 1 7, u.oneCell' = true := fun u hu => by
    obtain ⟨l, hl, hu⟩ := List.mem_flatten.1 hu
    obtain ⟨i, hi, rfl⟩ := List.mem_map.1 hl
    obtain ⟨j, hj, rfl⟩ := List.mem_map.1 hu
    have hi' : i = 0 := by simpa using hi
    subst hi'
    exact (hyrep 0 (by simp) j (by simp only [List.getElem_cons_zero, hyl]; simpa using hj)).1
  have hE : Enters cx.P 98 := by rw [hP]; exact Enters.of Tryd.func98 rfl rfl
  have hx' : (execOp a.eval o).run cx.P w = .ok (.enter 98 #[a.eval s, a.eval i, a.eval x]) w := by
    obtain ⟨xs, hxs⟩ : ∃ xs : List Operand, xs = [s, i, x] := ⟨_, rfl⟩
    have ho' : o.op = .call { callee := .value (.func 98), args := xs.toArray, argTypes := ts } := by rw [ho, hxs]
    have h5 := hE (xs.map a.eval).toArray w
    have h6 : (execOp a.eval o).run cx.P w = .ok (.enter 98 (xs.map a.eval).toArray) w := by
      unfold execOp
      simp only [ho', resolve, Deferred.ofValue, Act.eval, invoke, Sem.run_bind, Sem.run_pure, Result.andThen_ok]
      simpa using h5
    rw [hxs] at h6
    exact h6
  have hc := insC_calls (i := k) (vb := vb) (vcap := vcap) (y := flat ys 1 7) hown' one1 hkl hr.hB hb hh ⟨hn1, by unfold maxLen at hvm; omega⟩ (by rw [flat_length]) (by simpa using htk) one2 (fun he => hr.obs.apart _ hmx _ hm hne vb (by dsimp only; rw [hvb]; rfl) (by dsimp only; exact he))
  rw [v1, v2, v3, hvb, hk] at hx'
  rw [← hP] at hc
  refine wpList_plain hg fun K hK => ?_
  unfold Oper.wp
  rw [hx']
  refine hc.mono fun _ w' ⟨v', he, hI⟩ => ?_
  subst he
  have hlen2 : (els.take k ++ [y] ++ els.drop k).length = els.length + 1 := by simp; omega
  have hturn := hr.turn (ρ' := fun j => if j = id then v' else ρ j) (id := id) (ob := .row 77 7 (els.take k ++ [y] ++ els.drop k)) (row := blk (ρ id)) (w' := w') (F' := F) (fun j hj => by simp [hj]) hI.turn hfx
    (fun g hg => ⟨hr.kown _ hm g hg, hnF g hg, fun p hp hpi => fun he => hr.obs.apart p hp _ hm hpi g he hg⟩) (fun b hb => hb) (fun b hb => .inl hb) (fun b hb => Nat.lt_of_lt_of_le (hr.lt b hb) hI.turn.size)
    ⟨fun i j => if i < k then xs i j else if i = k then ys 0 j else xs (i - 1) j, by
      dsimp only
      rw [if_pos rfl]
      have h6 := hI.own
      rw [flat_ins xs ys 7 hkl] at h6
      rw [hlen2]
      exact h6, fun i hi => by
      rw [ins_get hkl hi]
      split
      · exact hlen _ _
      · split
        · exact hyl
        · exact hlen _ _, fun i hi j hj => by
      have hr7 : ∀ x d, Rep F w x d → Rep F w' x d := fun x d h => h.turn hr.lt hnF hI.turn
      have hi2 : i < els.length + 1 := by rw [hlen2] at hi; exact hi
      have hg := ins_get hkl hi
      by_cases h1 : i < k
      · rw [dif_pos h1] at hg
        simp only [if_pos h1]
        simp only [hg] at hj ⊢
        exact ⟨(hrep i (by omega) j hj).1, hr7 _ _ (hrep i (by omega) j hj).2⟩
      · rw [dif_neg h1] at hg
        by_cases h2 : i = k
        · rw [dif_pos h2] at hg
          simp only [if_neg h1, if_pos h2]
          simp only [hg] at hj ⊢
          have h8 := hyrep 0 (by simp) j (by simpa using hj)
          exact ⟨h8.1, hr7 _ _ (by simpa using h8.2)⟩
        · rw [dif_neg h2] at hg
          simp only [if_neg h1, if_neg h2]
          simp only [hg] at hj ⊢
          exact ⟨(hrep (i - 1) (by omega) j hj).1, hr7 _ _ (hrep (i - 1) (by omega) j hj).2⟩, fun g hg hf => by
      dsimp only at hg
      rw [if_pos rfl] at hg
      rcases hI.new g hg with h6 | h6
      · exact hnF g h6 hf
      · have := hr.lt g hf; omega⟩ (fun g hg => by rw [if_pos rfl] at hg; exact hI.new g hg) σ' hσ
  have h9 := hturn.put (o := ⟨some dst, .ready 0, 0, "", #[], none⟩) (v := v') (s := .own id) (Ext.refl hturn.lt) (by
      have := RepS.own (F := F) (ρ := fun j => if j = id then v' else ρ j) (w := w') id
      simpa using this) (by simpa [DstOk, Nat.blt_eq] using hdn)
  have := q _ _ ⟨F, _, h9⟩
  rw [← ht] at this
  exact hK _ _ this
end
end Go.Proofs.YtieccphckobhjaaDoor


namespace Go.Proofs.YtieccphckobhjaaDoor
open Go.RowKit
set_option linter.unusedVariables false

/-! Types. -/
namespace TyW15

end TyW15
open TyW15


theorem cb_anti : ∀ a b : List UInt8, Lib.compareBytes a b = - Lib.compareBytes b a
  | [], [] => rfl
  | [], _ :: _ => rfl
  | _ :: _, [] => rfl
  | x :: a, y :: b => by
    unfold Lib.compareBytes
    by_cases h1 : x < y
    · rw [if_pos h1, if_neg (fun h => absurd (UInt8.lt_trans h1 h) (UInt8.lt_irrefl _)), if_pos h1]
    · rw [if_neg h1]
      by_cases h2 : y < x
      · rw [if_pos h2, if_pos h2]; rfl
      · rw [if_neg h2, if_neg h2, if_neg h1]; exact cb_anti a b
theorem strCmp_anti (a b : ByteArray) : strCmp a b = - strCmp b a := cb_anti _ _
theorem cpyCmp_anti (a b : Cpy) : cpyCmp a b = - cpyCmp b a := by
  unfold cpyCmp
  by_cases h : a.item = b.item
  · rw [if_pos h, if_pos h.symm]; exact strCmp_anti _ _
  · rw [if_neg h, if_neg (fun e => h e.symm)]; exact strCmp_anti _ _
/-- In order. -/
def SL (l : List Cpy) : Prop := ∀ i j (hi : i < l.length) (hj : j < l.length), i < j → cpyCmp l[i] l[j] < 0
theorem pos_spec {l : List Cpy} (h : SL l) (t : Cpy) : (∀ j (hj : j < l.length), j < posC l t → cpyCmp l[j] t < 0) ∧ (∀ j (hj : j < l.length), posC l t ≤ j → ¬ cpyCmp l[j] t < 0) := by
  have hs := bsr_spec2 (lt := ltC l t) (N := l.length) (fun a b hab hb hlb => by
    have ha : a < l.length := by omega
    rw [ltC_eq hb] at hlb
    rw [ltC_eq ha]
    have h1 := of_decide_eq_true hlb
    by_cases e : a = b
    · subst e; exact decide_eq_true h1
    · exact decide_eq_true (cpyCmp_trans (h a b ha hb (by omega)) h1)) l.length 0 l.length (by omega) (Nat.zero_le _) (Nat.le_refl _) (fun j hj => by omega)
  refine ⟨fun j hj hl => ?_, fun j hj hl => ?_⟩
  · have h1 := hs.1 j hl
    rw [ltC_eq hj] at h1
    exact of_decide_eq_true h1
  · have h1 := hs.2 j hl hj
    rw [ltC_eq hj] at h1
    exact of_decide_eq_false h1
theorem cmp_key (x : Cpy) {it ca : ByteArray} {c : Cpy} (h1 : c.item = it) (h2 : c.carrier = ca) : cpyCmp x (keyC it ca) = cpyCmp x c := cpyCmp_same rfl rfl h1.symm h2.symm
theorem has_at {l : List Cpy} (h : SL l) {k : Nat} (hk : k < l.length) : posC l (keyC l[k].item l[k].carrier) = k ∧ hasC l (keyC l[k].item l[k].carrier) = true := by
  have hs := pos_spec h (keyC l[k].item l[k].carrier)
  have hself : cpyCmp l[k] (keyC l[k].item l[k].carrier) = 0 := cpyCmp_eq rfl rfl
  have hpos : posC l (keyC l[k].item l[k].carrier) = k := by
    rcases Nat.lt_trichotomy (posC l (keyC l[k].item l[k].carrier)) k with hh | hh | hh
    · have h1 := hs.2 _ (by omega) (Nat.le_refl _)
      rw [cmp_key _ rfl rfl] at h1
      exact absurd (h _ k (by omega) hk hh) h1
    · exact hh
    · have h1 := hs.1 k hk hh
      omega
  exact ⟨hpos, hasC_t hk hpos hself⟩
theorem has_if {v : Vlt} {l : List Cpy} (hv : SL l) (it ca : ByteArray) : (0 ≤ copyIdx (withC v l) it ca ↔ hasC l (keyC it ca) = true) ∧ (0 ≤ copyIdx (withC v l) it ca → copyIdx (withC v l) it ca = (posC l (keyC it ca) : Int)) := by
  refine ⟨⟨fun h => ?_, fun h => ?_⟩, fun h => ?_⟩
  · obtain ⟨k, hk, _, h2, h3⟩ := idx_nonneg (v := withC v l) rfl h
    rw [← h2, ← h3]
    exact (has_at hv hk).2
  · obtain ⟨hk, h1, h2⟩ := hasC_spec h
    unfold copyIdx idxBy
    rw [if_pos (List.any_eq_true.2 ⟨_, List.getElem_mem (l := (withC v l).copies) hk, by simp only [Bool.and_eq_true, decide_eq_true_eq]; exact ⟨h1, h2⟩⟩)]
    omega
  · obtain ⟨k, hk, h1, h2, h3⟩ := idx_nonneg (v := withC v l) rfl h
    rw [h1, ← h2, ← h3]
    exact congrArg _ (has_at hv hk).1.symm
theorem has_not {v : Vlt} {l : List Cpy} (hv : SL l) {it ca : ByteArray} (h : copyIdx (withC v l) it ca < 0) : hasC l (keyC it ca) = false := by
  cases hc : hasC l (keyC it ca) with
  | false => rfl
  | true => have := (has_if (v := v) hv it ca).1.2 hc; omega
def insC (l : List Cpy) (c : Cpy) : List Cpy := l.take (posC l (keyC c.item c.carrier)) ++ [c] ++ l.drop (posC l (keyC c.item c.carrier))
theorem insC_len (l : List Cpy) (c : Cpy) : (insC l c).length = l.length + 1 := by
  have := posC_le l (keyC c.item c.carrier)
  unfold insC
  simp
  omega
theorem insC_mem {l : List Cpy} {c x : Cpy} (h : x ∈ insC l c) : x = c ∨ x ∈ l := by
  unfold insC at h
  rcases List.mem_append.1 h with h | h
  · rcases List.mem_append.1 h with h | h
    · exact .inr (List.mem_of_mem_take h)
    · exact .inl (List.mem_singleton.1 h)
  · exact .inr (List.mem_of_mem_drop h)
theorem insC_get {l : List Cpy} {c : Cpy} {k : Nat} (hk : k < (insC l c).length) : (insC l c)[k] = if h : k < posC l (keyC c.item c.carrier) then l[k]'(by have := posC_le l (keyC c.item c.carrier); omega) else if h2 : k = posC l (keyC c.item c.carrier) then c else l[k - 1]'(by rw [insC_len] at hk; have := posC_le l (keyC c.item c.carrier); omega) := ins_get (posC_le l (keyC c.item c.carrier)) hk
theorem insC_SL {l : List Cpy} {c : Cpy} (h : SL l) (hn : hasC l (keyC c.item c.carrier) = false) : SL (insC l c) := by
  have hs := pos_spec h (keyC c.item c.carrier)
  have hlo : ∀ j (hj : j < l.length), j < posC l (keyC c.item c.carrier) → cpyCmp l[j] c < 0 := fun j hj hh => by have := hs.1 j hj hh; rwa [cmp_key _ rfl rfl] at this
  have hp0 : ∀ hj : posC l (keyC c.item c.carrier) < l.length, cpyCmp c l[posC l (keyC c.item c.carrier)] < 0 := fun hj => by
    have h1 := hs.2 _ hj (Nat.le_refl _)
    have h2 : ¬ cpyCmp l[posC l (keyC c.item c.carrier)] (keyC c.item c.carrier) = 0 := fun hh => by rw [hasC_t hj rfl hh] at hn; simp at hn
    rw [cmp_key _ rfl rfl] at h1 h2
    rw [cpyCmp_anti]
    omega
  have hhi : ∀ j (hj : j < l.length), posC l (keyC c.item c.carrier) ≤ j → cpyCmp c l[j] < 0 := fun j hj hh => by
    by_cases e : posC l (keyC c.item c.carrier) = j
    · subst e; exact hp0 hj
    · exact cpyCmp_trans (hp0 (by omega)) (h _ j (by omega) hj (by omega))
  intro i j hi hj hij
  have hi2 := hi
  have hj2 := hj
  rw [insC_len] at hi2 hj2
  rw [insC_get hi, insC_get hj]
  by_cases i1 : i < posC l (keyC c.item c.carrier)
  · rw [dif_pos i1]
    by_cases j1 : j < posC l (keyC c.item c.carrier)
    · rw [dif_pos j1]; exact h i j _ _ hij
    · rw [dif_neg j1]
      by_cases j2 : j = posC l (keyC c.item c.carrier)
      · rw [dif_pos j2]; exact hlo i _ i1
      · rw [dif_neg j2]; exact h i (j - 1) _ _ (by omega)
  · by_cases i2 : i = posC l (keyC c.item c.carrier)
    · rw [dif_neg i1, dif_pos i2, dif_neg (show ¬ j < posC l (keyC c.item c.carrier) by omega), dif_neg (show ¬ j = posC l (keyC c.item c.carrier) by omega)]
      exact hhi (j - 1) _ (by omega)
    · rw [dif_neg i1, dif_neg i2, dif_neg (show ¬ j < posC l (keyC c.item c.carrier) by omega), dif_neg (show ¬ j = posC l (keyC c.item c.carrier) by omega)]
      exact h (i - 1) (j - 1) _ _ (by omega)
/-- What the copies keep, while transfers are made. -/
structure TS (v : Vlt) (l : List Cpy) : Prop where
  ord : SL l
  it : ∀ c ∈ l, 0 ≤ itemIdx v c.item
  ca : ∀ c ∈ l, 0 ≤ carrIdx v c.carrier
  gen : ∀ c ∈ l, 1 ≤ c.gen ∧ c.gen ≤ 100
theorem TS.of {v : Vlt} (h : VOk v) : TS v v.copies := ⟨h.lt, fun c hc => (h.cpy c hc).item, fun c hc => (h.cpy c hc).carr, fun c hc => (h.cpy c hc).gen⟩
theorem nodup_le {α : Type} [DecidableEq α] : ∀ {l m : List α}, l.Nodup → (∀ x ∈ l, x ∈ m) → l.length ≤ m.length
  | [], m, _, _ => Nat.zero_le _
  | x :: l, m, hd, hs => by
    have hx := hs x (.head _)
    have h1 := List.nodup_cons.1 hd
    have h2 : l.length ≤ (m.erase x).length := nodup_le h1.2 fun y hy => (List.mem_erase_of_ne (a := y) (b := x) (fun e : y = x => h1.1 (e ▸ hy))).2 (hs y (.tail _ hy))
    rw [List.length_erase_of_mem hx] at h2
    have h3 := List.length_pos_of_mem hx
    simp only [List.length_cons]
    omega
def pairC (c : Cpy) : List UInt8 × List UInt8 := (c.item.data.toList, c.carrier.data.toList)
theorem flat_const {α β : Type} (f : α → List β) {b : Nat} (h : ∀ x, (f x).length = b) : ∀ l : List α, (l.flatMap f).length = l.length * b
  | [] => by simp
  | x :: l => by rw [List.flatMap_cons, List.length_append, h, flat_const f h l, List.length_cons, Nat.succ_mul]; omega
theorem raw_inj {a b : ByteArray} (h : a.data.toList = b.data.toList) : a = b := by
  cases a; cases b
  congr 1
  exact Array.toList_inj.1 h
theorem idx_named {α : Type} {f : α → ByteArray} {l : List α} {nm : ByteArray} (h : 0 ≤ idxBy (fun x => decide (f x = nm)) l) : ∃ x ∈ l, f x = nm := by
  obtain ⟨k, hk, _, h2⟩ := idxBy_some h
  exact ⟨_, List.getElem_mem hk, of_decide_eq_true h2⟩
theorem TS.len {v : Vlt} {l : List Cpy} (h : TS v l) (hi : v.items.length ≤ 30) (hc : v.carrs.length ≤ 16) : l.length ≤ 480 := by
  have hnd : (l.map pairC).Nodup := by
    rw [List.nodup_iff_pairwise_ne, List.pairwise_iff_getElem]
    intro i j h1 h2 hij e
    have hi' : i < l.length := by simpa using h1
    have hj' : j < l.length := by simpa using h2
    rw [List.getElem_map, List.getElem_map] at e
    have e1 := raw_inj (congrArg Prod.fst e)
    have e2 := raw_inj (congrArg Prod.snd e)
    have h3 := h.ord i j hi' hj' hij
    rw [cpyCmp_eq e1 e2] at h3
    omega
  have hsub : ∀ x ∈ l.map pairC, x ∈ v.items.flatMap (fun a => v.carrs.map fun b => (a.name.data.toList, b.name.data.toList)) := fun x hx => by
    obtain ⟨c, hc, rfl⟩ := List.mem_map.1 hx
    obtain ⟨a, ha, ea⟩ := idx_named (h.it c hc)
    obtain ⟨b, hb, eb⟩ := idx_named (h.ca c hc)
    refine List.mem_flatMap.2 ⟨a, ha, List.mem_map.2 ⟨b, hb, ?_⟩⟩
    unfold pairC
    rw [ea, eb]
  have h1 := nodup_le hnd hsub
  rw [List.length_map, flat_const _ (b := v.carrs.length) (fun x => by simp)] at h1
  have h2 : v.items.length * v.carrs.length ≤ 30 * 16 := Nat.mul_le_mul hi hc
  omega
/-- The copy that a transfer copies, and the one that it makes. -/
def tfrFrom (v : Vlt) (t : Tfr) : Cpy := v.copies.getD (copyIdx v t.item t.frm).toNat zC
def tfrNew (v : Vlt) (t : Tfr) (day : Int) : Cpy := ⟨t.item, t.to, t.frm, day, day, (tfrFrom v t).gen + 1, []⟩
def tfrFault (v : Vlt) (t : Tfr) (day : Int) : Int :=
  if itemIdx v t.item < 0 ∨ copyIdx v t.item t.frm < 0 ∨ carrIdx v t.to < 0 then 9 else if 0 ≤ copyIdx v t.item t.to then 7
  else if 0 < (tfrFrom v t).bad.length then 11 else if day < (tfrFrom v t).day ∨ (tfrFrom v t).gen = 100 then 1
  else if (carrAt v t.to).room < usedOn v t.to + itemBlocks v t.item then 2 else 0
def tfrC (v : Vlt) (l : List Cpy) (t : Tfr) (day : Int) : List Cpy := insC l (tfrNew (withC v l) t day)
def applyTo (v : Vlt) (day : Int) : List Tfr → List Cpy → Int × List Cpy
  | [], l => (0, l)
  | t :: ts, l => if tfrFault (withC v l) t day ≠ 0 then (tfrFault (withC v l) t day, l) else applyTo v day ts (tfrC v l t day)
def applyFault (v : Vlt) (ts : List Tfr) (day : Int) : Int :=
  if checkV v ≠ 0 then checkV v else if ¬ (0 ≤ day ∧ day ≤ 200000) then 1 else if (applyTo v day ts v.copies).1 ≠ 0 then (applyTo v day ts v.copies).1 else if 200 < (applyTo v day ts v.copies).2.length then 2 else 0
def applyV (v : Vlt) (ts : List Tfr) (day : Int) : Vlt := if applyFault v ts day = 0 then withC v (applyTo v day ts v.copies).2 else ⟨[], [], []⟩
theorem TS.next {v : Vlt} {l : List Cpy} {t : Tfr} {day : Int} (h : TS v l) (hf : tfrFault (withC v l) t day = 0) : TS v (tfrC v l t day) := by
  unfold tfrFault at hf
  by_cases h1 : itemIdx (withC v l) t.item < 0 ∨ copyIdx (withC v l) t.item t.frm < 0 ∨ carrIdx (withC v l) t.to < 0
  · rw [if_pos h1] at hf; simp at hf
  rw [if_neg h1] at hf
  by_cases h2 : 0 ≤ copyIdx (withC v l) t.item t.to
  · rw [if_pos h2] at hf; simp at hf
  rw [if_neg h2] at hf
  by_cases h3 : 0 < (tfrFrom (withC v l) t).bad.length
  · rw [if_pos h3] at hf; simp at hf
  rw [if_neg h3] at hf
  by_cases h4 : day < (tfrFrom (withC v l) t).day ∨ (tfrFrom (withC v l) t).gen = 100
  · rw [if_pos h4] at hf; simp at hf
  obtain ⟨k, hk, e, _, _⟩ := idx_nonneg (v := withC v l) rfl (show 0 ≤ copyIdx (withC v l) t.item t.frm by omega)
  have hg : tfrFrom (withC v l) t ∈ l := by unfold tfrFrom; rw [e, Int.toNat_natCast, getD_at hk]; exact List.getElem_mem hk
  have hgen := h.gen _ hg
  unfold tfrC
  refine ⟨insC_SL h.ord (has_not (v := v) h.ord (show copyIdx (withC v l) t.item t.to < 0 by omega)), fun c hc => ?_, fun c hc => ?_, fun c hc => ?_⟩ <;> rcases insC_mem hc with rfl | hc
  · show 0 ≤ itemIdx v t.item; exact Int.not_lt.1 fun hh => h1 (.inl hh)
  · exact h.it c hc
  · show 0 ≤ carrIdx v t.to; exact Int.not_lt.1 fun hh => h1 (.inr (.inr hh))
  · exact h.ca c hc
  · show 1 ≤ (tfrFrom (withC v l) t).gen + 1 ∧ (tfrFrom (withC v l) t).gen + 1 ≤ 100; omega
  · exact h.gen c hc
theorem applyTo_stop {v : Vlt} {day : Int} {t : Tfr} {ts : List Tfr} {l : List Cpy} (h : tfrFault (withC v l) t day ≠ 0) : applyTo v day (t :: ts) l = (tfrFault (withC v l) t day, l) := if_pos h
theorem applyTo_go {v : Vlt} {day : Int} {t : Tfr} {ts : List Tfr} {l : List Cpy} (h : tfrFault (withC v l) t day = 0) : applyTo v day (t :: ts) l = applyTo v day ts (tfrC v l t day) := if_neg (fun hh => hh h)
/-- Where Apply stands. -/
def ApS (v : Vlt) (ts : List Tfr) (day : Int) (g : Nat × List Cpy) : Prop := g.1 ≤ ts.length ∧ TS v g.2 ∧ applyTo v day ts v.copies = applyTo v day (ts.drop g.1) g.2
theorem ApS.next {v : Vlt} {ts : List Tfr} {day : Int} {k : Nat} {l : List Cpy} (h : ApS v ts day (k, l)) (hk : k < ts.length) (hf : tfrFault (withC v l) ts[k] day = 0) : ApS v ts day (k + 1, tfrC v l ts[k] day) := by
  refine ⟨hk, h.2.1.next hf, h.2.2.trans ?_⟩
  show applyTo v day (ts.drop k) l = _
  rw [List.drop_eq_getElem_cons hk, applyTo_go hf]
theorem ApS.stop {v : Vlt} {ts : List Tfr} {day : Int} {k : Nat} {l : List Cpy} (h : ApS v ts day (k, l)) (hk : k < ts.length) (hf : tfrFault (withC v l) ts[k] day ≠ 0) : (applyTo v day ts v.copies).1 = tfrFault (withC v l) ts[k] day := by
  rw [h.2.2]
  show (applyTo v day (ts.drop k) l).1 = _
  rw [List.drop_eq_getElem_cons hk, applyTo_stop hf]
theorem ApS.all {v : Vlt} {ts : List Tfr} {day : Int} {l : List Cpy} (h : ApS v ts day (ts.length, l)) : applyTo v day ts v.copies = (0, l) := by
  rw [h.2.2]
  show applyTo v day (ts.drop ts.length) l = _
  rw [List.drop_length]
  rfl


end Go.Proofs.YtieccphckobhjaaDoor


namespace Go.Proofs.YtieccphckobhjaaDoor
open Go.RowKit
set_option linter.unusedVariables false

/-! Types. -/
namespace TyW16

end TyW16
open TyW16


theorem less_cb : ∀ a b : List UInt8, Op.bytesLess a b = decide (Lib.compareBytes a b < 0)
  | [], [] => rfl
  | [], _ :: _ => rfl
  | _ :: _, [] => rfl
  | x :: a, y :: b => by
    unfold Op.bytesLess Lib.compareBytes
    by_cases h1 : x < y
    · rw [if_pos h1]; simp [h1]
    · rw [if_neg h1]
      by_cases h2 : y < x
      · rw [if_pos h2]
        have e : ¬ x = y := fun e => UInt8.lt_irrefl _ (e ▸ h2)
        simp [h1, e]
      · rw [if_neg h2]
        have e : x = y := UInt8.le_antisymm (UInt8.not_lt.1 h2) (UInt8.not_lt.1 h1)
        subst e
        rw [less_cb a b]
        simp [h1]
theorem sle_lt {a b : ByteArray} (h : sle b a = false) : strCmp a b < 0 := by
  unfold sle at h
  rw [Bool.or_eq_false_iff, less_cb, ByteArray.toList_eq, ByteArray.toList_eq] at h
  have h1 : ¬ strCmp b a < 0 := of_decide_eq_false h.1
  have h2 : ¬ strCmp b a = 0 := fun e => of_decide_eq_false h.2 (strCmp_zero.1 e)
  rw [strCmp_anti]
  omega
theorem VOk.carrLt {v : Vlt} (h : VOk v) : ∀ i j (hi : i < v.carrs.length) (hj : j < v.carrs.length), i < j → strCmp v.carrs[i].name v.carrs[j].name < 0 := by
  intro i j hi hj hij
  obtain ⟨d, rfl⟩ : ∃ d, j = i + d + 1 := ⟨j - i - 1, by omega⟩
  have step : ∀ k (hk : k + 1 < v.carrs.length), strCmp v.carrs[k].name v.carrs[k + 1].name < 0 := fun k hk => by
    have h1 := ffst_all _ h.carrs (k + 1) hk
    unfold carrFault at h1
    rw [dif_pos hk] at h1
    split at h1
    · simp at h1
    · split at h1
      · simp at h1
      · rename_i h3
        cases hs : sle v.carrs[k + 1].name v.carrs[k].name with
        | false => exact sle_lt hs
        | true => exact absurd ⟨Nat.succ_pos k, hs⟩ h3
  clear hij
  induction d with
  | zero => exact step i hj
  | succ d ih => exact strCmp_trans (ih (by omega) step) (step (i + d + 1) hj)
theorem VOk.carrInj {v : Vlt} (h : VOk v) {i j : Nat} (hi : i < v.carrs.length) (hj : j < v.carrs.length) (he : v.carrs[i].name = v.carrs[j].name) : i = j := by
  rcases Nat.lt_trichotomy i j with hh | hh | hh
  · have := h.carrLt i j hi hj hh
    rw [he, strCmp_self] at this; omega
  · exact hh
  · have := h.carrLt j i hj hi hh
    rw [he, strCmp_self] at this; omega
/-- Room by name. -/
def roomM (v : Vlt) (r : List Int) : List (Value × D) := List.zipWith (fun (c : Carr) (n : Int) => (Value.string c.name, D.v (.int .i64 n))) v.carrs r
theorem roomM_get? {v : Vlt} {r : List Int} {i : Nat} (hi : i < v.carrs.length) (hr : i < r.length) : (roomM v r)[i]? = some (.string v.carrs[i].name, .v (.int .i64 r[i])) := by
  unfold roomM
  rw [List.getElem?_zipWith, List.getElem?_eq_getElem hi, List.getElem?_eq_getElem hr]
theorem roomM_in {v : Vlt} {r : List Int} {j : Nat} {p : Value × D} (h : (roomM v r)[j]? = some p) : ∃ hj : j < v.carrs.length, j < r.length ∧ p.1 = .string v.carrs[j].name := by
  have hl : j < (roomM v r).length := (List.getElem?_eq_some_iff.1 h).1
  have hl2 : j < v.carrs.length ∧ j < r.length := by unfold roomM at hl; simp at hl; omega
  rw [roomM_get? hl2.1 hl2.2] at h
  exact ⟨hl2.1, hl2.2, by rw [← Option.some.inj h]⟩
theorem roomM_keys {v : Vlt} {r : List Int} : ∀ p ∈ roomM v r, MapKept.IsKey .string p.1 := fun p hp => by
  obtain ⟨j, hj⟩ := List.mem_iff_getElem?.1 hp
  obtain ⟨_, _, h⟩ := roomM_in hj
  rw [h]
  trivial
theorem roomM_one {v : Vlt} (vo : VOk v) {r : List Int} {i : Nat} (hi : i < v.carrs.length) : ∀ (j : Nat) (p : Value × D), (roomM v r)[j]? = some p → p.1 = .string v.carrs[i].name → j = i := fun j p h he => by
  obtain ⟨hj, _, h2⟩ := roomM_in h
  rw [h2] at he
  exact vo.carrInj hj hi (by injection he)
theorem roomM_look {v : Vlt} (vo : VOk v) {r : List Int} {i : Nat} (hi : i < v.carrs.length) (hr : i < r.length) {z : D} : MGet (roomM v r) (.string v.carrs[i].name) z (.v (.int .i64 r[i])) := .inl ⟨i, roomM_get? hi hr, roomM_one vo hi⟩
theorem roomM_put {v : Vlt} (vo : VOk v) {r : List Int} {i : Nat} (hi : i < v.carrs.length) (hr : i < r.length) (n : Int) : MPut (roomM v r) (.string v.carrs[i].name) (.v (.int .i64 n)) (roomM v (r.set i n)) := by
  refine .inl ⟨i, _, roomM_get? hi hr, roomM_one vo hi, ?_⟩
  apply List.ext_getElem?
  intro j
  rw [List.getElem?_set]
  by_cases h : i = j
  · subst h
    rw [if_pos rfl, roomM_get? hi (by rw [List.length_set]; exact hr), List.getElem_set_self, if_pos]
    unfold roomM
    simp
    omega
  · rw [if_neg h]
    unfold roomM
    rw [List.getElem?_zipWith, List.getElem?_zipWith, List.getElem?_set_ne h]
theorem roomM_add {v : Vlt} (vo : VOk v) {r : List Int} {k : Nat} (hk : k < v.carrs.length) (hr : k < r.length) : MPut (roomM v (r.take k)) (.string v.carrs[k].name) (.v (.int .i64 r[k])) (roomM v (r.take (k + 1))) := by
  refine .inr ⟨fun p hp he => ?_, ?_⟩
  · obtain ⟨j, hj⟩ := List.mem_iff_getElem?.1 hp
    obtain ⟨h1, h2, h3⟩ := roomM_in hj
    rw [h3] at he
    have := vo.carrInj h1 hk (by injection he)
    rw [List.length_take] at h2
    omega
  · unfold roomM
    obtain ⟨c, hc, hl⟩ : ∃ c, v.carrs = c ∧ k < c.length := ⟨_, rfl, hk⟩
    apply List.ext_getElem?
    intro j
    rw [List.getElem?_zipWith]
    by_cases h : j < k
    · rw [List.getElem?_append_left (by simp; omega), List.getElem?_zipWith, List.getElem?_take, if_pos (by omega), List.getElem?_take, if_pos h]
    · rw [List.getElem?_append_right (by simp; omega)]
      have hlen : (List.zipWith (fun (c : Carr) (n : Int) => (Value.string c.name, D.v (.int .i64 n))) v.carrs (r.take k)).length = k := by simp; omega
      rw [hlen]
      by_cases h2 : j = k
      · subst h2
        rw [List.getElem?_take, if_pos (by omega), List.getElem?_eq_getElem hk, List.getElem?_eq_getElem hr, Nat.sub_self]
        rfl
      · rw [List.getElem?_take, if_neg (by omega), List.getElem?_eq_none (l := [_]) (by simp; omega)]
        cases v.carrs[j]? <;> rfl


end Go.Proofs.YtieccphckobhjaaDoor


namespace Go.Proofs.YtieccphckobhjaaDoor
open Go.RowKit
set_option linter.unusedVariables false

/-! Types. -/
namespace TyW17
theorem ag_26 : AggT Tryd.prog 26 3 := .of (by kernel_rfl)
theorem ag_28 : AggT Tryd.prog 28 6 := .of (by kernel_rfl)
theorem ag_69 : AggT Tryd.prog 69 2 := .of (by kernel_rfl)
theorem ag_73 : AggT Tryd.prog 73 5 := .of (by kernel_rfl)
theorem bu_130 : StructT Tryd.prog 130 (fun i => (#[(0, 1), (1, 1), (2, 1)] : Array (Nat × Nat))[i]?) [(.string ⟨#[]⟩), (.string ⟨#[]⟩), (.string ⟨#[]⟩)] := .of (by kernel_rfl) (by kernel_rfl) (by decide)
theorem et_22 : ElemTy Tryd.prog 22 69 2 24 (.agg #[(.string ⟨#[]⟩), (.int .i64 0)]) := ⟨by kernel_rfl, by kernel_rfl, by kernel_rfl, by decide⟩
theorem et_23 : ElemTy Tryd.prog 23 73 5 64 (.agg #[(.string ⟨#[]⟩), (.string ⟨#[]⟩), (.string ⟨#[]⟩), (.int .i64 0), (.int .i64 0)]) := ⟨by kernel_rfl, by kernel_rfl, by kernel_rfl, by decide⟩
theorem et_62 : ElemTy Tryd.prog 62 130 3 48 (.agg #[(.string ⟨#[]⟩), (.string ⟨#[]⟩), (.string ⟨#[]⟩)]) := ⟨by kernel_rfl, by kernel_rfl, by kernel_rfl, by decide⟩
theorem et_75 : ElemTy Tryd.prog 75 3 1 8 (.int .i64 0) := ⟨by kernel_rfl, by kernel_rfl, by kernel_rfl, by decide⟩
theorem fo_26_0 : fieldOff Tryd.prog 26 0 = some 0 := by kernel_rfl
theorem fo_26_1 : fieldOff Tryd.prog 26 1 = some 1 := by kernel_rfl
theorem fo_69_0 : fieldOff Tryd.prog 69 0 = some 0 := by kernel_rfl
theorem fo_69_1 : fieldOff Tryd.prog 69 1 = some 1 := by kernel_rfl
theorem fo_73_0 : fieldOff Tryd.prog 73 0 = some 0 := by kernel_rfl
theorem fo_77_1 : fieldOff Tryd.prog 77 1 = some 1 := by kernel_rfl
theorem kk_9 : Tryd.prog.underlying 9 = some .string := by kernel_rfl
theorem mt_119 : Tryd.prog.underlying 119 = some (.map 9 3) := by kernel_rfl
theorem sc_22 : Scal Tryd.prog 22 := .of (by kernel_rfl)
theorem sc_23 : Scal Tryd.prog 23 := .of (by kernel_rfl)
theorem sc_3 : Scal Tryd.prog 3 := .of (by kernel_rfl)
theorem sc_9 : Scal Tryd.prog 9 := .of (by kernel_rfl)
theorem sz_23 : ∀ w, (sizeOf 23).run Tryd.prog w = .ok 1 w := SizeT.of (by kernel_rfl)
theorem sz_69 : ∀ w, (sizeOf 69).run Tryd.prog w = .ok 2 w := SizeT.of (by kernel_rfl)
theorem sz_73 : ∀ w, (sizeOf 73).run Tryd.prog w = .ok 5 w := SizeT.of (by kernel_rfl)
theorem sz_77 : ∀ w, (sizeOf 77).run Tryd.prog w = .ok 7 w := SizeT.of (by kernel_rfl)
theorem zt_23 : (Tryd.prog.info? 23).bind (·.zero) = some (.slice none 0 0) := by kernel_rfl
theorem zt_3 : (Tryd.prog.info? 3).bind (·.zero) = some (.int .i64 0) := by kernel_rfl
theorem zt_69 : (Tryd.prog.info? 69).bind (·.zero) = some (.agg #[(.string ⟨#[]⟩), (.int .i64 0)]) := by kernel_rfl
theorem zt_73 : (Tryd.prog.info? 73).bind (·.zero) = some (.agg #[(.string ⟨#[]⟩), (.string ⟨#[]⟩), (.string ⟨#[]⟩), (.int .i64 0), (.int .i64 0)]) := by kernel_rfl
theorem zt_77 : (Tryd.prog.info? 77).bind (·.zero) = some (.agg #[(.string ⟨#[]⟩), (.string ⟨#[]⟩), (.string ⟨#[]⟩), (.int .i64 0), (.int .i64 0), (.int .i64 0), (.slice none 0 0)]) := by kernel_rfl
end TyW17
open TyW17


theorem Le.tup2 {a a' b : D} (h : Le a a') : Le (.tup [a, b]) (.tup [a', b]) := fun F w x hx => by
  cases hx with
  | tup cs _ hl hh =>
    refine .tup cs _ (by simpa using hl) fun i h1 h2 => ?_
    have h3 := hh i h1 (by simpa using h2)
    match i, h1, h2, h3 with
    | 0, _, _, h3 => exact h _ _ _ h3
    | 1, _, _, h3 => exact h3
def okSrc (b : Option Cpy) (p : Pol) : Bool := match b with
  | none => false
  | some c => decide (c.gen < p.gens)
def srcCpy (b : Option Cpy) : Cpy := b.getD zC
theorem c_source (v : Vlt) (it : ByteArray) (p : Pol) (hn : v.copies.length ≤ 200) (hg : ∀ c ∈ v.copies, 0 < c.gen) (hI : srcO v it (copiesOf v it).length = if srcI v it v.copies.length < 0 then none else v.copies[(srcI v it v.copies.length).toNat]?) :
    ACall Tryd.prog 69 [.agg v.ds, .v (.string it), .agg p.ds] (.tup [.agg (srcCpy (srcO v it (copiesOf v it).length)).ds, .v (.bool (okSrc (srcO v it (copiesOf v it).length) p))]) := by
  cases hso : srcO v it (copiesOf v it).length with
  | none => exact (c_source0 v it p hn hso).le (Le.tup2 (Le.aggLast [.v (.string ⟨#[]⟩), .v (.string ⟨#[]⟩), .v (.string ⟨#[]⟩), .v (.int .i64 0), .v (.int .i64 0), .v (.int .i64 0)]))
  | some c0 =>
    refine c_source1 v it p hn c0 hso (hg c0 ?_)
    rw [hso] at hI
    split at hI
    · cases hI
    exact List.mem_of_getElem? hI.symm
theorem src_no {v : Vlt} {p : Pol} {x : Item} {day : Int} (vo : VOk v) (h : okSrc (srcO v x.name (copiesOf v x.name).length) p = false) : noTgt v p x day = true := by
  rw [srcO_I vo] at h
  unfold noTgt
  by_cases hs : srcI v x.name v.copies.length < 0
  · rw [decide_eq_true hs]; rfl
  · obtain ⟨b, hb, eb, hbe⟩ := srcI_at (v := v) (it := x.name) (Nat.le_refl _) hs
    rw [if_neg hs, eb, Int.toNat_natCast, List.getElem?_eq_getElem hb] at h
    have h2 : ¬ v.copies[b].gen < p.gens := of_decide_eq_false h
    rw [hbe, decide_eq_true (show v.copies[b].gen ≥ p.gens by omega)]
    simp
theorem src_yes {v : Vlt} {p : Pol} {x : Item} (vo : VOk v) (day : Int) (h : okSrc (srcO v x.name (copiesOf v x.name).length) p = true) : srcCpy (srcO v x.name (copiesOf v x.name).length) = v.copies.getD (srcI v x.name v.copies.length).toNat zC ∧ noTgt v p x day = enoughB p (goodOnes v x.name p day) := by
  rw [srcO_I vo] at h ⊢
  unfold noTgt
  by_cases hs : srcI v x.name v.copies.length < 0
  · rw [if_pos hs] at h; cases h
  · obtain ⟨b, hb, eb, hbe⟩ := srcI_at (v := v) (it := x.name) (Nat.le_refl _) hs
    rw [if_neg hs, eb, Int.toNat_natCast, List.getElem?_eq_getElem hb] at h ⊢
    have h2 : v.copies[b].gen < p.gens := of_decide_eq_true h
    refine ⟨(getD_at hb).symm, ?_⟩
    rw [getD_at hb, decide_eq_false (show ¬ ((b : Int) < 0) by omega), decide_eq_false (show ¬ v.copies[b].gen ≥ p.gens by omega)]
    rfl
theorem planItem_no {v : Vlt} {p : Pol} {day : Int} {s : List Int × List Tfr} {x : Item} (h : noTgt v p x day = true) : planItem v p day s x = s := by unfold planItem; rw [tgt_no h]; rfl
/-- The numbers, among the candidates, of the targets. -/
def tgtL (v : Vlt) (p : Pol) (x : Item) (room : List Int) (day : Int) : List Nat := (tgtC v p x room day).getD []
theorem tgtR_L {v : Vlt} {p : Pol} {x : Item} {room : List Int} {day : Int} (h : noTgt v p x day = false) : tgtR v p x room day = (tgtL v p x room day).map fun i => (cand v p x room day).getD i 0 := tgt_go h
theorem tgtL_lt {v : Vlt} {p : Pol} {x : Item} {room : List Int} {day : Int} {j : Nat} (hj : j < (tgtL v p x room day).length) : (tgtL v p x room day)[j] < (cand v p x room day).length := by
  have key : ∀ r, tgtC v p x room day = r → ∀ (hj : j < (r.getD []).length), (r.getD [])[j] < (cand v p x room day).length := fun r hc hj => by
    cases r with
    | none => simp at hj
    | some r =>
      obtain ⟨_, hv, _⟩ := chosen_spec hc
      have h1 := hv.2 j hj
      have h2 : j < r.length := hj
      show r[j] < _
      omega
  exact key _ rfl hj
theorem tgtL_len {v : Vlt} {p : Pol} {x : Item} {room : List Int} {day : Int} : (tgtL v p x room day).length ≤ v.carrs.length := by
  unfold tgtL
  cases hc : tgtC v p x room day with
  | none => exact Nat.zero_le _
  | some r =>
    obtain ⟨_, hv, _⟩ := chosen_spec hc
    exact Nat.le_trans hv.1 (candTo_len _)
theorem tgtR_at {v : Vlt} {p : Pol} {x : Item} {room : List Int} {day : Int} (h : noTgt v p x day = false) {j : Nat} (hj : j < (tgtL v p x room day).length) : ∃ h2 : j < (tgtR v p x room day).length, (tgtR v p x room day)[j] = (cand v p x room day)[(tgtL v p x room day)[j]]'(tgtL_lt hj) := by
  have h3 := tgtL_lt hj
  have e := tgtR_L (room := room) h
  refine ⟨by rw [e, List.length_map]; exact hj, ?_⟩
  simp only [e, List.getElem_map]
  exact numAt h3
/-- The carriers, to which an item may be copied, behind the first k. -/
def candC (v : Vlt) (p : Pol) (x : Item) (room : List Int) (day : Int) (k : Nat) : List Carr := (candTo v p x room day k).map (carrN v)
theorem candC_t {v : Vlt} {p : Pol} {x : Item} {room : List Int} {day : Int} {k : Nat} (hk : k < v.carrs.length) (h : candTo v p x room day (k + 1) = candTo v p x room day k ++ [k]) : (candC v p x room day (k + 1)).map Carr.ds = (candC v p x room day k).map Carr.ds ++ [v.carrs[k].ds] := by
  unfold candC
  rw [h, List.map_append, List.map_append]
  show _ ++ [(carrN v k).ds] = _
  rw [carrN_at hk]
theorem candC_f {v : Vlt} {p : Pol} {x : Item} {room : List Int} {day : Int} {k : Nat} (h : candTo v p x room day (k + 1) = candTo v p x room day k) : candC v p x room day (k + 1) = candC v p x room day k := by unfold candC; rw [h]
theorem candC_len (v : Vlt) (p : Pol) (x : Item) (room : List Int) (day : Int) : ((candC v p x room day v.carrs.length).map Carr.ds).length = (cand v p x room day).length := by unfold candC cand; rw [List.length_map, List.length_map]
theorem candC_at {v : Vlt} {p : Pol} {x : Item} {room : List Int} {day : Int} {i : Nat} (hi : i < (cand v p x room day).length) (h : (cand v p x room day)[i] < v.carrs.length) : ((candC v p x room day v.carrs.length).map Carr.ds)[i]? = some (v.carrs[(cand v p x room day)[i]].ds) := by
  have hi2 : i < (candTo v p x room day v.carrs.length).length := hi
  unfold candC
  rw [List.getElem?_map, List.getElem?_map, List.getElem?_eq_getElem hi2]
  exact congrArg (fun c : Carr => some c.ds) (carrN_at h)
theorem planItem_yes {v : Vlt} {p : Pol} {day : Int} {s : List Int × List Tfr} {x : Item} (h : noTgt v p x day = false) : ((tgtR v p x s.1 day).take (tgtL v p x s.1 day).length).foldl (take1 v x) s = planItem v p day s x := by
  unfold planItem
  rw [List.take_of_length_le (by rw [tgtR_L h, List.length_map]; exact Nat.le_refl _)]
theorem roomM_add' {v : Vlt} (vo : VOk v) {k : Nat} (hk : k < v.carrs.length) : MPut (roomM v ((roomR v).take k)) (.string v.carrs[k].name) (.v (.int .i64 (v.carrs[k].room - usedOn v v.carrs[k].name))) (roomM v ((roomR v).take (k + 1))) := by
  have h := roomM_add vo (r := roomR v) hk (by unfold roomR; rw [List.length_map]; exact hk)
  have e : (roomR v)[k]'(by unfold roomR; rw [List.length_map]; exact hk) = v.carrs[k].room - usedOn v v.carrs[k].name := by unfold roomR; rw [List.getElem_map]
  rwa [e] at h
theorem map_eq {A A' : List (Value × D)} {i : Nat} (h : A' = A) : ∀ p ∈ [(i, Ob.map A)], p ∈ [(i, Ob.map A')] := fun p hp => h ▸ hp
theorem row_map1 {i j e s : Nat} {a b : List (List D)} {A B : List (Value × D)} {τ : Obs} (h1 : a = b) (h2 : A = B) : ∀ p ∈ [(i, Ob.row e s b), (j, Ob.map B)], p ∈ (i, Ob.row e s a) :: (j, Ob.map A) :: τ := fun p hp => by
  subst h1; subst h2
  rcases List.mem_cons.1 hp with rfl | hp
  · exact .head _
  · rw [List.mem_singleton] at hp; subst hp; exact .tail _ (.head _)
theorem row_cell_3 {i j k e s e2 s2 : Nat} {a b c d : List (List D)} {A B : List (Value × D)} {x : List S} {τ : Obs} {n : Nat} (h1 : a = b) (h2 : c = d) (h3 : A = B) : ∀ p ∈ [(i, Ob.row e s b), (n, Ob.cells x), (j, Ob.row e2 s2 d), (k, Ob.map B)], p ∈ (i, Ob.row e s a) :: (n, Ob.cells x) :: (j, Ob.row e2 s2 c) :: (k, Ob.map A) :: τ := fun p hp => by
  subst h1; subst h2; subst h3
  rcases List.mem_cons.1 hp with rfl | hp
  · exact .head _
  · rcases List.mem_cons.1 hp with rfl | hp
    · exact .tail _ (.head _)
    · rcases List.mem_cons.1 hp with rfl | hp
      · exact .tail _ (.tail _ (.head _))
      · rw [List.mem_singleton] at hp; subst hp; exact .tail _ (.tail _ (.tail _ (.head _)))


set_option maxRecDepth 100000 in
set_option maxHeartbeats 8000000 in
theorem c_pPlan (v : Vlt) (p : Pol) (day : Int) (hs : smallV v) : ACall Tryd.prog 25 [.agg v.ds, .agg p.ds, .v (.int .i64 day)] (.tup [.sl ((planR v p day).map Tfr.ds), .v (.int .i64 (dayFault v p day))]) := by
  refine acall_of (n := 154) (ds' := [.sl ((planR v p day).map Tfr.ds), .v (.int .i64 (dayFault v p day))]) Tryd.func25 rfl (by kernel_rfl) rfl [6, 7] rfl rfl ?_
  intro B w0 F0 fr
  refine AWP.seq (AWP.region ?_)
  refine AOps.step rfl rfl rfl (AOp.box rfl rfl rfl) ?_
  refine AOps.step rfl rfl rfl (AOp.box rfl rfl rfl) ?_
  refine AOps.aD rfl rfl rfl rfl rfl ?_
  refine AOps.aD rfl rfl rfl rfl rfl (.nil ?_)
  refine AWP.seq ?_
  refine AWP.seq (AWP.region ?_)
  refine AOps.step rfl rfl rfl (AOp.loadAgg rfl ag_26 rfl rfl) ?_
  refine AOps.step rfl rfl rfl (AOp.loadAgg rfl ag_28 rfl rfl) ?_
  refine AOps.mD rfl rfl rfl rfl rfl ?_
  refine AOps.step rfl rfl rfl (AOp.call rfl (.cons (ArgOk.rfl' rfl) (.cons (ArgOk.rfl' rfl) (.cons (ArgOk.rfl' rfl) .nil))) (c_pDayF v p day hs)) ?_
  refine AOps.aD rfl rfl rfl rfl rfl (.nil ?_)
  refine AWP.seq (AWP.region ?_)
  refine AOps.mD rfl rfl rfl rfl rfl ?_
  refine AOps.step rfl rfl rfl (AOp.neq rfl rfl rfl) (.nil ?_)
  refine AWP.cond rfl (fun h1 => ?_) (fun h1 => ?_)
  · replace h1 := of_decide_eq_true h1
    have HR : planR v p day = [] := by unfold planR; rw [if_neg h1]
    rw [HR]
    refine AWP.seq (AWP.region ?_)
    refine AOps.mD rfl rfl rfl rfl rfl ?_
    refine AOps.aD rfl rfl rfl rfl rfl ?_
    refine AOps.aD rfl rfl rfl rfl rfl (.nil ?_)
    refine AWP.ret ?_
    refine ⟨RetD.nil rfl, RetD.eq rfl ?_, trivial⟩
    all_goals (rfl)
  replace h1 := of_decide_eq_false h1
  have hd0 := Decidable.not_not.1 h1
  obtain ⟨hb0, hd⟩ := day_ok hd0
  obtain ⟨vo, po⟩ := both_ok hb0
  have hoi := okItems_of vo.items
  have hoc : okCopies v := fun c hc => ⟨(vo.cpy c hc).item, (vo.cpy c hc).carr⟩
  have hu : ∀ x ∈ v.carrs, 0 ≤ usedOn v x.name := fun x _ => (usedTo_bound hoi x.name _).1
  have hgn : ∀ c ∈ v.copies, 0 < c.gen := fun c hc => by have := (vo.cpy c hc).gen; omega
  have hnp := vo.np
  have hnc := vo.nc
  have hni := vo.ni
  have HR : planR v p day = (planTo v p day v.items.length).2 := by unfold planR; rw [if_pos hd0]
  rw [HR, hd0]
  refine AWP.skip ?_
  refine AWP.seq (AWP.region ?_)
  refine AOps.makeMap 91 rfl rfl rfl rfl rfl ?_
  refine AOps.step rfl rfl rfl (AOp.assignO rfl rfl) (.nil ?_)
  refine AWP.seq ?_
  refine AWP.seq (AWP.region ?_)
  refine AOps.step rfl rfl rfl (AOp.fieldAddr rfl fo_26_1 rfl) ?_
  refine AOps.step rfl rfl rfl (AOp.load rfl sc_23 rfl) ?_
  refine AOps.step rfl rfl rfl (AOp.lenSl rfl et_23.ht rfl) ?_
  refine AOps.mD rfl rfl rfl rfl rfl (.nil ?_)
  refine AWP.block ?_
  refine AWP.loop (G := Nat) (fun k => Env.of [(39, .d (.v (.int .i64 (k : Int)))), (37, .d (.sl (v.carrs.map Carr.ds))), (38, .d (.v (.int .i64 ((v.carrs.map Carr.ds).length : Int)))), (3, .d (.fp v.ds)), (4, .d (.fp p.ds)), (2, .d (.v (.int .i64 day))), (9, .own 91)]) (fun k => [(91, .map (roomM v ((roomR v).take k)))]) (fun k => k ≤ v.carrs.length) (fun k => v.carrs.length - k) 0 (Nat.zero_le _) (Sub.less ⟨(SLe.of_eq rfl), SLe.refl _, SLe.refl _, SLe.refl _, SLe.refl _, SLe.refl _, SLe.refl _, trivial⟩ (map_eq (by unfold roomM; simp))) ?_
  intro k hk
  refine AWP.seq (AWP.region ?_)
  refine AOps.step rfl rfl rfl (AOp.lss rfl rfl rfl) (.nil ?_)
  refine AWP.seq ?_
  refine AWP.cond rfl (fun h2 => ?_) (fun h2 => ?_)
  · replace h2 := of_decide_eq_true h2
    rw [List.length_map] at h2
    have hlt : k < v.carrs.length := by omega
    have hcb := vo.carr (List.getElem_mem hlt)
    have hub : 0 ≤ usedOn v v.carrs[k].name ∧ usedOn v v.carrs[k].name ≤ 1000 * (v.copies.length : Int) := usedTo_bound hoi _ _
    refine AWP.skip ?_
    refine AWP.seq ?_
    refine AWP.block ?_
    refine AWP.seq (AWP.region ?_)
    refine AOps.step rfl rfl rfl (AOp.indexAddr rfl et_23 rfl rfl k rfl (at_list hlt) rfl) ?_
    refine AOps.step rfl rfl rfl (AOp.loadAgg rfl ag_73 rfl rfl) ?_
    refine AOps.alloc 102 rfl rfl rfl rfl zt_73 rfl rfl rfl ?_
    refine AOps.store rfl rfl rfl sz_73 rfl (.head _) rfl rfl rfl (Nat.le_of_ble_eq_true rfl) ?_
    refine AOps.freezeCells 11 (ds := v.carrs[k].ds) rfl (.head _) (.nil ?_)
    refine AWP.drawG (fun k => (Nat.beq k 6) || (false)) (fun k => Nat.beq k 6) (fun k h => Bool.or_eq_true_iff.2 (.inl h)) (by kernel_rfl) (by kernel_rfl) (by kernel_rfl) ?_
    refine GRun.step rfl rfl rfl (fun _ => AOp.moveO rfl rfl) ?_
    refine GRun.step rfl rfl rfl (fun _ => AOp.fieldAddr rfl fo_73_0 rfl) ?_
    refine GRun.step rfl rfl rfl (fun _ => AOp.load rfl sc_9 rfl) ?_
    refine GRun.step rfl rfl rfl (fun _ => AOp.loadAgg rfl ag_26 rfl rfl) ?_
    refine GRun.step rfl rfl rfl (fun _ => AOp.loadAgg rfl ag_73 rfl rfl) ?_
    refine GRun.step rfl rfl rfl (fun _ => AOp.call rfl (.cons (ArgOk.rfl' rfl) (.cons (ArgOk.rfl' rfl) .nil)) (c_left v v.carrs[k] hoi hoc (by omega) hcb.2.2)) ?_
    refine GRun.eff rfl rfl rfl (EOp.mapUpdate rfl rfl mt_119 kk_9 rfl (.head _) rfl rfl trivial roomM_keys (roomM_add' vo hlt)) ?_
    refine GRun.nil ?_
    refine AWP.region ?_
    refine AOps.step rfl rfl rfl (AOp.add64 rfl rfl rfl (by omega) (by omega)) ?_
    refine AOps.mD rfl rfl rfl rfl rfl (.nil ?_)
    refine ⟨k + 1, (by omega), (by dsimp only; omega), Sub.less ⟨(SLe.of_eq rfl), SLe.refl _, SLe.refl _, SLe.refl _, SLe.refl _, SLe.refl _, SLe.refl _, trivial⟩ (map_eq rfl)⟩
  replace h2 := of_decide_eq_false h2
  rw [List.length_map] at h2
  obtain rfl : k = v.carrs.length := by omega
  refine AWP.exit ?_
  refine AWP.seq (AWP.region ?_)
  refine AOps.aD rfl rfl rfl rfl rfl (.nil ?_)
  refine AWP.seq ?_
  refine AWP.seq (AWP.region ?_)
  refine AOps.step rfl rfl rfl (AOp.fieldAddr rfl fo_26_0 rfl) ?_
  refine AOps.step rfl rfl rfl (AOp.load rfl sc_22 rfl) ?_
  refine AOps.step rfl rfl rfl (AOp.lenSl rfl et_22.ht rfl) ?_
  refine AOps.mD rfl rfl rfl rfl rfl (.nil ?_)
  refine AWP.block ?_
  refine AWP.adopt 12 65 130 3 rfl rfl ?_
  refine AWP.loop (G := Nat) (fun k => Env.of [(53, .d (.v (.int .i64 (k : Int)))), (51, .d (.sl (v.items.map Item.ds))), (52, .d (.v (.int .i64 ((v.items.map Item.ds).length : Int)))), (12, .own 65), (3, .d (.fp v.ds)), (4, .d (.fp p.ds)), (2, .d (.v (.int .i64 day))), (9, .own 91)]) (fun k => [(65, .row 130 3 ((planTo v p day k).2.map Tfr.ds)), (91, .map (roomM v (planTo v p day k).1))]) (fun k => k ≤ v.items.length) (fun k => v.items.length - k) 0 (Nat.zero_le _) (Sub.less ⟨(SLe.of_eq rfl), SLe.refl _, SLe.refl _, SLe.refl _, SLe.refl _, SLe.refl _, SLe.refl _, SLe.refl _, trivial⟩ (row_map1 rfl (by rw [List.take_of_length_le (by unfold roomR; simp)]; rfl))) ?_
  intro k hk
  refine AWP.seq (AWP.region ?_)
  refine AOps.step rfl rfl rfl (AOp.lss rfl rfl rfl) (.nil ?_)
  refine AWP.seq ?_
  refine AWP.cond rfl (fun h3 => ?_) (fun h3 => ?_)
  · replace h3 := of_decide_eq_true h3
    rw [List.length_map] at h3
    have hlt : k < v.items.length := by omega
    have hpb := planTo_PB (p := p) (day := day) vo hoi hu k (by omega)
    have hrl := hpb.len
    have hxb := hoi _ (List.getElem_mem hlt)
    have hPN := planTo_next (p := p) (day := day) hlt
    have htl := tgtR_len v p v.items[k] (planTo v p day k).1 day
    have hgl := goodOnes_len v v.items[k].name p day
    have hcl : (cand v p v.items[k] (planTo v p day k).1 day).length ≤ v.carrs.length := candTo_len _
    have hLl := tgtL_len (v := v) (p := p) (x := v.items[k]) (room := (planTo v p day k).1) (day := day)
    refine AWP.skip ?_
    refine AWP.seq ?_
    refine AWP.block ?_
    refine AWP.seq (AWP.region ?_)
    refine AOps.step rfl rfl rfl (AOp.indexAddr rfl et_22 rfl rfl k rfl (at_list hlt) rfl) ?_
    refine AOps.step rfl rfl rfl (AOp.loadAgg rfl ag_69 rfl rfl) ?_
    refine AOps.alloc 103 rfl rfl rfl rfl zt_69 rfl rfl rfl ?_
    refine AOps.store rfl rfl rfl sz_69 rfl (.head _) rfl rfl rfl (Nat.le_of_ble_eq_true rfl) ?_
    refine AOps.freezeCells 14 (ds := v.items[k].ds) rfl (.head _) (.nil ?_)
    refine AWP.seq (AWP.region ?_)
    refine AOps.step rfl rfl rfl (AOp.loadAgg rfl ag_26 rfl rfl) ?_
    refine AOps.step rfl rfl rfl (AOp.fieldAddr rfl fo_69_0 rfl) ?_
    refine AOps.step rfl rfl rfl (AOp.load rfl sc_9 rfl) ?_
    refine AOps.step rfl rfl rfl (AOp.loadAgg rfl ag_28 rfl rfl) ?_
    refine AOps.step rfl rfl rfl (AOp.call rfl (.cons (ArgOk.rfl' rfl) (.cons (ArgOk.rfl' rfl) (.cons (ArgOk.rfl' rfl) .nil))) (c_source v v.items[k].name p hnp hgn (srcO_I vo))) ?_
    refine AOps.mD rfl rfl rfl rfl rfl ?_
    refine AOps.step rfl rfl rfl (AOp.extract rfl rfl rfl) ?_
    refine AOps.step rfl rfl rfl (AOp.extract rfl rfl rfl) ?_
    refine AOps.alloc 104 rfl rfl rfl rfl zt_77 rfl rfl rfl ?_
    refine AOps.store rfl rfl rfl sz_77 rfl (.head _) rfl rfl rfl (Nat.le_of_ble_eq_true rfl) ?_
    refine AOps.freezeCells 15 (ds := (srcCpy (srcO v v.items[k].name (copiesOf v v.items[k].name).length)).ds) rfl (.head _) ?_
    refine AOps.aD rfl rfl rfl rfl rfl (.nil ?_)
    refine AWP.seq (AWP.region ?_)
    refine AOps.step rfl rfl rfl (AOp.loadAgg rfl ag_26 rfl rfl) ?_
    refine AOps.step rfl rfl rfl (AOp.fieldAddr rfl fo_69_0 rfl) ?_
    refine AOps.step rfl rfl rfl (AOp.load rfl sc_9 rfl) ?_
    refine AOps.step rfl rfl rfl (AOp.loadAgg rfl ag_28 rfl rfl) ?_
    refine AOps.mD rfl rfl rfl rfl rfl ?_
    refine AOps.step rfl rfl rfl (AOp.call rfl (.cons (ArgOk.rfl' rfl) (.cons (ArgOk.rfl' rfl) (.cons (ArgOk.rfl' rfl) (.cons (ArgOk.rfl' rfl) .nil)))) (c_goodOnes v v.items[k].name p day vo po hd)) ?_
    refine AOps.alloc 105 rfl rfl rfl rfl zt_23 rfl rfl rfl ?_
    refine AOps.store rfl rfl rfl sz_23 rfl (.head _) rfl rfl rfl (Nat.le_of_ble_eq_true rfl) ?_
    refine AOps.freezeCells 17 (ds := [.sl ((goodOnes v v.items[k].name p day).map Carr.ds)]) rfl (.head _) (.nil ?_)
    refine AWP.seq ?_
    refine AWP.seq ?_
    refine AWP.draw (by kernel_rfl) (by kernel_rfl) ?_
    refine DRun.step rfl rfl rfl (AOp.moveD rfl rfl) ?_
    refine DRun.step rfl rfl rfl (AOp.not rfl rfl) ?_
    refine DRun.step rfl rfl rfl (AOp.moveD rfl rfl) ?_
    refine DRun.split 73 rfl (fun g4 => ?_) (fun g4 => ?_)
    · replace g4 := bnot_t g4
      have HT : planTo v p day (k + 1) = planTo v p day k := by rw [hPN]; exact planItem_no (src_no vo g4)
      refine DRun.pass ⟨73, rfl, .inl ⟨_, rfl, rfl⟩⟩ rfl rfl ?_
      refine DRun.pass ⟨73, rfl, .inl ⟨_, rfl, rfl⟩⟩ rfl rfl ?_
      refine DRun.pass ⟨73, rfl, .inl ⟨_, rfl, rfl⟩⟩ rfl rfl ?_
      refine DRun.pass ⟨73, rfl, .inl ⟨_, rfl, rfl⟩⟩ rfl rfl ?_
      refine DRun.step rfl rfl rfl (AOp.pickT rfl rfl rfl) ?_
      refine DRun.nil ?_
      refine AWP.cond rfl (fun _ => ?_) (fun h => nomatch h)
      refine AWP.exit ?_
      refine AWP.region ?_
      refine AOps.step rfl rfl rfl (AOp.add64 rfl rfl rfl (by omega) (by omega)) ?_
      refine AOps.mD rfl rfl rfl rfl rfl (.nil ?_)
      refine ⟨k + 1, (by omega), (by dsimp only; omega), Sub.less ⟨(SLe.of_eq rfl), SLe.refl _, SLe.refl _, SLe.refl _, SLe.refl _, SLe.refl _, SLe.refl _, SLe.refl _, trivial⟩ (row_map1 (by first | rw [HT] | rw [HE]) (by first | rw [HT] | rw [HE]))⟩
    replace g4 := bnot_f g4
    have hsy := src_yes (p := p) (x := v.items[k]) vo day g4
    refine DRun.step ⟨73, rfl, .inl ⟨_, rfl, rfl⟩⟩ rfl rfl (AOp.load rfl sc_23 rfl) ?_
    refine DRun.step ⟨73, rfl, .inl ⟨_, rfl, rfl⟩⟩ rfl rfl (AOp.call rfl (.cons (ArgOk.rfl' rfl) .nil) (c_spreadOf (goodOnes v v.items[k].name p day) (by omega))) ?_
    refine DRun.step ⟨73, rfl, .inl ⟨_, rfl, rfl⟩⟩ rfl rfl (AOp.loadAgg rfl ag_28 rfl rfl) ?_
    refine DRun.step ⟨73, rfl, .inl ⟨_, rfl, rfl⟩⟩ rfl rfl (AOp.call rfl (.cons (ArgOk.rfl' rfl) (.cons (ArgOk.rfl' rfl) .nil)) (c_enough (goodOnes v v.items[k].name p day) p po (by omega))) ?_
    refine DRun.step rfl rfl rfl (AOp.pickF rfl rfl rfl) ?_
    refine DRun.nil ?_
    refine AWP.cond rfl (fun h5 => ?_) (fun h5 => ?_)
    · skip
      have HT : planTo v p day (k + 1) = planTo v p day k := by rw [hPN]; exact planItem_no (by rw [hsy.2]; exact h5)
      refine AWP.exit ?_
      refine AWP.region ?_
      refine AOps.step rfl rfl rfl (AOp.add64 rfl rfl rfl (by omega) (by omega)) ?_
      refine AOps.mD rfl rfl rfl rfl rfl (.nil ?_)
      refine ⟨k + 1, (by omega), (by dsimp only; omega), Sub.less ⟨(SLe.of_eq rfl), SLe.refl _, SLe.refl _, SLe.refl _, SLe.refl _, SLe.refl _, SLe.refl _, SLe.refl _, trivial⟩ (row_map1 (by first | rw [HT] | rw [HE]) (by first | rw [HT] | rw [HE]))⟩
    have hnt : noTgt v p v.items[k] day = false := by rw [hsy.2]; simpa using h5
    have HE := hPN.trans (planItem_yes (s := (planTo v p day k)) hnt).symm
    have HLn := candC_len v p v.items[k] (planTo v p day k).1 day
    refine AWP.skip ?_
    refine AWP.seq (AWP.region ?_)
    refine AOps.alloc 97 rfl rfl rfl rfl zt_23 rfl rfl rfl ?_
    refine AOps.adoptCell 66 73 5 97 0 (.head _) rfl rfl ?_
    refine AOps.nil ?_
    refine AWP.seq ?_
    refine AWP.seq (AWP.region ?_)
    refine AOps.step rfl rfl rfl (AOp.fieldAddr rfl fo_26_1 rfl) ?_
    refine AOps.step rfl rfl rfl (AOp.load rfl sc_23 rfl) ?_
    refine AOps.step rfl rfl rfl (AOp.lenSl rfl et_23.ht rfl) ?_
    refine AOps.mD rfl rfl rfl rfl rfl (.nil ?_)
    refine AWP.block ?_
    refine AWP.loop (G := Nat) (fun i => Env.of [(82, .d (.v (.int .i64 (i : Int)))), (80, .d (.sl (v.carrs.map Carr.ds))), (81, .d (.v (.int .i64 ((v.carrs.map Carr.ds).length : Int)))), (18, .ptr 97 0), (17, .d (.fp [.sl ((goodOnes v v.items[k].name p day).map Carr.ds)])), (15, .d (.fp (srcCpy (srcO v v.items[k].name (copiesOf v v.items[k].name).length)).ds)), (14, .d (.fp v.items[k].ds)), (53, .d (.v (.int .i64 (k : Int)))), (51, .d (.sl (v.items.map Item.ds))), (52, .d (.v (.int .i64 ((v.items.map Item.ds).length : Int)))), (12, .own 65), (3, .d (.fp v.ds)), (4, .d (.fp p.ds)), (2, .d (.v (.int .i64 day))), (9, .own 91)]) (fun i => [(66, .row 73 5 ((candC v p v.items[k] (planTo v p day k).1 day i).map Carr.ds)), (97, .cells [.own 66]), (65, .row 130 3 ((planTo v p day k).2.map Tfr.ds)), (91, .map (roomM v (planTo v p day k).1))]) (fun i => i ≤ v.carrs.length) (fun i => v.carrs.length - i) 0 (Nat.zero_le _) (Sub.less ⟨(SLe.of_eq rfl), SLe.refl _, (SLe.refl _), SLe.refl _, SLe.refl _, SLe.refl _, SLe.refl _, SLe.refl _, SLe.refl _, SLe.refl _, SLe.refl _, SLe.refl _, SLe.refl _, SLe.refl _, SLe.refl _, trivial⟩ (row_cell_3 rfl rfl rfl)) ?_
    intro i hi
    refine AWP.seq (AWP.region ?_)
    refine AOps.step rfl rfl rfl (AOp.lss rfl rfl rfl) (.nil ?_)
    refine AWP.seq ?_
    refine AWP.cond rfl (fun h6 => ?_) (fun h6 => ?_)
    · replace h6 := of_decide_eq_true h6
      rw [List.length_map] at h6
      have hil : i < v.carrs.length := by omega
      have hib := vo.carr (List.getElem_mem hil)
      have hrm := hpb.room i
      rw [roomAt (by omega)] at hrm
      have hcn := candTo_len (v := v) (p := p) (x := v.items[k]) (room := (planTo v p day k).1) (day := day) i
      refine AWP.skip ?_
      refine AWP.seq ?_
      refine AWP.block ?_
      refine AWP.seq (AWP.region ?_)
      refine AOps.step rfl rfl rfl (AOp.indexAddr rfl et_23 rfl rfl i rfl (at_list hil) rfl) ?_
      refine AOps.step rfl rfl rfl (AOp.loadAgg rfl ag_73 rfl rfl) ?_
      refine AOps.alloc 107 rfl rfl rfl rfl zt_73 rfl rfl rfl ?_
      refine AOps.store rfl rfl rfl sz_73 rfl (.head _) rfl rfl rfl (Nat.le_of_ble_eq_true rfl) ?_
      refine AOps.freezeCells 20 (ds := v.carrs[i].ds) rfl (.head _) (.nil ?_)
      refine AWP.seq (AWP.region ?_)
      refine AOps.step rfl rfl rfl (AOp.loadAgg rfl ag_26 rfl rfl) ?_
      refine AOps.step rfl rfl rfl (AOp.fieldAddr rfl fo_69_0 rfl) ?_
      refine AOps.step rfl rfl rfl (AOp.load rfl sc_9 rfl) ?_
      refine AOps.step rfl rfl rfl (AOp.fieldAddr rfl fo_73_0 rfl) ?_
      refine AOps.step rfl rfl rfl (AOp.load rfl sc_9 rfl) ?_
      refine AOps.step rfl rfl rfl (AOp.call rfl (.cons (ArgOk.rfl' rfl) (.cons (ArgOk.rfl' rfl) (.cons (ArgOk.rfl' rfl) .nil))) (c_copyAt v v.items[k].name v.carrs[i].name (by omega))) ?_
      refine AOps.mD rfl rfl rfl rfl rfl ?_
      refine AOps.step rfl rfl rfl (AOp.extract rfl rfl rfl) ?_
      refine AOps.step rfl rfl rfl (AOp.extract rfl rfl rfl) ?_
      refine AOps.aD rfl rfl rfl rfl rfl ?_
      refine AOps.aD rfl rfl rfl rfl rfl (.nil ?_)
      refine AWP.seq (AWP.region ?_)
      refine AOps.mD rfl rfl rfl rfl rfl ?_
      refine AOps.step rfl rfl rfl (AOp.not rfl rfl) ?_
      refine AOps.mD rfl rfl rfl rfl rfl ?_
      refine AOps.split 97 rfl (fun g7 => ?_) (fun g7 => ?_)
      · replace g7 := bnot_t g7
        have hA : copyIdx v v.items[k].name v.carrs[i].name < 0 := Int.not_le.1 fun hh => by rw [(has_iff (v := v) (l := v.copies) vo _ _).1.1 hh] at g7; cases g7
        refine AOps.step ⟨97, rfl, .inl ⟨_, rfl, rfl⟩⟩ rfl rfl (AOp.loadAgg rfl ag_73 rfl rfl) ?_
        refine AOps.step ⟨97, rfl, .inl ⟨_, rfl, rfl⟩⟩ rfl rfl (AOp.loadAgg rfl ag_28 rfl rfl) ?_
        refine AOps.step ⟨97, rfl, .inl ⟨_, rfl, rfl⟩⟩ rfl rfl (AOp.moveD rfl rfl) ?_
        refine AOps.step ⟨97, rfl, .inl ⟨_, rfl, rfl⟩⟩ rfl rfl (AOp.call rfl (.cons (ArgOk.rfl' rfl) (.cons (ArgOk.rfl' rfl) (.cons (ArgOk.rfl' rfl) .nil))) (c_old v.carrs[i] p day hib.2.1 (by have := po.old; omega))) ?_
        refine AOps.step ⟨97, rfl, .inl ⟨_, rfl, rfl⟩⟩ rfl rfl (AOp.not rfl rfl) ?_
        refine AOps.step rfl rfl rfl (AOp.pickT rfl rfl rfl) ?_
        refine AOps.mD rfl rfl rfl rfl rfl ?_
        refine AOps.split 104 rfl (fun g8 => ?_) (fun g8 => ?_)
        · replace g8 := bnot_t g8
          have hB := g8
          refine AOps.step ⟨104, rfl, .inl ⟨_, rfl, rfl⟩⟩ rfl rfl (AOp.moveO rfl rfl) ?_
          refine AOps.step ⟨104, rfl, .inl ⟨_, rfl, rfl⟩⟩ rfl rfl (AOp.fieldAddr rfl fo_73_0 rfl) ?_
          refine AOps.step ⟨104, rfl, .inl ⟨_, rfl, rfl⟩⟩ rfl rfl (AOp.load rfl sc_9 rfl) ?_
          refine AOps.step ⟨104, rfl, .inl ⟨_, rfl, rfl⟩⟩ rfl rfl (AOp.lookup rfl mt_119 kk_9 zt_3 rfl (.tail _ (.tail _ (.tail _ (.head _)))) rfl trivial roomM_keys (roomM_look vo hil (by omega))) ?_
          refine AOps.step ⟨104, rfl, .inl ⟨_, rfl, rfl⟩⟩ rfl rfl (AOp.fieldAddr rfl fo_69_1 rfl) ?_
          refine AOps.step ⟨104, rfl, .inl ⟨_, rfl, rfl⟩⟩ rfl rfl (AOp.load rfl sc_3 rfl) ?_
          refine AOps.step ⟨104, rfl, .inl ⟨_, rfl, rfl⟩⟩ rfl rfl (AOp.geq rfl rfl rfl) ?_
          refine AOps.step rfl rfl rfl (AOp.pickT rfl rfl rfl) (.nil ?_)
          refine AWP.cond rfl (fun h9 => ?_) (fun h9 => ?_)
          · replace h9 := of_decide_eq_true h9
            have HX := candC_t hil (candTo_t (v := v) (p := p) (x := v.items[k]) (room := (planTo v p day k).1) (day := day) (k := i) (by unfold candB; rw [carrN_at hil, decide_eq_true hA, hB, roomAt (by omega), decide_eq_true h9]; rfl))
            refine AWP.region ?_
            refine AOps.step rfl rfl rfl (AOp.loadP rfl sc_23 rfl (.tail _ (.head _)) rfl) ?_
            refine AOps.step rfl rfl rfl (AOp.loadAgg rfl ag_73 rfl rfl) ?_
            refine AOps.step rfl rfl rfl (AOp.buildSlice rfl et_23 (.cons rfl rfl rfl .nil) rfl (by decide)) ?_
            -- append 116
            refine AOps.append rfl rfl rfl rfl et_23 rfl (.head _) rfl (fun y hy => by obtain rfl := List.mem_singleton.1 hy; rfl) (by simp [candC]; omega) (by simp [candC]; omega) ?_
            refine AOps.storeS rfl rfl rfl sz_23 rfl (.tail _ (.head _)) rfl (.head _) (Nat.le_of_ble_eq_true rfl) (.nil ?_)
            refine AWP.region ?_
            refine AOps.step rfl rfl rfl (AOp.add64 rfl rfl rfl (by omega) (by omega)) ?_
            refine AOps.mD rfl rfl rfl rfl rfl (.nil ?_)
            refine ⟨i + 1, (by dsimp only; omega), (by dsimp only; omega), Sub.less ⟨(SLe.of_eq rfl), SLe.refl _, SLe.refl _, SLe.refl _, SLe.refl _, SLe.refl _, SLe.refl _, SLe.refl _, SLe.refl _, SLe.refl _, SLe.refl _, SLe.refl _, SLe.refl _, SLe.refl _, SLe.refl _, trivial⟩ (row_cell_3 (by first | exact HX.symm | (rw [HX])) rfl rfl)⟩
          replace h9 := of_decide_eq_false h9
          have HX := candC_f (candTo_f (v := v) (p := p) (x := v.items[k]) (room := (planTo v p day k).1) (day := day) (k := i) (by unfold candB; rw [carrN_at hil, roomAt (by omega), decide_eq_false h9]; simp))
          refine AWP.skip ?_
          refine AWP.region ?_
          refine AOps.step rfl rfl rfl (AOp.add64 rfl rfl rfl (by omega) (by omega)) ?_
          refine AOps.mD rfl rfl rfl rfl rfl (.nil ?_)
          refine ⟨i + 1, (by dsimp only; omega), (by dsimp only; omega), Sub.less ⟨(SLe.of_eq rfl), SLe.refl _, SLe.refl _, SLe.refl _, SLe.refl _, SLe.refl _, SLe.refl _, SLe.refl _, SLe.refl _, SLe.refl _, SLe.refl _, SLe.refl _, SLe.refl _, SLe.refl _, SLe.refl _, trivial⟩ (row_cell_3 (by first | exact HX.symm | (rw [HX])) rfl rfl)⟩
        replace g8 := bnot_f g8
        have HX := candC_f (candTo_f (show candB v p v.items[k] (planTo v p day k).1 day i (carrN v i) = false from by unfold candB; rw [carrN_at hil, g8]; simp))
        refine AOps.pass ⟨104, rfl, .inl ⟨_, rfl, rfl⟩⟩ rfl rfl ?_
        refine AOps.pass ⟨104, rfl, .inl ⟨_, rfl, rfl⟩⟩ rfl rfl ?_
        refine AOps.pass ⟨104, rfl, .inl ⟨_, rfl, rfl⟩⟩ rfl rfl ?_
        refine AOps.pass ⟨104, rfl, .inl ⟨_, rfl, rfl⟩⟩ rfl rfl ?_
        refine AOps.pass ⟨104, rfl, .inl ⟨_, rfl, rfl⟩⟩ rfl rfl ?_
        refine AOps.pass ⟨104, rfl, .inl ⟨_, rfl, rfl⟩⟩ rfl rfl ?_
        refine AOps.pass ⟨104, rfl, .inl ⟨_, rfl, rfl⟩⟩ rfl rfl ?_
        refine AOps.step rfl rfl rfl (AOp.pickF rfl rfl rfl) (.nil ?_)
        refine AWP.cond rfl (fun h => nomatch h) (fun _ => ?_)
        refine AWP.skip ?_
        refine AWP.region ?_
        refine AOps.step rfl rfl rfl (AOp.add64 rfl rfl rfl (by omega) (by omega)) ?_
        refine AOps.mD rfl rfl rfl rfl rfl (.nil ?_)
        refine ⟨i + 1, (by dsimp only; omega), (by dsimp only; omega), Sub.less ⟨(SLe.of_eq rfl), SLe.refl _, SLe.refl _, SLe.refl _, SLe.refl _, SLe.refl _, SLe.refl _, SLe.refl _, SLe.refl _, SLe.refl _, SLe.refl _, SLe.refl _, SLe.refl _, SLe.refl _, SLe.refl _, trivial⟩ (row_cell_3 (by first | exact HX.symm | (rw [HX])) rfl rfl)⟩
      replace g7 := bnot_f g7
      have HX := candC_f (candTo_f (show candB v p v.items[k] (planTo v p day k).1 day i (carrN v i) = false from by unfold candB; rw [carrN_at hil, decide_eq_false (fun hh => by rw [has_none (v := v) (l := v.copies) vo hh] at g7; cases g7)]; rfl))
      refine AOps.pass ⟨97, rfl, .inl ⟨_, rfl, rfl⟩⟩ rfl rfl ?_
      refine AOps.pass ⟨97, rfl, .inl ⟨_, rfl, rfl⟩⟩ rfl rfl ?_
      refine AOps.pass ⟨97, rfl, .inl ⟨_, rfl, rfl⟩⟩ rfl rfl ?_
      refine AOps.pass ⟨97, rfl, .inl ⟨_, rfl, rfl⟩⟩ rfl rfl ?_
      refine AOps.pass ⟨97, rfl, .inl ⟨_, rfl, rfl⟩⟩ rfl rfl ?_
      refine AOps.step rfl rfl rfl (AOp.pickF rfl rfl rfl) ?_
      refine AOps.mD rfl rfl rfl rfl rfl ?_
      refine AOps.pass ⟨104, rfl, .inl ⟨_, rfl, rfl⟩⟩ rfl rfl ?_
      refine AOps.pass ⟨104, rfl, .inl ⟨_, rfl, rfl⟩⟩ rfl rfl ?_
      refine AOps.pass ⟨104, rfl, .inl ⟨_, rfl, rfl⟩⟩ rfl rfl ?_
      refine AOps.pass ⟨104, rfl, .inl ⟨_, rfl, rfl⟩⟩ rfl rfl ?_
      refine AOps.pass ⟨104, rfl, .inl ⟨_, rfl, rfl⟩⟩ rfl rfl ?_
      refine AOps.pass ⟨104, rfl, .inl ⟨_, rfl, rfl⟩⟩ rfl rfl ?_
      refine AOps.pass ⟨104, rfl, .inl ⟨_, rfl, rfl⟩⟩ rfl rfl ?_
      refine AOps.step rfl rfl rfl (AOp.pickF rfl rfl rfl) (.nil ?_)
      refine AWP.cond rfl (fun h => nomatch h) (fun _ => ?_)
      refine AWP.skip ?_
      refine AWP.region ?_
      refine AOps.step rfl rfl rfl (AOp.add64 rfl rfl rfl (by omega) (by omega)) ?_
      refine AOps.mD rfl rfl rfl rfl rfl (.nil ?_)
      refine ⟨i + 1, (by dsimp only; omega), (by dsimp only; omega), Sub.less ⟨(SLe.of_eq rfl), SLe.refl _, SLe.refl _, SLe.refl _, SLe.refl _, SLe.refl _, SLe.refl _, SLe.refl _, SLe.refl _, SLe.refl _, SLe.refl _, SLe.refl _, SLe.refl _, SLe.refl _, SLe.refl _, trivial⟩ (row_cell_3 (by first | exact HX.symm | (rw [HX])) rfl rfl)⟩
    replace h6 := of_decide_eq_false h6
    rw [List.length_map] at h6
    obtain rfl : i = v.carrs.length := by omega
    refine AWP.exit ?_
    refine AWP.seq ?_
    refine AWP.freezeIn 97 0 rfl (.head _) (.head _) ?_
    refine AWP.freezeCells 18 (ds := [.sl ((candC v p v.items[k] (planTo v p day k).1 day v.carrs.length).map Carr.ds)]) rfl (.head _) ?_
    have HC : ACall Tryd.prog 72 [.v (.int .i64 ((cand v p v.items[k] (planTo v p day k).1 day).length : Int)), .clo (.func 73) [.fp [.sl ((goodOnes v v.items[k].name p day).map Carr.ds)], .fp [.sl ((candC v p v.items[k] (planTo v p day k).1 day v.carrs.length).map Carr.ds)], .fp p.ds]] (.tup [.sl ((tgtL v p v.items[k] (planTo v p day k).1 day).map numD), .v (.bool (tgtC v p v.items[k] (planTo v p day k).1 day).isSome)]) := c_chosen (cand v p v.items[k] (planTo v p day k).1 day).length (by omega) (fun ch => enoughB p (withL v (goodOnes v v.items[k].name p day) (cand v p v.items[k] (planTo v p day k).1 day) ch)) 73 _ (fun l hl => by
      have h := c_planIn (goodOnes v v.items[k].name p day) (candC v p v.items[k] (planTo v p day k).1 day v.carrs.length) p l po (by rw [show (candC v p v.items[k] (planTo v p day k).1 day v.carrs.length).length = (cand v p v.items[k] (planTo v p day k).1 day).length from List.length_map ..]; exact hl) (by omega) (by rw [show (candC v p v.items[k] (planTo v p day k).1 day v.carrs.length).length = (cand v p v.items[k] (planTo v p day k).1 day).length from List.length_map ..]; omega)
      rw [show allC (goodOnes v v.items[k].name p day) (candC v p v.items[k] (planTo v p day k).1 day v.carrs.length) l = withL v (goodOnes v v.items[k].name p day) (cand v p v.items[k] (planTo v p day k).1 day) l from allC_with hl] at h
      exact h)
    refine AWP.region ?_
    refine AOps.step rfl rfl rfl (AOp.load rfl sc_23 rfl) ?_
    refine AOps.step rfl rfl rfl (AOp.lenSl rfl et_23.ht rfl) ?_
    rw [HLn]
    refine AOps.step rfl rfl rfl (AOp.makeFunc rfl (.cons (ArgOk.rfl' rfl) (.cons (ArgOk.rfl' rfl) (.cons (ArgOk.rfl' rfl) .nil)))) ?_
    refine AOps.step rfl rfl rfl (AOp.call rfl (.cons (ArgOk.rfl' rfl) (.cons (ArgOk.rfl' rfl) .nil)) HC) ?_
    refine AOps.mD rfl rfl rfl rfl rfl ?_
    refine AOps.step rfl rfl rfl (AOp.extract rfl rfl rfl) ?_
    refine AOps.step rfl rfl rfl (AOp.extract rfl rfl rfl) ?_
    refine AOps.aD rfl rfl rfl rfl rfl ?_
    refine AOps.aD rfl rfl rfl rfl rfl (.nil ?_)
    refine AWP.seq (AWP.region ?_)
    refine AOps.mD rfl rfl rfl rfl rfl ?_
    refine AOps.step rfl rfl rfl (AOp.lenSl rfl et_75.ht rfl) ?_
    refine AOps.mD rfl rfl rfl rfl rfl (.nil ?_)
    refine AWP.block ?_
    refine AWP.loop (G := Nat) (fun j => Env.of [(127, .d (.v (.int .i64 (j : Int)))), (125, .d (.sl ((tgtL v p v.items[k] (planTo v p day k).1 day).map numD))), (126, .d (.v (.int .i64 (((tgtL v p v.items[k] (planTo v p day k).1 day).map numD).length : Int)))), (18, .d (.fp [.sl ((candC v p v.items[k] (planTo v p day k).1 day v.carrs.length).map Carr.ds)])), (15, .d (.fp (srcCpy (srcO v v.items[k].name (copiesOf v v.items[k].name).length)).ds)), (14, .d (.fp v.items[k].ds)), (53, .d (.v (.int .i64 (k : Int)))), (51, .d (.sl (v.items.map Item.ds))), (52, .d (.v (.int .i64 ((v.items.map Item.ds).length : Int)))), (12, .own 65), (3, .d (.fp v.ds)), (4, .d (.fp p.ds)), (2, .d (.v (.int .i64 day))), (9, .own 91)]) (fun j => [(65, .row 130 3 ((((tgtR v p v.items[k] (planTo v p day k).1 day).take j).foldl (take1 v v.items[k]) (planTo v p day k)).2.map Tfr.ds)), (91, .map (roomM v (((tgtR v p v.items[k] (planTo v p day k).1 day).take j).foldl (take1 v v.items[k]) (planTo v p day k)).1))]) (fun j => j ≤ (tgtL v p v.items[k] (planTo v p day k).1 day).length) (fun j => (tgtL v p v.items[k] (planTo v p day k).1 day).length - j) 0 (Nat.zero_le _) (Sub.less ⟨(SLe.of_eq rfl), SLe.refl _, SLe.refl _, SLe.refl _, SLe.refl _, SLe.refl _, SLe.refl _, SLe.refl _, SLe.refl _, SLe.refl _, SLe.refl _, SLe.refl _, SLe.refl _, SLe.refl _, trivial⟩ (row_map1 rfl rfl)) ?_
    intro j hj
    refine AWP.seq (AWP.region ?_)
    refine AOps.step rfl rfl rfl (AOp.lss rfl rfl rfl) (.nil ?_)
    refine AWP.seq ?_
    refine AWP.cond rfl (fun h10 => ?_) (fun h10 => ?_)
    · replace h10 := of_decide_eq_true h10
      rw [List.length_map] at h10
      have hjl : j < (tgtL v p v.items[k] (planTo v p day k).1 day).length := by omega
      have hlj := tgtL_lt hjl
      obtain ⟨hjr, hje⟩ := tgtR_at hnt hjl
      have hci : (cand v p v.items[k] (planTo v p day k).1 day)[(tgtL v p v.items[k] (planTo v p day k).1 day)[j]] < v.carrs.length := candTo_lt (List.getElem_mem hlj)
      have hfb := PB.fold hxb ((tgtR v p v.items[k] (planTo v p day k).1 day).take j) hpb
      rw [List.length_take] at hfb
      have hfl := hfb.len
      have hol := hfb.out
      have hrm := hfb.room (cand v p v.items[k] (planTo v p day k).1 day)[(tgtL v p v.items[k] (planTo v p day k).1 day)[j]]
      rw [roomAt (by omega)] at hrm
      have HT := fold_tk (v := v) (x := v.items[k]) (s := (planTo v p day k)) hjr
      rw [hje] at HT
      refine AWP.skip ?_
      refine AWP.seq ?_
      refine AWP.block ?_
      refine AWP.seq (AWP.region ?_)
      refine AOps.step rfl rfl rfl (AOp.indexAddr rfl et_75 rfl rfl j rfl (at_list hjl) rfl) ?_
      refine AOps.step rfl rfl rfl (AOp.load rfl sc_3 rfl) ?_
      refine AOps.aD rfl rfl rfl rfl rfl (.nil ?_)
      refine AWP.seq (AWP.region ?_)
      refine AOps.step rfl rfl rfl (AOp.load rfl sc_23 rfl) ?_
      refine AOps.mD rfl rfl rfl rfl rfl ?_
      refine AOps.step rfl rfl rfl (AOp.indexAddr rfl et_23 rfl rfl (tgtL v p v.items[k] (planTo v p day k).1 day)[j] rfl (candC_at hlj hci) rfl) ?_
      refine AOps.step rfl rfl rfl (AOp.fieldAddr rfl fo_73_0 rfl) ?_
      refine AOps.step rfl rfl rfl (AOp.load rfl sc_9 rfl) ?_
      refine AOps.aD rfl rfl rfl rfl rfl (.nil ?_)
      refine AWP.seq (AWP.region ?_)
      refine AOps.step rfl rfl rfl (AOp.moveO rfl rfl) ?_
      refine AOps.mD rfl rfl rfl rfl rfl ?_
      refine AOps.step rfl rfl rfl (AOp.lookup rfl mt_119 kk_9 zt_3 rfl (.tail _ (.head _)) rfl trivial roomM_keys (roomM_look vo hci (by omega))) ?_
      refine AOps.step rfl rfl rfl (AOp.fieldAddr rfl fo_69_1 rfl) ?_
      refine AOps.step rfl rfl rfl (AOp.load rfl sc_3 rfl) ?_
      refine AOps.step rfl rfl rfl (AOp.sub64 rfl rfl rfl (by omega) (by omega)) ?_
      refine AOps.eff rfl rfl (EOp.mapUpdate rfl rfl mt_119 kk_9 rfl (.tail _ (.head _)) rfl rfl trivial roomM_keys (roomM_put vo hci (by omega) _)) (.nil ?_)
      refine AWP.region ?_
      refine AOps.step rfl rfl rfl (AOp.moveO rfl rfl) ?_
      refine AOps.step rfl rfl rfl (AOp.fieldAddr rfl fo_69_0 rfl) ?_
      refine AOps.step rfl rfl rfl (AOp.load rfl sc_9 rfl) ?_
      refine AOps.step rfl rfl rfl (AOp.fieldAddr rfl fo_77_1 rfl) ?_
      refine AOps.step rfl rfl rfl (AOp.load rfl sc_9 rfl) ?_
      refine AOps.mD rfl rfl rfl rfl rfl ?_
      refine AOps.step rfl rfl rfl (AOp.build rfl bu_130 (.cons rfl rfl (.cons rfl rfl (.cons rfl rfl .nil))) rfl) ?_
      refine AOps.step rfl rfl rfl (AOp.buildSlice rfl et_62 (.cons rfl rfl rfl .nil) rfl (by decide)) ?_
      -- append 150
      refine AOps.append rfl rfl rfl rfl et_62 rfl (.head _) rfl (fun y hy => by obtain rfl := List.mem_singleton.1 hy; rfl) (by simp; omega) (by simp; omega) ?_
      refine AOps.step rfl rfl rfl (AOp.assignO rfl rfl) (.nil ?_)
      refine AWP.region ?_
      refine AOps.step rfl rfl rfl (AOp.add64 rfl rfl rfl (by omega) (by omega)) ?_
      refine AOps.mD rfl rfl rfl rfl rfl (.nil ?_)
      refine ⟨j + 1, (by dsimp only; omega), (by dsimp only; omega), Sub.less ⟨(SLe.of_eq rfl), SLe.refl _, SLe.refl _, SLe.refl _, SLe.refl _, SLe.refl _, SLe.refl _, SLe.refl _, SLe.refl _, SLe.refl _, SLe.refl _, SLe.refl _, SLe.refl _, SLe.refl _, trivial⟩ (row_map1 (by rw [HT, take1_2, ← hsy.1, carrN_at hci, List.map_append]; rfl) (by rw [HT, take1_1, roomAt (by omega)]))⟩
    replace h10 := of_decide_eq_false h10
    rw [List.length_map] at h10
    obtain rfl : j = (tgtL v p v.items[k] (planTo v p day k).1 day).length := by omega
    refine AWP.exit ?_
    refine AWP.region ?_
    refine AOps.step rfl rfl rfl (AOp.add64 rfl rfl rfl (by omega) (by omega)) ?_
    refine AOps.mD rfl rfl rfl rfl rfl (.nil ?_)
    refine ⟨k + 1, (by omega), (by dsimp only; omega), Sub.less ⟨(SLe.of_eq rfl), SLe.refl _, SLe.refl _, SLe.refl _, SLe.refl _, SLe.refl _, SLe.refl _, SLe.refl _, trivial⟩ (row_map1 (by first | rw [HT] | rw [HE]) (by first | rw [HT] | rw [HE]))⟩
  replace h3 := of_decide_eq_false h3
  rw [List.length_map] at h3
  obtain rfl : k = v.items.length := by omega
  refine AWP.exit ?_
  refine AWP.seq (AWP.region ?_)
  refine AOps.step rfl rfl rfl (AOp.moveO rfl rfl) ?_
  refine AOps.step rfl rfl rfl (AOp.assignO rfl rfl) ?_
  refine AOps.aD rfl rfl rfl rfl rfl (.nil ?_)
  refine AWP.ret ?_
  refine ⟨RetD.own rfl (.head _) ?_, RetD.eq rfl ?_, trivial⟩
  all_goals (rfl)

end Go.Proofs.YtieccphckobhjaaDoor


namespace Go.Proofs.YtieccphckobhjaaDoor
open Go.RowKit
set_option linter.unusedVariables false

/-! Types. -/
namespace TyW18

end TyW18
open TyW18


def madeV (v : Vlt) (t : Tfr) (day : Int) : Vlt := if tfrFault v t day = 0 then withC v (insC v.copies (tfrNew v t day)) else v
theorem madeV_bad {v : Vlt} {t : Tfr} {day c : Int} (h : tfrFault v t day = c) (hc : c ≠ 0) : madeV v t day = v := if_neg (by rw [h]; exact hc)
theorem madeV_ok {v : Vlt} {t : Tfr} {day : Int} (h : tfrFault v t day = 0) : madeV v t day = withC v (insC v.copies (tfrNew v t day)) := if_pos h
section
variable {v : Vlt} {t : Tfr} {day : Int}
theorem tfr_9 (h : itemIdx v t.item < 0 ∨ copyIdx v t.item t.frm < 0 ∨ carrIdx v t.to < 0) : tfrFault v t day = 9 := if_pos h
theorem tfr_7 (h1 : ¬ (itemIdx v t.item < 0 ∨ copyIdx v t.item t.frm < 0 ∨ carrIdx v t.to < 0)) (h2 : 0 ≤ copyIdx v t.item t.to) : tfrFault v t day = 7 := (if_neg h1).trans (if_pos h2)
theorem tfr_11 (h1 : ¬ (itemIdx v t.item < 0 ∨ copyIdx v t.item t.frm < 0 ∨ carrIdx v t.to < 0)) (h2 : ¬ 0 ≤ copyIdx v t.item t.to) (h3 : 0 < (tfrFrom v t).bad.length) : tfrFault v t day = 11 := (if_neg h1).trans ((if_neg h2).trans (if_pos h3))
theorem tfr_1 (h1 : ¬ (itemIdx v t.item < 0 ∨ copyIdx v t.item t.frm < 0 ∨ carrIdx v t.to < 0)) (h2 : ¬ 0 ≤ copyIdx v t.item t.to) (h3 : ¬ 0 < (tfrFrom v t).bad.length) (h4 : day < (tfrFrom v t).day ∨ (tfrFrom v t).gen = 100) : tfrFault v t day = 1 := (if_neg h1).trans ((if_neg h2).trans ((if_neg h3).trans (if_pos h4)))
theorem tfr_2 (h1 : ¬ (itemIdx v t.item < 0 ∨ copyIdx v t.item t.frm < 0 ∨ carrIdx v t.to < 0)) (h2 : ¬ 0 ≤ copyIdx v t.item t.to) (h3 : ¬ 0 < (tfrFrom v t).bad.length) (h4 : ¬ (day < (tfrFrom v t).day ∨ (tfrFrom v t).gen = 100)) (h5 : (carrAt v t.to).room < usedOn v t.to + itemBlocks v t.item) : tfrFault v t day = 2 := (if_neg h1).trans ((if_neg h2).trans ((if_neg h3).trans ((if_neg h4).trans (if_pos h5))))
theorem tfr_0 (h1 : ¬ (itemIdx v t.item < 0 ∨ copyIdx v t.item t.frm < 0 ∨ carrIdx v t.to < 0)) (h2 : ¬ 0 ≤ copyIdx v t.item t.to) (h3 : ¬ 0 < (tfrFrom v t).bad.length) (h4 : ¬ (day < (tfrFrom v t).day ∨ (tfrFrom v t).gen = 100)) (h5 : ¬ (carrAt v t.to).room < usedOn v t.to + itemBlocks v t.item) : tfrFault v t day = 0 := (if_neg h1).trans ((if_neg h2).trans ((if_neg h3).trans ((if_neg h4).trans (if_neg h5))))
theorem tfrFrom_at {k : Nat} (hk : k < v.copies.length) (e : copyIdx v t.item t.frm = (k : Int)) : tfrFrom v t = v.copies[k] := by unfold tfrFrom; rw [e, Int.toNat_natCast, getD_at hk]
end
theorem insC_ds (l : List Cpy) (c : Cpy) : (insC l c).map Cpy.ds = (l.map Cpy.ds).take (posC l (keyC c.item c.carrier)) ++ [c.ds] ++ (l.map Cpy.ds).drop (posC l (keyC c.item c.carrier)) := by unfold insC; simp
def newD (v : Vlt) (t : Tfr) (day : Int) : List D := [.v (.string t.item), .v (.string t.to), .v (.string t.frm), .v (.int .i64 day), .v (.int .i64 day), .v (.int .i64 ((tfrFrom v t).gen + 1)), .v (.slice none 0 0)]
theorem hsz_24r : ∀ w, (sizeOf 24).run Tryd.prog w = .ok 1 w := SizeT.of (by kernel_rfl)


end Go.Proofs.YtieccphckobhjaaDoor


namespace Go.Proofs.YtieccphckobhjaaDoor
open Go.RowKit
set_option linter.unusedVariables false

/-! Types. -/
namespace TyW19

end TyW19
open TyW19


theorem apply_bad {v : Vlt} {ts : List Tfr} {day c : Int} (h : applyFault v ts day = c) (hc : c ≠ 0) : applyV v ts day = ⟨[], [], []⟩ := if_neg (by rw [h]; exact hc)
theorem apply_1 {v : Vlt} {ts : List Tfr} {day : Int} (h : checkV v ≠ 0) : applyFault v ts day = checkV v := if_pos h
theorem apply_2 {v : Vlt} {ts : List Tfr} {day : Int} (h : checkV v = 0) (h2 : ¬ (0 ≤ day ∧ day ≤ 200000)) : applyFault v ts day = 1 := (if_neg (fun hh => hh h)).trans (if_pos h2)
theorem apply_3 {v : Vlt} {ts : List Tfr} {day : Int} (h : checkV v = 0) (h2 : 0 ≤ day ∧ day ≤ 200000) {k : Nat} {l : List Cpy} (hg : ApS v ts day (k, l)) (hk : k < ts.length) (hf : tfrFault (withC v l) ts[k] day ≠ 0) : applyFault v ts day = tfrFault (withC v l) ts[k] day := by
  unfold applyFault
  rw [if_neg (fun hh => hh h), if_neg (fun hh => hh h2), hg.stop hk hf, if_pos hf]
theorem apply_4 {v : Vlt} {ts : List Tfr} {day : Int} (h : checkV v = 0) (h2 : 0 ≤ day ∧ day ≤ 200000) {l : List Cpy} (hg : ApS v ts day (ts.length, l)) (h3 : 200 < l.length) : applyFault v ts day = 2 := by
  unfold applyFault
  rw [if_neg (fun hh => hh h), if_neg (fun hh => hh h2), hg.all, if_neg (fun hh => hh rfl), if_pos h3]
theorem apply_5 {v : Vlt} {ts : List Tfr} {day : Int} (h : checkV v = 0) (h2 : 0 ≤ day ∧ day ≤ 200000) {l : List Cpy} (hg : ApS v ts day (ts.length, l)) (h3 : ¬ 200 < l.length) : applyFault v ts day = 0 ∧ applyV v ts day = withC v l := by
  have h0 : applyFault v ts day = 0 := by
    unfold applyFault
    rw [if_neg (fun hh => hh h), if_neg (fun hh => hh h2), hg.all, if_neg (fun hh => hh rfl), if_neg h3]
  refine ⟨h0, ?_⟩
  unfold applyV
  rw [if_pos h0, hg.all]
theorem ApS.start {v : Vlt} (vo : VOk v) (ts : List Tfr) (day : Int) : ApS v ts day (0, v.copies) := ⟨Nat.zero_le _, TS.of vo, rfl⟩
theorem TS.at {v : Vlt} {l : List Cpy} (h : TS v l) : TS (withC v l) (withC v l).copies := ⟨h.ord, h.it, h.ca, h.gen⟩
end Go.Proofs.YtieccphckobhjaaDoor


namespace Go.Proofs.YtieccphckobhjaaDoor
open Go.RowKit
set_option linter.unusedVariables false

/-! Types. -/
namespace TyX1

end TyX1
open TyX1


theorem VOk.itemLt {v : Vlt} (h : VOk v) : ∀ i j (hi : i < v.items.length) (hj : j < v.items.length), i < j → strCmp v.items[i].name v.items[j].name < 0 := by
  intro i j hi hj hij
  obtain ⟨d, rfl⟩ : ∃ d, j = i + d + 1 := ⟨j - i - 1, by omega⟩
  have step : ∀ k (hk : k + 1 < v.items.length), strCmp v.items[k].name v.items[k + 1].name < 0 := fun k hk => by
    have h1 := ffst_all _ h.items (k + 1) hk
    unfold itemFault at h1
    rw [dif_pos hk] at h1
    split at h1
    · simp at h1
    · split at h1
      · simp at h1
      · rename_i h3
        cases hs : sle v.items[k + 1].name v.items[k].name with
        | false => exact sle_lt hs
        | true => exact absurd ⟨Nat.succ_pos k, hs⟩ h3
  clear hij
  induction d with
  | zero => exact step i hj
  | succ d ih => exact strCmp_trans (ih (by omega) step) (step (i + d + 1) hj)
theorem VOk.itemInj {v : Vlt} (h : VOk v) {i j : Nat} (hi : i < v.items.length) (hj : j < v.items.length) (he : v.items[i].name = v.items[j].name) : i = j := by
  rcases Nat.lt_trichotomy i j with hh | hh | hh
  · have := h.itemLt i j hi hj hh
    rw [he, strCmp_self] at this; omega
  · exact hh
  · have := h.itemLt j i hj hi hh
    rw [he, strCmp_self] at this; omega
theorem VOk.itemAt {v : Vlt} (h : VOk v) {k : Nat} (hk : k < v.items.length) : itemIdx v v.items[k].name = k := by
  have h0 : 0 ≤ itemIdx v v.items[k].name := idxBy_mem.2 ⟨_, List.getElem_mem hk, decide_eq_true rfl⟩
  obtain ⟨j, hj, e, h2⟩ := idxBy_some h0
  have := h.itemInj hj hk (of_decide_eq_true h2)
  subst this
  exact e
theorem VOk.carrAtI {v : Vlt} (h : VOk v) {k : Nat} (hk : k < v.carrs.length) : carrIdx v v.carrs[k].name = k := by
  have h0 : 0 ≤ carrIdx v v.carrs[k].name := idxBy_mem.2 ⟨_, List.getElem_mem hk, decide_eq_true rfl⟩
  obtain ⟨j, hj, e, h2⟩ := idxBy_some h0
  have := h.carrInj hj hk (of_decide_eq_true h2)
  subst this
  exact e
theorem insC_perm (l : List Cpy) (c : Cpy) : (insC l c).Perm (c :: l) := by
  unfold insC
  rw [List.append_assoc, List.singleton_append]
  exact List.perm_middle.trans (by rw [List.take_append_drop])
theorem copyIdx_neg {v : Vlt} {l : List Cpy} {it ca : ByteArray} : copyIdx (withC v l) it ca < 0 ↔ ∀ c ∈ l, ¬ (c.item = it ∧ c.carrier = ca) := by
  have h : 0 ≤ copyIdx (withC v l) it ca ↔ ∃ x ∈ l, (decide (x.item = it) && decide (x.carrier = ca)) = true := idxBy_mem
  constructor
  · intro hn c hc hh
    have := h.2 ⟨c, hc, by simp [hh.1, hh.2]⟩
    omega
  · intro hn
    refine Int.not_le.1 fun hh => ?_
    obtain ⟨c, hc, h2⟩ := h.1 hh
    simp only [Bool.and_eq_true, decide_eq_true_eq] at h2
    exact hn c hc h2
theorem sumI_append : ∀ a b : List Int, (a ++ b).sum = a.sum + b.sum
  | [], b => by simp
  | x :: a, b => by rw [List.cons_append, List.sum_cons, List.sum_cons, sumI_append a b, Int.add_assoc]
theorem usedOn_ins (v : Vlt) (l : List Cpy) (c : Cpy) (nm : ByteArray) : usedOn (withC v (insC l c)) nm = usedOn (withC v l) nm + useOf v nm c := by
  have h : ∀ m : List Cpy, usedOn (withC v m) nm = (m.map (useOf v nm)).sum := fun m => by
    unfold usedOn usedTo
    show ((m.take m.length).map (useOf (withC v m) nm)).sum = _
    rw [List.take_length]
    rfl
  rw [h, h]
  unfold insC
  rw [List.map_append, List.map_append, sumI_append, sumI_append]
  have h2 : (l.map (useOf v nm)).sum = ((l.take (posC l (keyC c.item c.carrier))).map (useOf v nm)).sum + ((l.drop (posC l (keyC c.item c.carrier))).map (useOf v nm)).sum := by
    rw [← sumI_append, ← List.map_append, List.take_append_drop]
  rw [h2]
  simp only [List.map_cons, List.map_nil, List.sum_cons, List.sum_nil]
  omega
theorem copiesOf_ins {v : Vlt} {l : List Cpy} {c : Cpy} {it : ByteArray} (h : c.item ≠ it) : copiesOf (withC v (insC l c)) it = copiesOf (withC v l) it := by
  show (insC l c).filter (ofItem it) = l.filter (ofItem it)
  unfold insC
  rw [List.filter_append, List.filter_append, List.filter_cons, if_neg (by unfold ofItem; simpa using h), List.filter_nil, List.append_nil, ← List.filter_append, List.take_append_drop]
theorem SL.inj {l : List Cpy} (h : SL l) {c d : Cpy} (hc : c ∈ l) (hd : d ∈ l) (h1 : c.item = d.item) (h2 : c.carrier = d.carrier) : c = d := by
  obtain ⟨i, hi, rfl⟩ := List.mem_iff_getElem.1 hc
  obtain ⟨j, hj, rfl⟩ := List.mem_iff_getElem.1 hd
  rcases Nat.lt_trichotomy i j with hh | hh | hh
  · have := h i j hi hj hh
    rw [cpyCmp_eq h1 h2] at this; omega
  · subst hh; rfl
  · have := h j i hj hi hh
    rw [cpyCmp_eq h1.symm h2.symm] at this; omega
/-! Sets. -/
theorem mem_addS {l : List ByteArray} {s x : ByteArray} : x ∈ addS l s ↔ x ∈ l ∨ x = s := by
  by_cases h : s ∈ l
  · rw [addS_in h]
    exact ⟨.inl, fun hh => hh.elim id fun e => e ▸ h⟩
  · rw [addS_out h, List.mem_append, List.mem_singleton]
theorem mem_foldS : ∀ {l acc : List ByteArray} {x : ByteArray}, x ∈ l.foldl addS acc ↔ x ∈ acc ∨ x ∈ l
  | [], acc, x => by simp
  | s :: l, acc, x => by
    rw [List.foldl_cons, mem_foldS, mem_addS, List.mem_cons, or_assoc]
theorem mem_uniq {l : List ByteArray} {x : ByteArray} : x ∈ uniq l ↔ x ∈ l := by
  unfold uniq
  rw [mem_foldS]
  simp
theorem uniq_mono {l m : List ByteArray} (h : ∀ x ∈ l, x ∈ m) : (uniq l).length ≤ (uniq m).length :=
  nodup_le (uniq_nodup l) fun x hx => mem_uniq.2 (h x (mem_uniq.1 hx))
theorem lack_mono {p : Pol} {l m : List Carr} (h1 : l.length ≤ m.length) (h2 : ∀ x ∈ l, x ∈ m) : lackC p m ≤ lackC p l ∧ lackP p m ≤ lackP p l ∧ lackK p m ≤ lackK p l := by
  have h3 : (uniq (l.map Carr.place)).length ≤ (uniq (m.map Carr.place)).length := uniq_mono fun x hx => by
    obtain ⟨c, hc, rfl⟩ := List.mem_map.1 hx
    exact List.mem_map.2 ⟨c, h2 c hc, rfl⟩
  have h4 : (uniq (l.map Carr.kind)).length ≤ (uniq (m.map Carr.kind)).length := uniq_mono fun x hx => by
    obtain ⟨c, hc, rfl⟩ := List.mem_map.1 hx
    exact List.mem_map.2 ⟨c, h2 c hc, rfl⟩
  unfold lackC lackP lackK
  omega
theorem enough_mono {p : Pol} {l m : List Carr} (h1 : l.length ≤ m.length) (h2 : ∀ x ∈ l, x ∈ m) (h : enoughB p l = true) : enoughB p m = true := by
  have h3 := lack_mono (p := p) h1 h2
  unfold enoughB at h ⊢
  simp only [Bool.and_eq_true, decide_eq_true_eq] at h ⊢
  have h4 : 0 ≤ lackC p m ∧ 0 ≤ lackP p m ∧ 0 ≤ lackK p m := by unfold lackC lackP lackK; omega
  omega
/-- The good ones' carriers, of any copies. -/
def gdOf (v : Vlt) (p : Pol) (day : Int) (it : ByteArray) (l : List Cpy) : List Carr := ((l.filter (ofItem it)).filter (goodB v p day)).map fun c => carrAt v c.carrier
theorem good_gd (v : Vlt) (p : Pol) (day : Int) (it : ByteArray) (l : List Cpy) : goodOnes (withC v l) it p day = gdOf v p day it l := rfl
theorem gd_perm {v : Vlt} {p : Pol} {day : Int} {it : ByteArray} {l m : List Cpy} (h : l.Perm m) : (gdOf v p day it l).Perm (gdOf v p day it m) := ((h.filter _).filter _).map _
theorem gd_append (v : Vlt) (p : Pol) (day : Int) (it : ByteArray) (l m : List Cpy) : gdOf v p day it (l ++ m) = gdOf v p day it l ++ gdOf v p day it m := by
  unfold gdOf
  rw [List.filter_append, List.filter_append, List.map_append]
theorem gd_none {v : Vlt} {p : Pol} {day : Int} {it : ByteArray} {l : List Cpy} (h : ∀ c ∈ l, c.item ≠ it) : gdOf v p day it l = [] := by
  unfold gdOf
  have h2 : l.filter (ofItem it) = [] := List.filter_eq_nil_iff.2 fun c hc => by unfold ofItem; simpa using h c hc
  rw [h2]
  rfl
theorem gd_all {v : Vlt} {p : Pol} {day : Int} {it : ByteArray} {l : List Cpy} (h : ∀ c ∈ l, c.item = it ∧ goodB v p day c = true) : gdOf v p day it l = l.map fun c => carrAt v c.carrier := by
  unfold gdOf
  have h2 : l.filter (ofItem it) = l := List.filter_eq_self.2 fun c hc => by unfold ofItem; simpa using (h c hc).1
  rw [h2, List.filter_eq_self.2 fun c hc => (h c hc).2]
/-! The source, the candidates. -/
theorem srcI_ok {v : Vlt} {it : ByteArray} : ∀ k, k ≤ v.copies.length → ∀ b : Nat, srcI v it k = (b : Int) → ∃ hb : b < v.copies.length, v.copies[b].item = it ∧ v.copies[b].bad.length = 0
  | 0, _, b, h => by
    have h : (-1 : Int) = b := h
    omega
  | k + 1, hk, b, h => by
    have hlt : k < v.copies.length := by omega
    cases hn : srcNow v it (srcI v it k) v.copies[k] with
    | true =>
      rw [srcI_t hlt hn] at h
      obtain rfl : k = b := by omega
      unfold srcNow at hn
      simp only [Bool.and_eq_true, decide_eq_true_eq] at hn
      exact ⟨hlt, hn.1, by have := hn.2.1; omega⟩
    | false =>
      rw [srcI_f hlt hn] at h
      exact srcI_ok k (by omega) b h
theorem noTgt_eq {v : Vlt} {p : Pol} {x : Item} {day : Int} (vo : VOk v) : noTgt v p x day = (!okSrc (srcO v x.name (copiesOf v x.name).length) p || enoughB p (goodOnes v x.name p day)) := by
  cases h : okSrc (srcO v x.name (copiesOf v x.name).length) p with
  | false => rw [src_no vo h]; rfl
  | true => rw [(src_yes vo day h).2]; rfl
theorem noTgt_same {v w : Vlt} {p : Pol} {x : Item} {day : Int} (vo : VOk v) (wo : VOk w) (h : copiesOf w x.name = copiesOf v x.name) (hg : goodOnes w x.name p day = goodOnes v x.name p day) : noTgt w p x day = noTgt v p x day := by
  rw [noTgt_eq vo, noTgt_eq wo, hg]
  unfold srcO
  rw [h]
theorem cand_mem {v : Vlt} {p : Pol} {x : Item} {room : List Int} {day : Int} : ∀ {k i : Nat}, i ∈ candTo v p x room day k ↔ i < k ∧ candB v p x room day i (carrN v i) = true
  | 0, i => by
    constructor
    · intro h; cases h
    · intro h; omega
  | k + 1, i => by
    show i ∈ candTo v p x room day k ++ _ ↔ _
    rw [List.mem_append, cand_mem]
    constructor
    · rintro (h | h)
      · exact ⟨by omega, h.2⟩
      · split at h
        · rename_i hb
          obtain rfl := List.mem_singleton.1 h
          exact ⟨Nat.lt_succ_self _, hb⟩
        · cases h
    · rintro ⟨h1, h2⟩
      by_cases e : i = k
      · subst e
        right
        rw [if_pos h2]
        exact .head _
      · exact .inl ⟨by omega, h2⟩
theorem cand_inc {v : Vlt} {p : Pol} {x : Item} {room : List Int} {day : Int} : ∀ k, (candTo v p x room day k).Pairwise (· < ·)
  | 0 => .nil
  | k + 1 => by
    show (candTo v p x room day k ++ _).Pairwise _
    rw [List.pairwise_append]
    refine ⟨cand_inc k, ?_, fun a ha b hb => ?_⟩
    · split
      · exact List.pairwise_singleton _ _
      · exact .nil
    · split at hb
      · obtain rfl := List.mem_singleton.1 hb
        exact candTo_lt ha
      · cases hb
theorem inc_get {l : List Nat} (h : l.Pairwise (· < ·)) {i j : Nat} (hi : i < l.length) (hj : j < l.length) (hij : i < j) : l[i] < l[j] := List.pairwise_iff_getElem.1 h i j hi hj hij
theorem tgtR_inc {v : Vlt} {p : Pol} {x : Item} {room : List Int} {day : Int} : (tgtR v p x room day).Pairwise (· < ·) := by
  cases hn : noTgt v p x day with
  | true => rw [tgt_no hn]; exact .nil
  | false =>
    rw [List.pairwise_iff_getElem]
    intro i j hi hj hij
    have hl : (tgtR v p x room day).length = (tgtL v p x room day).length := by rw [tgtR_L hn, List.length_map]
    obtain ⟨_, e1⟩ := tgtR_at (room := room) hn (show i < (tgtL v p x room day).length by omega)
    obtain ⟨_, e2⟩ := tgtR_at (room := room) hn (show j < (tgtL v p x room day).length by omega)
    rw [e1, e2]
    refine inc_get (cand_inc _) _ _ ?_
    have hj' : j < (tgtL v p x room day).length := by omega
    have hi' : i < (tgtL v p x room day).length := by omega
    have key : ∀ r, tgtC v p x room day = r → ∀ (hi : i < (r.getD []).length) (hj : j < (r.getD []).length), (r.getD [])[i] < (r.getD [])[j] := fun r hc hi hj => by
      cases r with
      | none => simp at hj
      | some r =>
        obtain ⟨_, _, hin⟩ := chosen_spec hc
        have h1 := hin i j hij hj
        rw [numAt (show i < r.length from hi), numAt (show j < r.length from hj)] at h1
        exact h1
    exact key _ rfl hi' hj'
theorem tgtR_cand {v : Vlt} {p : Pol} {x : Item} {room : List Int} {day : Int} {i : Nat} (h : i ∈ tgtR v p x room day) : noTgt v p x day = false ∧ i < v.carrs.length ∧ candB v p x room day i (carrN v i) = true := by
  cases hn : noTgt v p x day with
  | true => rw [tgt_no hn] at h; cases h
  | false =>
    refine ⟨rfl, ?_⟩
    obtain ⟨j, hj, rfl⟩ := List.mem_iff_getElem.1 h
    have hl : (tgtR v p x room day).length = (tgtL v p x room day).length := by rw [tgtR_L hn, List.length_map]
    obtain ⟨_, e1⟩ := tgtR_at (room := room) hn (show j < (tgtL v p x room day).length by omega)
    rw [e1]
    exact cand_mem.1 (List.getElem_mem _)


end Go.Proofs.YtieccphckobhjaaDoor


namespace Go.Proofs.YtieccphckobhjaaDoor
open Go.RowKit
set_option linter.unusedVariables false

/-! Types. -/
namespace TyX2

end TyX2
open TyX2


/-- The copy that a planned transfer makes. -/
def cNew (v : Vlt) (x : Item) (s : Cpy) (day : Int) (i : Nat) : Cpy := ⟨x.name, (carrN v i).name, s.carrier, day, day, s.gen + 1, []⟩
/-- A planned transfer. -/
def tNew (v : Vlt) (x : Item) (s : Cpy) (i : Nat) : Tfr := ⟨x.name, s.carrier, (carrN v i).name⟩
/-- The copies, behind some transfers of the plan: room, and what was made. -/
structure St2 (v : Vlt) (p : Pol) (day : Int) (l : List Cpy) (r : List Int) (N : List Cpy) : Prop where
  ts : TS v l
  len : r.length = v.carrs.length
  room : ∀ i (h : i < v.carrs.length), r.getD i 0 = v.carrs[i].room - usedOn (withC v l) v.carrs[i].name ∧ 0 ≤ r.getD i 0
  perm : l.Perm (v.copies ++ N)
  new : ∀ c ∈ N, CpyOk v c ∧ goodB v p day c = true
/-- What is planned for an item: its source, a carrier. -/
structure Pl (v : Vlt) (p : Pol) (day : Int) (x : Item) (s : Cpy) (i : Nat) : Prop where
  xm : x ∈ v.items
  sm : s ∈ v.copies
  item : s.item = x.name
  bad : s.bad.length = 0
  gen : s.gen < p.gens
  ilt : i < v.carrs.length
  old : oldB p day (carrN v i) = false
theorem St2.sub {v : Vlt} {p : Pol} {day : Int} {l : List Cpy} {r : List Int} {N : List Cpy} (h : St2 v p day l r N) : ∀ c ∈ v.copies, c ∈ l := fun c hc => h.perm.mem_iff.2 (List.mem_append_left _ hc)
theorem step_fault {v : Vlt} {p : Pol} {day : Int} {l : List Cpy} {r : List Int} {N : List Cpy} {x : Item} {s : Cpy} {i : Nat} (vo : VOk v) (po : POk p) (h : St2 v p day l r N) (hp : Pl v p day x s i) (hn : copyIdx (withC v l) x.name (carrN v i).name < 0) (hr : x.blocks ≤ r.getD i 0) :
    tfrFrom (withC v l) (tNew v x s i) = s ∧ tfrFault (withC v l) (tNew v x s i) day = (if day < s.day then 1 else 0) := by
  have hilt := hp.ilt
  obtain ⟨ki, hki, hkx⟩ := List.mem_iff_getElem.1 hp.xm
  have ei : itemIdx v x.name = ki := by rw [← hkx]; exact vo.itemAt hki
  have hcn : carrN v i = v.carrs[i] := carrN_at hp.ilt
  have ec : carrIdx v (carrN v i).name = i := by rw [hcn]; exact vo.carrAtI hp.ilt
  have hsl : s ∈ l := h.sub s hp.sm
  have hcs : 0 ≤ copyIdx (withC v l) x.name s.carrier := Int.not_lt.1 fun hh => copyIdx_neg.1 hh s hsl ⟨hp.item, rfl⟩
  obtain ⟨kf, hkf, ekf, f1, f2⟩ := idx_nonneg (v := withC v l) (l := l) rfl hcs
  have hfs : l[kf] = s := h.ts.ord.inj (List.getElem_mem hkf) hsl (f1.trans hp.item.symm) f2
  have hfr : tfrFrom (withC v l) (tNew v x s i) = s := (tfrFrom_at (v := withC v l) (t := tNew v x s i) hkf ekf).trans hfs
  have hib : itemBlocks (withC v l) x.name = x.blocks := (itemBlocks_at (v := v) hki ei).trans (by rw [hkx])
  have hca : carrAt (withC v l) (carrN v i).name = v.carrs[i] := carrAt_eq (v := v) hp.ilt ec
  have hg := h.ts.gen s hsl
  have hpg := po.gens
  have hpn := hp.gen
  have hrm := h.room i hp.ilt
  have h1 : ¬ (itemIdx (withC v l) (tNew v x s i).item < 0 ∨ copyIdx (withC v l) (tNew v x s i).item (tNew v x s i).frm < 0 ∨ carrIdx (withC v l) (tNew v x s i).to < 0) := by
    have a1 : itemIdx (withC v l) (tNew v x s i).item = ki := ei
    have a3 : carrIdx (withC v l) (tNew v x s i).to = i := ec
    have a2 : 0 ≤ copyIdx (withC v l) (tNew v x s i).item (tNew v x s i).frm := hcs
    omega
  have h2 : ¬ 0 ≤ copyIdx (withC v l) (tNew v x s i).item (tNew v x s i).to := by
    have a : copyIdx (withC v l) (tNew v x s i).item (tNew v x s i).to < 0 := hn
    omega
  have h3 : ¬ 0 < (tfrFrom (withC v l) (tNew v x s i)).bad.length := by rw [hfr, hp.bad]; omega
  refine ⟨hfr, ?_⟩
  by_cases hd : day < s.day
  · rw [if_pos hd]
    exact tfr_1 h1 h2 h3 (.inl (by rw [hfr]; exact hd))
  · rw [if_neg hd]
    refine tfr_0 h1 h2 h3 (by rw [hfr]; omega) ?_
    have a1 : (carrAt (withC v l) (tNew v x s i).to).room = v.carrs[i].room := by show (carrAt (withC v l) (carrN v i).name).room = _; rw [hca]
    have a2 : itemBlocks (withC v l) (tNew v x s i).item = x.blocks := hib
    have a3 : usedOn (withC v l) (tNew v x s i).to = usedOn (withC v l) v.carrs[i].name := by show usedOn _ (carrN v i).name = _; rw [hcn]
    rw [a1, a2, a3]
    omega
theorem step_new {v : Vlt} {p : Pol} {day : Int} {l : List Cpy} {r : List Int} {N : List Cpy} {x : Item} {s : Cpy} {i : Nat} (vo : VOk v) (po : POk p) (hd0 : 0 ≤ day ∧ day ≤ 200000) (h : St2 v p day l r N) (hp : Pl v p day x s i) (hn : copyIdx (withC v l) x.name (carrN v i).name < 0) (hr : x.blocks ≤ r.getD i 0) (hd : ¬ day < s.day) :
    tfrC v l (tNew v x s i) day = insC l (cNew v x s day i) ∧ St2 v p day (insC l (cNew v x s day i)) (r.set i (r.getD i 0 - x.blocks)) (N ++ [cNew v x s day i]) := by
  obtain ⟨hf, hz⟩ := step_fault vo po h hp hn hr
  rw [if_neg hd] at hz
  have hT : tfrC v l (tNew v x s i) day = insC l (cNew v x s day i) := by
    unfold tfrC tfrNew
    rw [hf]
    rfl
  have hts := h.ts.next hz
  rw [hT] at hts
  have hilt := hp.ilt
  have hcn : carrN v i = v.carrs[i] := carrN_at hp.ilt
  obtain ⟨ki, hki, hkx⟩ := List.mem_iff_getElem.1 hp.xm
  have ei : itemIdx v x.name = ki := by rw [← hkx]; exact vo.itemAt hki
  have ec : carrIdx v (carrN v i).name = i := by rw [hcn]; exact vo.carrAtI hp.ilt
  have hib : itemBlocks v x.name = x.blocks := (itemBlocks_at (v := v) hki ei).trans (by rw [hkx])
  have hso := vo.cpy s hp.sm
  have hg := hso.gen
  have hpg := po.gens
  have hpn := hp.gen
  refine ⟨hT, hts, by rw [List.length_set]; exact h.len, fun j hj => ?_, ?_, fun c hc => ?_⟩
  · have hrj := h.room j hj
    rw [usedOn_ins]
    by_cases e : i = j
    · subst e
      have hu : useOf v v.carrs[i].name (cNew v x s day i) = x.blocks := by
        unfold useOf
        rw [if_pos (by show (carrN v i).name = _; rw [hcn])]
        exact hib
      rw [hu, List.getD_eq_getElem?_getD (l := r.set i _), List.getElem?_set, if_pos rfl, if_pos (by rw [h.len]; exact hj), Option.getD_some]
      omega
    · have hu : useOf v v.carrs[j].name (cNew v x s day i) = 0 := by
        unfold useOf
        rw [if_neg fun hh => e (vo.carrInj hp.ilt hj (by rw [← hcn]; exact hh))]
      rw [hu, List.getD_eq_getElem?_getD (l := r.set i _), List.getElem?_set, if_neg e, ← List.getD_eq_getElem?_getD]
      omega
  · refine (insC_perm l _).trans ?_
    rw [← List.append_assoc]
    exact (List.Perm.cons _ h.perm).trans (List.perm_append_comm (l₁ := [cNew v x s day i]))
  · rcases List.mem_append.1 hc with hc | hc
    · exact h.new c hc
    · obtain rfl := List.mem_singleton.1 hc
      have hnm : s.carrier ≠ ⟨#[]⟩ := carr_ne (carrNames vo.carrs) hso.carr
      refine ⟨⟨?_, ?_, .inr hso.carr, ?_, hd0, ⟨Int.le_refl _, hd0.2⟩, ?_, ?_, rfl⟩, ?_⟩
      · show 0 ≤ itemIdx v x.name
        omega
      · show 0 ≤ carrIdx v (carrN v i).name
        omega
      · show s.carrier ≠ (carrN v i).name
        intro hh
        exact copyIdx_neg.1 hn s (h.sub s hp.sm) ⟨hp.item, hh⟩
      · show 1 ≤ s.gen + 1 ∧ s.gen + 1 ≤ 100
        omega
      · show decide (s.gen + 1 = 1) = decide (s.carrier = ⟨#[]⟩)
        rw [decide_eq_false hnm, decide_eq_false (by omega)]
      · have hca : carrAt v (cNew v x s day i).carrier = carrN v i := by
          show carrAt v (carrN v i).name = _
          rw [carrAt_eq (v := v) hp.ilt ec, hcn]
        unfold goodB
        rw [hca, hp.old, decide_eq_true (show (cNew v x s day i).gen ≤ p.gens by show s.gen + 1 ≤ p.gens; omega)]
        rfl
theorem apply_app {v : Vlt} {day : Int} : ∀ (a b : List Tfr) (l : List Cpy), applyTo v day (a ++ b) l = if (applyTo v day a l).1 ≠ 0 then applyTo v day a l else applyTo v day b (applyTo v day a l).2
  | [], b, l => by show _ = if (0 : Int) ≠ 0 then _ else _; rw [if_neg (by decide)]; rfl
  | t :: a, b, l => by
    rw [List.cons_append]
    by_cases h : tfrFault (withC v l) t day = 0
    · rw [applyTo_go h, applyTo_go h]
      exact apply_app a b _
    · rw [applyTo_stop h, applyTo_stop h, if_pos h]
/-- The transfers of one item. -/
theorem inner {v : Vlt} {p : Pol} {day : Int} {x : Item} {s : Cpy} (vo : VOk v) (po : POk p) (hd0 : 0 ≤ day ∧ day ≤ 200000) : ∀ (T : List Nat) {l : List Cpy} {r : List Int} {N : List Cpy} (o : List Tfr), St2 v p day l r N → T.Pairwise (· < ·) → (∀ i ∈ T, Pl v p day x s i ∧ copyIdx (withC v l) x.name (carrN v i).name < 0 ∧ x.blocks ≤ r.getD i 0) →
    (applyTo v day (T.map (tNew v x s)) l).1 = 1 ∨ ((applyTo v day (T.map (tNew v x s)) l).1 = 0 ∧ St2 v p day (applyTo v day (T.map (tNew v x s)) l).2 (T.foldl (take1 v x) (r, o)).1 (N ++ T.map (cNew v x s day)))
  | [], l, r, N, o, h, _, _ => .inr ⟨rfl, by rw [show N ++ List.map (cNew v x s day) [] = N from List.append_nil N]; exact h⟩
  | i :: T, l, r, N, o, h, hT, hc => by
    obtain ⟨hp, hn, hr⟩ := hc i (.head _)
    obtain ⟨hf, hz⟩ := step_fault vo po h hp hn hr
    rw [List.map_cons]
    by_cases hd : day < s.day
    · rw [if_pos hd] at hz
      left
      rw [applyTo_stop (by rw [hz]; decide)]
      exact hz
    · rw [if_neg hd] at hz
      obtain ⟨e, h2⟩ := step_new vo po hd0 h hp hn hr hd
      rw [applyTo_go hz, e]
      have hT2 := List.pairwise_cons.1 hT
      have ih := inner vo po hd0 T (x := x) (s := s) (o ++ [⟨x.name, (v.copies.getD (srcI v x.name v.copies.length).toNat zC).carrier, (carrN v i).name⟩]) h2 hT2.2 fun j hj => by
        obtain ⟨hpj, hnj, hrj⟩ := hc j (.tail _ hj)
        have hij : i < j := hT2.1 j hj
        refine ⟨hpj, copyIdx_neg.2 fun c hcm hh => ?_, ?_⟩
        · rcases insC_mem hcm with rfl | hcm
          · have e1 : (carrN v i).name = (carrN v j).name := hh.2
            rw [carrN_at hp.ilt, carrN_at hpj.ilt] at e1
            have := vo.carrInj hp.ilt hpj.ilt e1
            omega
          · exact copyIdx_neg.1 hnj c hcm hh
        · rw [List.getD_eq_getElem?_getD (l := r.set i _), List.getElem?_set, if_neg (by omega), ← List.getD_eq_getElem?_getD]
          exact hrj
      rw [List.append_assoc] at ih
      exact ih


end Go.Proofs.YtieccphckobhjaaDoor


namespace Go.Proofs.YtieccphckobhjaaDoor
open Go.RowKit
set_option linter.unusedVariables false

/-! Types. -/
namespace TyX3

end TyX3
open TyX3


theorem apply_other {v : Vlt} {day : Int} {x : Item} {s : Cpy} {it : ByteArray} (h : x.name ≠ it) : ∀ (T : List Nat) (l : List Cpy), copiesOf (withC v (applyTo v day (T.map (tNew v x s)) l).2) it = copiesOf (withC v l) it
  | [], l => rfl
  | i :: T, l => by
    rw [List.map_cons]
    by_cases hf : tfrFault (withC v l) (tNew v x s i) day = 0
    · rw [applyTo_go hf, apply_other h T]
      unfold tfrC
      exact copiesOf_ins h
    · rw [applyTo_stop hf]
theorem good_same {v : Vlt} {l m : List Cpy} {it : ByteArray} {p : Pol} {day : Int} (h : copiesOf (withC v l) it = copiesOf (withC v m) it) : goodOnes (withC v l) it p day = goodOnes (withC v m) it p day := by
  unfold goodOnes
  rw [h]
  rfl
theorem fold_out {v : Vlt} {x : Item} {s : Cpy} (hs : v.copies.getD (srcI v x.name v.copies.length).toNat zC = s) : ∀ (T : List Nat) (q : List Int × List Tfr), (T.foldl (take1 v x) q).2 = q.2 ++ T.map (tNew v x s)
  | [], q => by rw [List.foldl_nil]; exact (List.append_nil q.2).symm
  | i :: T, q => by
    rw [List.foldl_cons, fold_out hs T, take1_2, hs, List.append_assoc]
    rfl
/-- What is so of an item that was planned. -/
def DoneI (v : Vlt) (p : Pol) (day : Int) (l : List Cpy) (x : Item) (r : List Int) : Prop :=
  (copiesOf (withC v l) x.name = copiesOf v x.name ∧ tgtR v p x r day = []) ∨ enoughB p (goodOnes (withC v l) x.name p day) = true
structure InvK (v : Vlt) (p : Pol) (day : Int) (k : Nat) (l : List Cpy) : Prop where
  st : ∃ N, St2 v p day l (planTo v p day k).1 N ∧ ∀ c ∈ N, ∃ q, ∃ hq : q < v.items.length, q < k ∧ c.item = v.items[q].name
  cps : ∀ q (hq : q < v.items.length), k ≤ q → copiesOf (withC v l) v.items[q].name = copiesOf v v.items[q].name
  done : ∀ q (hq : q < v.items.length), q < k → DoneI v p day l v.items[q] (planTo v p day q).1
theorem DoneI.keep {v : Vlt} {p : Pol} {day : Int} {l m : List Cpy} {x : Item} {r : List Int} (h : DoneI v p day l x r) (hc : copiesOf (withC v m) x.name = copiesOf (withC v l) x.name) : DoneI v p day m x r := by
  rcases h with ⟨h1, h2⟩ | h
  · exact .inl ⟨hc.trans h1, h2⟩
  · right
    rw [good_same hc]
    exact h
theorem noTgt_parts {v : Vlt} {p : Pol} {x : Item} {day : Int} (h : noTgt v p x day = false) : ∃ b, ∃ hb : b < v.copies.length, v.copies.getD (srcI v x.name v.copies.length).toNat zC = v.copies[b] ∧ v.copies[b].item = x.name ∧ v.copies[b].bad.length = 0 ∧ v.copies[b].gen < p.gens ∧ enoughB p (goodOnes v x.name p day) = false := by
  unfold noTgt at h
  simp only [Bool.or_eq_false_iff, decide_eq_false_iff_not] at h
  obtain ⟨b, hb, eb, hbe⟩ := srcI_at (v := v) (it := x.name) (Nat.le_refl _) h.1
  obtain ⟨_, h1, h2⟩ := srcI_ok v.copies.length (Nat.le_refl _) b eb
  refine ⟨b, hb, hbe, h1, h2, ?_, h.2.2⟩
  have h3 := h.2.1
  rw [hbe] at h3
  omega
theorem tgt_some {v : Vlt} {p : Pol} {x : Item} {room : List Int} {day : Int} (hn : noTgt v p x day = false) (h : tgtR v p x room day ≠ []) : enoughB p (goodOnes v x.name p day ++ (tgtR v p x room day).map (carrN v)) = true := by
  rw [tgtR_L hn] at h ⊢
  unfold tgtL at h ⊢
  cases hc : tgtC v p x room day with
  | none => rw [hc] at h; exact absurd rfl h
  | some r =>
    obtain ⟨hP, _, _⟩ := chosen_spec hc
    have hP : enoughB p (withL v (goodOnes v x.name p day) (cand v p x room day) r) = true := hP
    unfold withL at hP
    rw [List.map_map]
    exact hP
theorem items_step {v : Vlt} {p : Pol} {day : Int} (vo : VOk v) (po : POk p) (hd0 : 0 ≤ day ∧ day ≤ 200000) : ∀ k, k ≤ v.items.length → (applyTo v day (planTo v p day k).2 v.copies).1 = 1 ∨ ((applyTo v day (planTo v p day k).2 v.copies).1 = 0 ∧ InvK v p day k (applyTo v day (planTo v p day k).2 v.copies).2)
  | 0, _ => .inr ⟨rfl, ⟨⟨[], ⟨TS.of vo, by show (roomR v).length = _; unfold roomR; rw [List.length_map], fun i hi => by
      have h1 : (planTo v p day 0).1.getD i 0 = v.carrs[i].room - usedOn v v.carrs[i].name := by
        show (roomR v).getD i 0 = _
        rw [roomAt (by unfold roomR; rw [List.length_map]; exact hi)]
        unfold roomR
        rw [List.getElem_map]
      have h2 := vo.room _ (List.getElem_mem hi)
      refine ⟨h1, ?_⟩
      rw [h1]
      omega, by rw [List.append_nil]; exact .refl _, fun c hc => by cases hc⟩, fun c hc => by cases hc⟩, fun q hq _ => rfl, fun q _ hq => by omega⟩⟩
  | k + 1, hk => by
    have hk' : k < v.items.length := by omega
    have hPN := planTo_next (p := p) (day := day) hk'
    have ih := items_step vo po hd0 k (by omega)
    generalize hx : v.items[k] = x at hPN
    have hxm : x ∈ v.items := hx ▸ List.getElem_mem hk'
    have hne : ∀ q (hq : q < v.items.length), q ≠ k → x.name ≠ v.items[q].name := fun q hq hqk e => by
      rw [← hx] at e
      exact hqk (vo.itemInj hk' hq e).symm
    cases hn : noTgt v p x day with
    | true =>
      have e : planTo v p day (k + 1) = planTo v p day k := by rw [hPN]; exact planItem_no hn
      rw [e]
      rcases ih with ih | ⟨h0, hI⟩
      · exact .inl ih
      · refine .inr ⟨h0, ?_⟩
        obtain ⟨N, hst, hN⟩ := hI.st
        refine ⟨⟨N, by rw [e]; exact hst, fun c hc => by obtain ⟨q, hq, h1, h2⟩ := hN c hc; exact ⟨q, hq, by omega, h2⟩⟩, fun q hq h => hI.cps q hq (by omega), fun q hq h => ?_⟩
        by_cases hqk : q = k
        · subst hqk
          exact .inl ⟨hI.cps q hq (Nat.le_refl _), by rw [hx]; exact tgt_no hn⟩
        · exact hI.done q hq (by omega)
    | false =>
      obtain ⟨b, hb, hbe, hbi, hbb, hbg, hen⟩ := noTgt_parts hn
      have hP1 : (planTo v p day (k + 1)).2 = (planTo v p day k).2 ++ (tgtR v p x (planTo v p day k).1 day).map (tNew v x v.copies[b]) := by
        rw [hPN]
        exact fold_out hbe _ _
      rw [hP1, apply_app]
      rcases ih with ih | ⟨h0, hI⟩
      · rw [if_pos (by rw [ih]; decide)]
        exact .inl ih
      · rw [if_neg (fun h => h h0)]
        generalize hl : (applyTo v day (planTo v p day k).2 v.copies).2 = l at hI
        obtain ⟨N, hst, hN⟩ := hI.st
        have hcand : ∀ i ∈ tgtR v p x (planTo v p day k).1 day, Pl v p day x v.copies[b] i ∧ copyIdx (withC v l) x.name (carrN v i).name < 0 ∧ x.blocks ≤ (planTo v p day k).1.getD i 0 := fun i hi => by
          obtain ⟨_, hil, hcb⟩ := tgtR_cand hi
          unfold candB at hcb
          simp only [Bool.and_eq_true, decide_eq_true_eq, Bool.not_eq_true'] at hcb
          refine ⟨⟨hxm, List.getElem_mem hb, hbi, hbb, hbg, hil, hcb.2.1⟩, copyIdx_neg.2 fun c hc hh => ?_, hcb.2.2⟩
          rcases List.mem_append.1 (hst.perm.mem_iff.1 hc) with hc | hc
          · exact copyIdx_neg.1 (show copyIdx (withC v v.copies) x.name (carrN v i).name < 0 from hcb.1) c hc hh
          · obtain ⟨q, hq, h1, h2⟩ := hN c hc
            exact hne q hq (by omega) (hh.1.symm.trans h2)
        have hin := inner vo po hd0 (tgtR v p x (planTo v p day k).1 day) (planTo v p day k).2 hst tgtR_inc hcand
        rcases hin with hin | ⟨h1, h2⟩
        · exact .inl hin
        · refine .inr ⟨h1, ?_⟩
          have hoth := fun it h => apply_other (v := v) (day := day) (x := x) (s := v.copies[b]) (it := it) h (tgtR v p x (planTo v p day k).1 day) l
          generalize hm : (applyTo v day ((tgtR v p x (planTo v p day k).1 day).map (tNew v x v.copies[b])) l).2 = m at h2 hoth
          have e1 : (planTo v p day (k + 1)).1 = ((tgtR v p x (planTo v p day k).1 day).foldl (take1 v x) ((planTo v p day k).1, (planTo v p day k).2)).1 := by rw [hPN]; rfl
          refine ⟨⟨_, by rw [e1]; exact h2, fun c hc => ?_⟩, fun q hq h => ?_, fun q hq h => ?_⟩
          · rcases List.mem_append.1 hc with hc | hc
            · obtain ⟨q, hq, a1, a2⟩ := hN c hc
              exact ⟨q, hq, by omega, a2⟩
            · obtain ⟨i, _, rfl⟩ := List.mem_map.1 hc
              exact ⟨k, hk', Nat.lt_succ_self _, by rw [hx]; rfl⟩
          · rw [hoth _ (hne q hq (by omega))]
            exact hI.cps q hq (by omega)
          · by_cases hqk : q = k
            · subst hqk
              rw [hx]
              by_cases hT : tgtR v p x (planTo v p day q).1 day = []
              · left
                refine ⟨?_, hT⟩
                rw [hT] at hm
                have hm : l = m := hm
                rw [← hm]
                have := hI.cps q hq (Nat.le_refl _)
                rwa [hx] at this
              · right
                have hen2 := tgt_some hn hT
                rw [good_gd]
                have hp := gd_perm (v := v) (p := p) (day := day) (it := x.name) h2.perm
                rw [gd_append, gd_append, gd_none (l := N) (fun c hc => by
                  obtain ⟨q', hq', a1, a2⟩ := hN c hc
                  rw [a2]
                  exact fun e => hne q' hq' (by omega) e.symm), List.nil_append, gd_all (l := List.map _ _) (fun c hc => by
                  obtain ⟨i, hi, rfl⟩ := List.mem_map.1 hc
                  refine ⟨rfl, ?_⟩
                  exact (h2.new _ (List.mem_append_right _ hc)).2), List.map_map] at hp
                have hmap : (tgtR v p x (planTo v p day q).1 day).map ((fun c : Cpy => carrAt v c.carrier) ∘ cNew v x v.copies[b] day) = (tgtR v p x (planTo v p day q).1 day).map (carrN v) := List.map_congr_left fun i hi => by
                  have hil := (hcand i hi).1.ilt
                  show carrAt v (carrN v i).name = carrN v i
                  rw [carrN_at hil]
                  exact carrAt_eq hil (vo.carrAtI hil)
                rw [hmap] at hp
                exact enough_mono (Nat.le_of_eq hp.length_eq.symm) (fun c hc => hp.mem_iff.2 hc) hen2
            · exact (hI.done q hq (by omega)).keep (hoth _ (hne q hq hqk))


end Go.Proofs.YtieccphckobhjaaDoor


namespace Go.Proofs.YtieccphckobhjaaDoor
open Go.RowKit
set_option linter.unusedVariables false

/-! Types. -/
namespace TyX4

end TyX4
open TyX4


theorem room_take1 {v : Vlt} {x : Item} (hb : 0 ≤ x.blocks) (s : List Int × List Tfr) (i j : Nat) : (take1 v x s i).1.getD j 0 ≤ s.1.getD j 0 := by
  rw [take1_1, List.getD_eq_getElem?_getD (l := s.1.set i _), List.getElem?_set]
  by_cases e : i = j
  · subst e
    rw [if_pos rfl]
    by_cases hl : i < s.1.length
    · rw [if_pos hl, Option.getD_some]; omega
    · rw [if_neg hl, List.getD_eq_getElem?_getD, List.getElem?_eq_none (by omega)]; exact Int.le_refl _
  · rw [if_neg e, ← List.getD_eq_getElem?_getD]; exact Int.le_refl _
theorem room_fold {v : Vlt} {x : Item} (hb : 0 ≤ x.blocks) (j : Nat) : ∀ (T : List Nat) (s : List Int × List Tfr), (T.foldl (take1 v x) s).1.getD j 0 ≤ s.1.getD j 0
  | [], s => Int.le_refl _
  | i :: T, s => Int.le_trans (room_fold hb j T _) (room_take1 hb s i j)
theorem room_mono {v : Vlt} {p : Pol} {day : Int} (hoi : okItems v) (j q : Nat) : ∀ d, q + d ≤ v.items.length → (planTo v p day (q + d)).1.getD j 0 ≤ (planTo v p day q).1.getD j 0
  | 0, _ => Int.le_refl _
  | d + 1, h => by
    have hlt : q + d < v.items.length := by omega
    have e := planTo_next (p := p) (day := day) hlt
    have hb := hoi _ (List.getElem_mem hlt)
    rw [show q + (d + 1) = q + d + 1 by omega, e]
    exact Int.le_trans (room_fold (by omega) j _ _) (room_mono hoi j q d (by omega))
theorem InvK.sub {v : Vlt} {p : Pol} {day : Int} {k : Nat} {l : List Cpy} (h : InvK v p day k l) : ∀ c ∈ v.copies, c ∈ l := by
  obtain ⟨N, hst, _⟩ := h.st
  exact hst.sub
theorem InvK.vok {v : Vlt} {p : Pol} {day : Int} {k : Nat} {l : List Cpy} (vo : VOk v) (h : InvK v p day k l) (hl : l.length ≤ 200) : VOk (withC v l) := by
  obtain ⟨N, hst, _⟩ := h.st
  refine vok_mk vo.ni vo.nc hl vo.items vo.carrs (fun c hc => ?_) (fun k hk => hst.ts.ord k (k + 1) (by have : k + 1 < l.length := hk; omega) hk (Nat.lt_succ_self _)) (fun x hx => ?_)
  · have h2 : CpyOk v c := by
      rcases List.mem_append.1 (hst.perm.mem_iff.1 hc) with h2 | h2
      · exact vo.cpy c h2
      · exact (hst.new c h2).1
    exact ⟨h2.item, h2.carr, h2.frm, h2.ne, h2.day, h2.last, h2.gen, h2.form, h2.bad⟩
  · obtain ⟨i, hi, rfl⟩ := List.mem_iff_getElem.1 hx
    have h2 := hst.room i hi
    show usedOn (withC v l) v.carrs[i].name ≤ v.carrs[i].room
    omega
theorem InvK.left {v : Vlt} {p : Pol} {day : Int} {l : List Cpy} (vo : VOk v) (hoi : okItems v) (h : InvK v p day v.items.length l) (wo : VOk (withC v l)) {q : Nat} (hq : q < v.items.length) : tgtR (withC v l) p v.items[q] (roomR (withC v l)) day = [] := by
  have hsub := h.sub
  rcases h.done q hq hq with ⟨hc, ht⟩ | he
  · have hg : goodOnes (withC v l) v.items[q].name p day = goodOnes v v.items[q].name p day := good_same (v := v) (l := l) (m := v.copies) hc
    have hnn := noTgt_same (p := p) (day := day) vo wo hc hg
    cases hnw : noTgt (withC v l) p v.items[q] day with
    | true => exact tgt_no hnw
    | false =>
      rw [hnw] at hnn
      have hnv := hnn.symm
      obtain ⟨_, _, _, _, _, _, hen⟩ := noTgt_parts hnv
      have hcv : tgtC v p v.items[q] (planTo v p day q).1 day = none := by
        cases hcv : tgtC v p v.items[q] (planTo v p day q).1 day with
        | none => rfl
        | some r =>
          obtain ⟨hP, _, _⟩ := chosen_spec hcv
          rw [tgtR_L hnv] at ht
          have ht2 := List.map_eq_nil_iff.1 ht
          unfold tgtL at ht2
          rw [hcv] at ht2
          have hr : r = [] := ht2
          subst hr
          have hP : enoughB p (goodOnes v v.items[q].name p day ++ []) = true := hP
          rw [List.append_nil, hen] at hP
          cases hP
      have hfull := chosen_none hcv
      have hfull : enoughB p (withL v (goodOnes v v.items[q].name p day) (cand v p v.items[q] (planTo v p day q).1 day) (List.range (cand v p v.items[q] (planTo v p day q).1 day).length)) = false := hfull
      have hcs : ∀ i ∈ cand (withC v l) p v.items[q] (roomR (withC v l)) day, i ∈ cand v p v.items[q] (planTo v p day q).1 day := fun i hi => by
        obtain ⟨hil, hb⟩ := cand_mem.1 hi
        have hil : i < v.carrs.length := hil
        refine cand_mem.2 ⟨hil, ?_⟩
        unfold candB at hb ⊢
        simp only [Bool.and_eq_true, decide_eq_true_eq] at hb ⊢
        refine ⟨(copyIdx_neg (v := v) (l := v.copies)).2 fun c hc hh => copyIdx_neg.1 hb.1 c (hsub c hc) hh, hb.2.1, ?_⟩
        obtain ⟨N, hst, _⟩ := h.st
        have h1 := (hst.room i hil).1
        have h2 := room_mono (p := p) (day := day) hoi i q (v.items.length - q) (by omega)
        rw [show q + (v.items.length - q) = v.items.length by omega] at h2
        have h3 : (roomR (withC v l)).getD i 0 = v.carrs[i].room - usedOn (withC v l) v.carrs[i].name := by
          rw [roomAt (by unfold roomR; rw [List.length_map]; exact hil)]
          unfold roomR
          rw [List.getElem_map]
          rfl
        have h4 := hb.2.2
        omega
      have hcl : (cand (withC v l) p v.items[q] (roomR (withC v l)) day).length ≤ (cand v p v.items[q] (planTo v p day q).1 day).length := nodup_le ((cand_inc _).imp fun hlt => Nat.ne_of_lt hlt) hcs
      have hcw : tgtC (withC v l) p v.items[q] (roomR (withC v l)) day = none := by
        cases hcw : tgtC (withC v l) p v.items[q] (roomR (withC v l)) day with
        | none => rfl
        | some r =>
          obtain ⟨hP, hv, _⟩ := chosen_spec hcw
          have hP : enoughB p (withL (withC v l) (goodOnes (withC v l) v.items[q].name p day) (cand (withC v l) p v.items[q] (roomR (withC v l)) day) r) = true := hP
          have := enough_mono (m := withL v (goodOnes v v.items[q].name p day) (cand v p v.items[q] (planTo v p day q).1 day) (List.range (cand v p v.items[q] (planTo v p day q).1 day).length)) (by
            unfold withL
            rw [List.length_append, List.length_append, List.length_map, List.length_map, List.length_range, hg]
            have := hv.1
            omega) (fun y hy => by
            unfold withL at hy ⊢
            rw [hg] at hy
            rcases List.mem_append.1 hy with hy | hy
            · exact List.mem_append_left _ hy
            · refine List.mem_append_right _ ?_
              obtain ⟨i, hi, rfl⟩ := List.mem_map.1 hy
              obtain ⟨j, hj, rfl⟩ := List.mem_iff_getElem.1 hi
              have h1 := hv.2 j hj
              have h2 : r[j] < (cand (withC v l) p v.items[q] (roomR (withC v l)) day).length := by omega
              obtain ⟨m, hm, e⟩ := List.mem_iff_getElem.1 (hcs _ (List.getElem_mem h2))
              refine List.mem_map.2 ⟨m, List.mem_range.2 hm, ?_⟩
              rw [numAt hm, numAt h2, e]
              rfl) hP
          rw [hfull] at this
          cases this
      rw [tgt_go hnw, hcw]
      rfl
  · refine tgt_no ?_
    unfold noTgt
    rw [he]
    simp
theorem InvK.none {v : Vlt} {p : Pol} {day : Int} {l : List Cpy} (vo : VOk v) (hoi : okItems v) (h : InvK v p day v.items.length l) (wo : VOk (withC v l)) : ∀ k, k ≤ v.items.length → planTo (withC v l) p day k = (roomR (withC v l), [])
  | 0, _ => rfl
  | k + 1, hk => by
    have hk' : k < (withC v l).items.length := hk
    rw [planTo_next hk', InvK.none vo hoi h wo k (by omega)]
    unfold planItem
    have := h.left vo hoi wo hk
    rw [show tgtR (withC v l) p (withC v l).items[k] (roomR (withC v l), ([] : List Tfr)).1 day = [] from this]
    rfl
/-! What is lacking. -/
theorem lackCpy_carr {v : Vlt} {p : Pol} {day : Int} {c : Cpy} {y : Lck} (h : y ∈ lackCpy v p day c) : y.carrier = c.carrier := by
  have key : ∀ (E : List Lck) (b : Bool) (z : Lck), (∀ y ∈ E, y.carrier = c.carrier) → z.carrier = c.carrier → ∀ y ∈ addL E b z, y.carrier = c.carrier := fun E b z h1 h2 y hy => by
    unfold addL at hy
    split at hy
    · rcases List.mem_append.1 hy with hy | hy
      · exact h1 y hy
      · obtain rfl := List.mem_singleton.1 hy; exact h2
    · exact h1 y hy
  unfold lackCpy at h
  exact key _ _ _ (key _ _ _ (key _ _ _ (key _ _ _ (fun y hy => by cases hy) rfl) rfl) rfl) rfl y h
theorem mem_headTo {nm : ByteArray} {l : List Int} {k : Nat} {y : Lck} : y ∈ headTo nm l k ↔ ∃ j, ∃ hj : j < l.length, j < k ∧ l[j] > 0 ∧ y = ⟨nm, ⟨#[]⟩, 1 + (j : Int), l[j]⟩ := by
  unfold headTo
  rw [List.mem_flatMap]
  constructor
  · rintro ⟨x, hx, hy⟩
    obtain ⟨j, hj, rfl⟩ := List.mem_iff_getElem.1 hx
    rw [List.length_take, List.length_zipIdx] at hj
    rw [List.getElem_take, List.getElem_zipIdx] at hy
    unfold headE at hy
    simp only [Nat.zero_add] at hy
    split at hy
    · rename_i h0
      exact ⟨j, by omega, by omega, h0, List.mem_singleton.1 hy⟩
    · cases hy
  · rintro ⟨j, hj, hjk, h0, rfl⟩
    refine ⟨(l[j], j), List.mem_iff_getElem.2 ⟨j, by rw [List.length_take, List.length_zipIdx]; omega, ?_⟩, ?_⟩
    · rw [List.getElem_take, List.getElem_zipIdx]
      simp
    · unfold headE
      rw [if_pos h0]
      exact .head _
theorem InvK.lacks {v : Vlt} {p : Pol} {day : Int} {k : Nat} {l : List Cpy} (h : InvK v p day k l) (wo : VOk (withC v l)) {y : Lck} (hy : y ∈ itemsTo (withC v l) p day v.items.length) (hc : y.carrier = ⟨#[]⟩) : ∃ z ∈ itemsTo v p day v.items.length, z.item = y.item ∧ z.what = y.what := by
  unfold itemsTo at hy ⊢
  rw [show (withC v l).items = v.items from rfl, List.take_length] at hy
  obtain ⟨x, hx, hy⟩ := List.mem_flatMap.1 hy
  unfold itemL at hy
  rcases List.mem_append.1 hy with hy | hy
  · obtain ⟨j, hj, hj3, h0, rfl⟩ := mem_headTo.1 hy
    obtain ⟨N, hst, _⟩ := h.st
    have hp := gd_perm (v := v) (p := p) (day := day) (it := x.name) hst.perm
    rw [gd_append] at hp
    have hm := lack_mono (p := p) (l := goodOnes v x.name p day) (m := goodOnes (withC v l) x.name p day) (by
      rw [good_gd, hp.length_eq, List.length_append]
      show (gdOf v p day x.name v.copies).length ≤ _
      omega) (fun c hc => hp.mem_iff.2 (List.mem_append_left _ hc))
    have hj' : j < (numsOf p (goodOnes v x.name p day)).length := hj3
    have hle : (numsOf p (goodOnes (withC v l) x.name p day))[j] ≤ (numsOf p (goodOnes v x.name p day))[j] := by
      match j, hj3 with
      | 0, _ => exact hm.1
      | 1, _ => exact hm.2.1
      | 2, _ => exact hm.2.2
    refine ⟨⟨x.name, ⟨#[]⟩, 1 + (j : Int), (numsOf p (goodOnes v x.name p day))[j]⟩, List.mem_flatMap.2 ⟨x, by rw [List.take_length]; exact hx, List.mem_append_left _ (mem_headTo.2 ⟨j, hj', hj3, by omega, rfl⟩)⟩, rfl, rfl⟩
  · unfold cpyAll at hy
    obtain ⟨c, hcm, hy⟩ := List.mem_flatMap.1 hy
    have h1 := lackCpy_carr hy
    have h2 := (wo.cpy c (copiesOf_mem hcm).1).carr
    exact absurd (h1.symm.trans hc) (carr_ne (carrNames wo.carrs) h2)
/-- What is so after a plan. -/
theorem plan_fault {v : Vlt} {p : Pol} {day : Int} (h : dayFault v p day = 0) : applyFault v (planR v p day) day = 0 ∨ applyFault v (planR v p day) day = 1 ∨ applyFault v (planR v p day) day = 2 := by
  obtain ⟨hb, hd⟩ := day_ok h
  obtain ⟨vo, po⟩ := both_ok hb
  have hT : planR v p day = (planTo v p day v.items.length).2 := by unfold planR; rw [if_pos h]
  rw [hT]
  unfold applyFault
  rw [if_neg (fun hh => hh (check_vok vo)), if_neg (fun hh => hh hd)]
  rcases items_step vo po hd v.items.length (Nat.le_refl _) with h1 | ⟨h1, _⟩
  · rw [h1, if_pos (by decide)]
    exact .inr (.inl rfl)
  · rw [if_neg (fun hh => hh h1)]
    split
    · exact .inr (.inr rfl)
    · exact .inl rfl
theorem plan_end {v : Vlt} {p : Pol} {day : Int} (h : dayFault v p day = 0) (hf : applyFault v (planR v p day) day = 0) : (∃ l, applyV v (planR v p day) day = withC v l) ∧ dayFault (applyV v (planR v p day) day) p day = 0 ∧ planR (applyV v (planR v p day) day) p day = [] ∧
    ∀ y ∈ lacksR (applyV v (planR v p day) day) p day, y.carrier = ⟨#[]⟩ → ∃ z ∈ lacksR v p day, z.item = y.item ∧ z.what = y.what := by
  obtain ⟨hb, hd⟩ := day_ok h
  obtain ⟨vo, po⟩ := both_ok hb
  have hT : planR v p day = (planTo v p day v.items.length).2 := by unfold planR; rw [if_pos h]
  have hV : applyV v (planR v p day) day = withC v (applyTo v day (planR v p day) v.copies).2 := by unfold applyV; rw [if_pos hf]
  have hf2 := hf
  unfold applyFault at hf2
  rw [if_neg (fun hh => hh (check_vok vo)), if_neg (fun hh => hh hd)] at hf2
  rw [hV]
  rw [hT] at hf2 ⊢
  rcases items_step vo po hd v.items.length (Nat.le_refl _) with h1 | ⟨h1, hI⟩
  · rw [h1, if_pos (by decide)] at hf2
    simp at hf2
  · rw [if_neg (fun hh => hh h1)] at hf2
    generalize (applyTo v day (planTo v p day v.items.length).2 v.copies).2 = l at hI hf2
    have hl : l.length ≤ 200 := by
      by_cases h3 : 200 < l.length
      · rw [if_pos h3] at hf2; simp at hf2
      · omega
    have wo := hI.vok vo hl
    have hpf : polFault p = 0 := by rw [both_p (check_vok vo)] at hb; exact hb
    have hdw : dayFault (withC v l) p day = 0 := by
      unfold dayFault
      rw [both_p (check_vok wo), hpf, if_neg (fun hh => hh rfl), if_pos hd]
    refine ⟨⟨l, rfl⟩, hdw, ?_, fun y hy hc => ?_⟩
    · unfold planR
      rw [if_pos hdw]
      have := hI.none vo (okItems_of vo.items) wo v.items.length (Nat.le_refl _)
      rw [show (withC v l).items.length = v.items.length from rfl, this]
    · rw [lacksR_ok hdw] at hy
      rw [lacksR_ok h]
      exact hI.lacks wo hy hc


end Go.Proofs.YtieccphckobhjaaDoor


namespace Go.Proofs.YtieccphckobhjaaDoor
open Go.RowKit
set_option linter.unusedVariables false
section
variable {cx : Cx} {ops : Array Oper} {Φ : List Fc} {o : Oper} {e : Env} {σ : Obs}
/-- An operation that only reads, in its own place among those that make. -/
theorem GE.pure {s : S} {dst : Nat} (hg : ∀ e : Env, GW ops o e true) (ht : o.dst = some dst) (hdn : Nat.blt dst cx.N = true) (h : AOp cx.P cx.B ops o e σ s) : GE cx ops Φ o e σ [(dst, s)] σ := fun e0 h1 _ _ =>
  AOps.step (hg e0) ht hdn (h.same fun t ht => h1 t ht) (.nil ⟨rfl, rfl⟩)
/-- A struct with own parts, loaded. -/
theorem GE.loadVal {t dst : Nat} {x : Operand} {cid off size : Nat} {ss : List S} {σ' : Obs} (id : Nat) (hΦ : ⟨id, [dst]⟩ ∈ Φ) (hg : o.guard = none) (ht : o.dst = some dst) (hdn : Nat.blt dst cx.N = true) (ho : o.op = .load t x) (hT : AggT cx.P t size) (hx : e.ev x = .ptr cid off) (hm : (cid, Ob.cells ss) ∈ σ) (hl : off + size ≤ ss.length) (hid : Obs.fresh id σ = true)
    (hσ : (id, Ob.val (((ss.drop off).take size).map (S.kill id))) :: Obs.kill id σ = σ') (hfx : cx.free id = true := by rfl) : GE cx ops Φ o e σ [(dst, .own id)] σ' := fun e0 h1 _ h3 => by
  have e1 : e0.ev x = e.ev x := ev_same fun t hxt => h1 t (looks_op (by rw [ho, ← hxt]; simp [Op.operands]))
  have hp : (e0.kill id).put (some dst) (.own id) = Env.puts e0 [(dst, .own id)] := by
    funext t
    show _ = (e0.put (some dst) (.own id)) t
    by_cases h : t = dst
    · subst h; rw [Env.put_same, Env.put_same]
    · rw [Env.put_other _ _ _ _ h, Env.put_other _ _ _ _ h]
      exact h3 _ hΦ t (by simp [h])
  exact AOps.loadVal id hg ht hdn ho hT (e1.trans hx) hm hl hid (.nil ⟨hp, hσ⟩) hfx
theorem cl_1 {a id : Nat} {s : S} {sl : List Nat} (h : sl.contains a = true ∨ s.kill id = s) : ∀ p ∈ [(a, s)], ∀ f ∈ [(⟨id, sl⟩ : Fc)], f.slots.contains p.1 = true ∨ p.2.kill f.id = p.2 := by
  intro p hp f hf
  obtain rfl := List.mem_singleton.1 hf
  obtain rfl := List.mem_singleton.1 hp
  exact h
end
end Go.Proofs.YtieccphckobhjaaDoor


namespace Go.Proofs.YtieccphckobhjaaDoor
open Go.RowKit
set_option linter.unusedVariables false

/-! Types. -/
namespace TyW20
theorem ag_77 : AggT Tryd.prog 77 7 := .of (by kernel_rfl)
theorem et_24 : ElemTy Tryd.prog 24 77 7 96 (.agg #[(.string ⟨#[]⟩), (.string ⟨#[]⟩), (.string ⟨#[]⟩), (.int .i64 0), (.int .i64 0), (.int .i64 0), (.slice none 0 0)]) := ⟨by kernel_rfl, by kernel_rfl, by kernel_rfl, by decide⟩
theorem et_75 : ElemTy Tryd.prog 75 3 1 8 (.int .i64 0) := ⟨by kernel_rfl, by kernel_rfl, by kernel_rfl, by decide⟩
theorem fo_26_2 : fieldOff Tryd.prog 26 2 = some 2 := by kernel_rfl
theorem fo_77_3 : fieldOff Tryd.prog 77 3 = some 3 := by kernel_rfl
theorem fo_77_5 : fieldOff Tryd.prog 77 5 = some 5 := by kernel_rfl
theorem fo_77_6 : fieldOff Tryd.prog 77 6 = some 6 := by kernel_rfl
theorem sc_24 : Scal Tryd.prog 24 := .of (by kernel_rfl)
theorem sc_3 : Scal Tryd.prog 3 := .of (by kernel_rfl)
theorem sc_75 : Scal Tryd.prog 75 := .of (by kernel_rfl)
theorem sz_77 : ∀ w, (sizeOf 77).run Tryd.prog w = .ok 7 w := SizeT.of (by kernel_rfl)
theorem zt_77 : (Tryd.prog.info? 77).bind (·.zero) = some (.agg #[(.string ⟨#[]⟩), (.string ⟨#[]⟩), (.string ⟨#[]⟩), (.int .i64 0), (.int .i64 0), (.int .i64 0), (.slice none 0 0)]) := by kernel_rfl
end TyW20
open TyW20


def vS (v : Vlt) : List S := [.d (.sl (v.items.map Item.ds)), .d (.sl (v.carrs.map Carr.ds)), .own 101]
theorem snap_v {σ : Obs} {v : Vlt} {i : Nat} (h0 : (i, Ob.val (vS v)) ∈ σ) (h1 : (101, Ob.row 77 7 (v.copies.map Cpy.ds)) ∈ σ) : Snap σ (.own i) (.agg v.ds) := by
  refine .val h0 rfl fun j h2 h3 => ?_
  have hj : j < 3 := by simpa [vS] using h2
  match j, hj with
  | 0, _ => exact .d _
  | 1, _ => exact .d _
  | 2, _ => exact .row h1
theorem hfo_t0 : fieldOff Tryd.prog 130 0 = some 0 := by kernel_rfl
theorem hfo_t1 : fieldOff Tryd.prog 130 1 = some 1 := by kernel_rfl
theorem hfo_t2 : fieldOff Tryd.prog 130 2 = some 2 := by kernel_rfl
theorem hfo_v0w : fieldOff Tryd.prog 26 0 = some 0 := by kernel_rfl
theorem hfo_i1 : fieldOff Tryd.prog 69 1 = some 1 := by kernel_rfl
theorem hfo_c5 : fieldOff Tryd.prog 77 5 = some 5 := by kernel_rfl
theorem hsc_its : Scal Tryd.prog 22 := .of (by kernel_rfl)
theorem het_it : ElemTy Tryd.prog 22 69 2 24 (.agg #[(.string ⟨#[]⟩), (.int .i64 0)]) := ⟨by kernel_rfl, by kernel_rfl, by kernel_rfl, by decide⟩



theorem AOp.le {P : Program} {B : Nat} {ops : Array Oper} {o : Oper} {e : Env} {σ : Obs} {s s' : S} (h : AOp P B ops o e σ s) (k : SLe s s') : AOp P B ops o e σ s' := fun F ρ w a hF hr hσ =>
  wp_to (fun a' w' ⟨v, F', h1, h2, h3⟩ => ⟨v, F', h1, k _ _ _ _ h2, h3⟩) (fun _ _ _ => False.elim) (h F ρ w a hF hr hσ)
theorem hsc_crs : Scal Tryd.prog 23 := .of (by kernel_rfl)
theorem bu_cp : StructT Tryd.prog 77 (fun i => (#[(0, 1), (1, 1), (2, 1), (3, 1), (4, 1), (5, 1), (6, 1)] : Array (Nat × Nat))[i]?) [(.string ⟨#[]⟩), (.string ⟨#[]⟩), (.string ⟨#[]⟩), (.int .i64 0), (.int .i64 0), (.int .i64 0), (.slice none 0 0)] := .of (by kernel_rfl) (by kernel_rfl) (by decide)


set_option maxRecDepth 100000 in
set_option maxHeartbeats 8000000 in
theorem c_transfer (v : Vlt) (t : Tfr) (day : Int) (hoi : okItems v) (ts : TS v v.copies) (hl : v.copies.length ≤ 480) (hcr : ∀ x ∈ v.carrs, 0 ≤ x.room ∧ x.room ≤ 1000000) : XCall Tryd.prog 75 [.ptr 200 0, .d (.agg t.ds), .d (.v (.int .i64 day))] [(101, Ob.row 77 7 (v.copies.map Cpy.ds)), (200, Ob.cells (vS v))] [(101, Ob.row 77 7 ((madeV v t day).copies.map Cpy.ds)), (200, Ob.cells (vS v))] (fun i => Nat.beq i 101 || Nat.ble 1000 i) (.v (.int .i64 (tfrFault v t day))) := by
  refine xcall_of (n := 125) (ds' := [.v (.int .i64 (tfrFault v t day))]) Tryd.func75 rfl (by kernel_rfl) rfl [6] rfl rfl ?_
  intro B w0 F0 fr ρ0
  have hoc : okCopies v := fun c hc => ⟨ts.it c hc, ts.ca c hc⟩
  have hub : ∀ n, 0 ≤ usedOn v n ∧ usedOn v n ≤ 1000 * (v.copies.length : Int) := fun n => usedTo_bound hoi _ _
  refine AWP.seq (AWP.region ?_)
  refine AOps.step rfl rfl rfl (AOp.box rfl rfl rfl) ?_
  refine AOps.aD rfl rfl rfl rfl rfl (.nil ?_)
  refine AWP.seq ?_
  refine AWP.drawL [⟨1001, [16]⟩] [(2, [16]), (5, [19])] (fun τ => (200, Ob.cells (vS v)) ∈ τ) (by kernel_rfl) (by kernel_rfl) (by kernel_rfl) ?_
  have hI0 : (200, Ob.cells (vS v)) ∈ ([(101, Ob.row 77 7 (v.copies.map Cpy.ds)), (200, Ob.cells (vS v))] : Obs) := .tail _ (.head _)
  have hI1 : (200, Ob.cells (vS v)) ∈ ([(1001, Ob.val (vS v)), (101, Ob.row 77 7 (v.copies.map Cpy.ds)), (200, Ob.cells (vS v))] : Obs) := .tail _ (.tail _ (.head _))
  refine LRun.step rfl rfl rfl hI0 (fun τ hτ => AOp.moveP rfl rfl) ?_
  refine LRun.step rfl rfl rfl hI0 (fun τ hτ => AOp.nilCheckP rfl rfl) ?_
  refine LRun.eff (σ' := [(1001, Ob.val (vS v)), (101, Ob.row 77 7 (v.copies.map Cpy.ds)), (200, Ob.cells (vS v))]) rfl rfl hI0 hI1 (GE.loadVal 1001 (.head _) rfl rfl rfl rfl hag_v rfl (.tail _ (.head _)) (Nat.le_refl 3) rfl rfl) ?_ (cl_1 (.inl rfl))
  refine LRun.step rfl rfl rfl hI1 (fun τ hτ => AOp.fieldAddr (ds := t.ds) rfl hfo_t0 rfl) ?_
  refine LRun.step rfl rfl rfl hI1 (fun τ hτ => AOp.load rfl hsc_s rfl) ?_
  refine LRun.eff (σ' := [(1001, Ob.val (vS v)), (101, Ob.row 77 7 (v.copies.map Cpy.ds)), (200, Ob.cells (vS v))]) rfl rfl hI1 hI1 (GE.pure (fun _ => rfl) rfl rfl (AOp.callSnap rfl (.cons rfl (snap_v (.head _) (.tail _ (.head _))) (.cons rfl (.d _) .nil)) (c_itemAt v t.item) (.v _))) ?_ (cl_1 (.inr rfl))
  refine LRun.step rfl rfl rfl hI1 (fun τ hτ => AOp.assignD rfl rfl) ?_
  refine LRun.nil ?_
  refine AWP.obs (σ' := [(101, Ob.row 77 7 (v.copies.map Cpy.ds)), (200, Ob.cells (vS v))]) (fun p hp => .tail _ hp) ?_
  refine AWP.seq ?_
  refine AWP.drawL [⟨1002, [23]⟩] [(2, [23]), (7, [28])] (fun τ => (200, Ob.cells (vS v)) ∈ τ) (by kernel_rfl) (by kernel_rfl) (by kernel_rfl) ?_
  have hI0 : (200, Ob.cells (vS v)) ∈ ([(101, Ob.row 77 7 (v.copies.map Cpy.ds)), (200, Ob.cells (vS v))] : Obs) := .tail _ (.head _)
  have hI1 : (200, Ob.cells (vS v)) ∈ ([(1002, Ob.val (vS v)), (101, Ob.row 77 7 (v.copies.map Cpy.ds)), (200, Ob.cells (vS v))] : Obs) := .tail _ (.tail _ (.head _))
  refine LRun.step rfl rfl rfl hI0 (fun τ hτ => AOp.moveP rfl rfl) ?_
  refine LRun.step rfl rfl rfl hI0 (fun τ hτ => AOp.nilCheckP rfl rfl) ?_
  refine LRun.eff (σ' := [(1002, Ob.val (vS v)), (101, Ob.row 77 7 (v.copies.map Cpy.ds)), (200, Ob.cells (vS v))]) rfl rfl hI0 hI1 (GE.loadVal 1002 (.head _) rfl rfl rfl rfl hag_v rfl (.tail _ (.head _)) (Nat.le_refl 3) rfl rfl) ?_ (cl_1 (.inl rfl))
  refine LRun.step rfl rfl rfl hI1 (fun τ hτ => AOp.fieldAddr (ds := t.ds) rfl hfo_t0 rfl) ?_
  refine LRun.step rfl rfl rfl hI1 (fun τ hτ => AOp.load rfl hsc_s rfl) ?_
  refine LRun.step rfl rfl rfl hI1 (fun τ hτ => AOp.fieldAddr (ds := t.ds) rfl hfo_t1 rfl) ?_
  refine LRun.step rfl rfl rfl hI1 (fun τ hτ => AOp.load rfl hsc_s rfl) ?_
  refine LRun.eff (σ' := [(1002, Ob.val (vS v)), (101, Ob.row 77 7 (v.copies.map Cpy.ds)), (200, Ob.cells (vS v))]) rfl rfl hI1 hI1 (GE.pure (fun _ => rfl) rfl rfl (AOp.callSnap rfl (.cons rfl (snap_v (.head _) (.tail _ (.head _))) (.cons rfl (.d _) (.cons rfl (.d _) .nil))) (c_copyAt v t.item t.frm (by omega)) (.tup _ (by simp [Plain.v])))) ?_ (cl_1 (.inr rfl))
  refine LRun.step rfl rfl rfl hI1 (fun τ hτ => AOp.moveD rfl rfl) ?_
  refine LRun.step rfl rfl rfl hI1 (fun τ hτ => AOp.extract rfl rfl rfl) ?_
  refine LRun.step rfl rfl rfl hI1 (fun τ hτ => AOp.extract rfl rfl rfl) ?_
  refine LRun.step rfl rfl rfl hI1 (fun τ hτ => AOp.assignD rfl rfl) ?_
  refine LRun.step rfl rfl rfl hI1 (fun τ hτ => AOp.assignD rfl rfl) ?_
  refine LRun.nil ?_
  refine AWP.obs (σ' := [(101, Ob.row 77 7 (v.copies.map Cpy.ds)), (200, Ob.cells (vS v))]) (fun p hp => .tail _ hp) ?_
  refine AWP.seq ?_
  refine AWP.drawL [⟨1003, [33]⟩] [(2, [33]), (5, [36])] (fun τ => (200, Ob.cells (vS v)) ∈ τ) (by kernel_rfl) (by kernel_rfl) (by kernel_rfl) ?_
  have hI0 : (200, Ob.cells (vS v)) ∈ ([(101, Ob.row 77 7 (v.copies.map Cpy.ds)), (200, Ob.cells (vS v))] : Obs) := .tail _ (.head _)
  have hI1 : (200, Ob.cells (vS v)) ∈ ([(1003, Ob.val (vS v)), (101, Ob.row 77 7 (v.copies.map Cpy.ds)), (200, Ob.cells (vS v))] : Obs) := .tail _ (.tail _ (.head _))
  refine LRun.step rfl rfl rfl hI0 (fun τ hτ => AOp.moveP rfl rfl) ?_
  refine LRun.step rfl rfl rfl hI0 (fun τ hτ => AOp.nilCheckP rfl rfl) ?_
  refine LRun.eff (σ' := [(1003, Ob.val (vS v)), (101, Ob.row 77 7 (v.copies.map Cpy.ds)), (200, Ob.cells (vS v))]) rfl rfl hI0 hI1 (GE.loadVal 1003 (.head _) rfl rfl rfl rfl hag_v rfl (.tail _ (.head _)) (Nat.le_refl 3) rfl rfl) ?_ (cl_1 (.inl rfl))
  refine LRun.step rfl rfl rfl hI1 (fun τ hτ => AOp.fieldAddr (ds := t.ds) rfl hfo_t2 rfl) ?_
  refine LRun.step rfl rfl rfl hI1 (fun τ hτ => AOp.load rfl hsc_s rfl) ?_
  refine LRun.eff (σ' := [(1003, Ob.val (vS v)), (101, Ob.row 77 7 (v.copies.map Cpy.ds)), (200, Ob.cells (vS v))]) rfl rfl hI1 hI1 (GE.pure (fun _ => rfl) rfl rfl (AOp.callSnap rfl (.cons rfl (snap_v (.head _) (.tail _ (.head _))) (.cons rfl (.d _) .nil)) (c_carrAt v t.to) (.v _))) ?_ (cl_1 (.inr rfl))
  refine LRun.step rfl rfl rfl hI1 (fun τ hτ => AOp.assignD rfl rfl) ?_
  refine LRun.nil ?_
  refine AWP.obs (σ' := [(101, Ob.row 77 7 (v.copies.map Cpy.ds)), (200, Ob.cells (vS v))]) (fun p hp => .tail _ hp) ?_
  refine AWP.seq ?_
  refine AWP.seq (AWP.region ?_)
  refine AOps.mD rfl rfl rfl rfl rfl ?_
  refine AOps.step rfl rfl rfl (AOp.lss rfl rfl rfl) ?_
  refine AOps.mD rfl rfl rfl rfl rfl ?_
  refine AOps.split 39 rfl (fun g1 => ?_) (fun g1 => ?_)
  · replace g1 := of_decide_eq_true g1
    have HF : tfrFault v t day = 9 := tfr_9 (.inl g1)
    rw [madeV_bad HF (by decide), HF]
    refine AOps.pass ⟨39, rfl, .inl ⟨_, rfl, rfl⟩⟩ rfl rfl ?_
    refine AOps.pass ⟨39, rfl, .inl ⟨_, rfl, rfl⟩⟩ rfl rfl ?_
    refine AOps.step rfl rfl rfl (AOp.pickT rfl rfl rfl) ?_
    refine AOps.mD rfl rfl rfl rfl rfl ?_
    refine AOps.pass ⟨43, rfl, .inl ⟨_, rfl, rfl⟩⟩ rfl rfl ?_
    refine AOps.pass ⟨43, rfl, .inl ⟨_, rfl, rfl⟩⟩ rfl rfl ?_
    refine AOps.step rfl rfl rfl (AOp.pickT rfl rfl rfl) (.nil ?_)
    refine AWP.cond rfl (fun _ => ?_) (fun h => nomatch h)
    refine AWP.seq (AWP.region ?_)
    refine AOps.aD rfl rfl rfl rfl rfl (.nil ?_)
    refine AWP.ret ?_
    refine ⟨⟨RetDX.eq rfl ?_, trivial⟩, ⟨mem_ob_eq (.head _) ?_, mem_ob_eq (.tail _ (.head _)) ?_, trivial⟩⟩
    all_goals (rfl)
  replace g1 := of_decide_eq_false g1
  have ha := g1
  refine AOps.step ⟨39, rfl, .inl ⟨_, rfl, rfl⟩⟩ rfl rfl (AOp.moveD rfl rfl) ?_
  refine AOps.step ⟨39, rfl, .inl ⟨_, rfl, rfl⟩⟩ rfl rfl (AOp.not rfl rfl) ?_
  refine AOps.step rfl rfl rfl (AOp.pickF rfl rfl rfl) ?_
  refine AOps.mD rfl rfl rfl rfl rfl ?_
  refine AOps.split 43 rfl (fun g2 => ?_) (fun g2 => ?_)
  · replace g2 := bnot_t g2
    have HF : tfrFault v t day = 9 := tfr_9 (.inr (.inl (Int.not_le.1 fun hh => by rw [(has_if (v := v) (l := v.copies) ts.ord _ _).1.1 hh] at g2; cases g2)))
    rw [madeV_bad HF (by decide), HF]
    refine AOps.pass ⟨43, rfl, .inl ⟨_, rfl, rfl⟩⟩ rfl rfl ?_
    refine AOps.pass ⟨43, rfl, .inl ⟨_, rfl, rfl⟩⟩ rfl rfl ?_
    refine AOps.step rfl rfl rfl (AOp.pickT rfl rfl rfl) (.nil ?_)
    refine AWP.cond rfl (fun _ => ?_) (fun h => nomatch h)
    refine AWP.seq (AWP.region ?_)
    refine AOps.aD rfl rfl rfl rfl rfl (.nil ?_)
    refine AWP.ret ?_
    refine ⟨⟨RetDX.eq rfl ?_, trivial⟩, ⟨mem_ob_eq (.head _) ?_, mem_ob_eq (.tail _ (.head _)) ?_, trivial⟩⟩
    all_goals (rfl)
  replace g2 := bnot_f g2
  have hb : ¬ copyIdx v t.item t.frm < 0 := fun hh => by rw [has_not (v := v) (l := v.copies) ts.ord hh] at g2; cases g2
  refine AOps.step ⟨43, rfl, .inl ⟨_, rfl, rfl⟩⟩ rfl rfl (AOp.moveD rfl rfl) ?_
  refine AOps.step ⟨43, rfl, .inl ⟨_, rfl, rfl⟩⟩ rfl rfl (AOp.lss rfl rfl rfl) ?_
  refine AOps.step rfl rfl rfl (AOp.pickF rfl rfl rfl) (.nil ?_)
  refine AWP.cond rfl (fun h3 => ?_) (fun h3 => ?_)
  · replace h3 := of_decide_eq_true h3
    have HF : tfrFault v t day = 9 := tfr_9 (.inr (.inr h3))
    rw [madeV_bad HF (by decide), HF]
    refine AWP.seq (AWP.region ?_)
    refine AOps.aD rfl rfl rfl rfl rfl (.nil ?_)
    refine AWP.ret ?_
    refine ⟨⟨RetDX.eq rfl ?_, trivial⟩, ⟨mem_ob_eq (.head _) ?_, mem_ob_eq (.tail _ (.head _)) ?_, trivial⟩⟩
    all_goals (rfl)
  replace h3 := of_decide_eq_false h3
  have h1 : ¬ (itemIdx v t.item < 0 ∨ copyIdx v t.item t.frm < 0 ∨ carrIdx v t.to < 0) := by omega
  obtain ⟨ki, hki, eki, _⟩ := idxBy_some (show 0 ≤ itemIdx v t.item by omega)
  obtain ⟨kf, hkf, ekf, _, _⟩ := idx_nonneg (v := v) rfl (show 0 ≤ copyIdx v t.item t.frm by omega)
  obtain ⟨kt, hkt, ekt, hnk⟩ := idxBy_some (show 0 ≤ carrIdx v t.to by omega)
  have hfr := tfrFrom_at hkf ekf
  have hib := itemBlocks_at hki eki
  have hcr2 := carrAt_eq hkt ekt
  have hbi := hoi _ (List.getElem_mem hki)
  have hgn := ts.gen _ (List.getElem_mem hkf)
  have hrm := hcr _ (List.getElem_mem hkt)
  have hpe : copyIdx v t.item t.frm = _ := (has_if (v := v) (l := v.copies) ts.ord t.item t.frm).2 (show 0 ≤ copyIdx v t.item t.frm by omega)
  have hcn : v.carrs[kt].name = t.to := of_decide_eq_true hnk
  have hpk : posC v.copies (keyC t.item t.frm) = kf := by omega
  rw [hpk]
  refine AWP.skip ?_
  refine AWP.seq ?_
  refine AWP.drawL [⟨1004, [50]⟩] [(2, [50]), (7, [55])] (fun τ => (200, Ob.cells (vS v)) ∈ τ) (by kernel_rfl) (by kernel_rfl) (by kernel_rfl) ?_
  have hI0 : (200, Ob.cells (vS v)) ∈ ([(101, Ob.row 77 7 (v.copies.map Cpy.ds)), (200, Ob.cells (vS v))] : Obs) := .tail _ (.head _)
  have hI1 : (200, Ob.cells (vS v)) ∈ ([(1004, Ob.val (vS v)), (101, Ob.row 77 7 (v.copies.map Cpy.ds)), (200, Ob.cells (vS v))] : Obs) := .tail _ (.tail _ (.head _))
  refine LRun.step rfl rfl rfl hI0 (fun τ hτ => AOp.moveP rfl rfl) ?_
  refine LRun.step rfl rfl rfl hI0 (fun τ hτ => AOp.nilCheckP rfl rfl) ?_
  refine LRun.eff (σ' := [(1004, Ob.val (vS v)), (101, Ob.row 77 7 (v.copies.map Cpy.ds)), (200, Ob.cells (vS v))]) rfl rfl hI0 hI1 (GE.loadVal 1004 (.head _) rfl rfl rfl rfl hag_v rfl (.tail _ (.head _)) (Nat.le_refl 3) rfl rfl) ?_ (cl_1 (.inl rfl))
  refine LRun.step rfl rfl rfl hI1 (fun τ hτ => AOp.fieldAddr (ds := t.ds) rfl hfo_t0 rfl) ?_
  refine LRun.step rfl rfl rfl hI1 (fun τ hτ => AOp.load rfl hsc_s rfl) ?_
  refine LRun.step rfl rfl rfl hI1 (fun τ hτ => AOp.fieldAddr (ds := t.ds) rfl hfo_t2 rfl) ?_
  refine LRun.step rfl rfl rfl hI1 (fun τ hτ => AOp.load rfl hsc_s rfl) ?_
  refine LRun.eff (σ' := [(1004, Ob.val (vS v)), (101, Ob.row 77 7 (v.copies.map Cpy.ds)), (200, Ob.cells (vS v))]) rfl rfl hI1 hI1 (GE.pure (fun _ => rfl) rfl rfl (AOp.callSnap rfl (.cons rfl (snap_v (.head _) (.tail _ (.head _))) (.cons rfl (.d _) (.cons rfl (.d _) .nil))) (c_copyAt v t.item t.to (by omega)) (.tup _ (by simp [Plain.v])))) ?_ (cl_1 (.inr rfl))
  refine LRun.step rfl rfl rfl hI1 (fun τ hτ => AOp.moveD rfl rfl) ?_
  refine LRun.step rfl rfl rfl hI1 (fun τ hτ => AOp.extract rfl rfl rfl) ?_
  refine LRun.step rfl rfl rfl hI1 (fun τ hτ => AOp.extract rfl rfl rfl) ?_
  refine LRun.step rfl rfl rfl hI1 (fun τ hτ => AOp.assignD rfl rfl) ?_
  refine LRun.step rfl rfl rfl hI1 (fun τ hτ => AOp.assignD rfl rfl) ?_
  refine LRun.nil ?_
  refine AWP.obs (σ' := [(101, Ob.row 77 7 (v.copies.map Cpy.ds)), (200, Ob.cells (vS v))]) (fun p hp => .tail _ hp) ?_
  refine AWP.seq (AWP.region ?_)
  refine AOps.step rfl rfl rfl (AOp.moveP rfl rfl) ?_
  refine AOps.step rfl rfl rfl (AOp.nilCheckP rfl rfl) ?_
  refine AOps.step rfl rfl rfl (AOp.fieldAddrP rfl fo_26_2 rfl) ?_
  refine AOps.step rfl rfl rfl (AOp.loadP rfl sc_24 rfl (.tail _ (.head _)) rfl) ?_
  refine AOps.mD rfl rfl rfl rfl rfl ?_
  refine AOps.step rfl rfl rfl (AOp.indexOwn rfl et_24 rfl rfl (.head _) kf rfl (by rw [List.length_map]; exact hkf)) ?_
  refine AOps.step rfl rfl rfl (AOp.loadRowAgg rfl ag_77 rfl (.head _) kf rfl (at_list hkf)) ?_
  refine AOps.alloc 1001 rfl rfl rfl rfl zt_77 rfl rfl rfl ?_
  refine AOps.store rfl rfl rfl sz_77 rfl (.head _) rfl rfl rfl (Nat.le_of_ble_eq_true rfl) ?_
  refine AOps.freezeCells 13 (ds := v.copies[kf].ds) rfl (.head _) (.nil ?_)
  refine AWP.seq ?_
  refine AWP.block ?_
  refine AWP.seq (AWP.region ?_)
  refine AOps.mD rfl rfl rfl rfl rfl ?_
  refine AOps.aD rfl rfl rfl rfl rfl (.nil ?_)
  refine AWP.cond rfl (fun h4 => ?_) (fun h4 => ?_)
  · skip
    have HF : tfrFault v t day = 7 := tfr_7 h1 ((has_if (v := v) (l := v.copies) ts.ord _ _).1.2 h4)
    rw [madeV_bad HF (by decide), HF]
    refine AWP.seq (AWP.region ?_)
    refine AOps.aD rfl rfl rfl rfl rfl (.nil ?_)
    refine AWP.ret ?_
    refine ⟨⟨RetDX.eq rfl ?_, trivial⟩, ⟨mem_ob_eq (.head _) ?_, mem_ob_eq (.tail _ (.head _)) ?_, trivial⟩⟩
    all_goals (rfl)
  have h2 : ¬ 0 ≤ copyIdx v t.item t.to := fun hh => by rw [(has_if (v := v) (l := v.copies) ts.ord _ _).1.1 hh] at h4; cases h4
  refine AWP.seq (AWP.region ?_)
  refine AOps.step rfl rfl rfl (AOp.fieldAddr rfl fo_77_6 rfl) ?_
  refine AOps.step rfl rfl rfl (AOp.load rfl sc_75 rfl) ?_
  refine AOps.step rfl rfl rfl (AOp.lenSl rfl et_75.ht rfl) ?_
  refine AOps.step rfl rfl rfl (AOp.gtr rfl rfl rfl) ?_
  refine AOps.aD rfl rfl rfl rfl rfl (.nil ?_)
  refine AWP.cond rfl (fun h5 => ?_) (fun h5 => ?_)
  · replace h5 := of_decide_eq_true h5
    rw [List.length_map] at h5
    have HF : tfrFault v t day = 11 := tfr_11 h1 h2 (by rw [hfr]; omega)
    rw [madeV_bad HF (by decide), HF]
    refine AWP.seq (AWP.region ?_)
    refine AOps.aD rfl rfl rfl rfl rfl (.nil ?_)
    refine AWP.ret ?_
    refine ⟨⟨RetDX.eq rfl ?_, trivial⟩, ⟨mem_ob_eq (.head _) ?_, mem_ob_eq (.tail _ (.head _)) ?_, trivial⟩⟩
    all_goals (rfl)
  replace h5 := of_decide_eq_false h5
  rw [List.length_map] at h5
  have h3 : ¬ 0 < (tfrFrom v t).bad.length := by rw [hfr]; omega
  refine AWP.seq (AWP.region ?_)
  refine AOps.mD rfl rfl rfl rfl rfl ?_
  refine AOps.step rfl rfl rfl (AOp.fieldAddr rfl fo_77_3 rfl) ?_
  refine AOps.step rfl rfl rfl (AOp.load rfl sc_3 rfl) ?_
  refine AOps.step rfl rfl rfl (AOp.lss rfl rfl rfl) ?_
  refine AOps.mD rfl rfl rfl rfl rfl ?_
  refine AOps.split 77 rfl (fun g6 => ?_) (fun g6 => ?_)
  · replace g6 := of_decide_eq_true g6
    have HF : tfrFault v t day = 1 := tfr_1 h1 h2 h3 (.inl (by rw [hfr]; exact g6))
    rw [madeV_bad HF (by decide), HF]
    refine AOps.pass ⟨77, rfl, .inl ⟨_, rfl, rfl⟩⟩ rfl rfl ?_
    refine AOps.pass ⟨77, rfl, .inl ⟨_, rfl, rfl⟩⟩ rfl rfl ?_
    refine AOps.pass ⟨77, rfl, .inl ⟨_, rfl, rfl⟩⟩ rfl rfl ?_
    refine AOps.step rfl rfl rfl (AOp.pickT rfl rfl rfl) ?_
    refine AOps.aD rfl rfl rfl rfl rfl (.nil ?_)
    refine AWP.cond rfl (fun _ => ?_) (fun h => nomatch h)
    refine AWP.seq (AWP.region ?_)
    refine AOps.aD rfl rfl rfl rfl rfl (.nil ?_)
    refine AWP.ret ?_
    refine ⟨⟨RetDX.eq rfl ?_, trivial⟩, ⟨mem_ob_eq (.head _) ?_, mem_ob_eq (.tail _ (.head _)) ?_, trivial⟩⟩
    all_goals (rfl)
  replace g6 := of_decide_eq_false g6
  have hd4 := g6
  refine AOps.step ⟨77, rfl, .inl ⟨_, rfl, rfl⟩⟩ rfl rfl (AOp.fieldAddr rfl fo_77_5 rfl) ?_
  refine AOps.step ⟨77, rfl, .inl ⟨_, rfl, rfl⟩⟩ rfl rfl (AOp.load rfl sc_3 rfl) ?_
  refine AOps.step ⟨77, rfl, .inl ⟨_, rfl, rfl⟩⟩ rfl rfl (AOp.eql rfl rfl rfl) ?_
  refine AOps.step rfl rfl rfl (AOp.pickF rfl rfl rfl) ?_
  refine AOps.aD rfl rfl rfl rfl rfl (.nil ?_)
  refine AWP.cond rfl (fun h7 => ?_) (fun h7 => ?_)
  · replace h7 := of_decide_eq_true h7
    have HF : tfrFault v t day = 1 := tfr_1 h1 h2 h3 (.inr (by rw [hfr]; exact h7))
    rw [madeV_bad HF (by decide), HF]
    refine AWP.seq (AWP.region ?_)
    refine AOps.aD rfl rfl rfl rfl rfl (.nil ?_)
    refine AWP.ret ?_
    refine ⟨⟨RetDX.eq rfl ?_, trivial⟩, ⟨mem_ob_eq (.head _) ?_, mem_ob_eq (.tail _ (.head _)) ?_, trivial⟩⟩
    all_goals (rfl)
  replace h7 := of_decide_eq_false h7
  have h4 : ¬ (day < (tfrFrom v t).day ∨ (tfrFrom v t).gen = 100) := by rw [hfr]; omega
  refine AWP.seq ?_
  refine AWP.drawL [⟨1005, [85]⟩] [(2, [85]), (10, [93])] (fun τ => (200, Ob.cells (vS v)) ∈ τ) (by kernel_rfl) (by kernel_rfl) (by kernel_rfl) ?_
  have hI0 : (200, Ob.cells (vS v)) ∈ ([(101, Ob.row 77 7 (v.copies.map Cpy.ds)), (200, Ob.cells (vS v))] : Obs) := .tail _ (.head _)
  have hI1 : (200, Ob.cells (vS v)) ∈ ([(1005, Ob.val (vS v)), (101, Ob.row 77 7 (v.copies.map Cpy.ds)), (200, Ob.cells (vS v))] : Obs) := .tail _ (.tail _ (.head _))
  refine LRun.step rfl rfl rfl hI0 (fun τ hτ => AOp.moveP rfl rfl) ?_
  refine LRun.step rfl rfl rfl hI0 (fun τ hτ => AOp.nilCheckP rfl rfl) ?_
  refine LRun.eff (σ' := [(1005, Ob.val (vS v)), (101, Ob.row 77 7 (v.copies.map Cpy.ds)), (200, Ob.cells (vS v))]) rfl rfl hI0 hI1 (GE.loadVal 1005 (.head _) rfl rfl rfl rfl hag_v rfl (.tail _ (.head _)) (Nat.le_refl 3) rfl rfl) ?_ (cl_1 (.inl rfl))
  refine LRun.step rfl rfl rfl hI1 (fun τ hτ => AOp.moveP rfl rfl) ?_
  refine LRun.step rfl rfl rfl hI1 (fun τ hτ => AOp.nilCheckP rfl rfl) ?_
  refine LRun.step rfl rfl rfl hI1 (fun τ hτ => AOp.fieldAddrP rfl hfo_v1r rfl) ?_
  refine LRun.step rfl rfl rfl hI1 (fun τ hτ => AOp.loadP rfl hsc_crs rfl hτ rfl) ?_
  refine LRun.step rfl rfl rfl hI1 (fun τ hτ => AOp.moveD rfl rfl) ?_
  refine LRun.step rfl rfl rfl hI1 (fun τ hτ => AOp.indexAddr rfl het_cr rfl rfl kt ekt (at_list hkt) rfl) ?_
  refine LRun.step rfl rfl rfl hI1 (fun τ hτ => AOp.loadAgg rfl hag_cr rfl rfl) ?_
  refine LRun.eff (σ' := [(1005, Ob.val (vS v)), (101, Ob.row 77 7 (v.copies.map Cpy.ds)), (200, Ob.cells (vS v))]) rfl rfl hI1 hI1 (GE.pure (fun _ => rfl) rfl rfl (AOp.callSnap rfl (.cons rfl (snap_v (.head _) (.tail _ (.head _))) (.cons rfl (.d _) .nil)) (c_left v v.carrs[kt] hoi hoc (by omega) hrm) (.v _))) ?_ (cl_1 (.inr rfl))
  refine LRun.step rfl rfl rfl hI1 (fun τ hτ => AOp.moveP rfl rfl) ?_
  refine LRun.step rfl rfl rfl hI1 (fun τ hτ => AOp.nilCheckP rfl rfl) ?_
  refine LRun.step rfl rfl rfl hI1 (fun τ hτ => AOp.fieldAddrP rfl hfo_v0w rfl) ?_
  refine LRun.step rfl rfl rfl hI1 (fun τ hτ => AOp.loadP rfl hsc_its rfl hτ rfl) ?_
  refine LRun.step rfl rfl rfl hI1 (fun τ hτ => AOp.moveD rfl rfl) ?_
  refine LRun.step rfl rfl rfl hI1 (fun τ hτ => AOp.indexAddr rfl het_it rfl rfl ki eki (at_list hki) rfl) ?_
  refine LRun.step rfl rfl rfl hI1 (fun τ hτ => AOp.fieldAddr rfl hfo_i1 rfl) ?_
  refine LRun.step rfl rfl rfl hI1 (fun τ hτ => AOp.load rfl hsc_i rfl) ?_
  refine LRun.step rfl rfl rfl hI1 (fun τ hτ => AOp.lss rfl rfl rfl) ?_
  refine LRun.step rfl rfl rfl hI1 (fun τ hτ => AOp.assignD rfl rfl) ?_
  refine LRun.nil ?_
  refine AWP.obs (σ' := [(101, Ob.row 77 7 (v.copies.map Cpy.ds)), (200, Ob.cells (vS v))]) (fun p hp => .tail _ hp) ?_
  refine AWP.cond rfl (fun h8 => ?_) (fun h8 => ?_)
  · skip
    replace h8 := of_decide_eq_true h8
    rw [hcn] at h8
    have HF : tfrFault v t day = 2 := tfr_2 h1 h2 h3 h4 (by rw [hcr2, hib]; omega)
    rw [madeV_bad HF (by decide), HF]
    refine AWP.seq (AWP.region ?_)
    refine AOps.aD rfl rfl rfl rfl rfl (.nil ?_)
    refine AWP.ret ?_
    refine ⟨⟨RetDX.eq rfl ?_, trivial⟩, ⟨mem_ob_eq (.head _) ?_, mem_ob_eq (.tail _ (.head _)) ?_, trivial⟩⟩
    all_goals (rfl)
  replace h8 := of_decide_eq_false h8
  rw [hcn] at h8
  have HF : tfrFault v t day = 0 := tfr_0 h1 h2 h3 h4 (by rw [hcr2, hib]; omega)
  rw [madeV_ok HF, HF]
  refine AWP.skip ?_
  refine AWP.seq ?_
  refine AWP.drawMove (s0 := .ptr 200 0) 19 20 [⟨121, 1006, .own 1006, .row 77 7 [(tfrNew v t day).ds]⟩] (FrOk.one rfl (by simp) rfl rfl rfl) (by kernel_rfl) (by kernel_rfl) rfl rfl rfl rfl rfl (by kernel_rfl) ?_
  refine XRun.step rfl rfl rfl (AOp.moveP rfl rfl) ?_
  refine XRun.step rfl rfl rfl (AOp.nilCheckP rfl rfl) ?_
  refine XRun.step rfl rfl rfl (AOp.fieldAddrP rfl hfo_v2 rfl) ?_
  refine XRun.step rfl rfl rfl (AOp.loadP (s := .own 101) rfl hsc_24 rfl (.tail _ (.head _)) rfl) ?_
  refine XRun.step rfl rfl rfl (AOp.moveD rfl rfl) ?_
  refine XRun.step rfl rfl rfl (AOp.fieldAddr (ds := t.ds) rfl hfo_t0 rfl) ?_
  refine XRun.step rfl rfl rfl (AOp.load rfl hsc_s rfl) ?_
  refine XRun.step rfl rfl rfl (AOp.fieldAddr (ds := t.ds) rfl hfo_t2 rfl) ?_
  refine XRun.step rfl rfl rfl (AOp.load rfl hsc_s rfl) ?_
  refine XRun.step rfl rfl rfl (AOp.fieldAddr (ds := t.ds) rfl hfo_t1 rfl) ?_
  refine XRun.step rfl rfl rfl (AOp.load rfl hsc_s rfl) ?_
  refine XRun.step rfl rfl rfl (AOp.moveD rfl rfl) ?_
  refine XRun.step rfl rfl rfl (AOp.moveD rfl rfl) ?_
  refine XRun.step rfl rfl rfl (AOp.fieldAddr (ds := v.copies[kf].ds) rfl hfo_c5 rfl) ?_
  refine XRun.step rfl rfl rfl (AOp.load rfl hsc_i rfl) ?_
  refine XRun.step rfl rfl rfl (AOp.add64 rfl rfl rfl (by omega) (by omega)) ?_
  refine XRun.step rfl rfl rfl (AOp.le (AOp.build rfl bu_cp (.cons rfl rfl (.cons rfl rfl (.cons rfl rfl (.cons rfl rfl (.cons rfl rfl (.cons rfl rfl .nil)))))) rfl) (SLe.d (Le.aggLast [.v (.string t.item), .v (.string t.to), .v (.string t.frm), .v (.int .i64 day), .v (.int .i64 day), .v (.int .i64 (v.copies[kf].gen + 1))]))) ?_
  rw [← hfr]
  refine XRun.buildS _ (.head _) rfl rfl rfl rfl rfl et_cpyI rfl rfl rfl rfl rfl rfl ?_
  refine XRun.nil ⟨rfl, trivial⟩ ?_
  refine AOps.insertC (id := 101) (idx := 1006) (k := (posC v.copies (keyC t.item t.to))) [(101, Ob.row 77 7 ((insC v.copies (tfrNew v t day)).map Cpy.ds)), (200, Ob.cells ((vS v).set 2 (.d .any)))] rfl rfl rfl rfl rfl rfl (.tail _ (.head _)) rfl rfl (by rw [List.length_map]; exact posC_le _ _) rfl (.head _) (by decide) (by rw [List.length_map]; omega) (fun p hp => ?_) ?_
  · rcases List.mem_cons.1 hp with rfl | hp
    · exact .inl (by rw [insC_ds]; rfl)
    obtain rfl := List.mem_singleton.1 hp
    exact .inr ⟨(200, Ob.cells (vS v)), .tail _ (.tail _ (.head _)), (by decide : (200 : Nat) ≠ 101), rfl⟩
  refine AOps.nil ?_
  refine AOps.step rfl rfl rfl (AOp.nilCheckP rfl rfl) ?_
  refine AOps.step rfl rfl rfl (AOp.fieldAddrP rfl hfo_v2 rfl) ?_
  refine AOps.storeS rfl rfl rfl hsz_24r rfl (.tail _ (.head _)) rfl (.head _) (Nat.le_of_ble_eq_true rfl) (.nil ?_)
  refine AWP.seq (AWP.region ?_)
  refine AOps.aD rfl rfl rfl rfl rfl (.nil ?_)
  refine AWP.ret ?_
  refine ⟨⟨RetDX.eq rfl ?_, trivial⟩, ⟨mem_ob_eq (.head _) ?_, mem_ob_eq (.tail _ (.head _)) ?_, trivial⟩⟩
  all_goals (rfl)

end Go.Proofs.YtieccphckobhjaaDoor


namespace Go.Proofs.YtieccphckobhjaaDoor
open Go.RowKit
set_option linter.unusedVariables false

/-! Types. -/
namespace TyW21
theorem ag_130 : AggT Tryd.prog 130 3 := .of (by kernel_rfl)
theorem ag_26 : AggT Tryd.prog 26 3 := .of (by kernel_rfl)
theorem bu_26 : StructT Tryd.prog 26 (fun i => (#[(0, 1), (1, 1), (2, 1)] : Array (Nat × Nat))[i]?) [(.slice none 0 0), (.slice none 0 0), (.slice none 0 0)] := .of (by kernel_rfl) (by kernel_rfl) (by decide)
theorem et_24 : ElemTy Tryd.prog 24 77 7 96 (.agg #[(.string ⟨#[]⟩), (.string ⟨#[]⟩), (.string ⟨#[]⟩), (.int .i64 0), (.int .i64 0), (.int .i64 0), (.slice none 0 0)]) := ⟨by kernel_rfl, by kernel_rfl, by kernel_rfl, by decide⟩
theorem et_62 : ElemTy Tryd.prog 62 130 3 48 (.agg #[(.string ⟨#[]⟩), (.string ⟨#[]⟩), (.string ⟨#[]⟩)]) := ⟨by kernel_rfl, by kernel_rfl, by kernel_rfl, by decide⟩
theorem fo_26_2 : fieldOff Tryd.prog 26 2 = some 2 := by kernel_rfl
theorem sc_24 : Scal Tryd.prog 24 := .of (by kernel_rfl)
theorem sz_130 : ∀ w, (sizeOf 130).run Tryd.prog w = .ok 3 w := SizeT.of (by kernel_rfl)
theorem sz_26 : ∀ w, (sizeOf 26).run Tryd.prog w = .ok 3 w := SizeT.of (by kernel_rfl)
theorem zt_130 : (Tryd.prog.info? 130).bind (·.zero) = some (.agg #[(.string ⟨#[]⟩), (.string ⟨#[]⟩), (.string ⟨#[]⟩)]) := by kernel_rfl
theorem zt_26 : (Tryd.prog.info? 26).bind (·.zero) = some (.agg #[(.slice none 0 0), (.slice none 0 0), (.slice none 0 0)]) := by kernel_rfl
end TyW21
open TyW21


theorem perm3 {a b c : Nat × Ob} : ∀ p ∈ [c, b, a], p ∈ [a, b, c] := by
  intro p hp
  simp only [List.mem_cons, List.not_mem_nil, or_false] at hp ⊢
  rcases hp with rfl | rfl | rfl <;> simp
theorem fam_ge {e s : Nat} {b : Nat} {l : List (List (List D))} {p : Nat × Ob} (h : p ∈ fam e s b l) : b ≤ p.1 := by
  obtain ⟨k, x, _, rfl⟩ := fam_mem h
  exact Nat.le_add_right _ _


set_option maxRecDepth 100000 in
set_option maxHeartbeats 4000000 in
theorem c_pApply (v : Vlt) (ts : List Tfr) (day : Int) (hs : smallV v) : ACall Tryd.prog 26 [.agg v.ds, .sl (ts.map Tfr.ds), .v (.int .i64 day)] (.tup [.agg (applyV v ts day).ds, .v (.int .i64 (applyFault v ts day))]) := by
  refine acall_ofR (n := 44) (ds' := [.agg (applyV v ts day).ds, .v (.int .i64 (applyFault v ts day))]) Tryd.func26 rfl (by kernel_rfl) rfl [.cell 6 26, .tmp 7] rfl rfl ?_
  intro B w0 F0 fr
  refine AWP.bound 1 rfl (fun hbd1 => ?_)
  rw [List.length_map] at hbd1
  refine AWP.seq (AWP.region ?_)
  refine AOps.boxOwn 200 rfl rfl rfl rfl rfl rfl rfl ?_
  refine AOps.alloc 202 rfl rfl rfl rfl zt_26 rfl rfl rfl ?_
  refine AOps.aD rfl rfl rfl rfl rfl (.nil ?_)
  refine AWP.seq ?_
  refine AWP.seq (AWP.region ?_)
  refine AOps.step rfl rfl rfl (AOp.loadPU rfl ag_26 rfl (.tail _ (.head _)) rfl rfl) ?_
  refine AOps.step rfl rfl rfl (AOp.call rfl (.cons (ArgOk.rfl' rfl) .nil) (c_pCheck v hs)) ?_
  refine AOps.aD rfl rfl rfl rfl rfl (.nil ?_)
  refine AWP.seq (AWP.region ?_)
  refine AOps.mD rfl rfl rfl rfl rfl ?_
  refine AOps.step rfl rfl rfl (AOp.neq rfl rfl rfl) (.nil ?_)
  refine AWP.cond rfl (fun h1 => ?_) (fun h1 => ?_)
  · replace h1 := of_decide_eq_true h1
    have HF : applyFault v ts day = checkV v := apply_1 h1
    rw [apply_bad HF (by first | assumption | decide), HF]
    refine AWP.seq (AWP.region ?_)
    refine AOps.step rfl rfl rfl (AOp.build rfl bu_26 .nil rfl) ?_
    refine AOps.mD rfl rfl rfl rfl rfl ?_
    refine AOps.store rfl rfl rfl sz_26 rfl (.head _) rfl rfl rfl (Nat.le_of_ble_eq_true rfl) ?_
    refine AOps.aD rfl rfl rfl rfl rfl (.nil ?_)
    refine AWP.ret ?_
    refine ⟨RetR.agg rfl (.head _) ag_26 rfl (.cons (by first | exact CellD.nil | exact CellD.d | exact CellD.eq (by simp) | (refine CellD.own (by first | exact .head _ | exact .tail _ (.head _)) ?_; rfl)) (.cons (by first | exact CellD.nil | exact CellD.d | exact CellD.eq (by simp) | (refine CellD.own (by first | exact .head _ | exact .tail _ (.head _)) ?_; rfl)) (.cons (by first | exact CellD.nil | exact CellD.d | exact CellD.eq (by simp) | (refine CellD.own (by first | exact .head _ | exact .tail _ (.head _)) ?_; rfl)) .nil))), RetD.eq rfl ?_, trivial⟩
    all_goals (rfl)
  replace h1 := of_decide_eq_false h1
  have hck := Decidable.not_not.1 h1
  have vo := vok_of hck
  have hoi := okItems_of vo.items
  refine AWP.skip ?_
  refine AWP.seq ?_
  refine AWP.seq (AWP.region ?_)
  refine AOps.mD rfl rfl rfl rfl rfl ?_
  refine AOps.step rfl rfl rfl (AOp.call rfl (.cons (ArgOk.rfl' rfl) .nil) (c_pDay _)) ?_
  refine AOps.step rfl rfl rfl (AOp.not rfl rfl) (.nil ?_)
  refine AWP.cond rfl (fun h2 => ?_) (fun h2 => ?_)
  · replace h2 := bnot_t h2; replace h2 := of_decide_eq_false h2
    have HF : applyFault v ts day = 1 := apply_2 hck h2
    rw [apply_bad HF (by first | assumption | decide), HF]
    refine AWP.seq (AWP.region ?_)
    refine AOps.step rfl rfl rfl (AOp.build rfl bu_26 .nil rfl) ?_
    refine AOps.store rfl rfl rfl sz_26 rfl (.head _) rfl rfl rfl (Nat.le_of_ble_eq_true rfl) ?_
    refine AOps.aD rfl rfl rfl rfl rfl (.nil ?_)
    refine AWP.ret ?_
    refine ⟨RetR.agg rfl (.head _) ag_26 rfl (.cons (by first | exact CellD.nil | exact CellD.d | exact CellD.eq (by simp) | (refine CellD.own (by first | exact .head _ | exact .tail _ (.head _)) ?_; rfl)) (.cons (by first | exact CellD.nil | exact CellD.d | exact CellD.eq (by simp) | (refine CellD.own (by first | exact .head _ | exact .tail _ (.head _)) ?_; rfl)) (.cons (by first | exact CellD.nil | exact CellD.d | exact CellD.eq (by simp) | (refine CellD.own (by first | exact .head _ | exact .tail _ (.head _)) ?_; rfl)) .nil))), RetD.eq rfl ?_, trivial⟩
    all_goals (rfl)
  replace h2 := bnot_f h2; replace h2 := of_decide_eq_true h2
  have hd := h2
  refine AWP.skip ?_
  refine AWP.seq (AWP.region ?_)
  refine AOps.step rfl rfl rfl (AOp.loadPU rfl ag_26 rfl (.tail _ (.head _)) rfl rfl) ?_
  refine AOps.callOwn rfl rfl rfl (.cons (SLe.refl _) .nil) (c_own v vo) rfl (fun _ _ => rfl) ?_
  refine AOps.eff rfl rfl (EOp.storeVal (ss' := vaultS v) rfl rfl hsz_26 rfl (.tail _ (.tail _ (.head _))) rfl (.head _) rfl (Nat.le_refl 3)) ?_
  refine AOps.nU rfl ?_
  refine AOps.nil ?_
  refine AWP.seq ?_
  refine AWP.seq ?_
  refine AWP.rowOfS 101 (els := cpysS 1000 v.copies) (v.copies.map Cpy.ds) (famC v.copies) [(202, Ob.cells [.d (.v (.slice none 0 0)), .d (.v (.slice none 0 0)), .d (.v (.slice none 0 0))]), (200, Ob.cells (vaultS v)), (101, Ob.rowS 77 7 (cpysS 1000 v.copies))] (.tail _ (.tail _ (.head _))) (by rw [cpysS_len, List.length_map]) (fun i k1 k2 => ?_) (fun i k1 k2 j k3 k4 => ?_) (fun p hp => .tail _ (.tail _ (.tail _ (.tail _ hp)))) (fun p hp => ?_) (fun p hp q hq => ?_) ?_
  · have hi : i < v.copies.length := by simpa using k2
    rw [cpysS_at hi, List.getElem_map]; rfl
  · have hi : i < v.copies.length := by simpa using k2
    simp only [cpysS_at hi, List.getElem_map] at k3 k4 ⊢
    exact snap_cpy (fun p hp => hp) hi j k3 k4
  · rcases List.mem_cons.1 hp with rfl | hp
    · exact .tail _ (.head _)
    rcases List.mem_cons.1 hp with rfl | hp
    · exact .tail _ (.tail _ (.head _))
    obtain rfl := List.mem_singleton.1 hp
    exact .tail _ (.tail _ (.tail _ (.head _)))
  · have h4 := fam_ge (show p ∈ fam _ _ 1000 (badsD v.copies) from hp)
    rcases List.mem_cons.1 hq with rfl | hq
    · exact fun e => by dsimp only at e; omega
    rcases List.mem_cons.1 hq with rfl | hq
    · exact fun e => by dsimp only at e; omega
    obtain rfl := List.mem_singleton.1 hq
    exact fun e => by dsimp only at e; omega
  refine AWP.region ?_
  refine AOps.mD rfl rfl rfl rfl rfl ?_
  refine AOps.step rfl rfl rfl (AOp.lenSl rfl et_62.ht rfl) ?_
  refine AOps.mD rfl rfl rfl rfl rfl (.nil ?_)
  refine AWP.block ?_
  refine AWP.loop (G := Nat × List Cpy) (fun g => Env.of [(26, .d (.v (.int .i64 (g.1 : Int)))), (24, .d (.sl (ts.map Tfr.ds))), (25, .d (.v (.int .i64 ((ts.map Tfr.ds).length : Int)))), (3, .ptr 200 0), (6, .ptr 202 0), (2, .d (.v (.int .i64 day)))]) (fun g => [(202, .cells [.d (.v (.slice none 0 0)), .d (.v (.slice none 0 0)), .d (.v (.slice none 0 0))]), (200, .cells (vaultS v)), (101, .row 77 7 (g.2.map Cpy.ds))]) (fun g => ApS v ts day g) (fun g => ts.length - g.1) (0, v.copies) (ApS.start vo ts day) (Sub.less ⟨(SLe.of_eq rfl), SLe.refl _, SLe.refl _, SLe.refl _, SLe.refl _, SLe.refl _, trivial⟩ (fun p hp => hp)) ?_
  rintro ⟨k, l⟩ hg
  dsimp only
  refine AWP.seq (AWP.region ?_)
  refine AOps.step rfl rfl rfl (AOp.lss rfl rfl rfl) (.nil ?_)
  refine AWP.seq ?_
  refine AWP.cond rfl (fun h3 => ?_) (fun h3 => ?_)
  · replace h3 := of_decide_eq_true h3
    rw [List.length_map] at h3
    have hk : k < ts.length := by omega
    have hll : l.length ≤ 480 := hg.2.1.len vo.ni vo.nc
    refine AWP.skip ?_
    refine AWP.seq ?_
    refine AWP.block ?_
    refine AWP.seq (AWP.region ?_)
    refine AOps.step rfl rfl rfl (AOp.indexAddr rfl et_62 rfl rfl k rfl (at_list hk) rfl) ?_
    refine AOps.step rfl rfl rfl (AOp.loadAgg rfl ag_130 rfl rfl) ?_
    refine AOps.alloc 203 rfl rfl rfl rfl zt_130 rfl rfl rfl ?_
    refine AOps.store rfl rfl rfl sz_130 rfl (.head _) rfl rfl rfl (Nat.le_of_ble_eq_true rfl) ?_
    refine AOps.freezeCells 10 (ds := ts[k].ds) rfl (.head _) (.nil ?_)
    refine AWP.seq (AWP.region ?_)
    refine AOps.step rfl rfl rfl (AOp.loadAgg rfl ag_130 rfl rfl) ?_
    refine AOps.mD rfl rfl rfl rfl rfl ?_
    refine AOps.callX rfl rfl rfl (.cons (SLe.refl _) (.cons (SLe.refl _) (.cons (SLe.refl _) .nil))) (c_transfer (withC v l) ts[k] day hoi hg.2.1.at hll (fun x hx => (vo.carr hx).2.2)) ⟨(.tail _ (.tail _ (.head _))), (.tail _ (.head _)), trivial⟩ rfl rfl (fun _ _ => rfl) ?_
    refine AOps.aD rfl rfl rfl rfl rfl (.nil ?_)
    refine AWP.seq (AWP.region ?_)
    refine AOps.mD rfl rfl rfl rfl rfl ?_
    refine AOps.step rfl rfl rfl (AOp.neq rfl rfl rfl) (.nil ?_)
    refine AWP.cond rfl (fun h4 => ?_) (fun h4 => ?_)
    · replace h4 := of_decide_eq_true h4
      have HF : applyFault v ts day = tfrFault (withC v l) ts[k] day := apply_3 hck hd hg hk h4
      rw [apply_bad HF (by first | assumption | decide), HF]
      refine AWP.seq (AWP.region ?_)
      refine AOps.step rfl rfl rfl (AOp.build rfl bu_26 .nil rfl) ?_
      refine AOps.mD rfl rfl rfl rfl rfl ?_
      refine AOps.store rfl rfl rfl sz_26 rfl (.tail _ (.tail _ (.head _))) rfl rfl rfl (Nat.le_of_ble_eq_true rfl) ?_
      refine AOps.aD rfl rfl rfl rfl rfl (.nil ?_)
      refine AWP.ret ?_
      refine ⟨RetR.agg rfl (.tail _ (.tail _ (.head _))) ag_26 rfl (.cons (by first | exact CellD.nil | exact CellD.d | exact CellD.eq (by simp) | (refine CellD.own (by first | exact .head _ | exact .tail _ (.head _)) ?_; rfl)) (.cons (by first | exact CellD.nil | exact CellD.d | exact CellD.eq (by simp) | (refine CellD.own (by first | exact .head _ | exact .tail _ (.head _)) ?_; rfl)) (.cons (by first | exact CellD.nil | exact CellD.d | exact CellD.eq (by simp) | (refine CellD.own (by first | exact .head _ | exact .tail _ (.head _)) ?_; rfl)) .nil))), RetD.eq rfl ?_, trivial⟩
      all_goals (rfl)
    replace h4 := of_decide_eq_false h4
    have hf := Decidable.not_not.1 h4
    have HM := madeV_ok hf
    rw [HM]
    refine AWP.skip ?_
    refine AWP.region ?_
    refine AOps.step rfl rfl rfl (AOp.add64 rfl rfl rfl (by omega) (by omega)) ?_
    refine AOps.mD rfl rfl rfl rfl rfl (.nil ?_)
    refine ⟨(k + 1, tfrC v l ts[k] day), (hg.next hk hf), (by dsimp only; omega), Sub.less ⟨(SLe.of_eq rfl), SLe.refl _, SLe.refl _, SLe.refl _, SLe.refl _, SLe.refl _, trivial⟩ perm3⟩
  replace h3 := of_decide_eq_false h3
  rw [List.length_map] at h3
  obtain rfl : k = ts.length := by have := hg.1; dsimp only at this; omega
  have hll : l.length ≤ 480 := hg.2.1.len vo.ni vo.nc
  refine AWP.exit ?_
  refine AWP.seq ?_
  refine AWP.seq (AWP.region ?_)
  refine AOps.step rfl rfl rfl (AOp.fieldAddrP rfl fo_26_2 rfl) ?_
  refine AOps.step rfl rfl rfl (AOp.loadP rfl sc_24 rfl (.tail _ (.head _)) rfl) ?_
  refine AOps.step rfl rfl rfl (AOp.lenOwn rfl et_24.ht rfl (.tail _ (.tail _ (.head _)))) ?_
  refine AOps.step rfl rfl rfl (AOp.gtr rfl rfl rfl) (.nil ?_)
  refine AWP.cond rfl (fun h5 => ?_) (fun h5 => ?_)
  · replace h5 := of_decide_eq_true h5
    rw [List.length_map] at h5
    have HF : applyFault v ts day = 2 := apply_4 hck hd hg (by omega)
    rw [apply_bad HF (by first | assumption | decide), HF]
    refine AWP.seq (AWP.region ?_)
    refine AOps.step rfl rfl rfl (AOp.build rfl bu_26 .nil rfl) ?_
    refine AOps.store rfl rfl rfl sz_26 rfl (.head _) rfl rfl rfl (Nat.le_of_ble_eq_true rfl) ?_
    refine AOps.aD rfl rfl rfl rfl rfl (.nil ?_)
    refine AWP.ret ?_
    refine ⟨RetR.agg rfl (.head _) ag_26 rfl (.cons (by first | exact CellD.nil | exact CellD.d | exact CellD.eq (by simp) | (refine CellD.own (by first | exact .head _ | exact .tail _ (.head _)) ?_; rfl)) (.cons (by first | exact CellD.nil | exact CellD.d | exact CellD.eq (by simp) | (refine CellD.own (by first | exact .head _ | exact .tail _ (.head _)) ?_; rfl)) (.cons (by first | exact CellD.nil | exact CellD.d | exact CellD.eq (by simp) | (refine CellD.own (by first | exact .head _ | exact .tail _ (.head _)) ?_; rfl)) .nil))), RetD.eq rfl ?_, trivial⟩
    all_goals (rfl)
  replace h5 := of_decide_eq_false h5
  rw [List.length_map] at h5
  obtain ⟨HF, HV⟩ := apply_5 hck hd hg (by omega)
  rw [HF, HV]
  refine AWP.skip ?_
  refine AWP.seq ?_
  refine AWP.freezeIn 200 2 rfl (.tail _ (.head _)) (.tail _ (.tail _ (.head _))) ?_
  refine AWP.region ?_
  refine AOps.step rfl rfl rfl (AOp.loadPU rfl ag_26 rfl (.tail _ (.head _)) rfl rfl) ?_
  refine AOps.store rfl rfl rfl sz_26 rfl (.head _) rfl rfl rfl (Nat.le_of_ble_eq_true rfl) ?_
  refine AOps.aD rfl rfl rfl rfl rfl (.nil ?_)
  refine AWP.ret ?_
  refine ⟨RetR.agg rfl (.head _) ag_26 rfl (.cons (by first | exact CellD.nil | exact CellD.d | exact CellD.eq (by simp) | (refine CellD.own (by first | exact .head _ | exact .tail _ (.head _)) ?_; rfl)) (.cons (by first | exact CellD.nil | exact CellD.d | exact CellD.eq (by simp) | (refine CellD.own (by first | exact .head _ | exact .tail _ (.head _)) ?_; rfl)) (.cons (by first | exact CellD.nil | exact CellD.d | exact CellD.eq (by simp) | (refine CellD.own (by first | exact .head _ | exact .tail _ (.head _)) ?_; rfl)) .nil))), RetD.eq rfl ?_, trivial⟩
  all_goals (rfl)

end Go.Proofs.YtieccphckobhjaaDoor
