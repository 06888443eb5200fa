/- Walks and laws over abstract values, merged by tools/merge.py. No statement of the seat. -/
import Derived.OwnWalkIn
import Derived.LoopNIn
import Derived.Deep.LoopGhost
import Derived.WalkSpells
import Derived.Test.YtohllekllkcfiaaGreatDoorZH7
set_option linter.unusedSectionVars false
set_option linter.unusedSimpArgs false
set_option linter.unusedVariables false
set_option maxHeartbeats 4000000
set_option maxRecDepth 100000
open List renaming length_map -> ZlM, getElem?_eq_getElem -> ZgE, getElem?_eq_some_iff -> ZgS, getElem_mem -> ZgM, length_take -> ZlT, getD_eq_getElem?_getD -> ZgD, getElem_map -> ZgP, map_append -> ZmA, length_append -> ZlA, mem_singleton -> ZmS, mem_map -> ZmM
open Array renaming getElem?_eq_some_iff -> ZaS, length_toList -> ZaL, getD_eq_getD_getElem? -> ZaD
open Nat renaming le_of_ble_eq_true -> ZnB, zero_le -> ZnZ, le_refl -> ZnR, le_trans -> ZnT
open Bool renaming and_eq_true -> ZbA
namespace Go.Proofs.YtohllekllkcfiaaGreatDoor
section
open Go.RowKit
namespace Ty
theorem sz_34 : ∀ w, (sizeOf 34).run Tryz.prog w = .ok 1 w := SizeT.of (by kernel_rfl)
end Ty
open Ty
theorem take_all_eq {α : Type} {l r : List α} (h : l.length = r.length) (h2 : l.take l.length = r.take l.length) : l = r := by
 rw [List.take_length, h, List.take_length] at h2; exact h2
theorem take_eq {α : Type} {l r : List α} {k : Nat} (hl : k < l.length) (hr : k < r.length) (h : l.take k = r.take k) (h2 : l[k] = r[k]) : l.take (k + 1) = r.take (k + 1) := by
 rw [List.take_add_one, List.take_add_one, ZgE hl, ZgE hr, h, h2]
theorem YdZ {a b : Thg} (e1 : a.id = b.id) (e2 : a.kind = b.kind) (e3 : a.title = b.title) (e4 : a.code = b.code) (e5 : a.since = b.since) (e6 : a.parent = b.parent) : decide (a.parts = b.parts) = decide (a = b) := by
 apply decide_eq_decide.2;cases a; cases b;dsimp only at e1 e2 e3 e4 e5 e6;subst e1 e2 e3 e4 e5 e6;simp
theorem c_eqI (l r : List Int) : Yad Tryz.prog 9 [.sl (l.map intD), .sl (r.map intD)] (.v (.bool (decide (l = r)))) := by
 refine Yab (n := 26) (ds' := [.v (.bool (decide (l = r)))]) Tryz.func9 J (by kernel_rfl) J [4] J J ?_;intro B w0 F0 fr;refine .bound 0 J (fun hbd0 => ?_);rw [ZlM] at hbd0;refine .bound 1 J (fun hbd1 => ?_);rw [ZlM] at hbd1;refine .sr (.aN ?_);refine .seq (.sr (.mA ?_));refine .sA (.lenSl J et_34.ht J) ?_;refine .mA ?_;refine .sA (.lenSl J et_34.ht J) ?_;refine .sA (.neq J J J) (.nil ?_);refine .cT J (fun h1 => ?_) fun h1 => ?_
 ·rw [ZlM, ZlM] at h1;rw [decide_eq_false (show ¬ l = r from fun e => h1 (by rw [e]))];refine .sr (.aN ?_);refine .ret (rDq J ?_)
  all_goals (rfl)
 rw [ZlM, ZlM] at h1;have hle : l.length = r.length := by omega
 refine .skip (.seq (.sr (.mA ?_)));refine .sA (.lenSl J et_34.ht J) ?_;refine .mN ?_;refine .block (.loop (G := Nat) (fun k => Env.of [(13, .iv k), (0, .d (.sl (l.map intD))), (1, .d (.sl (r.map intD))), (12, .iv (l.map intD).length)]) (fun k => []) (fun k => k <= l.length /\ l.take k = r.take k) (fun k => l.length - k) 0 ⟨ZnZ _, by simp⟩ (Sub.less ⟨U, U, U, U, trivial⟩ (fun _ h => h)) ?_);intro k hk;refine .sr (.sA (.lss J J J) (.nil ?_));refine .seq (.cT J (fun h2 => ?_) fun h2 => ?_)
 ·rw [ZlM] at h2;have hlt : k < l.length := by omega
  have hlr : k < r.length := by omega
  refine .skip (.seq (.block (.sr (.ma (.nil ?_)))));refine .seq (.drw 9 ?_);refine .sA (.moveD J J) (.sA (.moveD J J) (.sA (.indexAddr J et_34 J J k J (YaU hlt) J) (.sA (.load J sc_3 J) (.sA (.moveD J J) (.sA (.moveD J J) ?_)))));refine .sA (.indexAddr J et_34 J J k J (YaU hlr) J) (.sA (.load J sc_3 J) (.sA (.neq J J J) ?_));refine .nil ?_;refine .nil ?_;refine .cT J (fun h3 => ?_) fun h3 => ?_
  ·rw [decide_eq_false (show ¬ l = r from fun e => h3 (by subst e; rfl))];refine .sr (.aN ?_);refine .ret (rDq J ?_)
   all_goals (rfl)
  have hT := take_eq hlt hlr hk.2 (by first | exact h3 | omega);refine .skip (.region (.sA (.add64 J J J) ?_));refine .mN ?_;refine ⟨k + 1, ⟨by omega, hT⟩, (by dsimp only; omega), Sub.less ⟨U, U, U, U, trivial⟩ (fun _ h => h)⟩
 rw [ZlM] at h2;obtain rfl : k = l.length := by omega
 rw [decide_eq_true (take_all_eq hle hk.2)];refine .exit (.sr (.aN ?_));refine .ret (rDq J ?_)
 all_goals (rfl)
theorem c_equal (a b : Thg) : Yad Tryz.prog 22 [.agg a.ds, .agg b.ds] (.v (.bool (decide (a = b)))) := by
 refine Yab (n := 52) (ds' := [.v (.bool (decide (a = b)))]) Tryz.func22 J (by kernel_rfl) J [4] J J ?_;intro B w0 F0 fr;refine .sr (.sA (.box J J J) ?_);refine .sA (.box J J J) ?_;refine .aN ?_;refine .sr (.fl YaW sc_3 ?_);refine .fl YaW sc_3 ?_;refine .sA (.eql J J J) ?_;refine .mA ?_;refine .sT 10 J (fun g1 => ?_) fun g1 => ?_
 ·have e1 := g1;refine .sG (.fieldAddr J Ya4 J) ?_;refine .sG (.load J sc_3 J) ?_;refine .sG (.fieldAddr J Ya4 J) ?_;refine .sG (.load J sc_3 J) ?_;refine .sG (.eql J J J) ?_;refine .sA (.pickT J J J) ?_;refine .mA ?_;refine .sT 17 J (fun g2 => ?_) fun g2 => ?_
  ·have e2 := g2;refine .sG (.fieldAddr J fo_72_2 J) ?_;refine .sG (.load J sc_9 J) ?_;refine .sG (.fieldAddr J fo_72_2 J) ?_;refine .sG (.load J sc_9 J) ?_;refine .sG (.seql J J J) ?_;refine .sA (.pickT J J J) ?_;refine .mA ?_;refine .sT 24 J (fun g3 => ?_) fun g3 => ?_
   ·have e3 := g3;refine .sG (.fieldAddr J Yb5 J) ?_;refine .sG (.load J sc_9 J) ?_;refine .sG (.fieldAddr J Yb5 J) ?_;refine .sG (.load J sc_9 J) ?_;refine .sG (.seql J J J) ?_;refine .sA (.pickT J J J) ?_;refine .mA ?_;refine .sT 31 J (fun g4 => ?_) fun g4 => ?_
    ·have e4 := g4;refine .sG (.fieldAddr J Yd3 J) ?_;refine .sG (.load J sc_3 J) ?_;refine .sG (.fieldAddr J Yd3 J) ?_;refine .sG (.load J sc_3 J) ?_;refine .sG (.eql J J J) ?_;refine .sA (.pickT J J J) ?_;refine .mA ?_;refine .sT 38 J (fun g5 => ?_) fun g5 => ?_
     ·have e5 := g5;refine .sG (.fieldAddr J Ya0 J) ?_;refine .sG (.load J sc_3 J) ?_;refine .sG (.fieldAddr J Ya0 J) ?_;refine .sG (.load J sc_3 J) ?_;refine .sG (.eql J J J) ?_;refine .sA (.pickT J J J) ?_;refine .mA ?_;refine .sT 45 J (fun g6 => ?_) fun g6 => ?_
      ·have e6 := g6;refine .sG (.fieldAddr J Ya8 J) ?_;refine .sG (.load J Ybt J) ?_;refine .sG (.fieldAddr J Ya8 J) ?_;refine .sG (.load J Ybt J) ?_;refine .sG (.call J (.cons (.rfl' J) (.cons (.rfl' J) .nil)) (c_eqI _ _)) ?_;refine .sA (.pickT J J J) ?_;refine .aN ?_;refine .ret (rDq J ?_)
       all_goals (first | rfl | rw [YdZ e1 e2 e3 e4 e5 e6])
      rw [decide_eq_false (show ¬ a = b from fun e => g6 (by rw [e]))];refine .pB ?_;refine .pB ?_;refine .pA ?_;refine .sA (.pickF J J J) ?_;refine .aN ?_;refine .ret (rDq J ?_)
      all_goals (first | rfl | rw [YdZ e1 e2 e3 e4 e5 e6])
     rw [decide_eq_false (show ¬ a = b from fun e => g5 (by rw [e]))];refine .pB ?_;refine .pB ?_;refine .pA ?_;refine .sA (.pickF J J J) ?_;refine .mA ?_;refine .pB ?_;refine .pB ?_;refine .pA ?_;refine .sA (.pickF J J J) ?_;refine .aN ?_;refine .ret (rDq J ?_)
     all_goals (first | rfl | rw [YdZ e1 e2 e3 e4 e5 e6])
    rw [decide_eq_false (show ¬ a = b from fun e => g4 (by rw [e]))];refine .pB ?_;refine .pB ?_;refine .pA ?_;refine .sA (.pickF J J J) ?_;refine .mA ?_;refine .pB ?_;refine .pB ?_;refine .pA ?_;refine .sA (.pickF J J J) ?_;refine .mA ?_;refine .pB ?_;refine .pB ?_;refine .pA ?_;refine .sA (.pickF J J J) ?_;refine .aN ?_;refine .ret (rDq J ?_)
    all_goals (first | rfl | rw [YdZ e1 e2 e3 e4 e5 e6])
   rw [decide_eq_false (show ¬ a = b from fun e => g3 (by rw [e]))];refine .pB ?_;refine .pB ?_;refine .pA ?_;refine .sA (.pickF J J J) ?_;refine .mA ?_;refine .pB ?_;refine .pB ?_;refine .pA ?_;refine .sA (.pickF J J J) ?_;refine .mA ?_;refine .pB ?_;refine .pB ?_;refine .pA ?_;refine .sA (.pickF J J J) ?_;refine .mA ?_;refine .pB ?_;refine .pB ?_;refine .pA ?_;refine .sA (.pickF J J J) ?_;refine .aN ?_;refine .ret (rDq J ?_)
   all_goals (first | rfl | rw [YdZ e1 e2 e3 e4 e5 e6])
  rw [decide_eq_false (show ¬ a = b from fun e => g2 (by rw [e]))];refine .pB ?_;refine .pB ?_;refine .pA ?_;refine .sA (.pickF J J J) ?_;refine .mA ?_;refine .pB ?_;refine .pB ?_;refine .pA ?_;refine .sA (.pickF J J J) ?_;refine .mA ?_;refine .pB ?_;refine .pB ?_;refine .pA ?_;refine .sA (.pickF J J J) ?_;refine .mA ?_;refine .pB ?_;refine .pB ?_;refine .pA ?_;refine .sA (.pickF J J J) ?_;refine .mA ?_;refine .pB ?_;refine .pB ?_;refine .pA ?_;refine .sA (.pickF J J J) ?_;refine .aN ?_;refine .ret (rDq J ?_)
  all_goals (first | rfl | rw [YdZ e1 e2 e3 e4 e5 e6])
 rw [decide_eq_false (show ¬ a = b from fun e => g1 (by rw [e]))];refine .pB ?_;refine .pB ?_;refine .pA ?_;refine .sA (.pickF J J J) ?_;refine .mA ?_;refine .pB ?_;refine .pB ?_;refine .pA ?_;refine .sA (.pickF J J J) ?_;refine .mA ?_;refine .pB ?_;refine .pB ?_;refine .pA ?_;refine .sA (.pickF J J J) ?_;refine .mA ?_;refine .pB ?_;refine .pB ?_;refine .pA ?_;refine .sA (.pickF J J J) ?_;refine .mA ?_;refine .pB ?_;refine .pB ?_;refine .pA ?_;refine .sA (.pickF J J J) ?_;refine .mA ?_;refine .pB ?_;refine .pB ?_;refine .pA ?_;refine .sA (.pickF J J J) ?_;refine .aN ?_;refine .ret (rDq J ?_)
 all_goals (first | rfl | rw [YdZ e1 e2 e3 e4 e5 e6])
theorem c_clInt (l : List Int) (hl : l.length <= 1048576) : OCall Tryz.prog 81 [.sl (l.map intD)] 3 1 (l.map intD) := by
 refine ocall_of (n := 8) Tryz.func81 J (by kernel_rfl) J 2 J J ?_;intro B w0 F0 fr;refine (Classical.em (l = [])).elim (fun hn => ?_) (fun hn => ?_);subst hn;refine .nilOr 0 J ?_ (fun ad cap hcap => ?_)
 ·skip;refine .sr (.aN ?_);refine .seq (.sr (.mA ?_));refine .sA (.eqNilV J Tryz.underlying34 J J) (.nil ?_);refine .cond J (fun _ => ?_) (fun h => nomatch h);refine .sr (.aN ?_);refine .adopt 2 51 3 1 J J ?_;refine .ret ?_;refine ⟨51, J, YdC (.head _) ?_⟩
  first | rfl | simp
 ·skip;refine .sr (.aN ?_);refine .seq (.sr (.mA ?_));refine .sA (.eqNilV J Tryz.underlying34 J J) (.nil ?_);refine .cond J (fun h => nomatch h) (fun _ => ?_);refine .skip (.sr (.build0 102 J J J J et_34 J ?_));refine .mA ?_;refine .le 6 J (SLe.d (Le.empty hcap)) ?_
  -- append 7
  refine .append rfl rfl rfl rfl et_34 rfl (.head _) rfl (fun y hy => by first | exact absurd hy List.not_mem_nil | (obtain ⟨x, _, rfl⟩ := ZmM.1 hy; rfl)) (by simp; try omega) (by simp; try omega) ?_;refine .sA (.assignO J J) (.nil ?_);refine .ret ?_;refine ⟨102, J, YdC (.head _) ?_⟩
  first | rfl | simp
 refine .sr (.aN ?_);refine .seq (.sr (.mA ?_));refine .sA (.eqNilS J Tryz.underlying34 J J (fun h => hn (List.map_eq_nil_iff.1 h))) (.nil ?_);refine .cond J (fun h => nomatch h) (fun _ => ?_);refine .skip (.sr (.build0 103 J J J J et_34 J ?_));refine .mA ?_
 -- append 7
 refine .append rfl rfl rfl rfl et_34 rfl (.head _) rfl (fun y hy => by first | exact absurd hy List.not_mem_nil | (obtain ⟨x, _, rfl⟩ := ZmM.1 hy; rfl)) (by simp; try omega) (by simp; try omega) ?_;refine .sA (.assignO J J) (.nil ?_);refine .ret ?_;refine ⟨103, J, YdC (.head _) ?_⟩
 first | rfl | simp
theorem c_own (t : Thg) (hl : t.parts.length <= 1048576) : Yad Tryz.prog 47 [.agg t.ds] (.agg t.ds) := by
 refine Yap (n := 8) (ds' := [.agg t.ds]) Tryz.func47 J (by kernel_rfl) J [.cell 2 72] J J ?_;intro B w0 F0 fr;refine .sr (.boxOwn 101 J J J J J J J ?_);refine .alloc 102 J J J J Ycs J J J (.nil ?_);refine .sr (.sA (.fieldAddrP J Ya8 J) ?_);refine .sA (.loadP J Ybt J (.tail _ (.head _)) J) (.sA (.call J (.cons (.rfl' J) .nil) (c_clInt t.parts hl).toA) (.sA (.fieldAddrP J Ya8 J) ?_));refine .st J J J sz_34 J (.tail _ (.head _)) J J J (ZnB J) (.nil ?_);refine .sr (.sA (.loadPU J Ybh J (.tail _ (.head _)) J J) ?_);refine .st J J J Ycc J (.head _) J J J (ZnB J) (.nil ?_);refine .ret ?_;refine ⟨RetR.agg J (.head _) Ybh J (.c5 (.c5 (.c5 (.c5 (.c5 (.c5 (.c5 .nil))))))), trivial⟩
 all_goals (rfl)
namespace Ty
theorem Ye6 : Tryz.prog.underlying 140 = some (.pointer 72) := by kernel_rfl
theorem Ye5 : Tryz.prog.underlying 142 = some (.pointer 3) := by kernel_rfl
end Ty
theorem run_nil_equal {P : Program} {t el : TypeId} (w : World) (a : Option Addr) (ht : P.underlying t = some (.pointer el)) : (Op.equal t (.pointer none) (.pointer a)).run P w = .ok a.isNone w := by
 unfold Op.equal Op.equalIn;simp only [Op.maxDepth, Sem.run_bind, run_underlying ht, Result.andThen_ok];cases a <;> rfl
theorem AOp.nilFpEq {P : Program} {B : Nat} {ops : Array Oper} {o : Oper} {e : Env} {σ : Obs} {t ty el : TypeId} {x y : Operand} {ds : List D} (ho : o.op = .binOp .eql t x y ty) (ht : P.underlying t = some (.pointer el)) (hx : e.ev x = .d (.v (.pointer none))) (hy : e.ev y = .d (.fp ds)) :
 AOp P B ops o e σ (.d (.v (.bool false))) := .value fun F ρ w a hF hr _ => by
 have h1 := hr x (by rw [ho]; simp [Op.operands]);have h2 := hr y (by rw [ho]; simp [Op.operands]);rw [hx] at h1;rw [hy] at h2;have h3 := Yag h2;refine ⟨.bool false, F, w, ?_, .d (.v _), Ext.refl hF⟩;unfold execOp;simp only [ho, Yav h1];generalize a.eval y = v at h3;cases h3;rw [Sem.run_bind, Sem.run_bind, Yb7];simp only [Result.andThen_ok, binOp, Sem.run_bind, run_nil_equal w _ ht, Sem.run_pure];rfl
theorem AOp.fpEq {P : Program} {B : Nat} {ops : Array Oper} {o : Oper} {e : Env} {σ : Obs} {t ty el : TypeId} {x y : Operand} {ds : List D} (ho : o.op = .binOp .eql t x y ty) (ht : P.underlying t = some (.pointer el)) (hx : e.ev x = .d (.fp ds)) (hy : e.ev y = .d (.v (.pointer none))) :
 AOp P B ops o e σ (.d (.v (.bool false))) := .value fun F ρ w a hF hr _ => by
 have h1 := hr x (by rw [ho]; simp [Op.operands]);have h2 := hr y (by rw [ho]; simp [Op.operands]);rw [hx] at h1;rw [hy] at h2;have h3 := Yag h1;refine ⟨.bool false, F, w, ?_, .d (.v _), Ext.refl hF⟩;unfold execOp;simp only [ho, Yav h2];generalize a.eval x = v at h3;cases h3;rw [Sem.run_bind, Sem.run_bind, Yb7];simp only [Result.andThen_ok, binOp, Sem.run_bind, YbO w _ ht, Sem.run_pure];rfl
def ptD : Option Thg -> D
 | some t => .fp t.ds
 | none => .v (.pointer none)
def pmD : Option Int -> D
 | some n => .fp [.v (.int .i64 n)]
 | none => .v (.pointer none)
theorem pt_th : Tryz.prog.underlying 140 = some (.pointer 72) := by kernel_rfl
theorem pt_in : Tryz.prog.underlying 142 = some (.pointer 3) := by kernel_rfl
theorem c_sTSS (a b : Thg) : Yad Tryz.prog 117 [.fp a.ds, .fp b.ds] (.v (.bool (decide (a = b)))) := by
 refine Yab (n := 21) (ds' := [.v (.bool (decide (a = b)))]) Tryz.func117 J (by kernel_rfl) J [4] J J ?_;intro B w0 F0 fr;refine .sr (.aN ?_);refine .seq (.sr (.mA ?_));refine .sA (.fpEq J Ye6 J J) ?_;refine .mA ?_;refine .sG (.moveD J J) ?_;refine .sG (.fpEq J Ye6 J J) ?_;refine .sA (.pickF J J J) (.nil ?_);refine .cond J (fun h => nomatch h) (fun _ => ?_);refine .skip (.seq (.drw 8 ?_));refine .sA (.moveD J J) (.sA (.nilCheck J J) (.sA (.loadAgg J Ybh J J) (.sA (.moveD J J) (.sA (.nilCheck J J) (.sA (.loadAgg J Ybh J J) ?_)))));refine .sA (.call J (.cons (.rfl' J) (.cons (.rfl' J) .nil)) (c_equal _ _)) (.sA (.assignD J J) ?_);refine .nil ?_;refine .nil ?_;refine .ret (rDq J ?_)
 all_goals (rfl)
theorem c_sTNN  : Yad Tryz.prog 117 [.v (.pointer none), .v (.pointer none)] (.v (.bool true)) := by
 refine Yab (n := 21) (ds' := [.v (.bool true)]) Tryz.func117 J (by kernel_rfl) J [4] J J ?_;intro B w0 F0 fr;refine .sr (.aN ?_);refine .seq (.sr (.mA ?_));refine .sA (.nilEq J Ye6 J J) ?_;refine .mA ?_;refine .pB ?_;refine .sA (.pickT J J J) (.nil ?_);refine .cond J (fun _ => ?_) (fun h => nomatch h);refine .sr (.mm ?_);refine .sA (.nilEq J Ye6 J J) ?_;refine .aN ?_;refine .ret (rDq J ?_)
 all_goals (rfl)
theorem c_sTSN (a : Thg) : Yad Tryz.prog 117 [.fp a.ds, .v (.pointer none)] (.v (.bool false)) := by
 refine Yab (n := 21) (ds' := [.v (.bool false)]) Tryz.func117 J (by kernel_rfl) J [4] J J ?_;intro B w0 F0 fr;refine .sr (.aN ?_);refine .seq (.sr (.mA ?_));refine .sA (.fpEq J Ye6 J J) ?_;refine .mA ?_;refine .sG (.moveD J J) ?_;refine .sG (.nilEq J Ye6 J J) ?_;refine .sA (.pickF J J J) (.nil ?_);refine .cond J (fun _ => ?_) (fun h => nomatch h);refine .sr (.mm ?_);refine .sA (.fpEq J Ye6 J J) ?_;refine .aN ?_;refine .ret (rDq J ?_)
 all_goals (rfl)
theorem c_sTNS (b : Thg) : Yad Tryz.prog 117 [.v (.pointer none), .fp b.ds] (.v (.bool false)) := by
 refine Yab (n := 21) (ds' := [.v (.bool false)]) Tryz.func117 J (by kernel_rfl) J [4] J J ?_;intro B w0 F0 fr;refine .sr (.aN ?_);refine .seq (.sr (.mA ?_));refine .sA (.nilEq J Ye6 J J) ?_;refine .mA ?_;refine .pB ?_;refine .sA (.pickT J J J) (.nil ?_);refine .cond J (fun _ => ?_) (fun h => nomatch h);refine .sr (.mm ?_);refine .sA (.nilFpEq J pt_th J J) ?_;refine .aN ?_;refine .ret (rDq J ?_)
 all_goals (rfl)
theorem c_sMSS (a b : Int) : Yad Tryz.prog 118 [.fp [.v (.int .i64 a)], .fp [.v (.int .i64 b)]] (.v (.bool (decide (a = b)))) := by
 refine Yab (n := 21) (ds' := [.v (.bool (decide (a = b)))]) Tryz.func118 J (by kernel_rfl) J [4] J J ?_;intro B w0 F0 fr;refine .sr (.aN ?_);refine .seq (.sr (.mA ?_));refine .sA (.fpEq J Ye5 J J) ?_;refine .mA ?_;refine .sG (.moveD J J) ?_;refine .sG (.fpEq J Ye5 J J) ?_;refine .sA (.pickF J J J) (.nil ?_);refine .cond J (fun h => nomatch h) (fun _ => ?_);refine .skip (.seq (.drw 8 ?_));refine .sA (.moveD J J) (.sA (.nilCheck J J) (.sA (.load J sc_3 J) (.sA (.moveD J J) (.sA (.nilCheck J J) (.sA (.load J sc_3 J) ?_)))));refine .sA (.eql J J J) (.sA (.assignD J J) ?_);refine .nil ?_;refine .nil ?_;refine .ret (rDq J ?_)
 all_goals (rfl)
theorem c_sMNN  : Yad Tryz.prog 118 [.v (.pointer none), .v (.pointer none)] (.v (.bool true)) := by
 refine Yab (n := 21) (ds' := [.v (.bool true)]) Tryz.func118 J (by kernel_rfl) J [4] J J ?_;intro B w0 F0 fr;refine .sr (.aN ?_);refine .seq (.sr (.mA ?_));refine .sA (.nilEq J Ye5 J J) ?_;refine .mA ?_;refine .pB ?_;refine .sA (.pickT J J J) (.nil ?_);refine .cond J (fun _ => ?_) (fun h => nomatch h);refine .sr (.mm ?_);refine .sA (.nilEq J Ye5 J J) ?_;refine .aN ?_;refine .ret (rDq J ?_)
 all_goals (rfl)
theorem c_sMSN (a : Int) : Yad Tryz.prog 118 [.fp [.v (.int .i64 a)], .v (.pointer none)] (.v (.bool false)) := by
 refine Yab (n := 21) (ds' := [.v (.bool false)]) Tryz.func118 J (by kernel_rfl) J [4] J J ?_;intro B w0 F0 fr;refine .sr (.aN ?_);refine .seq (.sr (.mA ?_));refine .sA (.fpEq J Ye5 J J) ?_;refine .mA ?_;refine .sG (.moveD J J) ?_;refine .sG (.nilEq J Ye5 J J) ?_;refine .sA (.pickF J J J) (.nil ?_);refine .cond J (fun _ => ?_) (fun h => nomatch h);refine .sr (.mm ?_);refine .sA (.fpEq J Ye5 J J) ?_;refine .aN ?_;refine .ret (rDq J ?_)
 all_goals (rfl)
theorem c_sMNS (b : Int) : Yad Tryz.prog 118 [.v (.pointer none), .fp [.v (.int .i64 b)]] (.v (.bool false)) := by
 refine Yab (n := 21) (ds' := [.v (.bool false)]) Tryz.func118 J (by kernel_rfl) J [4] J J ?_;intro B w0 F0 fr;refine .sr (.aN ?_);refine .seq (.sr (.mA ?_));refine .sA (.nilEq J Ye5 J J) ?_;refine .mA ?_;refine .pB ?_;refine .sA (.pickT J J J) (.nil ?_);refine .cond J (fun _ => ?_) (fun h => nomatch h);refine .sr (.mm ?_);refine .sA (.nilFpEq J pt_in J J) ?_;refine .aN ?_;refine .ret (rDq J ?_)
 all_goals (rfl)
theorem c_sameThing (a b : Option Thg) : Yad Tryz.prog 117 [ptD a, ptD b] (.v (.bool (decide (a = b)))) := by
 cases a with
 | none => cases b with
  | none => exact c_sTNN
  | some b => rw [show decide (none = some b) = false from decide_eq_false (fun h => by cases h)]; exact c_sTNS b
 | some a => cases b with
  | none => rw [show decide (some a = none) = false from decide_eq_false (fun h => by cases h)]; exact c_sTSN a
  | some b => rw [show decide (some a = some b) = decide (a = b) from decide_eq_decide.2 (by simp)]; exact c_sTSS a b
theorem c_sameTo (a b : Option Int) : Yad Tryz.prog 118 [pmD a, pmD b] (.v (.bool (decide (a = b)))) := by
 cases a with
 | none => cases b with
  | none => exact c_sMNN
  | some b => rw [show decide (none = some b) = false from decide_eq_false (fun h => by cases h)]; exact c_sMNS b
 | some a => cases b with
  | none => rw [show decide (some a = none) = false from decide_eq_false (fun h => by cases h)]; exact c_sMSN a
  | some b => rw [show decide (some a = some b) = decide (a = b) from decide_eq_decide.2 (by simp)]; exact c_sMSS a b
def upP (g : Nat -> Int) (n : Nat) : Prop := ∀ j, 0 < j -> j < n -> g (j - 1) < g j
def upF (g : Nat -> Int) (n : Nat) : Bool := (List.range n).all fun i => decide (i = 0) || decide (g (i - 1) < g i)
theorem up_iff {g : Nat -> Int} {n : Nat} : upF g n = true ↔ upP g n := by
 unfold upF upP;rw [List.all_eq_true];constructor
 ·intro h j h1 h2;have := h j (List.mem_range.2 h2);rw [Bool.or_eq_true] at this
  rcases this with h3 | h3
  ·have := dcT h3; omega
  ·exact dcT h3
 ·intro h j hj;rw [Bool.or_eq_true]
  by_cases h0 : j = 0
  ·exact .inl (decide_eq_true h0)
  ·exact .inr (decide_eq_true (h j (by omega) (List.mem_range.1 hj)))
theorem up_true {g : Nat -> Int} {n : Nat} (h : upP g n) : upF g n = true := up_iff.2 h
theorem up_false {g : Nat -> Int} {n j : Nat} (h0 : 0 < j) (hj : j < n) (h : g j <= g (j - 1)) : upF g n = false := by
 rw [Bool.eq_false_iff];intro hh;have := up_iff.1 hh j h0 hj;omega
theorem up_1 (g : Nat -> Int) : upP g (0 + 1) := fun j h1 h2 => by omega
theorem up_step {g : Nat -> Int} {k : Nat} (h : upP g (k + 1)) (h2 : g k < g (k + 1)) : upP g (k + 1 + 1) := fun j h1 h3 => by
 by_cases he : j = k + 1
 ·subst he; exact h2
 ·exact h j h1 (by omega)
def atI (l : List Int) (i : Nat) : Int := l.getD i 0
theorem atI_eq {l : List Int} {i : Nat} (h : i < l.length) : atI l i = l[i] := by unfold atI; rw [ZgD, ZgE h]; rfl
def meetB (a b : List Int) : Bool := a.any fun n => decide (n ∈ b)
namespace Ty
theorem Ycw : Yac Tryz.prog 36 0 = some 0 := by kernel_rfl
theorem Yd6 : Yac Tryz.prog 36 1 = some 1 := by kernel_rfl
theorem Ydq : Yac Tryz.prog 36 2 = some 2 := by kernel_rfl
theorem Yd5 : Yac Tryz.prog 36 3 = some 3 := by kernel_rfl
end Ty
theorem c_pRis (n : Nat) (g : Nat -> Int) (f : Nat) (caps : List D) (hf : ∀ i, i < n -> Yad Tryz.prog f (.v (.int .i64 (i : Int)) :: caps) (.v (.int .i64 (g i)))) (hn : n <= 9223372036854775807) : Yad Tryz.prog 55 [.v (.int .i64 (n : Int)), .clo (.func f) caps] (.v (.bool (upF g n))) := by
 refine Yab (n := 19) (ds' := [.v (.bool (upF g n))]) Tryz.func55 J (by kernel_rfl) J [4] J J ?_;intro B w0 F0 fr;refine .sr (.aN ?_);refine .seq (.sr (.aN ?_));refine .block (.loop (G := Nat) (fun k => Env.of [(5, .iv ((k : Int) + 1)), (0, .iv n), (1, .d (.clo (.func f) caps))]) (fun k => []) (fun k => (k = 0 \/ k < n) /\ upP g (k + 1)) (fun k => n - k) 0 ⟨.inl J, up_1 _⟩ (Sub.less ⟨U, U, U, trivial⟩ (fun _ h => h)) ?_);intro k hk;refine .seq (.sr (.mm ?_));refine .sA (.lss J J J) (.nil ?_);refine .cT J (fun h1 => ?_) fun h1 => ?_
 ·have hlt : k + 1 < n := by omega
  refine .skip (.seq (.block (.sr (.mm ?_))));refine .sA (.callClo J J (.cons (.rfl' J) .nil) (hf (k + 1) hlt)) ?_;refine .mm ?_;refine .sA (.sub64 J J J) ?_;rw [show (k : Int) + 1 - 1 = (k : Int) by omega];refine .sA (.callClo J J (.cons (.rfl' J) .nil) (hf k (by omega))) ?_;refine .sA (.leq J J J) (.nil ?_);refine .cT J (fun h2 => ?_) fun h2 => ?_
  ·rw [up_false (j := k + 1) (by omega) hlt (by rw [Nat.add_sub_cancel]; exact h2)];refine .sr (.aN ?_);refine .ret (rDq J ?_)
   all_goals (rfl)
  have HN := up_step hk.2 (by omega);refine .skip (.region (.mA ?_));refine .sA (.add64 J J J) ?_;refine .aN ?_;refine ⟨k + 1, ⟨.inr (by omega), HN⟩, (by dsimp only; omega), Sub.less ⟨(SLe.i64 (by omega)), U, U, trivial⟩ (fun _ h => h)⟩
 rw [up_true (fun j h1 h2 => hk.2 j h1 (by omega))];refine .exit (.sr (.aN ?_));refine .ret (rDq J ?_)
 all_goals (rfl)
theorem c_ck1 (x : Chg) (i : Nat) (hi : i < x.put.length) : Yad Tryz.prog 56 [.v (.int .i64 (i : Int)), .fp x.ds] (.v (.int .i64 (atI (x.put.map Thg.id) i))) := by
 refine Yab (n := 10) (ds' := [.v (.int .i64 (atI (x.put.map Thg.id) i))]) Tryz.func56 J (by kernel_rfl) J [3] J J ?_;intro B w0 F0 fr;rw [atI_eq (by rw [ZlM]; exact hi), ZgP];refine .sr (.aN ?_);refine .sr (.fl Ycw YdK ?_);refine .mA ?_;refine .sA (.indexAddr J et_22 J J i J (YaU hi) J) ?_;refine .fl YaW sc_3 ?_;refine .aN ?_;refine .ret (rDq J ?_)
 all_goals (rfl)
theorem c_ck2 (x : Chg) (i : Nat) (hi : i < x.drop.length) : Yad Tryz.prog 57 [.v (.int .i64 (i : Int)), .fp x.ds] (.v (.int .i64 (atI x.drop i))) := by
 refine Yab (n := 9) (ds' := [.v (.int .i64 (atI x.drop i))]) Tryz.func57 J (by kernel_rfl) J [3] J J ?_;intro B w0 F0 fr;rw [atI_eq (by  exact hi)];refine .sr (.aN ?_);refine .sr (.fl Yd6 Ybt ?_);refine .mA ?_;refine .sA (.indexAddr J et_34 J J i J (YaU hi) J) (.sA (.load J sc_3 J) ?_);refine .aN ?_;refine .ret (rDq J ?_)
 all_goals (rfl)
theorem c_ck3 (x : Chg) (i : Nat) (hi : i < x.add.length) : Yad Tryz.prog 58 [.v (.int .i64 (i : Int)), .fp x.ds] (.v (.int .i64 (atI (x.add.map Mvd.src) i))) := by
 refine Yab (n := 10) (ds' := [.v (.int .i64 (atI (x.add.map Mvd.src) i))]) Tryz.func58 J (by kernel_rfl) J [3] J J ?_;intro B w0 F0 fr;rw [atI_eq (by rw [ZlM]; exact hi), ZgP];refine .sr (.aN ?_);refine .sr (.fl Ydq Yei ?_);refine .mA ?_;refine .sA (.indexAddr J et_23 J J i J (YaU hi) J) ?_;refine .fl Yb4 sc_3 ?_;refine .aN ?_;refine .ret (rDq J ?_)
 all_goals (rfl)
theorem c_ck4 (x : Chg) (i : Nat) (hi : i < x.back.length) : Yad Tryz.prog 59 [.v (.int .i64 (i : Int)), .fp x.ds] (.v (.int .i64 (atI x.back i))) := by
 refine Yab (n := 9) (ds' := [.v (.int .i64 (atI x.back i))]) Tryz.func59 J (by kernel_rfl) J [3] J J ?_;intro B w0 F0 fr;rw [atI_eq (by  exact hi)];refine .sr (.aN ?_);refine .sr (.fl Yd5 Ybt ?_);refine .mA ?_;refine .sA (.indexAddr J et_34 J J i J (YaU hi) J) (.sA (.load J sc_3 J) ?_);refine .aN ?_;refine .ret (rDq J ?_)
 all_goals (rfl)
theorem ifmax (x y : Int) : (if y > x then y else x) = max x y := by omega
theorem run_max4 {P : Program} (ts : Array TypeId) (t : TypeId) (k : IntKind) (a b c d : Int) (w : World) : (Builtin.max_ ts t #[.int k a, .int k b, .int k c, .int k d]).run P w = .ok (.int k (max (max (max a b) c) d)) w := by
 simp only [<- ifmax];simp [Builtin.max_, Builtin.max2]
theorem AOp.max4 {P : Program} {B : Nat} {ops : Array Oper} {o : Oper} {e : Env} {σ : Obs} {x y z u : Operand} {ts : Array TypeId} {k : IntKind} {a b c d : Int} (ho : o.op = .call { callee := .builtin .max, args := #[x, y, z, u], argTypes := ts }) (hx : e.ev x = .d (.v (.int k a))) (hy : e.ev y = .d (.v (.int k b))) (hz : e.ev z = .d (.v (.int k c))) (hu : e.ev u = .d (.v (.int k d))) :
 AOp P B ops o e σ (.d (.v (.int k (Max.max (Max.max (Max.max a b) c) d)))) := .value fun F ρ w ac hF hr _ => by
 have h1 := hr x (by rw [ho]; simp [Op.operands, Call.operands]);have h2 := hr y (by rw [ho]; simp [Op.operands, Call.operands]);have h3 := hr z (by rw [ho]; simp [Op.operands, Call.operands]);have h4 := hr u (by rw [ho]; simp [Op.operands, Call.operands]);rw [hx] at h1;rw [hy] at h2;rw [hz] at h3;rw [hu] at h4;refine ⟨_, F, w, ?_, .d (.v _), Ext.refl hF⟩;unfold execOp;simp only [ho, resolve, invoke, builtin, Sem.run_bind, Sem.run_pure, Result.andThen_ok, List.map_toArray, List.map_cons, List.map_nil, Yav h1, Yav h2, Yav h3, Yav h4, run_max4]
def chgF (x : Chg) : Int :=
 if 300 < x.put.length \/ 300 < x.drop.length \/ 300 < x.add.length \/ 300 < x.back.length then 2
 else if ¬ (upF (atI (x.put.map Thg.id)) x.put.length = true /\ upF (atI x.drop) x.drop.length = true /\ upF (atI (x.add.map Mvd.src)) x.add.length = true /\ upF (atI x.back) x.back.length = true) then 8
 else if meetB (x.put.map Thg.id) x.drop = true \/ meetB (x.add.map Mvd.src) x.back = true then 12 else 0
theorem chg_8 {x : Chg} (hL : ¬ (300 < x.put.length \/ 300 < x.drop.length \/ 300 < x.add.length \/ 300 < x.back.length)) (h : ¬ (upF (atI (x.put.map Thg.id)) x.put.length = true /\ upF (atI x.drop) x.drop.length = true /\ upF (atI (x.add.map Mvd.src)) x.add.length = true /\ upF (atI x.back) x.back.length = true)) : chgF x = 8 := by
 unfold chgF; rw [if_neg hL, if_pos h]
theorem chg_m {x : Chg} (hL : ¬ (300 < x.put.length \/ 300 < x.drop.length \/ 300 < x.add.length \/ 300 < x.back.length)) (h1 : upF (atI (x.put.map Thg.id)) x.put.length = true) (h2 : upF (atI x.drop) x.drop.length = true) (h3 : upF (atI (x.add.map Mvd.src)) x.add.length = true) (h4 : upF (atI x.back) x.back.length = true) :
 chgF x = if meetB (x.put.map Thg.id) x.drop = true \/ meetB (x.add.map Mvd.src) x.back = true then 12 else 0 := by
 unfold chgF; rw [if_neg hL, if_neg (fun h => h ⟨h1, h2, h3, h4⟩)]
theorem mt_y {α : Type} {f : α -> Int} {l : List α} {b : List Int} {k : Nat} (hk : k < l.length) (h : f l[k] ∈ b) : meetB (l.map f) b = true := List.any_eq_true.2 ⟨_, List.mem_map_of_mem (ZgM hk), decide_eq_true h⟩
theorem mt_n {α : Type} {f : α -> Int} {l : List α} {b : List Int} {k : Nat} (hk : l.length <= k) (h : ∀ t ∈ l.take k, ¬ f t ∈ b) : meetB (l.map f) b = false := by
 rw [List.take_of_length_le hk] at h;rw [Bool.eq_false_iff];intro hh;obtain ⟨n, hn, h2⟩ := List.any_eq_true.1 hh;obtain ⟨t, ht, rfl⟩ := ZmM.1 hn;exact h t ht (dcT h2)
theorem mt_s {α : Type} {f : α -> Int} {l : List α} {b : List Int} {k : Nat} (hk : k < l.length) (h : ∀ t ∈ l.take k, ¬ f t ∈ b) (h2 : ¬ f l[k] ∈ b) : ∀ t ∈ l.take (k + 1), ¬ f t ∈ b := fun n hn => by
 rw [List.take_add_one, ZgE hk, Option.toList_some, List.mem_append, ZmS] at hn
 rcases hn with hn | hn
 ·exact h n hn
 ·rw [hn]; exact h2
theorem c_pCC (x : Chg) : Yad Tryz.prog 24 [.agg x.ds] (.v (.int .i64 (chgF x))) := by
 refine Yab (n := 77) (ds' := [.v (.int .i64 (chgF x))]) Tryz.func24 J (by kernel_rfl) J [2] J J ?_;intro B w0 F0 fr;have q1 : (x.put.map Thg.ds).length = x.put.length := ZlM ..;have q2 : (x.drop.map intD).length = x.drop.length := ZlM ..;have q3 : (x.add.map Mvd.ds).length = x.add.length := ZlM ..;have q4 : (x.back.map intD).length = x.back.length := ZlM ..;refine .sr (.sA (.box J J J) ?_);refine .aN ?_;refine .seq (.sr (.fl Ycw YdK ?_));refine .sA (.lenSl J et_22.ht J) ?_;refine .fl Yd6 Ybt ?_;refine .sA (.lenSl J et_34.ht J) ?_;refine .fl Ydq Yei ?_;refine .sA (.lenSl J et_23.ht J) ?_;refine .fl Yd5 Ybt ?_;refine .sA (.lenSl J et_34.ht J) (.sA (.max4 J J J J J) ?_);refine .sA (.gtr J J J) (.nil ?_);refine .cT J (fun h1 => ?_) fun h1 => ?_
 ·have HR : chgF x = 2 := if_pos (by omega);refine .sr (.aN ?_);refine .ret (rDq J ?_)
  all_goals (rw [HR])
 have hL : ¬ (300 < x.put.length \/ 300 < x.drop.length \/ 300 < x.add.length \/ 300 < x.back.length) := by omega
 refine .skip (.seq (.sr (.fl Ycw YdK ?_)));refine .sA (.lenSl J et_22.ht J) ?_;rw [q1];refine .sA (.makeFunc J (.cons (.rfl' J) .nil)) ?_;refine .sA (.call J (.cons (.rfl' J) (.cons (.rfl' J) .nil)) (c_pRis x.put.length (atI (x.put.map Thg.id)) 56 [.fp x.ds] (fun i hi => c_ck1 x i hi) (by omega))) ?_;refine .sA (.not J J) ?_;refine .mA ?_;refine .split 27 J (fun g2 => ?_) (fun g2 => ?_)
 ·replace g2 := Yaw g2;have HR := chg_8 hL (fun hh => by have q := hh.1; rw [g2] at q; cases q);refine .pB ?_;refine .pB ?_;refine .pB ?_;refine .sA (.pickT J J J) ?_;refine .mA ?_;refine .pB ?_;refine .pB ?_;refine .pB ?_;refine .sA (.pickT J J J) ?_;refine .mA ?_;refine .pB ?_;refine .pB ?_;refine .pB ?_;refine .sA (.pickT J J J) (.nil ?_);refine .cond J (fun _ => ?_) (fun h => nomatch h);refine .sr (.aN ?_);refine .ret (rDq J ?_)
  all_goals (rw [HR])
 replace g2 := Yax g2;have u1 := g2;refine .sG (.fieldAddr J Yd6 J) ?_;refine .sG (.load J Ybt J) ?_;refine .sG (.lenSl J et_34.ht J) ?_;rw [q2];refine .sG (.makeFunc J (.cons (.rfl' J) .nil)) ?_;refine .sG (.call J (.cons (.rfl' J) (.cons (.rfl' J) .nil)) (c_pRis x.drop.length (atI x.drop) 57 [.fp x.ds] (fun i hi => c_ck2 x i hi) (by omega))) ?_;refine .sG (.not J J) ?_;refine .sA (.pickF J J J) ?_;refine .mA ?_;refine .split 35 J (fun g3 => ?_) (fun g3 => ?_)
 ·replace g3 := Yaw g3;have HR := chg_8 hL (fun hh => by have q := hh.2.1; rw [g3] at q; cases q);refine .pB ?_;refine .pB ?_;refine .pB ?_;refine .sA (.pickT J J J) ?_;refine .mA ?_;refine .pB ?_;refine .pB ?_;refine .pB ?_;refine .sA (.pickT J J J) (.nil ?_);refine .cond J (fun _ => ?_) (fun h => nomatch h);refine .sr (.aN ?_);refine .ret (rDq J ?_)
  all_goals (rw [HR])
 replace g3 := Yax g3;have u2 := g3;refine .sG (.fieldAddr J Ydq J) ?_;refine .sG (.load J Yei J) ?_;refine .sG (.lenSl J et_23.ht J) ?_;rw [q3];refine .sG (.makeFunc J (.cons (.rfl' J) .nil)) ?_;refine .sG (.call J (.cons (.rfl' J) (.cons (.rfl' J) .nil)) (c_pRis x.add.length (atI (x.add.map Mvd.src)) 58 [.fp x.ds] (fun i hi => c_ck3 x i hi) (by omega))) ?_;refine .sG (.not J J) ?_;refine .sA (.pickF J J J) ?_;refine .mA ?_;refine .split 43 J (fun g4 => ?_) (fun g4 => ?_)
 ·replace g4 := Yaw g4;have HR := chg_8 hL (fun hh => by have q := hh.2.2.1; rw [g4] at q; cases q);refine .pB ?_;refine .pB ?_;refine .pB ?_;refine .sA (.pickT J J J) (.nil ?_);refine .cond J (fun _ => ?_) (fun h => nomatch h);refine .sr (.aN ?_);refine .ret (rDq J ?_)
  all_goals (rw [HR])
 replace g4 := Yax g4;have u3 := g4;refine .sG (.fieldAddr J Yd5 J) ?_;refine .sG (.load J Ybt J) ?_;refine .sG (.lenSl J et_34.ht J) ?_;rw [q4];refine .sG (.makeFunc J (.cons (.rfl' J) .nil)) ?_;refine .sG (.call J (.cons (.rfl' J) (.cons (.rfl' J) .nil)) (c_pRis x.back.length (atI x.back) 59 [.fp x.ds] (fun i hi => c_ck4 x i hi) (by omega))) ?_;refine .sG (.not J J) ?_;refine .sA (.pickF J J J) (.nil ?_);refine .cond J (fun h5 => ?_) (fun h5 => ?_)
 ·replace h5 := Yaw h5;have HR := chg_8 hL (fun hh => by have q := hh.2.2.2; rw [h5] at q; cases q);refine .sr (.aN ?_);refine .ret (rDq J ?_)
  all_goals (rw [HR])
 replace h5 := Yax h5;have HM := chg_m hL u1 u2 u3 h5;refine .skip (.seq (.sr (.fl Ycw YdK ?_)));refine .sA (.lenSl J et_22.ht J) ?_;refine .mN ?_;refine .block (.loop (G := Nat) (fun k => Env.of [(54, .iv k), (52, .d (.sl (x.put.map Thg.ds))), (53, .iv (x.put.map Thg.ds).length), (1, .d (.fp x.ds))]) (fun k => []) (fun k => k <= x.put.length /\ ∀ t ∈ x.put.take k, ¬ Thg.id t ∈ x.drop) (fun k => x.put.length - k) 0 ⟨ZnZ _, fun t h => by simp at h⟩ (Sub.less ⟨U, U, U, U, trivial⟩ (fun _ h => h)) ?_);intro k hk;refine .sr (.sA (.lss J J J) (.nil ?_));refine .seq (.cT J (fun h6 => ?_) fun h6 => ?_)
 ·have hlt : k < x.put.length := by omega
  refine .skip (.seq (.block (.sr (.sA (.indexAddr J et_22 J J k J (YaU hlt) J) ?_))));refine .sA (.loadAgg J Ybh J J) ?_;refine .alloc 101 J J J J Ycs J J J ?_;refine .st J J J Ycc J (.head _) J J J (ZnB J) ?_;refine .freezeCells 4 (ds := x.put[k].ds) J (.head _) (.nil ?_);refine .sr (.fl Yd6 Ybt ?_);refine .fl YaW sc_3 ?_;refine .sA (.call J (.cons (.rfl' J) (.cons (.rfl' J) .nil)) (Yey _ _)) (.nil ?_);refine .cT J (fun h7 => ?_) fun h7 => ?_
  ·have HR : chgF x = 12 := HM.trans (if_pos (.inl (mt_y (f := Thg.id) hlt h7)));refine .sr (.aN ?_);refine .ret (rDq J ?_)
   all_goals (rw [HR])
  have HN := mt_s (f := Thg.id) hlt hk.2 h7;refine .skip (.region (.sA (.add64 J J J) ?_));refine .mN ?_;refine ⟨k + 1, ⟨by omega, HN⟩, (by dsimp only; omega), Sub.less ⟨U, U, U, U, trivial⟩ (fun _ h => h)⟩
 have HP := mt_n (f := Thg.id) (l := x.put) (b := x.drop) (k := k) (by omega) hk.2;refine .exit (.seq (.sr (.sA (.fieldAddr J Ydq J) ?_)));refine .sA (.load J Yei J) (.sA (.lenSl J et_23.ht J) ?_);refine .mN ?_;refine .block (.loop (G := Nat) (fun j => Env.of [(67, .iv j), (65, .d (.sl (x.add.map Mvd.ds))), (66, .iv (x.add.map Mvd.ds).length), (1, .d (.fp x.ds))]) (fun j => []) (fun j => j <= x.add.length /\ ∀ t ∈ x.add.take j, ¬ Mvd.src t ∈ x.back) (fun j => x.add.length - j) 0 ⟨ZnZ _, fun t h => by simp at h⟩ (Sub.less ⟨U, U, U, U, trivial⟩ (fun _ h => h)) ?_);intro j hj;refine .sr (.sA (.lss J J J) (.nil ?_));refine .seq (.cT J (fun h8 => ?_) fun h8 => ?_)
 ·have hlt : j < x.add.length := by omega
  refine .skip (.seq (.block (.sr (.sA (.indexAddr J et_23 J J j J (YaU hlt) J) ?_))));refine .sA (.loadAgg J ag_74 J J) ?_;refine .alloc 102 J J J J zt_74 J J J ?_;refine .st J J J sz_74 J (.head _) J J J (ZnB J) ?_;refine .freezeCells 6 (ds := x.add[j].ds) J (.head _) (.nil ?_);refine .sr (.fl Yd5 Ybt ?_);refine .fl Yb4 sc_3 ?_;refine .sA (.call J (.cons (.rfl' J) (.cons (.rfl' J) .nil)) (Yey _ _)) (.nil ?_);refine .cT J (fun h9 => ?_) fun h9 => ?_
  ·have HR : chgF x = 12 := HM.trans (if_pos (.inr (mt_y (f := Mvd.src) hlt h9)));refine .sr (.aN ?_);refine .ret (rDq J ?_)
   all_goals (rw [HR])
  have HN := mt_s (f := Mvd.src) hlt hj.2 h9;refine .skip (.region (.sA (.add64 J J J) ?_));refine .mN ?_;refine ⟨j + 1, ⟨by omega, HN⟩, (by dsimp only; omega), Sub.less ⟨U, U, U, U, trivial⟩ (fun _ h => h)⟩
 have HA := mt_n (f := Mvd.src) (l := x.add) (b := x.back) (k := j) (by omega) hj.2;have HR : chgF x = 0 := HM.trans (if_neg (by rw [HP, HA]; simp));refine .exit (.sr (.aN ?_));refine .ret (rDq J ?_)
 all_goals (rw [HR])
end
section
open Go.RowKit Go.MapKept
section
variable {cx : Cx} {ops : Array Oper} {o : Oper} {rest : List Oper} {e : Env} {σ : Obs} {Q : Post}
theorem AOps.rangeF {t k et dst : Nat} {m : Operand} {M : List (Value × D)} (id : Nat) (hg : o.guard = none) (ht : o.dst = some dst) (hdn : Nat.blt dst cx.N = true) (ho : o.op = .range t m) (hu : cx.P.underlying t = some (.map k et)) (hm : e.ev m = .d (.fm M)) (hid : Obs.fresh id σ = true)
 (kk : ∀ M0 : List (Value × D), M0.Perm M -> AOps cx ops rest ((e.kill id).put (some dst) (.ptr id 0)) ((id, .iter M0 []) :: Obs.kill id σ) Q) (hfx : cx.free id = true := by rfl) : AOps cx ops (o :: rest) e σ Q := by
 intro a w ⟨F, ρ, hr⟩;have r1 := Ya1 (e := e) (x := m) (a := a) (fun t _ => hr.env t);rw [hm] at r1;obtain ⟨M0, hpm, b, clock, es, hv, hFb, hh, hMC, hall⟩ := rep_fmC (Yag r1);have hblt : b < w.heap.size := (ZaS.1 hh).1;have hE : Ext F w F (w.alloc (.mapIter (some b) clock #[] clock)) := Ext.of_below hr.lt ((Below.refl _ _).alloc (ZnR _) _)
 have h2 := hr.turn (ρ' := fun j => if j = id then .pointer (some ⟨w.heap.size, 0, none⟩) else ρ j) (id := id) (ob := .iter M0 []) (row := none) (w' := w.alloc (.mapIter (some b) clock #[] clock)) (F' := F) (fun j hj => by simp [hj])
  ⟨hE.below.os, hE.below.tape, hE.below.output, hE.below.size, fun k hk _ => hE.below.block k hk⟩ hfx (fun g hg => by simp at hg) (fun b hb => hb) (fun b hb => .inl hb) hE.lt
  ⟨w.heap.size, b, es, clock, #[], clock, by simp, hr.hB, fun hf => by have := hr.lt _ hf; omega, by simpa using heap_alloc_new w _, hFb, by rw [hE.below.block b hblt]; exact hh, ⟨hMC, rfl, by simp, rfl⟩,
   fun i hi hi' => ⟨(hall i hi hi').1, (hall i hi hi').2.mono (fun c hc => hc) fun c hc => hE.below.block c (hr.lt c hc)⟩⟩
  (fun g hg => by simp [blk] at hg; exact .inr (by omega)) ((id, .iter M0 []) :: Obs.kill id σ) (fun p hp => by
   cases hp with
   | head => exact .inl rfl
   | tail _ hp => obtain ⟨q, hq, rfl⟩ := Obs.mem_kill hp; exact .inr ⟨q, hq, Obs.fresh_spec hid q hq, rfl⟩)
 have h3 := h2.put (o := ⟨some dst, .ready 0, 0, "", #[], none⟩) (v := .pointer (some ⟨w.heap.size, 0, none⟩)) (s := .ptr id 0) (Ext.refl h2.lt) (.ptr id 0 w.heap.size (by simp [blk])) (by simpa [DstOk, Nat.blt_eq] using hdn);refine wpList_plain hg fun K hK => ?_
 unfold Oper.wp execOp;simp only [ho, hv, Sem.run_bind, run_range_map w t k et b es clock hu hh, Result.andThen_ok, Sem.run_pure];have := kk M0 hpm _ _ ⟨_, _, h3⟩;rw [<- ht] at this;exact hK _ _ this
theorem own_map {F : Nat -> Prop} {ρ : Nat -> Value} {a : Act} {w : World} (hr : R0 cx F ρ e σ a w) {x : Operand} {i : Nat} {M : List (Value × D)} (hx : e.ev x = .own i) (hm : (i, Ob.map M) ∈ σ) : ∃ b, a.eval x = .map (some b) /\ RepS F ρ w (a.eval x) (.own i) := by
 have r1 := Ya1 (e := e) (x := x) (a := a) (fun t _ => hr.env t);rw [hx] at r1;obtain ⟨b, es, clock, hρ, _⟩ := hr.obs.ok _ hm;dsimp only at hρ;refine ⟨b, ?_, r1⟩;rw [<- hρ]; generalize a.eval x = u at r1; cases r1; rfl
theorem AOps.buildMaps {t dst i j : Nat} {x y : Operand} {M N : List (Value × D)} {places : Nat -> Option (Nat × Nat)} {z0 z1 : Value} (id : Nat) (hg : o.guard = none) (ht : o.dst = some dst) (hdn : Nat.blt dst cx.N = true) (ho : o.op = .build t #[(0, x), (1, y)]) (T : StructT cx.P t places [z0, z1]) (hp0 : places 0 = some (0, 1)) (hp1 : places 1 = some (1, 1))
 (hx : e.ev x = .own i) (hy : e.ev y = .own j) (hmx : (i, Ob.map M) ∈ σ) (hmy : (j, Ob.map N) ∈ σ) (hid : Obs.fresh id σ = true)
 (k : AOps cx ops rest ((e.kill id).put (some dst) (.own id)) ((id, .val ([S.own i, .own j].map (S.kill id))) :: Obs.kill id σ) Q) (hfx : cx.free id = true := by rfl) : AOps cx ops (o :: rest) e σ Q := by
 intro a w ⟨F, ρ, hr⟩;obtain ⟨b, hb, hb2⟩ := own_map hr hx hmx;obtain ⟨c, hc, hc2⟩ := own_map hr hy hmy;refine wpList_plain hg fun K hK => ?_
 unfold Oper.wp execOp;simp only [ho, Sem.run_bind];rw [T.run w]
 have hfill : Instr.fill places [z0, z1].toArray (Array.map (fun p => (p.1, a.eval p.2)) #[(0, x), (1, y)]).toList = some #[a.eval x, a.eval y] := by
  simp [Instr.fill, hp0, hp1, hb, hc, Value.cells]
 rw [hfill];simp only [Result.andThen_ok, Sem.run_pure]
 obtain ⟨ρ', h8⟩ := hr.newObF (id := id) (dst := dst) (ob := .val ([S.own i, .own j].map (S.kill id))) (v := .agg #[a.eval x, a.eval y]) (Obs.fresh_spec hid) (by simpa [Nat.blt_eq] using hdn) (Ext.refl hr.lt) (by
  refine ⟨[a.eval x, a.eval y], by simp, rfl, fun m hm hm' => ?_⟩
  match m, hm with
  | 0, _ => exact ⟨by rw [List.getElem_cons_zero, hb]; rfl, hb2.kill id (fun i hi => by simp [hi])⟩
  | 1, _ => exact ⟨by rw [List.getElem_cons_succ, List.getElem_cons_zero, hc]; rfl, hc2.kill id (fun i hi => by simp [hi])⟩) (fun g hg => by simp [blk] at hg) hfx
 have := k _ _ ⟨F, ρ', h8⟩;rw [<- ht] at this;exact hK _ _ this
end
def XCallE {ι : Type} (P : Program) (f : FuncId) (ss : List S) (σ : Obs) (σ' : ι -> Obs) (ok : ι -> Prop) (chg : Nat -> Bool) (d : D) : Prop := Enters P f /\
 ∀ (F : Nat -> Prop) (ρ : Nat -> Value) (B : Nat) (w : World) (vs : List Value), (∀ b, F b -> b < w.heap.size) -> B <= w.heap.size -> ObsOk B F ρ w σ -> RepSL F ρ w vs ss ->
  Calls P f vs.toArray w fun e w' => ∃ i, ok i /\ ∃ v F' ρ', e = .returned v /\ Rep F' w' v d /\ XEnd B F ρ w σ F' ρ' w' (σ' i) chg
def RetXE {ι : Type} (ts : List Nat) (ds : List D) (σ' : ι -> Obs) (ok : ι -> Prop) : Post := fun ex e σ => match ex with
 | .ret => ∃ i, ok i /\ RetLX e σ (σ' i) ts ds /\ AllIn σ (σ' i)
 | .normal => ∃ i, ok i /\ RetLX e σ (σ' i) ts ds /\ AllIn σ (σ' i)
 | _ => False
theorem YfQ {ι : Type} {P : Program} {f : FuncId} {fn : Func} {c : Code} {n : Nat} {ss : List S} {σ : Obs} {σ' : ι -> Obs} {ok : ι -> Prop} {chg : Nat -> Bool} {ds' : List D} (hf : P.funcs[f]? = some fn) (hb : fn.body = some c) (hn : (fn.name == "runtime.NumGoroutine") = false) (hN : fn.ntmps = n)
 (ts : List Nat) (hr : fn.results = (ts.map ResultVar.tmp).toArray) (hle' : Nat.ble ss.length n = true)
 (h : ∀ B w0 F0 fr ρ0, AWP ⟨P, n, B, w0, F0, fr, fun i => !(chg i), ρ0⟩ c (Env.argsS 0 ss) σ (RetXE ts ds' σ' ok)) : XCallE P f ss σ σ' ok chg (retOf ds') := by
 have hle : ss.length <= n := ZnB hle';refine ⟨Enters.of hf hn (by rw [hb]; rfl), fun F ρ B w vs hF hB hσ hv => ?_⟩;refine calls_of_wp hf hb ?_
 have hR : R ⟨P, n, B, w, F, (fun b => w.heap.size <= b \/ ownB σ ρ b), fun i => !(chg i), ρ⟩ (Env.argsS 0 ss) σ { tmps := vs.toArray ++ Array.replicate (fn.ntmps - vs.toArray.size) undef, defers := [] } w := by
  refine ⟨F, ρ, ?_, J, hF, fun b hb => hb, fun b hb => .inl hb, Kept.refl _ _, hB, fun t => ?_, hσ, fun b hb => .inl hb, fun p hp g hg => .inr ⟨p, hp, hg⟩, fun i _ => J⟩
  ·simp [hN, hv.1]; omega
  ·by_cases ht : t < ss.length
   ·have := Env.argsS_get ss 0 t ht;rw [Nat.zero_add] at this;rw [this];have hvt : t < vs.length := by rw [hv.1]; exact ht
    have : (vs.toArray ++ Array.replicate (fn.ntmps - vs.toArray.size) undef).getD t undef = vs[t] := by
     rw [ZaD, Array.getElem?_append_left (by simpa using hvt)];simp [hvt]
    rw [this];exact hv.2 t hvt ht
   ·have := Env.argsS_out ss 0 t (by omega);rw [Nat.zero_add] at this;rw [this];exact .d (.any _)
 refine wp_mono (h _ _ _ _ _ _ _ hR) ?_;rintro ex a w' ⟨e', σe, hq, F', ρ', hr'⟩
 have hres : (results fn a.tmps).run P w' = .ok (match ts.map fun t => a.tmps.getD t undef with | [x] => x | l => .tuple l.toArray) w' := by
  have key : ∀ (ts : List Nat), (List.mapM (fun r => match r with | .tmp t => pure (a.tmps.getD t undef) | .cell b t => do loadVar t (<- asAddr (a.tmps.getD b undef))) (ts.map ResultVar.tmp) : Sem (List Value)).run P w' = .ok (ts.map fun t => a.tmps.getD t undef) w' := by
   intro ts
   induction ts with
   | nil => rfl
   | cons t ts ih =>
    rw [List.map_cons, List.mapM_cons, Sem.run_bind];simp only [Sem.run_pure, Result.andThen_ok, Sem.run_bind, ih, List.map_cons]
  unfold results;rw [hr, Sem.run_bind]
  have h2 : (Array.mapM (fun r => match r with | ResultVar.tmp t => pure (a.tmps.getD t undef) | ResultVar.cell b t => do loadVar t (<- asAddr (a.tmps.getD b undef))) (ts.map ResultVar.tmp).toArray : Sem (Array Value)).run P w' = .ok (ts.map fun t => a.tmps.getD t undef).toArray w' := by
   rw [List.mapM_toArray, Sem.run_map, key];rfl
  have h3 := h2;refine (congrArg (fun r => Result.andThen r _) h3).trans ?_;simp only [Result.andThen_ok]
  rcases ts with _ | ⟨t, _ | ⟨t2, ts⟩⟩ <;> rfl
 have hends : (∃ i, ok i /\ RetLX e' σe (σ' i) ts ds' /\ AllIn σe (σ' i)) -> bodyPost P fn (fun e w' => ∃ i, ok i /\ ∃ v F' ρ', e = .returned v /\ Rep F' w' v (retOf ds') /\ XEnd B F ρ w σ F' ρ' w' (σ' i) chg) .ret a w' := by
  rintro ⟨i, hok, hq, hin⟩;have hl := hq.rep hr';have hin := hin.mem;refine ⟨hr'.defers, _, hres, i, hok, _, endFX F' ρ' σe (σ' i), ρ', J, ?_, ?_⟩
  ·generalize (ts.map fun t => a.tmps.getD t undef) = vs' at hl;obtain ⟨h1, h2⟩ := hl
   rcases ds' with _ | ⟨d, _ | ⟨d2, ds'⟩⟩
   ·have : vs' = [] := List.eq_nil_of_length_eq_zero h1;subst this;exact .tup [] [] rfl (fun i h1 => absurd h1 (by simp))
   ·rcases vs' with _ | ⟨x, _ | ⟨y, vs'⟩⟩ <;> simp at h1
    exact h2 0 (by simp) (by simp)
   ·rcases vs' with _ | ⟨x, _ | ⟨y, vs'⟩⟩
    ·simp at h1
    ·simp at h1
    ·exact .tup _ _ h1 h2
  ·have hlt : ∀ b, endFX F' ρ' σe (σ' i) b -> b < w'.heap.size := by
    rintro b (hb | ⟨p, hp, _, hb⟩)
    ·exact hr'.lt b hb
    ·exact ((hr'.obs.ok p hp).blk_lt hb).2
   refine ⟨fun b hb => .inl (hr'.base b hb), ?_, hlt, hr'.below, ⟨fun p hp => ?_, fun p hp q hq => hr'.obs.apart p (hin p hp) q (hin q hq), fun p hp q hq => hr'.obs.uniq p (hin p hp) q (hin q hq)⟩, fun p hp => hr'.kown p (hin p hp), fun i hi => hr'.fixed i (by show (!(chg i)) = true; rw [hi]; rfl)⟩
   ·rintro b (hb | ⟨p, hp, _, hb⟩)
    ·exact hr'.new b hb
    ·exact .inr (hr'.kown p hp b hb)
   ·refine (hr'.obs.ok p (hin p hp)).more hr'.lt (fun b hb => .inl hb) ?_;rintro g hg (hf | ⟨q, hq, hne, hb⟩)
    ·exact (hr'.obs.ok p (hin p hp)).nF hg hf
    ·exact hr'.obs.apart p (hin p hp) q hq (hne p hp) g hg hb
 cases ex with
 | ret => exact hends hq
 | normal => exact hends hq
 | exit id => exact hq.elim
 | goto l => exact hq.elim
 | panic c => exact hq.elim
 | outgrown => exact hq.elim
section
variable {cx : Cx} {ops : Array Oper} {o : Oper} {rest : List Oper} {e : Env} {σ : Obs} {Q : Post}
theorem AOps.callXE {ι : Type} {f : FuncId} {xs : List Operand} {ts : Array TypeId} {ss : List S} {σc : Obs} {σ' : ι -> Obs} {ok : ι -> Prop} {chg : Nat -> Bool} {d : D} (hg : o.guard = none) (hd : DstOk cx.N o)
 (ho : o.op = .call { callee := .value (.func f), args := xs.toArray, argTypes := ts }) (ha : ArgsS e xs ss) (h : XCallE cx.P f ss σc σ' ok chg d) (hin : AllIn σ σc)
 (h1 : Obs.allIds (fun i => !(chg i)) (Obs.dels σc σ) = true) (h2 : ∀ i, Obs.allIds (fun i => Obs.allIds (fun j => !(Nat.beq i j)) (Obs.dels σc σ)) (σ' i) = true) (h3 : ∀ i, chg i = true -> cx.fixp i = false)
 (k : ∀ i, ok i -> AOps cx ops rest ((e.killP chg).put o.dst (.d d)) (Obs.join (σ' i) (Obs.killP chg (Obs.dels σc σ))) Q) : AOps cx ops (o :: rest) e σ Q := by
 intro a w ⟨F, ρ, hr⟩;have h4 := h.2 F ρ cx.B w _ hr.lt hr.hB (hr.obs.sub hin.mem) (ArgsS.rep hr.env ha);have h5 := h.1 (xs.map a.eval).toArray w
 have hx : (execOp a.eval o).run cx.P w = .ok (.enter f (xs.map a.eval).toArray) w := by
  unfold execOp;simp only [ho, resolve, Deferred.ofValue, Act.eval, invoke, Sem.run_bind, Sem.run_pure, Result.andThen_ok];simpa using h5
 refine wpList_plain hg fun K hK => ?_
 unfold Oper.wp;rw [hx];refine h4.mono fun _ w' ⟨i, hok, v, F', ρ', he, hv, hE⟩ => ?_
 subst he;exact hK _ _ (k i hok _ _ ⟨F', ρ', (hr.after hin.mem hE h1 (h2 i) h3).put (Ext.refl hE.lt) (.d hv) hd⟩)
end
end
section
open Go.RowKit
def SCall (P : Program) (f : FuncId) (ds : List D) (T M : List (Value × D)) : Prop := Enters P f /\
 ∀ (F : Nat -> Prop) (w : World) (vs : List Value), (∀ b, F b -> b < w.heap.size) -> RepL F w vs ds ->
  Calls P f vs.toArray w fun r w' => ∃ b1 b2 F', r = .returned (.agg #[.map (some b1), .map (some b2)]) /\ b1 ≠ b2 /\ Ext F w F' w' /\ ObOk w.heap.size F' (fun _ => .map (some b1)) w' 0 (.map T) /\ ObOk w.heap.size F' (fun _ => .map (some b2)) w' 0 (.map M)
theorem YfA {B B' : Nat} {F : Nat -> Prop} {ρ ρ' : Nat -> Value} {w : World} {id id' : Nat} {M : List (Value × D)} (h : ObOk B F ρ w id (.map M)) (hB : B' <= B) (he : ρ id = ρ' id') : ObOk B' F ρ' w id' (.map M) := by
 obtain ⟨b, es, clock, h1, h2, h3⟩ := h;exact ⟨b, es, clock, by rw [<- he]; exact h1, ZnT hB h2, h3⟩
theorem map_fm {B : Nat} {F F2 : Nat -> Prop} {ρ : Nat -> Value} {w : World} {id b : Nat} {M : List (Value × D)} (h : ObOk B F ρ w id (.map M)) (hρ : ρ id = .map (some b)) (hb : F2 b) (hu : ∀ b, F b -> F2 b) : Rep F2 w (.map (some b)) (.fm M) := by
 obtain ⟨b', es, clock, h1, h2, h3, h4, h5, h6⟩ := h;rw [hρ] at h1;cases h1;exact .fm b clock es M M (.refl _) hb h4 h5 (fun i h1 h2 => (h6 i h1 h2).1) fun i h1 h2 => (h6 i h1 h2).2.mono hu fun _ _ => J
theorem SCall.toA {P : Program} {f : FuncId} {ds : List D} {T M : List (Value × D)} (h : SCall P f ds T M) : Yad P f ds (.agg [.fm T, .fm M]) :=
 ⟨h.1, fun F w vs hF hv => (h.2 F w vs hF hv).mono fun r w' ⟨b1, b2, F', h1, h2, h3, h4, h5⟩ => by
  have g1 := h4.blk_lt (g := b1) rfl;have g2 := h5.blk_lt (g := b2) rfl;refine ⟨_, fun b => F' b \/ b = b1 \/ b = b2, h1, ?_, fun b hb => .inl (h3.up b hb), ?_, ?_, h3.below⟩
  ·refine .agg [.map (some b1), .map (some b2)] [.fm T, .fm M] J (fun i hi => ?_) fun i hi _ => ?_
   ·match i, hi with
    | 0, _ => rfl
    | 1, _ => rfl
   ·match i, hi with
    | 0, _ => exact map_fm h4 rfl (.inr (.inl rfl)) fun b hb => .inl hb
    | 1, _ => exact map_fm h5 rfl (.inr (.inr rfl)) fun b hb => .inl hb
  ·rintro b (hb | rfl | rfl)
   ·exact h3.new b hb
   ·exact .inr g1.1
   ·exact .inr g2.1
  ·rintro b (hb | rfl | rfl)
   ·exact h3.lt b hb
   ·exact g1.2
   ·exact g2.2⟩
theorem SCall.toX {P : Program} {f : FuncId} {ds : List D} {T M : List (Value × D)} (h : SCall P f ds T M) (v j k : Nat) (h1 : v ≠ j) (h2 : v ≠ k) (h3 : j ≠ k) :
 Yfh P f (ds.map S.d) [] [(v, .val [.own j, .own k]), (j, .map T), (k, .map M)] (fun i => Nat.beq i v || Nat.beq i j || Nat.beq i k) (.own v) :=
 ⟨h.1, fun F ρ B w vs hF hB _ hv => by
  refine (h.2 F w vs hF ⟨by simpa using hv.1, fun i h1 h2 => ?_⟩).mono fun e w' ⟨b1, b2, F', he, hne, hE, o1, o2⟩ => ?_
  ·have := hv.2 i h1 (by simpa using h2);rw [ZgP] at this;exact Yag this
  have g1 := o1.blk_lt (g := b1) rfl;have g2 := o2.blk_lt (g := b2) rfl;refine ⟨_, F', fun i => if i = v then .agg #[.map (some b1), .map (some b2)] else if i = j then .map (some b1) else if i = k then .map (some b2) else ρ i, he, ?_, hE.up, fun b hb => (hE.new b hb).imp (fun h => h) .inl, hE.lt, ⟨hE.below.os, hE.below.tape, hE.below.output, hE.below.size, fun q hq _ => hE.below.block q hq⟩, ?_, ?_, ?_⟩
  ·have := RepS.own (F := F') (ρ := fun i => if i = v then Value.agg #[.map (some b1), .map (some b2)] else if i = j then .map (some b1) else if i = k then .map (some b2) else ρ i) (w := w') v;simpa using this
  ·have ev : (fun i => if i = v then Value.agg #[.map (some b1), .map (some b2)] else if i = j then .map (some b1) else if i = k then .map (some b2) else ρ i) v = .agg #[.map (some b1), .map (some b2)] := if_pos rfl;have ej : (fun i => if i = v then Value.agg #[.map (some b1), .map (some b2)] else if i = j then .map (some b1) else if i = k then .map (some b2) else ρ i) j = .map (some b1) := by dsimp only; rw [if_neg (Ne.symm h1), if_pos rfl]
   have ek : (fun i => if i = v then Value.agg #[.map (some b1), .map (some b2)] else if i = j then .map (some b1) else if i = k then .map (some b2) else ρ i) k = .map (some b2) := by dsimp only; rw [if_neg (Ne.symm h2), if_neg (Ne.symm h3), if_pos rfl]
   generalize (fun i => if i = v then Value.agg #[.map (some b1), .map (some b2)] else if i = j then .map (some b1) else if i = k then .map (some b2) else ρ i) = ρ' at ev ej ek ⊢;refine ⟨fun p hp => ?_, fun p hp q hq hn g hg => ?_, fun p hp q hq hn => ?_⟩
   ·simp only [List.mem_cons, List.not_mem_nil, or_false] at hp
    rcases hp with rfl | rfl | rfl
    ·refine ⟨[.map (some b1), .map (some b2)], ev, J, fun m hm hm' => ?_⟩
     match m, hm with
     | 0, _ => exact ⟨rfl, by have := RepS.own (F := F') (ρ := ρ') (w := w') j; rw [ej] at this; exact this⟩
     | 1, _ => exact ⟨rfl, by have := RepS.own (F := F') (ρ := ρ') (w := w') k; rw [ek] at this; exact this⟩
    ·exact YfA o1 hB ej.symm
    ·exact YfA o2 hB ek.symm
   ·simp only [List.mem_cons, List.not_mem_nil, or_false] at hp hq
    rcases hp with rfl | rfl | rfl <;> rcases hq with rfl | rfl | rfl <;> first | exact absurd rfl hn | skip
    all_goals (simp only [ev, ej, ek, blk, Option.some.injEq, reduceCtorEq, not_false_eq_true, ne_eq] at hg ⊢; try omega)
   ·simp only [List.mem_cons, List.not_mem_nil, or_false] at hp hq
    rcases hp with rfl | rfl | rfl <;> rcases hq with rfl | rfl | rfl <;> first | rfl | (exfalso; dsimp only at hn; omega)
  ·intro p hp g hg;simp only [List.mem_cons, List.not_mem_nil, or_false] at hp
   rcases hp with rfl | rfl | rfl
   ·simp [blk] at hg
   ·simp only [Ne.symm h1, if_false, if_true, blk, Option.some.injEq] at hg; subst hg; exact .inl g1.1
   ·simp only [Ne.symm h2, Ne.symm h3, if_false, if_true, blk, Option.some.injEq] at hg; subst hg; exact .inl g2.1
  ·intro i hi;simp only [Bool.or_eq_false_iff] at hi;have n1 : i ≠ v := fun e => by subst e; simp at hi
   have n2 : i ≠ j := fun e => by subst e; simp at hi
   have n3 : i ≠ k := fun e => by subst e; simp at hi
   simp [n1, n2, n3]⟩
def RetS (b : Nat) (T M : List (Value × D)) : Post := fun ex e σ => match ex with
 | .ret => ∃ cid j k, e b = .ptr cid 0 /\ (cid, Ob.cells [.own j, .own k]) ∈ σ /\ (j, Ob.map T) ∈ σ /\ (k, Ob.map M) ∈ σ /\ j ≠ k
 | .normal => ∃ cid j k, e b = .ptr cid 0 /\ (cid, Ob.cells [.own j, .own k]) ∈ σ /\ (j, Ob.map T) ∈ σ /\ (k, Ob.map M) ∈ σ /\ j ≠ k
 | _ => False
theorem scall_of {P : Program} {f : FuncId} {fn : Func} {c : Code} {n b t : Nat} {ds : List D} {T M : List (Value × D)} (hf : P.funcs[f]? = some fn) (hb : fn.body = some c) (hn : (fn.name == "runtime.NumGoroutine") = false) (hN : fn.ntmps = n)
 (hr : fn.results = #[.cell b t]) (hT : AggT P t 2) (hle' : Nat.ble ds.length n = true)
 (h : ∀ B w0 F0 fr, AWP ⟨P, n, B, w0, F0, fr, fun _ => false, fun _ => undef⟩ c (Env.args 0 ds) [] (RetS b T M)) : SCall P f ds T M := by
 have hle : ds.length <= n := ZnB hle';refine ⟨Enters.of hf hn (by rw [hb]; rfl), fun F w vs hF hv => ?_⟩;refine calls_of_wp hf hb ?_
 have hR : R ⟨P, n, w.heap.size, w, F, (fun b => w.heap.size <= b), fun _ => false, fun _ => undef⟩ (Env.args 0 ds) [] { tmps := vs.toArray ++ Array.replicate (fn.ntmps - vs.toArray.size) undef, defers := [] } w := by
  refine ⟨F, fun _ => undef, ?_, rfl, hF, fun b hb => hb, fun b hb => .inl hb, Kept.refl _ _, ZnR _, fun t => ?_, ⟨fun p hp => by simp at hp, fun p hp => by simp at hp, fun p hp => by simp at hp⟩, fun b hb => hb, fun p hp => by simp at hp, fun i hi => by simp at hi⟩
  ·simp [hN, hv.1]; omega
  ·by_cases ht : t < ds.length
   ·have := Env.args_get ds 0 t ht;rw [Nat.zero_add] at this;rw [this];have hvt : t < vs.length := by rw [hv.1]; exact ht
    have : (vs.toArray ++ Array.replicate (fn.ntmps - vs.toArray.size) undef).getD t undef = vs[t] := by
     rw [ZaD, Array.getElem?_append_left (by simpa using hvt)];simp [hvt]
    rw [this];exact .d (hv.2 t hvt ht)
   ·have := Env.args_out ds 0 t (by omega);rw [Nat.zero_add] at this;rw [this];exact .d (.any _)
 refine wp_mono (h _ _ _ _ _ _ hR) ?_;rintro ex a w' ⟨e', σe, hq, F', ρ', hr'⟩
 have hends : (∃ cid j k, e' b = .ptr cid 0 /\ (cid, Ob.cells [.own j, .own k]) ∈ σe /\ (j, Ob.map T) ∈ σe /\ (k, Ob.map M) ∈ σe /\ j ≠ k) ->
  bodyPost P fn (fun r w' => ∃ b1 b2 F', r = .returned (.agg #[.map (some b1), .map (some b2)]) /\ b1 ≠ b2 /\ Ext F w F' w' /\ ObOk w.heap.size F' (fun _ => .map (some b1)) w' 0 (.map T) /\ ObOk w.heap.size F' (fun _ => .map (some b2)) w' 0 (.map M)) .ret a w' := by
  rintro ⟨cid, j, k, h1, h2, h3, h4, h5⟩;obtain ⟨cs, k1, k2, k3⟩ := res_cell hr' hr hT h1 h2 rfl
  obtain ⟨x, y, rfl⟩ : ∃ x y, cs = [x, y] := by
   match cs, k2 with
   | [x, y], _ => exact ⟨x, y, rfl⟩
  have o1 := hr'.obs.ok _ h3;have o2 := hr'.obs.ok _ h4;obtain ⟨b1, es1, c1, q1, _⟩ := o1;obtain ⟨b2, es2, c2, q2, _⟩ := o2;dsimp only at q1 q2;have r1 := (k3 0 (by simp) (by simp)).2;have r2 := (k3 1 (by simp) (by simp)).2;simp only [List.getElem_cons_zero, List.getElem_cons_succ] at r1 r2;have hx : x = .map (some b1) := by rw [<- q1]; cases r1; rfl
  have hy : y = .map (some b2) := by rw [<- q2]; cases r2; rfl
  subst hx hy;refine ⟨hr'.defers, _, k1, b1, b2, F', J, fun e => ?_, ⟨hr'.base, fun b hb => (hr'.new b hb).imp (fun x => x) fun x => x, hr'.lt, ⟨hr'.below.os, hr'.below.tape, hr'.below.output, hr'.below.size, fun k hk => hr'.below.block k hk (fun hf => by have h5 : w.heap.size <= k := hf; omega)⟩⟩, YfA (hr'.obs.ok _ h3) (ZnR _) q1, YfA (hr'.obs.ok _ h4) (ZnR _) q2⟩;exact hr'.obs.apart _ h3 _ h4 h5 b1 (by rw [q1]; rfl) (by rw [q2, e]; rfl)
 cases ex with
 | ret => exact hends hq
 | normal => exact hends hq
 | exit id => exact hq.elim
 | goto l => exact hq.elim
 | panic c => exact hq.elim
 | outgrown => exact hq.elim
namespace Ty
theorem Ycp : AggT Tryz.prog 133 2 := .of (by kernel_rfl)
theorem bu_133 : StructT Tryz.prog 133 (fun i => (#[(0, 1), (1, 1)] : Array (Nat × Nat))[i]?) [(.map none), (.map none)] := .of (by kernel_rfl) (by kernel_rfl) (by decide)
theorem Yee : ∀ w, (sizeOf 133).run Tryz.prog w = .ok 2 w := SizeT.of (by kernel_rfl)
theorem Yec : (Tryz.prog.info? 133).bind (·.zero) = some (.agg #[(.map none), (.map none)]) := by kernel_rfl
end Ty
open Ty
theorem c_new  : SCall Tryz.prog 112 [] ([]) ([]) := by
 refine scall_of (n := 4) (b := 0) (t := 133) Tryz.func112 J (by kernel_rfl) J J Ycp J ?_;intro B w0 F0 fr;refine .sr (.alloc 101 J J J J Yec J J J (.nil ?_));refine .sr (.makeMap 91 J J J J J ?_);refine .makeMap 92 J J J J J ?_;refine .buildMaps 100 J J J J bu_133 J J J J (.tail _ (.head _)) (.head _) J ?_;refine .eff J J (.storeVal (ss' := [.own 91, .own 92]) J J Yee J (.tail _ (.tail _ (.tail _ (.head _)))) J (.head _) J (ZnR 2)) (.nil ?_);refine .ret ?_;exact ⟨101, 91, 92, J, (.tail _ (.tail _ (.tail _ (.head _)))), (.tail _ (.tail _ (.head _))), (.tail _ (.head _)), by decide⟩
def Ybv (l : List Int) : List Int := l.mergeSort fun x y => decide (x <= y)
theorem Ybe (l : List Int) : (Ybv l).Perm l := List.mergeSort_perm _ _
theorem YfD (l : List Int) : (Ybv l).Pairwise fun x y => x <= y := by
 have h := List.pairwise_mergeSort (le := fun a b : Int => decide (a <= b)) (fun a b c hab hbc => by simp only [decide_eq_true_eq] at *; omega) (fun a b => by simp only [Bool.or_eq_true, decide_eq_true_eq]; omega) l;exact h.imp fun h => by simpa using h
theorem ksort_eq {l l' : List Int} (h : l.Perm l') : Ybv l = Ybv l' :=
 List.Perm.eq_of_pairwise (le := fun (x y : Int) => x <= y) (fun a b _ _ h1 h2 => Int.le_antisymm h1 h2) (YfD l) (YfD l') (((Ybe l).trans h).trans (Ybe l').symm)
theorem sub_len {α : Type} [DecidableEq α] : ∀ {l l' : List α}, l.Nodup -> (∀ x ∈ l, x ∈ l') -> l.length <= l'.length
 | [], _, _, _ => ZnZ _
 | x :: l, l', hn, hs => by
  obtain ⟨h1, h2⟩ := List.nodup_cons.1 hn;have h3 : x ∈ l' := hs x List.mem_cons_self;have h4 := sub_len h2 (l' := l'.erase x) fun y hy => (List.mem_erase_of_ne (fun e => h1 (by rw [<- e]; exact hy))).2 (hs y (List.mem_cons_of_mem _ hy))
  rw [List.length_erase_of_mem h3] at h4;have := List.length_pos_of_mem h3;rw [List.length_cons]; omega
section
variable {β : Type}
abbrev GL (β : Type) := List (Int × β)
def YaG (L : GL β) : List Int := Ybv (L.map (·.1))
theorem NkG.nodup {L : GL β} (h : NkG L) : (L.map (·.1)).Nodup := List.pairwise_map.2 h
theorem hasG_find {L : GL β} {k : Int} : hasG L k = (Yaa L k).isSome := by
 cases h : Yaa L k with
 | none => exact findG_none.1 h
 | some v =>
  cases h2 : hasG L k with
  | true => rfl
  | false => rw [findG_none.2 h2] at h; cases h
theorem Ydo {L : GL β} {k : Int} : k ∈ YaG L ↔ (Yaa L k).isSome = true := by
 unfold YaG;rw [(Ybe _).mem_iff, <- hasG_find, hasG_iff, ZmM]
theorem keysG_up {L : GL β} (h : NkG L) : (YaG L).Pairwise fun x y => x < y := by
 have h1 := YfD (L.map (·.1));have h2 : (YaG L).Nodup := (Ybe _).nodup_iff.2 h.nodup;exact (h1.and h2).imp fun ⟨h, h'⟩ => Int.lt_iff_le_and_ne.2 ⟨h, h'⟩
theorem YcH (L : GL β) : (YaG L).length = L.length := by unfold YaG Ybv; rw [List.length_mergeSort, ZlM]
theorem Yci {L : GL β} (h : NkG L) {p : Int × β} : p ∈ L ↔ Yaa L p.1 = some p.2 := YaR h p
theorem YdG {L : GL β} {k : Int} {v : β} (h : Yaa L k = some v) : (k, v) ∈ L := by
 induction L with
 | nil => cases h
 | cons p L ih =>
  rw [Yah] at h
  by_cases hp : p.1 = k
  ·rw [if_pos hp] at h;obtain rfl := Option.some.inj h;subst hp; exact List.mem_cons_self
  ·rw [if_neg hp] at h; exact List.mem_cons_of_mem _ (ih h)
theorem Yf4 {L L' : GL β} (h : NkG L) (h' : NkG L') (he : ∀ k, Yaa L k = Yaa L' k) : L.Perm L' := by
 have nd : ∀ {l : GL β}, NkG l -> l.Nodup := fun h => h.imp fun hab e => hab (by rw [e])
 exact (List.perm_ext_iff_of_nodup (nd h) (nd h')).2 fun p => by rw [Yci h, Yci h', he]
def RiK (L : GL β) : Prop := L.Pairwise fun p q => p.1 < q.1
theorem RiK.nk {L : GL β} (h : RiK L) : NkG L := h.imp fun h e => by rw [e] at h; exact absurd h (Int.lt_irrefl _)
theorem rik_ext : ∀ {L L' : GL β}, RiK L -> RiK L' -> (∀ k, Yaa L k = Yaa L' k) -> L = L' := fun {L L'} h h' he =>
 List.Perm.eq_of_pairwise (le := fun (p q : Int × β) => p.1 < q.1) (fun a b _ _ h1 h2 => absurd (Int.lt_trans h1 h2) (Int.lt_irrefl _)) h h' (Yf4 h.nk h'.nk he)
theorem up_ext {l l' : List Int} (h : l.Pairwise fun x y => x < y) (h' : l'.Pairwise fun x y => x < y) (he : ∀ k, k ∈ l ↔ k ∈ l') : l = l' := by
 have nd : ∀ {l : List Int}, (l.Pairwise fun x y => x < y) -> l.Nodup := fun h => h.imp fun hab e => by rw [e] at hab; exact absurd hab (Int.lt_irrefl _)
 exact List.Perm.eq_of_pairwise (le := fun (p q : Int) => p < q) (fun a b _ _ h1 h2 => absurd (Int.lt_trans h1 h2) (Int.lt_irrefl _)) h h' ((List.perm_ext_iff_of_nodup (nd h) (nd h')).2 he)
def Yaq (L E : GL β) : GL β := E.foldl (fun L p => putG L p.1 p.2) L
theorem Yf3 (L : GL β) (p : Int × β) (E : GL β) : Yaq L (p :: E) = Yaq (putG L p.1 p.2) E := rfl
theorem Yep (L E E' : GL β) : Yaq L (E ++ E') = Yaq (Yaq L E) E' := List.foldl_append
theorem Yd1 {L E : GL β} {k : Nat} (h : k < E.length) : Yaq L (E.take (k + 1)) = putG (Yaq L (E.take k)) E[k].1 E[k].2 := by
 rw [List.take_add_one, ZgE h, Option.toList_some, Yep]; rfl
theorem YaP : ∀ {E L : GL β}, NkG L -> NkG (Yaq L E)
 | [], _, h => h
 | p :: E, L, h => YaP (E := E) (Ydj h p.1 p.2)
theorem Ybx : ∀ {E : GL β} (_ : NkG E) (L : GL β) (k : Int), Yaa (Yaq L E) k = match Yaa E k with | some v => some v | none => Yaa L k
 | [], _, L, k => rfl
 | p :: E, h, L, k => by
  obtain ⟨h1, h2⟩ := List.pairwise_cons.1 h;rw [Yf3, Ybx h2, Yah, Ybg]
  by_cases hp : p.1 = k
  ·subst hp
   have : Yaa E p.1 = none := findG_none.2 (by
    cases hh : hasG E p.1 with
    | false => rfl
    | true => obtain ⟨q, hq, he⟩ := hasG_iff.1 hh; exact absurd he.symm (h1 q hq))
   rw [this]; simp
  ·rw [if_neg hp, if_neg (fun e => hp e.symm)]
theorem YcF (E L : GL β) : (Yaq L E).length <= L.length + E.length := by
 induction E generalizing L with
 | nil => exact ZnR _
 | cons p E ih =>
  have := ih (putG L p.1 p.2);have := Yeo L p.1 p.2;rw [Yf3, List.length_cons]; omega
theorem YdA : ∀ {E L : GL β} {p : Int × β}, p ∈ Yaq L E -> p ∈ E \/ p ∈ L
 | [], _, _, h => .inr h
 | q :: E, L, p, h => by
  rcases YdA (E := E) h with h | h
  ·exact .inl (List.mem_cons_of_mem _ h)
  ·rcases putG_mem h with rfl | h
   ·exact .inl List.mem_cons_self
   ·exact .inr h
def YdL (E : GL β) : GL (Option β) := E.map fun p => (p.1, some p.2)
def Ydc (l : List Int) : GL (Option β) := l.map fun n => (n, none)
theorem lookE_find (E : GL β) (k : Int) : Yaa (YdL E) k = (Yaa E k).map some := by
 induction E with
 | nil => rfl
 | cons p E ih =>
  show Yaa ((p.1, some p.2) :: YdL E) k = _
  rw [Yah, Yah, ih]
  by_cases h : p.1 = k <;> simp [h]
theorem lookE_nk {E : GL β} (h : NkG E) : NkG (YdL E) := List.pairwise_map.2 h
theorem goneE_find (l : List Int) (k : Int) : Yaa (Ydc l : GL (Option β)) k = if k ∈ l then some none else none := by
 induction l with
 | nil => rfl
 | cons n l ih =>
  show Yaa ((n, none) :: Ydc l) k = _
  rw [Yah, ih]
  by_cases h : n = k
  ·subst h; simp
  ·have : ¬ k = n := fun e => h e.symm
   simp [h, this]
theorem goneE_nk {l : List Int} (h : l.Pairwise fun x y => x < y) : NkG (Ydc l : GL (Option β)) := List.pairwise_map.2 (h.imp fun h e => by dsimp only at e; rw [e] at h; exact absurd h (Int.lt_irrefl _))
def ofE (E : GL β) : GL (Option β) := Yaq [] (YdL E)
def xE (E : GL β) (gone : List Int) : GL (Option β) := Yaq (ofE E) (Ydc gone)
theorem Yc7 (E : GL β) : NkG (ofE E) := YaP List.Pairwise.nil
theorem xE_nk (E : GL β) (l : List Int) : NkG (xE E l) := YaP (Yc7 E)
theorem YdB {E : GL β} (h : NkG E) (k : Int) : Yaa (ofE E) k = (Yaa E k).map some := by
 unfold ofE;rw [Ybx (lookE_nk h), lookE_find];cases Yaa E k <;> rfl
theorem xE_find {E : GL β} (h : NkG E) {l : List Int} (hl : l.Pairwise fun x y => x < y) (k : Int) : Yaa (xE E l) k = if k ∈ l then some none else (Yaa E k).map some := by
 unfold xE;rw [Ybx (goneE_nk hl), goneE_find, YdB h]
 by_cases hk : k ∈ l <;> simp [hk]
def Ycb (T : GL (Option β)) : GL β := (YaG T).filterMap fun k => (Yaa T k).join.map fun v => (k, v)
def Yfk (T : GL (Option β)) : List Int := (YaG T).filter fun k => (Yaa T k).join.isNone
theorem vals_aux (T : GL (Option β)) : ∀ {l : List Int}, (l.Pairwise fun x y => x < y) -> RiK (l.filterMap fun k => (Yaa T k).join.map fun v => (k, v)) /\ ∀ k, Yaa (l.filterMap fun k => (Yaa T k).join.map fun v => (k, v)) k = if k ∈ l then (Yaa T k).join else none
 | [], _ => ⟨List.Pairwise.nil, fun _ => rfl⟩
 | n :: l, h => by
  obtain ⟨h1, h2⟩ := List.pairwise_cons.1 h;obtain ⟨i1, i2⟩ := vals_aux T h2
  cases hn : (Yaa T n).join with
  | none =>
   rw [List.filterMap_cons_none (by rw [hn]; rfl)];refine ⟨i1, fun k => ?_⟩;rw [i2]
   by_cases hk : k = n
   ·subst hk; simp [hn]
   ·simp [hk]
  | some v =>
   rw [List.filterMap_cons_some (by rw [hn]; rfl)];refine ⟨List.pairwise_cons.2 ⟨fun p hp => ?_, i1⟩, fun k => ?_⟩
   ·obtain ⟨m, hm, he⟩ := List.mem_filterMap.1 hp;obtain ⟨u, _, rfl⟩ := Option.map_eq_some_iff.1 he;exact h1 m hm
   ·rw [Yah, i2]
    by_cases hk : n = k
    ·subst hk; simp [hn]
    ·have : ¬ k = n := fun e => hk e.symm
     simp [hk, this]
theorem Yed {T : GL (Option β)} (h : NkG T) : RiK (Ycb T) := (vals_aux T (keysG_up h)).1
theorem Ydz {T : GL (Option β)} (h : NkG T) (k : Int) : Yaa (Ycb T) k = (Yaa T k).join := by
 unfold Ycb;rw [(vals_aux T (keysG_up h)).2 k]
 by_cases hk : k ∈ YaG T
 ·rw [if_pos hk]
 ·rw [if_neg hk];rw [Ydo] at hk
  cases hf : Yaa T k with
  | none => rfl
  | some v => rw [hf] at hk; simp at hk
theorem noneG_up {T : GL (Option β)} (h : NkG T) : (Yfk T).Pairwise fun x y => x < y := (keysG_up h).sublist List.filter_sublist
theorem noneG_mem {T : GL (Option β)} {k : Int} : k ∈ Yfk T ↔ Yaa T k = some none := by
 unfold Yfk;rw [List.mem_filter, Ydo]
 cases h : Yaa T k with
 | none => simp
 | some o => cases o <;> simp
variable [DecidableEq β]
def YcK (A B : GL (Option β)) (ids : List Int) : GL (Option β) := ids.foldl (fun L k => if (Yaa A k).join = (Yaa B k).join then L else putG L k (Yaa A k).join) []
def YdT (A B : GL (Option β)) (ids : List Int) (n : Nat) : GL (Option β) := YcK A B (ids.take n)
theorem YcY {A B : GL (Option β)} {ids : List Int} {n : Nat} (h : n < ids.length) : YdT A B ids (n + 1) = if (Yaa A ids[n]).join = (Yaa B ids[n]).join then YdT A B ids n else putG (YdT A B ids n) ids[n] (Yaa A ids[n]).join := by
 unfold YdT YcK;rw [List.take_add_one, ZgE h, Option.toList_some, List.foldl_append]; rfl
theorem fromTo_all (A B : GL (Option β)) (ids : List Int) : YdT A B ids ids.length = YcK A B ids := by unfold YdT; rw [List.take_length]
theorem YfF (A B : GL (Option β)) : ∀ (ids : List Int) (L : GL (Option β)), NkG L -> (∀ k, Yaa L k = none \/ (Yaa L k = some (Yaa A k).join /\ (Yaa A k).join ≠ (Yaa B k).join)) ->
 NkG (ids.foldl (fun L k => if (Yaa A k).join = (Yaa B k).join then L else putG L k (Yaa A k).join) L) /\
 ∀ k, Yaa (ids.foldl (fun L k => if (Yaa A k).join = (Yaa B k).join then L else putG L k (Yaa A k).join) L) k = if k ∈ ids /\ (Yaa A k).join ≠ (Yaa B k).join then some (Yaa A k).join else Yaa L k
 | [], L, h, _ => ⟨h, fun k => by simp⟩
 | n :: ids, L, h, hL => by
  rw [List.foldl_cons]
  by_cases hn : (Yaa A n).join = (Yaa B n).join
  ·rw [if_pos hn];obtain ⟨i1, i2⟩ := YfF A B ids L h hL;refine ⟨i1, fun k => ?_⟩;rw [i2]
   by_cases hk : k = n
   ·subst hk; simp [hn]
   ·simp [hk]
  ·rw [if_neg hn]
   obtain ⟨i1, i2⟩ := YfF A B ids (putG L n (Yaa A n).join) (Ydj h _ _) fun k => by
    rw [Ybg]
    by_cases hk : k = n
    ·subst hk; rw [if_pos rfl]; exact .inr ⟨rfl, hn⟩
    ·rw [if_neg hk]; exact hL k
   refine ⟨i1, fun k => ?_⟩;rw [i2, Ybg]
   by_cases hk : k = n
   ·subst hk; simp [hn]
   ·simp [hk]
theorem Ycj (A B : GL (Option β)) (ids : List Int) : NkG (YcK A B ids) := (YfF A B ids [] List.Pairwise.nil fun _ => .inl rfl).1
theorem fromE_find (A B : GL (Option β)) (ids : List Int) (k : Int) : Yaa (YcK A B ids) k = if k ∈ ids /\ (Yaa A k).join ≠ (Yaa B k).join then some (Yaa A k).join else none := (YfF A B ids [] List.Pairwise.nil fun _ => .inl rfl).2 k
theorem fromE_len (A B : GL (Option β)) : ∀ (ids : List Int), (YcK A B ids).length <= ids.length := by
 have : ∀ (ids : List Int) (L : GL (Option β)), (ids.foldl (fun L k => if (Yaa A k).join = (Yaa B k).join then L else putG L k (Yaa A k).join) L).length <= L.length + ids.length := by
  intro ids
  induction ids with
  | nil => exact fun L => ZnR _
  | cons n ids ih =>
   intro L;rw [List.foldl_cons, List.length_cons];split
   ·have := ih L; omega
   ·have := ih (putG L n (Yaa A n).join);have := Yeo L n (Yaa A n).join;omega
 intro ids;have h := this ids [];simpa [YcK] using h
end
theorem Ygf (id : Nat) (s : S) : s.killP (fun i => Nat.beq i id) = s.kill id := by
 cases s with
 | d x => rfl
 | own i => rfl
 | ptr i off => rfl
 | clo f caps => rfl
theorem killPE_one (id : Nat) (e : Env) : e.killP (fun i => Nat.beq i id) = e.kill id := by funext t; exact Ygf id (e t)
theorem YfC (id : Nat) (l : List S) : l.map (S.killP fun i => Nat.beq i id) = l.map (S.kill id) := List.map_congr_left fun s _ => Ygf id s
theorem killPOb_one (id : Nat) (o : Ob) : o.killP (fun i => Nat.beq i id) = o.kill id := by
 cases o with
 | row e n els => rfl
 | cells ss => show Ob.cells _ = Ob.cells _; rw [YfC]
 | cellsT e ss => show Ob.cellsT _ _ = Ob.cellsT _ _; rw [YfC]
 | map M => rfl
 | rowS e n els => show Ob.rowS _ _ _ = Ob.rowS _ _ _; rw [List.map_congr_left fun ss _ => YfC id ss]
 | bts l => rfl
 | raw p => rfl
 | mapS M => show Ob.mapS _ = Ob.mapS _; rw [List.map_congr_left fun p _ => by rw [Ygf id p.2]]
 | val ss => show Ob.val _ = Ob.val _; rw [YfC]
 | iter M d => rfl
theorem Ye8 (id : Nat) : ∀ (σ : Obs), Obs.killP (fun i => Nat.beq i id) σ = Obs.kill id σ
 | [] => rfl
 | p :: l => by show (p.1, _) :: Obs.killP _ l = _; rw [Ye8 id l, killPOb_one]; rfl
theorem killP_killP (c : Nat -> Bool) (s : S) : (s.killP c).killP c = s.killP c := by
 cases s with
 | d x => rfl
 | own i => cases h : c i <;> simp only [S.killP, h]
 | ptr i off => cases h : c i <;> simp only [S.killP, h]
 | clo f caps => cases h : Cap.anyP c caps <;> simp only [S.killP, h]
theorem killP_comm (a b : Nat -> Bool) (s : S) : (s.killP a).killP b = (s.killP b).killP a := by
 cases s with
 | d x => rfl
 | own k => cases h1 : a k <;> cases h2 : b k <;> simp only [S.killP, h1, h2]
 | ptr k off => cases h1 : a k <;> cases h2 : b k <;> simp only [S.killP, h1, h2]
 | clo f caps => cases h1 : Cap.anyP a caps <;> cases h2 : Cap.anyP b caps <;> simp only [S.killP, h1, h2]
theorem RepS.killP {F : Nat -> Prop} {ρ : Nat -> Value} {w : World} {x : Value} {s : S} (h : RepS F ρ w x s) (c : Nat -> Bool) : RepS F ρ w x (s.killP c) := h.over (fun _ h => h) (fun _ _ => rfl) fun _ _ => rfl
theorem R0.killPEnv {cx : Cx} {F : Nat -> Prop} {ρ : Nat -> Value} {e : Env} {σ : Obs} {a : Act} {w : World} (h : R0 cx F ρ e σ a w) (c : Nat -> Bool) : R0 cx F ρ (e.killP c) σ a w :=
 ⟨h.size, h.defers, h.lt, h.base, h.new, h.below, h.hB, fun t => (h.env t).killP c, h.obs, h.up, h.kown, h.fixed⟩
theorem Obs.killP_append (c : Nat -> Bool) : ∀ (a b : Obs), Obs.killP c (a ++ b) = Obs.killP c a ++ Obs.killP c b
 | [], _ => rfl
 | p :: a, b => by show (p.1, p.2.killP c) :: Obs.killP c (a ++ b) = _; rw [Obs.killP_append c a b]; rfl
def QG (dst : Nat) (chg : Nat -> Bool) (s0 : S) (obs : Obs) (e0 : Env) (σ : Obs) : Post := fun ex e' σ' => match ex with
 | .normal => e' = (e0.killP chg).put (some dst) s0 /\ σ' = obs ++ Obs.killP chg σ
 | _ => False
structure Fg where
 dst : Nat
 s0 : S
 obs : Obs
 chg : Nat -> Bool
def Yfn (Φ : List Fg) : Obs := Φ.flatMap fun f => f.obs
structure FgOk (cx : Cx) (Φ : List Fg) (σ : Obs) : Prop where
 udst : ∀ f ∈ Φ, ∀ g ∈ Φ, f.dst = g.dst -> f = g
 own : ∀ f ∈ Φ, f.s0.killP f.chg = .d .any /\ f.s0 ≠ .d .any
 other : ∀ f ∈ Φ, ∀ g ∈ Φ, g.dst ≠ f.dst -> g.s0.killP f.chg = g.s0 /\ ∀ p ∈ g.obs, f.chg p.1 = false
 fresh : ∀ f ∈ Φ, ∀ p ∈ σ, f.chg p.1 = false
 kill : ∀ f ∈ Φ, Obs.killP f.chg σ = σ
def FreshOpG (cx : Cx) (ops : Array Oper) (τ : Obs) (Φ : List Fg) (f : Fg) (o : Oper) (e : Env) : Prop :=
 o.dst = some f.dst /\ ∀ (e0 : Env) (σ : Obs), (∀ p ∈ τ, p ∈ σ) -> (∀ g ∈ Φ, (∃ t, t ∈ o.looksAt ops /\ (e t).killP g.chg ≠ e t) -> ∀ p ∈ g.obs, p ∈ σ) -> (∀ t, t ∈ o.looksAt ops -> e0 t = e t) -> (∀ p ∈ σ, f.chg p.1 = false) -> AOps cx ops [o] e0 σ (QG f.dst f.chg f.s0 f.obs e0 σ)
theorem FreshOpG.same {cx : Cx} {ops : Array Oper} {τ : Obs} {Φ : List Fg} {f : Fg} {o : Oper} {e e' : Env} (h : FreshOpG cx ops τ Φ f o e) (he : ∀ t, t ∈ o.looksAt ops -> e' t = e t) : FreshOpG cx ops τ Φ f o e' :=
 ⟨h.1, fun e0 σ hτ hΦ h0 hf => h.2 e0 σ hτ (fun g hg ⟨t, ht, hk⟩ => hΦ g hg ⟨t, ht, by rw [he t ht]; exact hk⟩) (fun t ht => (h0 t ht).trans (he t ht)) hf⟩
def notDstG (Φ : List Fg) (o : Oper) : Prop := ∀ f ∈ Φ, o.dst ≠ some f.dst
def YStep (cx : Cx) (ops : Array Oper) (σ : Obs) (Φ : List Fg) (o : Oper) (e : Env) (s : S) : Prop :=
 (GW ops o e true /\ ((∃ f ∈ Φ, FreshOpG cx ops σ Φ f o e /\ s = f.s0 /\ ∀ f' ∈ Φ, f'.dst ≠ f.dst -> Obs.killP f'.chg f.obs = f.obs \/ ∃ t, t ∈ o.looksAt ops /\ (e t).killP f'.chg ≠ e t) \/ (AOp cx.P cx.B ops o e σ s /\ notDstG Φ o /\ ∀ f ∈ Φ, s.killP f.chg = s \/ ∃ t, t ∈ o.looksAt ops /\ (e t).killP f.chg ≠ e t))) \/ (GW ops o e false /\ s = .d (.v undef) /\ notDstG Φ o)
theorem YStep.same {cx : Cx} {ops : Array Oper} {σ : Obs} {Φ : List Fg} {o : Oper} {e e' : Env} {s : S} (h : YStep cx ops σ Φ o e s) (he : ∀ t, t ∈ o.looksAt ops -> e' t = e t) : YStep cx ops σ Φ o e' s := by
 rcases h with ⟨h1, h2⟩ | ⟨h1, h2⟩
 ·exact .inl ⟨h1.same he, h2.imp (fun ⟨f, hf, h, h', h''⟩ => ⟨f, hf, h.same he, h', fun f' hf' hn => (h'' f' hf' hn).imp (fun h => h) fun ⟨t, ht, hk⟩ => ⟨t, ht, by rw [he t ht]; exact hk⟩⟩) fun h => ⟨h.1.same he, h.2.1, fun f hf => (h.2.2 f hf).imp (fun h => h) fun ⟨t, ht, hn⟩ => ⟨t, ht, by rw [he t ht]; exact hn⟩⟩⟩
 ·exact .inr ⟨h1.same he, h2⟩
def YRun (cx : Cx) (ops : Array Oper) (σ : Obs) (Φ : List Fg) : List Oper -> Env -> (Env -> Prop) -> Prop
 | [], e, Qe => (∀ f ∈ Φ, e f.dst = f.s0) /\ Qe e
 | o :: l, e, Qe => DstOk cx.N o /\ ∃ s, YStep cx ops σ Φ o e s /\ YRun cx ops σ Φ l (e.put o.dst s) Qe
def anyY (cx : Cx) (ops : Array Oper) (σ : Obs) (Φ : List Fg) (Qe : Env -> Prop) : Nat -> Array Bool -> Env -> Prop
 | 0, listed, e => Region.ready .any ops listed = [] /\ Qe e
 | fuel + 1, listed, e => (Region.ready .any ops listed = [] -> Qe e) /\
  ∀ i ∈ Region.ready .any ops listed, ∀ o, ops[i]? = some o -> ∃ s, YStep cx ops σ Φ o e s /\ anyY cx ops σ Φ Qe fuel (listed.setIfInBounds i true) (e.put o.dst s)
theorem anyY_first {cx : Cx} {ops : Array Oper} {σ : Obs} {Φ : List Fg} {Qe : Env -> Prop} {i : Nat} {oi : Oper} {s : S} (hi : ops[i]? = some oi) :
 ∀ (fuel : Nat) (listed : Array Bool) (e : Env),
  (∀ j oj, ops[j]? = some oj -> j ≠ i -> listed.getD j true = false -> (∀ e ∈ oj.after, Region.binds .any e = true -> e.on ≠ i) -> oi.apart ops oj = true) ->
  i ∈ Region.ready .any ops listed -> YStep cx ops σ Φ oi e s -> anyY cx ops σ Φ Qe fuel (listed.setIfInBounds i true) (e.put oi.dst s) -> anyY cx ops σ Φ Qe (fuel + 1) listed e := by
 intro fuel
 induction fuel with
 | zero =>
  intro listed e _ hr hy H;refine ⟨fun h => (by rw [h] at hr; cases hr), fun j hj o ho => ?_⟩
  by_cases hji : j = i
  ·subst hji;rw [hi] at ho; cases ho;exact ⟨s, hy, H⟩
  ·have := ready_mono hj hji;rw [H.1] at this
   cases this
 | succ fuel ih =>
  intro listed e hfree hr hy H;refine ⟨fun h => (by rw [h] at hr; cases hr), fun j hj oj hoj => ?_⟩
  by_cases hji : j = i
  ·subst hji;rw [hi] at hoj; cases hoj;exact ⟨s, hy, H⟩
  ·obtain ⟨sj, h1, h2⟩ := H.2 j (ready_mono hj hji) oj hoj;obtain ⟨hjun, oj', hoj', hall⟩ := mem_ready.1 hj;rw [hoj] at hoj'; cases hoj'
   have hnot : ∀ e ∈ oj.after, Region.binds .any e = true -> e.on ≠ i := fun e he hb heq => by
    have h1 := hall e he hb;have h0 := (mem_ready.1 hr).1;rw [heq] at h1
    rcases Nat.lt_or_ge i listed.size with h' | h'
    ·simp [h'] at h0 h1; rw [h0] at h1; cases h1
    ·simp [Array.getElem?_eq_none h'] at h1
   obtain ⟨a1, a2, a3⟩ := Oper.apart_spec (hfree j oj hoj hji hjun hnot);refine ⟨sj, h1.same (fun t ht => (YcE a1 t ht).symm), ?_⟩;refine ih (listed.setIfInBounds j true) (e.put oj.dst sj) (fun k ok hk hki hun hno => ?_) (ready_mono hr (Ne.symm hji)) (hy.same (YcE a3)) ?_
   ·refine hfree k ok hk hki ?_ hno
    by_cases hjk : j = k
    ·subst hjk; exact hjun
    ·rw [getD_set_ne true hjk] at hun; exact hun
   ·rw [Array.setIfInBounds_comm _ _ hji, <- Env.put_comm e oi.dst oj.dst s sj a2];exact h2
theorem anyY_lex {cx : Cx} {ops : Array Oper} {σ : Obs} {Φ : List Fg} {Qe : Env -> Prop} : ∀ (l : List Oper) (k : Nat) (listed : Array Bool) (e : Env), (∀ j, l[j]? = ops[k + j]?) ->
 Region.lexFrom .any ops l.length k listed = true -> YRun cx ops σ Φ l e Qe -> anyY cx ops σ Φ (fun e => (∀ f ∈ Φ, e f.dst = f.s0) /\ Qe e) l.length listed e
 | [], _, _, _, _, hB, h => ⟨by simpa [Region.lexFrom] using hB, h⟩
 | o :: l, k, listed, e, hl, hB, h => by
  have h0 : ops[k]? = some o := by simpa using (hl 0).symm
  simp only [List.length_cons, Region.lexFrom, ZbA] at hB;obtain ⟨⟨hr, hf⟩, hB'⟩ := hB;have hl' : ∀ j, l[j]? = ops[k + 1 + j]? := fun j => by have := hl (j + 1); simpa [Nat.add_assoc, Nat.add_comm 1 j] using this
  obtain ⟨_, s, hs, hK⟩ := h;exact anyY_first h0 l.length listed e (Region.free_spec h0 hf) (by simpa using hr) hs (anyY_lex l (k + 1) _ _ hl' hB' hK)
theorem YRun.dsts {cx : Cx} {ops : Array Oper} {σ : Obs} {Φ : List Fg} {Qe : Env -> Prop} : ∀ (l : List Oper) (e : Env), YRun cx ops σ Φ l e Qe -> ∀ o ∈ l, DstOk cx.N o
 | [], _, _, o, ho => by cases ho
 | x :: l, e, h, o, ho => by
  obtain ⟨h1, s, _, h2⟩ := h
  cases ho with
  | head => exact h1
  | tail _ ho => exact YRun.dsts l _ h2 o ho
def RelY (cx : Cx) (ops : Array Oper) (σ : Obs) (Φ : List Fg) (listed : Array Bool) (e : Env) (a : Act) (w : World) : Prop :=
 ∃ Δ : List Fg, (∀ g ∈ Δ, g ∈ Φ) /\ (∀ g ∈ Δ, ∃ i o, ops[i]? = some o /\ listed.getD i false = true /\ o.dst = some g.dst) /\ (∀ g ∈ Δ, e g.dst = g.s0) /\ (∀ f ∈ Φ, ¬ f ∈ Δ -> ∀ t, (e t).killP f.chg = e t) /\ (∀ f ∈ Φ, ¬ f ∈ Δ -> Obs.killP f.chg (Yfn Δ) = Yfn Δ) /\ R cx e (Yfn Δ ++ σ) a w
theorem wpAny_of_Y {cx : Cx} {ops : Array Oper} {σ : Obs} {Φ : List Fg} {Q : Post} (hd : ∀ o ∈ ops.toList, DstOk cx.N o) (hone : ∀ f ∈ Φ, ∀ (i j : Nat) (o o' : Oper), ops[i]? = some o -> ops[j]? = some o' -> o.dst = some f.dst -> o'.dst = some f.dst -> i = j) (ok : FgOk cx Φ σ) :
 ∀ (fuel : Nat) (listed : Array Bool) (e : Env) (a : Act) (w : World), RelY cx ops σ Φ listed e a w ->
 anyY cx ops σ Φ (fun e => (∀ f ∈ Φ, e f.dst = f.s0) /\ Q .normal e (Yfn Φ ++ σ)) fuel listed e -> wpAny cx.P .any ops (lift cx Q) fuel listed a w := by
 have fin : ∀ (listed : Array Bool) (e : Env) (a : Act) (w : World), RelY cx ops σ Φ listed e a w -> ((∀ f ∈ Φ, e f.dst = f.s0) /\ Q .normal e (Yfn Φ ++ σ)) -> lift cx Q .normal a w := by
  rintro listed e a w ⟨Δ, h1, _, h2, h3, _, h4⟩ ⟨h5, h6⟩
  have hall : ∀ f ∈ Φ, f ∈ Δ := fun f hf => Classical.byContradiction fun hn => by
   have h7 := h3 f hf hn f.dst;rw [h5 f hf, (ok.own f hf).1] at h7;exact (ok.own f hf).2 h7.symm
  refine ⟨e, _, h6, h4.sub fun p hp => ?_⟩
  rcases List.mem_append.1 hp with hp | hp
  ·obtain ⟨f, hf, hp⟩ := List.mem_flatMap.1 hp;exact List.mem_append.2 (.inl (List.mem_flatMap.2 ⟨f, hall f hf, hp⟩))
  ·exact List.mem_append.2 (.inr hp)
 have pure : ∀ {e : Env} {o : Oper} {s : S} {Δ : List Fg}, (∀ g ∈ Δ, g ∈ Φ) -> (∀ g ∈ Δ, e g.dst = g.s0) -> (∀ f ∈ Φ, ¬ f ∈ Δ -> ∀ t, (e t).killP f.chg = e t) -> notDstG Φ o -> (∀ f ∈ Φ, ¬ f ∈ Δ -> s.killP f.chg = s) ->
  (∀ g ∈ Δ, (e.put o.dst s) g.dst = g.s0) /\ (∀ f ∈ Φ, ¬ f ∈ Δ -> ∀ t, ((e.put o.dst s) t).killP f.chg = (e.put o.dst s) t) := by
  intro e o s Δ h1 h2 h3 hn hs
  cases ho : o.dst with
  | none => exact ⟨h2, h3⟩
  | some u =>
   refine ⟨fun g hg => ?_, fun f hf hfn t => ?_⟩
   ·rw [Env.put_other _ _ _ _ (fun he => hn g (h1 g hg) (by rw [ho, he]))]; exact h2 g hg
   ·by_cases hu : t = u
    ·subst hu; rw [Env.put_same]; exact hs f hf hfn
    ·rw [Env.put_other _ _ _ _ hu]; exact h3 f hf hfn t
 intro fuel
 induction fuel with
 | zero => exact fun listed e a w hr h => ⟨h.1, fin listed e a w hr h.2⟩
 | succ fuel ih =>
  intro listed e a w hr h;refine ⟨fun h0 => fin listed e a w hr (h.1 h0), fun i hi => ?_⟩;obtain ⟨hui, o, ho, _⟩ := mem_ready.1 hi;obtain ⟨s, hs, hkk⟩ := h.2 i hi o ho;have hdo : DstOk cx.N o := hd o (Array.mem_toList_iff.2 (Array.mem_of_getElem? ho));have hil : i < listed.size := Nat.lt_of_not_le fun hle => by simp [ZaD, Array.getElem?_eq_none hle] at hui
  obtain ⟨Δ, h1, hL, h2, h3, hKO, hR⟩ := hr
  have hL' : ∀ g ∈ Δ, ∃ j o, ops[j]? = some o /\ (listed.setIfInBounds i true).getD j false = true /\ o.dst = some g.dst := fun g hg => by
   obtain ⟨j, o', q1, q2, q3⟩ := hL g hg;exact ⟨j, o', q1, getD_set_true q2, q3⟩
  have hR' := hR;obtain ⟨F, ρ, hr⟩ := hR';unfold wpOp;simp only [ho]
  rcases hs with ⟨hg, ⟨f, hf, ⟨hdst, hop⟩, rfl, hobk⟩ | ⟨hop, hne, hsk⟩⟩ | ⟨hg, rfl, hne⟩
  ·rw [if_pos (hg.wanted (fun t _ => hr.env t))]
   have hfn : ¬ f ∈ Δ := fun hfd => by
    obtain ⟨j, o', q1, q2, q3⟩ := hL f hfd;have := hone f hf i j o o' ho q1 hdst q3;subst this;rw [Ya7 hil false true, hui] at q2;simp at q2
   have hgi : ∀ g ∈ Δ, g.dst ≠ f.dst := fun g hg he => hfn (by rw [<- ok.udst g (h1 g hg) f hf he]; exact hg)
   have hek : e.killP f.chg = e := funext fun t => h3 f hf hfn t
   have hok : Obs.killP f.chg (Yfn Δ ++ σ) = Yfn Δ ++ σ := by
    rw [Obs.killP_append, ok.kill f hf, hKO f hf hfn]
   have hfr : ∀ p ∈ Yfn Δ ++ σ, f.chg p.1 = false := fun p hp => by
    rcases List.mem_append.1 hp with hp | hp
    ·obtain ⟨g, hg, hp⟩ := List.mem_flatMap.1 hp;exact (ok.other f hf g (h1 g hg) (hgi g hg)).2 p hp
    ·exact ok.fresh f hf p hp
   have h4 := hop e (Yfn Δ ++ σ) (fun p hp => List.mem_append.2 (.inr hp)) (fun g hg ⟨t, _, hk⟩ p hp => List.mem_append.2 (.inl (List.mem_flatMap.2 ⟨g, Classical.byContradiction fun hn => hk (h3 g hg hn t), hp⟩))) (fun _ _ => rfl) hfr a w hR;unfold wpList at h4;have hw : Region.wanted o (yielded ops a.tmps) = true := hg.wanted (fun t _ => hr.env t);rw [if_pos hw] at h4;rw [hdst] at hkk;refine h4.imp (wp_to2 ?_ ?_) fun h => ⟨h.1, ?_⟩
   ·rintro a' w' ⟨e', σ', ⟨rfl, rfl⟩, hr'⟩;rw [hok, hek, <- List.append_assoc] at hr';refine ih _ _ _ _ ⟨f :: Δ, fun g hg => ?_, fun g hg => ?_, fun g hg => ?_, fun k hk hkn t => ?_, fun k hk hkn => ?_, hr'⟩ hkk
    ·rcases List.mem_cons.1 hg with rfl | hg
     ·exact hf
     ·exact h1 g hg
    ·rcases List.mem_cons.1 hg with rfl | hg
     ·exact ⟨i, o, ho, by simp [ZaD, hil], hdst⟩
     ·exact hL' g hg
    ·rcases List.mem_cons.1 hg with rfl | hg
     ·rw [Env.put_same]
     ·rw [Env.put_other _ _ _ _ (hgi g hg)];exact h2 g hg
    ·have hkf : f.dst ≠ k.dst := fun he => hkn (by rw [<- ok.udst f hf k hk he]; exact List.mem_cons_self)
     by_cases ht : t = f.dst
     ·subst ht; rw [Env.put_same]; exact (ok.other k hk f hf hkf).1
     ·rw [Env.put_other _ _ _ _ ht]; exact h3 k hk (fun hh => hkn (List.mem_cons_of_mem _ hh)) t
    ·have hkf : k.dst ≠ f.dst := fun he => hkn (by rw [ok.udst k hk f hf he]; exact List.mem_cons_self)
     have hkΔ : ¬ k ∈ Δ := fun hh => hkn (List.mem_cons_of_mem _ hh)
     show Obs.killP k.chg (f.obs ++ Yfn Δ) = f.obs ++ Yfn Δ
     rw [Obs.killP_append, hKO k hk hkΔ]
     rcases hobk k hk hkf with h7 | ⟨t, _, h7⟩
     ·rw [h7]
     ·exact absurd (h3 k hk hkΔ t) h7
   ·rintro ex a' w' hne ⟨e', σ', hq, _⟩;cases ex <;> first | exact absurd rfl hne | exact hq.elim
   ·obtain ⟨a', w', e', σ', hq, _⟩ := h.2;exact hq.elim
  ·rw [if_pos (hg.wanted (fun t _ => hr.env t))];refine .inl (wp_to ?_ (fun _ _ _ => False.elim) (hop F ρ w a hr.lt (fun t _ => hr.env t) (hr.obs.sub fun q hq => List.mem_append.2 (.inr hq))));rintro a' w' ⟨v, F', rfl, hv, hE⟩
   obtain ⟨p1, p2⟩ := pure (o := o) (s := s) h1 h2 h3 hne fun f hf hfn => by
    rcases hsk f hf with hh | ⟨t, _, hh⟩
    ·exact hh
    ·exact absurd (h3 f hf hfn t) hh
   exact ih _ _ _ _ ⟨Δ, h1, hL', p1, p2, hKO, F', ρ, hr.put hE hv hdo⟩ hkk
  ·rw [if_neg (by rw [hg.wanted (fun t _ => hr.env t)]; simp)];obtain ⟨p1, p2⟩ := pure (o := o) (s := .d (.v undef)) h1 h2 h3 hne (fun _ _ _ => rfl);exact ih _ _ _ _ ⟨Δ, h1, hL', p1, p2, hKO, F, ρ, hr.put (Ext.refl hr.lt) YcB hdo⟩ hkk
section
variable {cx : Cx} {ops : Array Oper} {σ : Obs} {Φ : List Fg} {e : Env} {Qe : Env -> Prop} {o : Oper} {l : List Oper}
def HoldsG (p : Fg -> Prop) : List Fg -> Prop
 | [] => True
 | f :: l => p f /\ HoldsG p l
theorem HoldsG.all {p : Fg -> Prop} : ∀ {l : List Fg}, HoldsG p l -> ∀ f ∈ l, p f
 | [], _, f, hf => by cases hf
 | g :: l, h, f, hf => by
  cases hf with
  | head => exact h.1
  | tail _ hf => exact HoldsG.all h.2 f hf
theorem YRun.nil (hd : HoldsG (fun f => e f.dst = f.s0) Φ) (h : Qe e) : YRun cx ops σ Φ [] e Qe := ⟨hd.all, h⟩
def neAllG (Φ : List Fg) (o : Oper) : Bool := Φ.all fun f => YgG o f.dst
theorem neAllG_spec (h : neAllG Φ o = true) : notDstG Φ o := fun f hf => Ybl (List.all_eq_true.1 h f hf)
theorem YRun.step {s : S} {t : Nat} (hg : GW ops o e true) (ht : o.dst = some t) (hd : Nat.blt t cx.N = true) (h : AOp cx.P cx.B ops o e σ s) (k : YRun cx ops σ Φ l (e.put (some t) s) Qe) (hne : neAllG Φ o = true := by rfl) (hs : HoldsG (fun f => s.killP f.chg = s \/ ∃ t, t ∈ o.looksAt ops /\ (e t).killP f.chg ≠ e t) Φ := by first | exact ⟨.inl rfl, trivial⟩ | exact ⟨.inl rfl, .inl rfl, trivial⟩ | exact ⟨.inr ⟨_, .head _, S.noConfusion⟩, trivial⟩ | exact ⟨.inr ⟨_, .head _, S.noConfusion⟩, .inl rfl, trivial⟩ | exact ⟨.inl rfl, .inr ⟨_, .head _, S.noConfusion⟩, trivial⟩) : YRun cx ops σ Φ (o :: l) e Qe :=
 ⟨by unfold DstOk; rw [ht]; exact hd, s, .inl ⟨hg, .inr ⟨h, neAllG_spec hne, hs.all⟩⟩, by rw [ht]; exact k⟩
theorem argsS_of {e : Env} : ∀ {xs : List Operand} {ds : List D}, ArgsOk e xs ds -> ArgsS e xs (ds.map S.d)
 | [], [], _ => trivial
 | x :: xs, d :: ds, h => by
  obtain ⟨⟨d0, h1, h2⟩, h3⟩ := h
  exact ⟨by rw [h1]; exact .d h2, argsS_of h3⟩
 | [], _ :: _, h => h.elim
 | _ :: _, [], h => h.elim
theorem YgB {e e0 : Env} : ∀ {xs : List Operand} {ds : List D}, (∀ x ∈ xs, e0.ev x = e.ev x) -> ArgsOk e xs ds -> ArgsOk e0 xs ds
 | [], [], _, _ => trivial
 | x :: xs, d :: ds, hx, h => by
  obtain ⟨⟨d0, h1, h2⟩, h3⟩ := h
  exact ⟨⟨d0, (hx x List.mem_cons_self).trans h1, h2⟩, YgB (fun y hy => hx y (List.mem_cons_of_mem _ hy)) h3⟩
 | [], _ :: _, _, h => h.elim
 | _ :: _, [], _, h => h.elim
theorem Yez {c : Nat -> Bool} : ∀ {σ : Obs}, (∀ p ∈ σ, c p.1 = true) -> Obs.allIds c σ = true
 | [], _ => rfl
 | p :: l, h => by
  show (c p.1 && Obs.allIds c l) = true
  rw [h p List.mem_cons_self, Yez fun q hq => h q (List.mem_cons_of_mem _ hq)]; rfl
theorem fresh_ids {id : Nat} : ∀ {σ : Obs}, (∀ p ∈ σ, Nat.beq p.1 id = false) -> Obs.fresh id σ = true
 | [], _ => rfl
 | p :: l, h => by
  show (!(Nat.beq p.1 id) && Obs.fresh id l) = true
  rw [h p List.mem_cons_self, fresh_ids fun q hq => h q (List.mem_cons_of_mem _ hq)]; rfl
theorem YRun.callS {g : FuncId} {xs : List Operand} {ts : Array TypeId} {ds : List D} {T M : List (Value × D)} (v i j : Nat) (f : Fg) (hf : f ∈ Φ) (hg : GW ops o e true) (hgn : o.guard = none) (ht : o.dst = some f.dst) (hd : Nat.blt f.dst cx.N = true)
 (ho : o.op = .call { callee := .value (.func g), args := xs.toArray, argTypes := ts }) (ha : ArgsOk e xs ds) (h : SCall cx.P g ds T M) (n1 : v ≠ i) (n2 : v ≠ j) (n3 : i ≠ j) (hob : f.obs = [(v, .val [.own i, .own j]), (i, .map T), (j, .map M)]) (hs : f.s0 = .own v) (hc : f.chg = fun n => Nat.beq n v || Nat.beq n i || Nat.beq n j)
 (k : YRun cx ops σ Φ l (e.put (some f.dst) f.s0) Qe) (h3 : ∀ n, cx.fixp n = false := by exact fun _ => rfl) (hob2 : HoldsG (fun f' => f'.dst ≠ f.dst -> Obs.killP f'.chg f.obs = f.obs \/ ∃ t, t ∈ o.looksAt ops /\ (e t).killP f'.chg ≠ e t) Φ := by (repeat' first | exact trivial | refine ⟨?_, ?_⟩) <;> first | exact fun h => absurd rfl h | exact fun _ => .inl rfl) : YRun cx ops σ Φ (o :: l) e Qe :=
 ⟨by unfold DstOk; rw [ht]; exact hd, _, .inl ⟨hg, .inl ⟨f, hf, ⟨ht, fun e0 σ _ _ he hfr => by
  have hev : ∀ x ∈ xs, e0.ev x = e.ev x := fun x hx => ev_same fun t hxt => he t (Ybo (by rw [ho, <- hxt]; simp [Op.operands, Call.operands, hx]))
  have hfr' : ∀ p ∈ σ, (Nat.beq p.1 v || Nat.beq p.1 i || Nat.beq p.1 j) = false := fun p hp => by have := hfr p hp; rw [hc] at this; exact this
  refine AOps.callXS hgn (by unfold DstOk; rw [ht]; exact hd) ho (argsS_of (YgB hev ha)) (h.toX v i j n1 n2 n3) trivial (Yez fun p hp => by rw [hfr' p hp]; rfl) ?_ (fun n _ => h3 n) (.nil ⟨by rw [ht, hs, hc], by rw [hob, hc]; rfl⟩);refine Yez fun p hp => Yez fun q hq => ?_
  have h4 := hfr' q hq;simp only [Bool.or_eq_false_iff] at h4
  have h5 : ∀ a b : Nat, Nat.beq a b = false -> (!(Nat.beq b a)) = true := fun a b h => by
   cases h6 : Nat.beq b a with
   | false => rfl
   | true => rw [Nat.eq_of_beq_eq_true h6] at h; simp at h
  simp only [List.mem_cons, List.not_mem_nil, or_false] at hp
  rcases hp with rfl | rfl | rfl
  ·exact h5 _ _ h4.1.1
  ·exact h5 _ _ h4.1.2
  ·exact h5 _ _ h4.2⟩, J, hob2.all⟩⟩, by rw [ht]; exact k⟩
theorem YRun.alloc {t : Nat} {z : Value} {zs : List Value} (id : Nat) (f : Fg) (hf : f ∈ Φ) (hg : GW ops o e true) (hgn : o.guard = none) (ht : o.dst = some f.dst) (hd : Nat.blt f.dst cx.N = true) (ho : o.op = .alloc t) (hz : (cx.P.info? t).bind (·.zero) = some z) (hzc : z.cells.toList = zs) (h1 : zs.all (·.oneCell') = true) (hob : f.obs = [(id, .cells ((zs.map D.v).map S.d))]) (hs : f.s0 = .ptr id 0) (hc : f.chg = fun i => Nat.beq i id)
 (k : YRun cx ops σ Φ l (e.put (some f.dst) f.s0) Qe) (hfx : cx.free id = true := by rfl) (hob2 : HoldsG (fun f' => f'.dst ≠ f.dst -> Obs.killP f'.chg f.obs = f.obs \/ ∃ t, t ∈ o.looksAt ops /\ (e t).killP f'.chg ≠ e t) Φ := by (repeat' first | exact trivial | refine ⟨?_, ?_⟩) <;> first | exact fun h => absurd rfl h | exact fun _ => .inl rfl) : YRun cx ops σ Φ (o :: l) e Qe :=
 ⟨by unfold DstOk; rw [ht]; exact hd, _, .inl ⟨hg, .inl ⟨f, hf, ⟨ht, fun e0 σ _ _ _ hfr => by
  have hfr' : Obs.fresh id σ = true := fresh_ids fun p hp => by have := hfr p hp; rw [hc] at this; exact this
  exact AOps.alloc id hgn ht hd ho hz hzc h1 hfr' (.nil ⟨by rw [hs, hc, killPE_one], by rw [hob, hc, Ye8]; rfl⟩) hfx⟩, rfl, hob2.all⟩⟩, by rw [ht]; exact k⟩
end
def Env.killAllG : List Fg -> Env -> Env
 | [], e => e
 | f :: l, e => Env.killAllG l (e.killP f.chg)
theorem Yet (c : Nat -> Bool) : ∀ (Φ : List Fg) (e : Env), (∀ t, (e t).killP c = e t) -> ∀ t, (Env.killAllG Φ e t).killP c = Env.killAllG Φ e t
 | [], _, h => h
 | f :: l, e, h => Yet c l (e.killP f.chg) fun t => by unfold Env.killP; rw [killP_comm, h t]
theorem Yfb : ∀ (Φ : List Fg) (e : Env), ∀ f ∈ Φ, ∀ t, (Env.killAllG Φ e t).killP f.chg = Env.killAllG Φ e t
 | g :: l, e, f, hf, t => by
  rcases List.mem_cons.1 hf with rfl | hf
  ·exact Yet f.chg l (e.killP f.chg) (fun t => killP_killP f.chg (e t)) t
  ·exact Yfb l (e.killP g.chg) f hf t
theorem R.killAllG {cx : Cx} {σ : Obs} {a : Act} {w : World} : ∀ (Φ : List Fg) {e : Env}, R cx e σ a w -> R cx (Env.killAllG Φ e) σ a w
 | [], _, h => h
 | f :: l, _, ⟨F, ρ, h⟩ => R.killAllG l ⟨F, ρ, h.killPEnv f.chg⟩
theorem AWP.drawGroups {cx : Cx} {rid : Nat} {l : List Oper} {e : Env} {σ : Obs} {Q : Post} (k : Nat) (Φ : List Fg) (ok : FgOk cx Φ σ) (hm : cx.P.follows .mixedOrders = true) (hB : Region.lexB .any (l.take k).toArray = true) (hC : Region.chainB l.toArray k = true) (hlk : (Φ.all fun f => (List.range (l.take k).length).all fun i => (List.range (l.take k).length).all fun j => Nat.beq i j || (((l.take k)[i]?).map fun o => YgG o f.dst).getD true || (((l.take k)[j]?).map fun o => YgG o f.dst).getD true) = true)
 (h : YRun cx (l.take k).toArray σ Φ (l.take k) (Env.killAllG Φ e) (fun e => AOps cx l.toArray (l.drop k) e (Yfn Φ ++ σ) Q)) : AWP cx (.region rid l.toArray true) e σ Q := by
 intro a w ⟨F, ρ, hr⟩;simp only [Region.lexB, ZbA] at hB;have hch := Chain.of hC;have hkl : k <= l.length := by simpa using hch.le
 have h1 := anyY_lex (l.take k) 0 (Array.replicate (l.take k).toArray.size false) (Env.killAllG Φ e) (by simp) (by simpa using hB.2) h
 have hone : ∀ f ∈ Φ, ∀ (i j : Nat) (o o' : Oper), (l.take k).toArray[i]? = some o -> (l.take k).toArray[j]? = some o' -> o.dst = some f.dst -> o'.dst = some f.dst -> i = j := fun f hf i j o o' hi hj ho ho' => by
  rw [List.getElem?_toArray] at hi hj;have h3 := List.all_eq_true.1 (List.all_eq_true.1 (List.all_eq_true.1 hlk f hf) i (List.mem_range.2 (ZgS.1 hi).1)) j (List.mem_range.2 (ZgS.1 hj).1);rw [hi, hj] at h3;simp only [Option.map_some, Option.getD_some, Bool.or_eq_true] at h3
  rcases h3 with (h3 | h3) | h3
  ·exact Nat.eq_of_beq_eq_true h3
  ·exact absurd ho (Ybl h3)
  ·exact absurd ho' (Ybl h3)
 have h2 := wpAny_of_Y (cx := cx) (ops := (l.take k).toArray) (Q := fun ex e σ => match ex with | .normal => AOps cx l.toArray (l.drop k) e σ Q | _ => False) (by simpa using YRun.dsts _ _ h) hone ok _ _ (Env.killAllG Φ e) a _
  ⟨[], fun g hg => (nomatch hg), fun g hg => (nomatch hg), fun g hg => (nomatch hg), fun f hf _ t => Yfb Φ e f hf t, fun f hf _ => rfl, R.killAllG Φ ⟨F, ρ, hr.drew⟩⟩ h1
 refine wp_region_any hm (wpAny_split hch (ops0 := (l.take k).toArray) (by simp; omega) (fun j hj => by simp [hj]) ?_ ?_ (l.take k).length _ _ _ _ _ (by simp; omega) (by simp) ?_ ?_ ?_ (by simp; omega) h2)
 ·rintro a w ⟨e, σ, h3, h4⟩;have := h3 a w h4;simpa using this
 ·rintro ex a w hne ⟨e, σ, h3, _⟩;cases ex <;> first | exact absurd rfl hne | exact h3.elim
 ·intro j hj d;have h5 : j < l.length := by omega
  have h6 : j < min k l.length := by omega
  simp [ZaD, h5, h6]
 ·intro j hj hj2;have : j < l.length := by simpa using hj2
  simp [ZaD, this]
 ·intro i o ho hi;have : i < l.length := by simpa using (ZaS.1 ho).1
  simp [ZaD, this] at hi
namespace Ty
theorem Ybr : Yac Tryz.prog 133 0 = some 0 := by kernel_rfl
theorem Ybq : Yac Tryz.prog 133 1 = some 1 := by kernel_rfl
theorem Ydf : Scal Tryz.prog 130 := .of (by kernel_rfl)
theorem Yde : Scal Tryz.prog 131 := .of (by kernel_rfl)
end Ty
abbrev TL := GL (Option Thg)
abbrev ML := GL (Option Int)
def encT (T : TL) : List (Value × D) := encG kI (fun p => ptD p.2) T
def encM (M : ML) : List (Value × D) := encG kI (fun p => pmD p.2) M
theorem mt_T : Tryz.prog.underlying 130 = some (.map 3 140) := by kernel_rfl
theorem mt_M : Tryz.prog.underlying 131 = some (.map 3 142) := by kernel_rfl
theorem zt_pT : (Tryz.prog.info? 140).bind (·.zero) = some (.pointer none) := by kernel_rfl
theorem zt_pM : (Tryz.prog.info? 142).bind (·.zero) = some (.pointer none) := by kernel_rfl
theorem zd_p (F : Nat -> Prop) (w : World) : Rep F w (.pointer none) (.v (.pointer none)) := .v _
def YaA {β : Type} (L : GL β) : Prop := ∀ p ∈ L, i64 p.1
theorem YaY {β : Type} {f : Int × β -> D} {L : GL β} (h : YaA L) : ∀ p ∈ encG kI f L, ∃ q, keyOf Tryz.prog 3 p.1 = some q := fun p hp => by
 unfold encG at hp;obtain ⟨t, ht, rfl⟩ := ZmM.1 hp;exact Ya3 (h t ht)
theorem mput_T {L : TL} (h : NkG L) (k : Int) (v : Option Thg) : MPut (encT L) (kI k) (ptD v) (encT (putG L k v)) := YgH (kv := kI) (dv := fun p => ptD p.2) Yb2 h k v
theorem mput_M {L : ML} (h : NkG L) (k : Int) (v : Option Int) : MPut (encM L) (kI k) (pmD v) (encM (putG L k v)) := YgH (kv := kI) (dv := fun p => pmD p.2) Yb2 h k v
theorem mget_T {L : TL} (h : NkG L) (k : Int) : MGet (encT L) (kI k) (.v (.pointer none)) (ptD (Yaa L k).join) := mgetG (kv := kI) (dv := fun p => ptD p.2) Yb2 h k _ _ (by cases Yaa L k <;> rfl)
theorem mget_M {L : ML} (h : NkG L) (k : Int) : MGet (encM L) (kI k) (.v (.pointer none)) (pmD (Yaa L k).join) := mgetG (kv := kI) (dv := fun p => pmD p.2) Yb2 h k _ _ (by cases Yaa L k <;> rfl)
theorem Ya2 {β : Type} {L E : GL β} (h : YaA L) (hE : YaA E) : YaA (Yaq L E) := fun p hp => (YdA hp).elim (hE p) (h p)
theorem YdF {β : Type} : YaA ([] : GL β) := fun p hp => by cases hp
theorem Yeu {β : Type} {E : GL β} (h : YaA E) (n : Nat) : YaA (E.take n) := fun p hp => h p (List.mem_of_mem_take hp)
abbrev tE (l : List Thg) : TL := YdL (idxL l)
abbrev mE (l : List Mvd) : ML := YdL (mvL l)
theorem tE_len (l : List Thg) : (tE l).length = l.length := by simp [YdL, idxL]
theorem mE_len (l : List Mvd) : (mE l).length = l.length := by simp [YdL, mvL]
theorem tE_keys {l : List Thg} (h : ∀ t ∈ l, ThgOk t) : YaA (tE l) := fun p hp => by
 simp only [tE, YdL, idxL, List.map_map, ZmM] at hp;obtain ⟨t, ht, rfl⟩ := hp;exact (h t ht).id
theorem mE_keys {l : List Mvd} (h : ∀ m ∈ l, i64 m.src /\ i64 m.dst) : YaA (mE l) := fun p hp => by
 simp only [mE, YdL, mvL, List.map_map, ZmM] at hp;obtain ⟨t, ht, rfl⟩ := hp;exact (h t ht).1
theorem goneE_keys {β : Type} {l : List Int} (h : ∀ n ∈ l, i64 n) : YaA (Ydc l : GL (Option β)) := fun p hp => by
 simp only [Ydc, ZmM] at hp;obtain ⟨t, ht, rfl⟩ := hp;exact h t ht
theorem tE_next {L : TL} {l : List Thg} {k : Nat} (h : k < l.length) : Yaq L ((tE l).take (k + 1)) = putG (Yaq L ((tE l).take k)) l[k].id (some l[k]) := by
 rw [Yd1 (by rw [tE_len]; exact h)];simp [tE, YdL, idxL]
theorem mE_next {L : ML} {l : List Mvd} {k : Nat} (h : k < l.length) : Yaq L ((mE l).take (k + 1)) = putG (Yaq L ((mE l).take k)) l[k].src (some l[k].dst) := by
 rw [Yd1 (by rw [mE_len]; exact h)];simp [mE, YdL, mvL]
theorem gE_next {β : Type} {L : GL (Option β)} {l : List Int} {k : Nat} (h : k < l.length) : Yaq L ((Ydc l).take (k + 1)) = putG (Yaq L ((Ydc l).take k)) l[k] none := by
 rw [Yd1 (by simpa [Ydc] using h)];simp [Ydc]
theorem tE_all (l : List Thg) : (tE l).take l.length = tE l := List.take_of_length_le (Nat.le_of_eq (tE_len l))
theorem mE_all (l : List Mvd) : (mE l).take l.length = mE l := List.take_of_length_le (Nat.le_of_eq (mE_len l))
theorem gE_all {β : Type} (l : List Int) : (Ydc l : GL (Option β)).take l.length = Ydc l := List.take_of_length_le (by simp [Ydc])
def LimX (x : Chg) : Prop := x.put.length <= 300 /\ x.drop.length <= 300 /\ x.add.length <= 300 /\ x.back.length <= 300
theorem in4 {σ : Obs} {a b c d : Nat × Ob} (h1 : a ∈ σ) (h2 : b ∈ σ) (h3 : c ∈ σ) (h4 : d ∈ σ) : ∀ p ∈ [a, b, c, d], p ∈ σ := fun p hp => by
 simp only [List.mem_cons, List.not_mem_nil, or_false] at hp
 rcases hp with rfl | rfl | rfl | rfl <;> assumption
theorem YaX {σ σ' : Obs} (h : σ = σ') : ∀ p ∈ σ', p ∈ σ := h ▸ fun _ h => h
theorem c_put (l : List Thg) (m : List Mvd) (T : TL) (M : ML) (hll : l.length <= 1048576) (hml : m.length <= 1048576) (hl : ∀ t ∈ l, ThgOk t) (hp : ∀ t ∈ l, t.parts.length <= 1048576) (hm : ∀ x ∈ m, i64 x.src /\ i64 x.dst) (hT : NkG T) (hM : NkG M) (kT : YaA T) (kM : YaA M) : XCall Tryz.prog 113 [.own 100, .d (.sl (l.map Thg.ds)), .d (.sl (m.map Mvd.ds))] [(100, .val [.own 91, .own 92]), (91, .map (encT T)), (92, .map (encM M))] [(100, .val [.own 91, .own 92]), (91, .map (encT (Yaq T (tE l)))), (92, .map (encM (Yaq M (mE m))))] (fun i => Nat.ble 1000 i) (.tup []) := by
 refine xcall_of (n := 36) (ds' := []) Tryz.func113 J (by kernel_rfl) J [] J J ?_;intro B w0 F0 fr ρ0;refine .sr (.boxVal 1001 J J J J J (.head _) J ?_);refine .nil ?_;refine .seq (.sr (.mA ?_));refine .sA (.lenSl J et_22.ht J) ?_;refine .mN ?_;refine .block (.loop (G := Nat) (fun k => Env.of [(13, .iv k), (11, .d (.sl (l.map Thg.ds))), (12, .iv (l.map Thg.ds).length), (3, .ptr 1001 0), (2, .d (.sl (m.map Mvd.ds)))]) (fun k => [(1001, .cells [.own 91, .own 92]), (100, .val [.own 91, .own 92]), (91, .map (encT (Yaq T ((tE l).take k)))), (92, .map (encM M))]) (fun k => k <= l.length) (fun k => l.length - k) 0 (ZnZ _) (Sub.less ⟨U, U, U, U, U, trivial⟩ (YaX J)) ?_);intro k hk;refine .sr (.sA (.lss J J J) (.nil ?_));refine .seq (.cT J (fun h1 => ?_) fun h1 => ?_)
 ·rw [ZlM] at h1;have hlt : k < l.length := by omega
  have hbk := hl _ (ZgM hlt);have hpk := hp _ (ZgM hlt);have HN := tE_next (L := T) hlt;refine .skip (.seq (.block (.sr (.sA (.indexAddr J et_22 J J k J (YaU hlt) J) ?_))));refine .sA (.loadAgg J Ybh J J) ?_;refine .alloc 1101 J J J J Ycs J J J ?_;refine .st J J J Ycc J (.head _) J J J (ZnB J) ?_;refine .freezeCells 7 (ds := l[k].ds) J (.head _) (.nil ?_);refine .sr (.sA (.loadAgg J Ybh J J) ?_);refine .sA (.call J (.cons (.rfl' J) .nil) (c_own l[k] hpk)) ?_;refine .alloc 1102 J J J J Ycs J J J ?_;refine .st J J J Ycc J (.head _) J J J (ZnB J) ?_;refine .freezeCells 8 (ds := l[k].ds) J (.head _) (.nil ?_);refine .region (.sA (.fieldAddrP J Ybr J) ?_);refine .sA (.loadP J Ydf J (.head _) J) ?_;refine .fl YaW sc_3 ?_;refine .eff J J (.mapUpdateX (key := kI l[k].id) (d := ptD (some l[k])) J J mt_T YaC J (.tail _ (.tail _ (.head _))) J (DExact.v _) J (Ya3 hbk.id) (YaY (Ya2 kT (Yeu (tE_keys hl) k))) (mput_T (YaP hT) _ _)) (.nil ?_);refine .region (.sA (.add64 J J J) ?_);refine .mN ?_;refine ⟨k + 1, (by omega), (by dsimp only; omega), Sub.less ⟨U, U, U, U, U, trivial⟩ (YaX (by rw [<- HN]; rfl))⟩
 rw [ZlM] at h1;obtain rfl : k = l.length := by omega
 rw [tE_all];refine .exit (.sr (.mA ?_));refine .sA (.lenSl J et_23.ht J) ?_;refine .mN ?_;refine .block (.loop (G := Nat) (fun j => Env.of [(26, .iv j), (24, .d (.sl (m.map Mvd.ds))), (25, .iv (m.map Mvd.ds).length), (3, .ptr 1001 0)]) (fun j => [(1001, .cells [.own 91, .own 92]), (100, .val [.own 91, .own 92]), (91, .map (encT (Yaq T (tE l)))), (92, .map (encM (Yaq M ((mE m).take j))))]) (fun j => j <= m.length) (fun j => m.length - j) 0 (ZnZ _) (Sub.less ⟨U, U, U, U, trivial⟩ (YaX J)) ?_);intro j hj;refine .sr (.sA (.lss J J J) (.nil ?_));refine .seq (.cT J (fun h2 => ?_) fun h2 => ?_)
 ·rw [ZlM] at h2;have hjt : j < m.length := by omega
  have hbj := hm _ (ZgM hjt);have HJ := mE_next (L := M) hjt;refine .skip (.seq (.block (.sr (.sA (.indexAddr J et_23 J J j J (YaU hjt) J) ?_))));refine .sA (.loadAgg J ag_74 J J) ?_;refine .alloc 1103 J J J J zt_74 J J J ?_;refine .st J J J sz_74 J (.head _) J J J (ZnB J) ?_;refine .freezeCells 10 (ds := m[j].ds) J (.head _) (.nil ?_);refine .region (.sA (.fieldAddrP J Ybq J) ?_);refine .sA (.loadP J Yde J (.head _) J) ?_;refine .fl Yb4 sc_3 ?_;refine .sA (.fieldAddr J Ygn J) ?_;refine .eff J J (.mapUpdateX (key := kI m[j].src) (d := pmD (some m[j].dst)) J J mt_M YaC J (.tail _ (.tail _ (.tail _ (.head _)))) J (DExact.v _) J (Ya3 hbj.1) (YaY (Ya2 kM (Yeu (mE_keys hm) j))) (mput_M (YaP hM) _ _)) (.nil ?_);refine .region (.sA (.add64 J J J) ?_);refine .mN ?_;refine ⟨j + 1, (by dsimp only; omega), (by dsimp only; omega), Sub.less ⟨U, U, U, U, trivial⟩ (YaX (by rw [<- HJ]; rfl))⟩
 rw [ZlM] at h2;obtain rfl : j = m.length := by omega
 rw [mE_all];refine .exit ?_;refine ⟨trivial, ⟨YbF (.tail _ (.head _)) ?_, YbF (.tail _ (.tail _ (.head _))) ?_, YbF (.tail _ (.tail _ (.tail _ (.head _)))) ?_, trivial⟩⟩
 all_goals (rfl)
theorem c_ofC (c : Ctl) (hlc : Lim c) (hc : CtlOk c) (hp : ∀ t ∈ c.things, t.parts.length <= 1048576) : SCall Tryz.prog 61 [.agg c.ds] (encT (ofE (idxL c.things))) (encM (ofE (mvL c.moved))) := by
 refine scall_of (n := 12) (b := 2) (t := 133) Tryz.func61 J (by kernel_rfl) J J Ycp J ?_;intro B w0 F0 fr;refine .sr (.sA (.box J J J) ?_);refine .alloc 101 J J J J Yec J J J (.nil ?_);refine .sr (.callXS J J J ArgsS.nil (c_new.toX 99 91 92 (by decide) (by decide) (by decide)) trivial J J (fun _ _ => J) ?_);refine .alloc 102 J J J J Yec J J J ?_;refine .eff J J (.storeVal (ss' := [.own 91, .own 92]) J J Yee J (.head _) J (.tail _ (.head _)) J (ZnR 2)) (.nil ?_);refine .sr (.loadVal 100 J J J J Ycp J (.head _) (ZnR 2) J ?_);refine .fl Ydr YdK ?_;refine .fl Yd7 Yei ?_
 -- writes 100 91 92
 refine .callX J J J (.cons U (.cons U (.cons U .nil))) (c_put c.things c.moved [] [] (ZnT hlc.1 (by decide)) (ZnT hlc.2 (by decide)) hc.things hp hc.moved List.Pairwise.nil List.Pairwise.nil YdF YdF) ⟨(.head _), (.tail _ (.tail _ (.tail _ (.head _)))), (.tail _ (.tail _ (.tail _ (.tail _ (.head _))))), trivial⟩ J J (fun _ h => J) ?_;refine .nil ?_;refine .sr (.loadVal 103 J J J J Ycp J (.tail _ (.tail _ (.tail _ (.head _)))) (ZnR 2) J ?_);refine .eff J J (.storeVal (ss' := [.own 91, .own 92]) J J Yee J (.tail _ (.tail _ (.tail _ (.tail _ (.tail _ (.tail _ (.head _))))))) J (.head _) J (ZnR 2)) (.nil ?_);refine .ret ?_;exact ⟨101, 91, 92, J, (.tail _ (.tail _ (.tail _ (.tail _ (.tail _ (.tail _ (.head _))))))), (.tail _ (.tail _ (.head _))), (.tail _ (.tail _ (.tail _ (.head _)))), by decide⟩
theorem c_ofX (x : Chg) (hlx : LimX x) (hx : ChgOk x) (hp : ∀ t ∈ x.put, t.parts.length <= 1048576) : SCall Tryz.prog 62 [.agg x.ds] (encT (xE (idxL x.put) x.drop)) (encM (xE (mvL x.add) x.back)) := by
 refine scall_of (n := 38) (b := 2) (t := 133) Tryz.func62 J (by kernel_rfl) J J Ycp J ?_;intro B w0 F0 fr;obtain ⟨hl1, hl2, hl3, hl4⟩ := hlx;refine .sr (.sA (.box J J J) ?_);refine .alloc 101 J J J J Yec J J J (.nil ?_);refine .sr (.callXS J J J ArgsS.nil (c_new.toX 99 91 92 (by decide) (by decide) (by decide)) trivial J J (fun _ _ => J) ?_);refine .alloc 102 J J J J Yec J J J ?_;refine .eff J J (.storeVal (ss' := [.own 91, .own 92]) J J Yee J (.head _) J (.tail _ (.head _)) J (ZnR 2)) (.nil ?_);refine .sr (.loadVal 100 J J J J Ycp J (.head _) (ZnR 2) J ?_);refine .fl Ycw YdK ?_;refine .fl Ydq Yei ?_
 -- writes 100 91 92
 refine .callX J J J (.cons U (.cons U (.cons U .nil))) (c_put x.put x.add [] [] (ZnT hl1 (by decide)) (ZnT hl3 (by decide)) hx.put hp hx.add List.Pairwise.nil List.Pairwise.nil YdF YdF) ⟨(.head _), (.tail _ (.tail _ (.tail _ (.head _)))), (.tail _ (.tail _ (.tail _ (.tail _ (.head _))))), trivial⟩ J J (fun _ h => J) ?_;refine .nil ?_;refine .seq (.sr (.fl Yd6 Ybt ?_));refine .sA (.lenSl J et_34.ht J) ?_;refine .mN ?_;refine .block (.loop (G := Nat) (fun k => Env.of [(18, .iv k), (16, .d (.sl (x.drop.map intD))), (17, .iv (x.drop.map intD).length), (1, .d (.fp x.ds)), (2, .ptr 101 0), (3, .ptr 102 0)]) (fun k => [(102, .cells [.own 91, .own 92]), (101, .cells [.d (.v (.map none)), .d (.v (.map none))]), (91, .map (encT (Yaq (ofE (idxL x.put)) ((Ydc x.drop).take k)))), (92, .map (encM (ofE (mvL x.add))))]) (fun k => k <= x.drop.length) (fun k => x.drop.length - k) 0 (ZnZ _) (Sub.less ⟨U, U, U, U, U, U, trivial⟩ (in4 (.tail _ (.tail _ (.tail _ (.head _)))) (.tail _ (.tail _ (.tail _ (.tail _ (.tail _ (.head _)))))) (.tail _ (.head _)) (.tail _ (.tail _ (.head _))))) ?_);intro k hk;refine .sr (.sA (.lss J J J) (.nil ?_));refine .seq (.cT J (fun h1 => ?_) fun h1 => ?_)
 ·rw [ZlM] at h1;have hlt : k < x.drop.length := by omega
  have hbk := hx.drop _ (ZgM hlt);have HN := gE_next (L := (ofE (idxL x.put))) hlt;refine .skip (.seq (.block (.sr (.sA (.indexAddr J et_34 J J k J (YaU hlt) J) ?_))));refine .sA (.load J sc_3 J) ?_;refine .aN ?_;refine .region (.sA (.fieldAddrP J Ybr J) ?_);refine .sA (.loadP J Ydf J (.head _) J) ?_;refine .mA ?_;refine .eff J J (.mapUpdateX (key := kI x.drop[k]) (d := ptD none) J J mt_T YaC J (.tail _ (.tail _ (.head _))) J (DExact.v _) J (Ya3 hbk) (YaY (Ya2 (Ya2 YdF (tE_keys hx.put)) (Yeu (goneE_keys hx.drop) k))) (mput_T (YaP (Yc7 _)) _ _)) (.nil ?_);refine .region (.sA (.add64 J J J) ?_);refine .mN ?_;refine ⟨k + 1, (by omega), (by dsimp only; omega), Sub.less ⟨U, U, U, U, U, U, trivial⟩ (YaX (by rw [<- HN]; rfl))⟩
 rw [ZlM] at h1;obtain rfl : k = x.drop.length := by omega
 rw [gE_all];refine .exit (.seq (.sr (.sA (.fieldAddr J Yd5 J) ?_)));refine .sA (.load J Ybt J) (.sA (.lenSl J et_34.ht J) ?_);refine .mN ?_;refine .block (.loop (G := Nat) (fun j => Env.of [(29, .iv j), (27, .d (.sl (x.back.map intD))), (28, .iv (x.back.map intD).length), (2, .ptr 101 0), (3, .ptr 102 0)]) (fun j => [(102, .cells [.own 91, .own 92]), (101, .cells [.d (.v (.map none)), .d (.v (.map none))]), (91, .map (encT (xE (idxL x.put) x.drop))), (92, .map (encM (Yaq (ofE (mvL x.add)) ((Ydc x.back).take j))))]) (fun j => j <= x.back.length) (fun j => x.back.length - j) 0 (ZnZ _) (Sub.less ⟨U, U, U, U, U, trivial⟩ (YaX J)) ?_);intro j hj;refine .sr (.sA (.lss J J J) (.nil ?_));refine .seq (.cT J (fun h2 => ?_) fun h2 => ?_)
 ·rw [ZlM] at h2;have hjt : j < x.back.length := by omega
  have hbj := hx.back _ (ZgM hjt);have HJ := gE_next (L := (ofE (mvL x.add))) hjt;refine .skip (.seq (.block (.sr (.sA (.indexAddr J et_34 J J j J (YaU hjt) J) ?_))));refine .sA (.load J sc_3 J) ?_;refine .aN ?_;refine .region (.sA (.fieldAddrP J Ybq J) ?_);refine .sA (.loadP J Yde J (.head _) J) ?_;refine .mA ?_;refine .eff J J (.mapUpdateX (key := kI x.back[j]) (d := pmD none) J J mt_M YaC J (.tail _ (.tail _ (.tail _ (.head _)))) J (DExact.v _) J (Ya3 hbj) (YaY (Ya2 (Ya2 YdF (mE_keys hx.add)) (Yeu (goneE_keys hx.back) j))) (mput_M (YaP (Yc7 _)) _ _)) (.nil ?_);refine .region (.sA (.add64 J J J) ?_);refine .mN ?_;refine ⟨j + 1, (by dsimp only; omega), (by dsimp only; omega), Sub.less ⟨U, U, U, U, U, trivial⟩ (YaX (by rw [<- HJ]; rfl))⟩
 rw [ZlM] at h2;obtain rfl : j = x.back.length := by omega
 rw [gE_all];refine .exit (.sr (.loadVal 103 J J J J Ycp J (.head _) (ZnR 2) J ?_));refine .eff J J (.storeVal (ss' := [.own 91, .own 92]) J J Yee J (.tail _ (.tail _ (.head _))) J (.head _) J (ZnR 2)) (.nil ?_);refine .ret ?_;exact ⟨101, 91, 92, J, (.tail _ (.tail _ (.head _))), (.tail _ (.tail _ (.tail _ (.head _)))), (.tail _ (.tail _ (.tail _ (.tail _ (.head _))))), by decide⟩
open Go.Maps Go.Sort Go.Shelf
def kInv : Value -> Int
 | .int _ a => a
 | _ => 0
theorem rep_owns {β : Type} {F : Nat -> Prop} {w : World} {x : Value} {f : Int × β -> D} {L : GL β} (h : Rep F w x (.fm (encG kI f L))) (hN : NkG L) (hk : YaA L) (hl : L.length <= 1048576) :
 ∃ b, x = .map (some b) /\ ∃ D0 : DataW Unit, w.ownsMap Tryz.prog 3 (fun _ => some (.nil, [])) b L.length D0 /\ (intKeys D0).Perm (L.map (·.1)) /\ Maps.size D0 = L.length := by
 obtain ⟨M0, hpm, b, clock, es, rfl, hF, hh, hMC, hall⟩ := rep_fmC h;have hlen : M0.length = L.length := by rw [hpm.length_eq]; simp [encG]
 have hsz := hMC.size
 have hkey : es.toList.map (·.key) = M0.map (·.1) := by
  refine List.ext_getElem (by simp; omega) fun i h1 h2 => ?_
  simp only [ZlM, ZaL] at h1 h2;simp only [ZgP, Array.getElem_toList];exact (hall i h1 h2).1
 have hperm : (es.toList.map (·.key)).Perm (L.map fun p => kI p.1) := by
  rw [hkey];refine (hpm.map (·.1)).trans ?_;unfold encG;rw [List.map_map];exact List.Perm.refl _
 have hmem : ∀ e ∈ es.toList, ∃ n, e.key = kI n /\ i64 n := fun e he => by
  have h1 : e.key ∈ L.map fun p => kI p.1 := hperm.mem_iff.1 (ZmM.2 ⟨e, he, rfl⟩)
  obtain ⟨p, hp, h2⟩ := ZmM.1 h1;exact ⟨p.1, h2.symm, hk p hp⟩
 have hrd : ∀ e ∈ es.toList, ∃ n, e.key = kI n /\ WideElems.rd Tryz.prog 3 (fun _ => some ((.nil, []) : DataW Unit × List MemPlace)) e = some (.int .i64 n, .nil) := fun e he => by
  obtain ⟨n, h1, h2⟩ := hmem e he;refine ⟨n, h1, ?_⟩;unfold WideElems.rd;rw [h1];show (keyOf Tryz.prog 3 (.int .i64 n)).bind _ = _
  rw [Maps.keyOf_int_mk Tryz.underlying3 (wf64 h2)];rfl
 refine ⟨b, J, _, ⟨es, clock, hh, ⟨by unfold maxLen; omega, ⟨hMC.old, hMC.born, ?_⟩, fun e he => ?_⟩, by omega, J⟩, ?_, ?_⟩
 ·refine hperm.nodup_iff.2 ?_;exact List.pairwise_map.2 (hN.imp fun h e => h (Yb2 e))
 ·obtain ⟨n, _, h2⟩ := hrd e he;exact ⟨_, h2⟩
 ·show (((es.toList.map (WideElems.rg Tryz.prog 3 (fun _ => some ((.nil, []) : DataW Unit × List MemPlace)))).foldr DataW.insert []).map fun p => Go.intOf p.1).Perm _
  have hG0 : ∀ e ∈ es.toList, ∃ n, e.key = kI n /\ WideElems.rg Tryz.prog 3 (fun _ => some ((.nil, []) : DataW Unit × List MemPlace)) e = (.int .i64 n, .nil) := fun e he => by
   obtain ⟨n, h1, h2⟩ := hrd e he;exact ⟨n, h1, by unfold WideElems.rg; rw [h2]; exact Option.getD_some⟩
  generalize WideElems.rg Tryz.prog 3 (fun _ => some ((.nil, []) : DataW Unit × List MemPlace)) = G at hG0;refine ((WideShapes.sorted_perm _).map _).trans ?_;rw [List.map_map]
  have h1 : ∀ e ∈ es.toList, ((fun p : Lit × DataW Unit => Go.intOf p.1) ∘ G) e = (kInv ∘ fun x : MapEntry => x.key) e := fun e he => by
   obtain ⟨n, h1, h2⟩ := hG0 e he;show Go.intOf (G e).1 = kInv e.key
   rw [h2, h1]; rfl
  rw [List.map_congr_left h1, <- List.map_map];refine (hperm.map kInv).trans ?_;rw [List.map_map];exact List.Perm.refl _
 ·show ((es.toList.map (WideElems.rg Tryz.prog 3 (fun _ => some ((.nil, []) : DataW Unit × List MemPlace)))).foldr DataW.insert []).length = _
  rw [length_sorted, ZlM, ZaL];omega
theorem sortsI (m : Nat) : AnyZI.SortsIn Tryz.prog Tryz.sortedI_ren Fence.wide m :=
 ⟨fun blk off cap ss W hH hblk hsz => callsIn_wide.2 (AnyM.slices_Sort_int Tryz.sortMI blk off cap ss W hH hblk hsz),
  fun p cap W => callsIn_wide.2 (AnyM.slices_Sort_int_none Tryz.sortMI p cap W)⟩
theorem keysT_calls {H : Type} (b nn : Nat) (D0 : DataW H) (R : Value -> Option (DataW H × List MemPlace)) (w : World) (hown : w.ownsMap Tryz.prog 3 R b nn D0) (hmax : Maps.size D0 <= maxLen) (hbytes : Maps.size D0 * 8 <= 140737488355328) :
 Calls Tryz.prog 66 #[.map (some b)] w fun e w' => ∃ (v : Value) (ss : List Int), e = .returned v /\ ss.Perm (intKeys D0) /\
  w'.ownsRow w.heap.size 3 1 v ss.length ((ss.mergeSort (fun x y => decide (x <= y))).map encZ) /\ (v = .slice none 0 0 ↔ ss = []) /\ Below w.heap.size w w' := by
 refine (callsIn_wide (n := 6)).1 ?_;have hbl := hown.lt
 have hseq : SeqGives Fence.wide 2 Tryz.prog 174 #[.pointer (some ⟨w.heap.size, 0, none⟩)] encZ (fun ss => ss.Perm (intKeys D0)) (Maps.size D0) (w.alloc (.cells #[.map (some b)] 130)) :=
  AnyZI.keys_gives (ρ := Tryz.keysT_ren) { Tryz.keysT with } Fence.wide _ trivial rfl (by omega) w.heap.size b nn D0 _ (by simp) (by simp) (by
   obtain ⟨es, clock, hb, Ft, hs, hD⟩ := hown
   exact ⟨es, clock, (Below.heap_alloc _ _ b hbl).trans hb, Ft, hs, hD⟩)
 have cK : ∀ mb W, CallsIn Fence.wide 5 Tryz.prog 120 #[.map mb] W fun e w' => e = .returned (.func (.func 174) #[] #[.pointer (some ⟨W.heap.size, 0, none⟩)]) /\ w' = W.alloc (.cells #[.map mb] 130) := fun mb W => AnyZI.keys_in Tryz.keysT Fence.wide 5 trivial rfl mb W
 have cS := AnyZI.sorted_in Tryz.sortedI Fence.wide 5 trivial trivial trivial trivial rfl (by omega) (sortsI _) (enters_of Tryz.func27 (by kernel_rfl) rfl) 174 #[.pointer (some ⟨w.heap.size, 0, none⟩)] trivial (enters_of Tryz.func174 (by kernel_rfl) rfl) _ _ hmax hbytes _ hseq;change CallsIn _ _ Tryz.prog 119 _ _ _ at cS;have hfK : Fence.wide.fn 120 := trivial;have hfS : Fence.wide.fn 119 := trivial;refine callsIn_of_wp Tryz.func66 J trivial ?_ J;simp only [Tryz.ntmps66, List.size_toArray, List.length_cons, List.length_nil, Nat.reduceAdd, Nat.reduceSub, Array.replicate_succ, Array.replicate_zero, List.push_toArray, List.append_toArray, List.nil_append, List.cons_append]
 gi_wp2_with (first
  | (gi_at_call 120; refine (cK _ _).mono ?_; rintro e w' ⟨rfl, rfl⟩)
  | (gi_at_call 119; refine cS.mono ?_; rintro e w' ⟨v, ss, rfl, hS, hrow, hnil, hb⟩))
 go_ret
 exact ⟨v, ss, rfl, hS, ownsRow_base_a hrow (by simp), hnil, ((Below.refl _ w).alloc (ZnR _) _).trans (hb.mono (by simp))⟩
theorem c_keysT (L : TL) (hN : NkG L) (hk : YaA L) (hl : L.length <= 1048576) : OCall Tryz.prog 66 [.fm (encT L)] 3 1 ((YaG L).map intD) := by
 refine ⟨.of Tryz.func66 (by kernel_rfl) J, fun F w vs hF hv => ?_⟩
 obtain ⟨x, rfl⟩ : ∃ x, vs = [x] := by
  have := hv.1
  match vs, this with
  | [x], _ => exact ⟨x, rfl⟩
 have h1 := hv.2 0 (by simp) (by simp);simp only [List.getElem_cons_zero] at h1;obtain ⟨b, rfl, D0, h2, h3, h4⟩ := rep_owns h1 hN hk hl;refine (keysT_calls b _ D0 _ w h2 (by unfold maxLen; omega) (by omega)).mono fun e w' ⟨v, ss, he, h5, h6, h7, h8⟩ => ?_
 have h9 : ss.mergeSort (fun x y => decide (x <= y)) = YaG L := ksort_eq (h5.trans h3);have h10 : ss.length = (YaG L).length := by rw [<- h9, List.length_mergeSort]
 rw [h9, h10] at h6;exact ⟨v, F, he, Ext.of_below hF h8, ints_row h6 fun g hg hf => by have := (Ybm h6 hg).1; have := hF g hf; omega⟩
theorem keysM_calls {H : Type} (b nn : Nat) (D0 : DataW H) (R : Value -> Option (DataW H × List MemPlace)) (w : World) (hown : w.ownsMap Tryz.prog 3 R b nn D0) (hmax : Maps.size D0 <= maxLen) (hbytes : Maps.size D0 * 8 <= 140737488355328) :
 Calls Tryz.prog 67 #[.map (some b)] w fun e w' => ∃ (v : Value) (ss : List Int), e = .returned v /\ ss.Perm (intKeys D0) /\
  w'.ownsRow w.heap.size 3 1 v ss.length ((ss.mergeSort (fun x y => decide (x <= y))).map encZ) /\ (v = .slice none 0 0 ↔ ss = []) /\ Below w.heap.size w w' := by
 refine (callsIn_wide (n := 6)).1 ?_;have hbl := hown.lt
 have hseq : SeqGives Fence.wide 2 Tryz.prog 175 #[.pointer (some ⟨w.heap.size, 0, none⟩)] encZ (fun ss => ss.Perm (intKeys D0)) (Maps.size D0) (w.alloc (.cells #[.map (some b)] 131)) :=
  AnyZI.keys_gives (ρ := Tryz.keysM_ren) { Tryz.keysM with } Fence.wide _ trivial rfl (by omega) w.heap.size b nn D0 _ (by simp) (by simp) (by
   obtain ⟨es, clock, hb, Ft, hs, hD⟩ := hown
   exact ⟨es, clock, (Below.heap_alloc _ _ b hbl).trans hb, Ft, hs, hD⟩)
 have cK : ∀ mb W, CallsIn Fence.wide 5 Tryz.prog 121 #[.map mb] W fun e w' => e = .returned (.func (.func 175) #[] #[.pointer (some ⟨W.heap.size, 0, none⟩)]) /\ w' = W.alloc (.cells #[.map mb] 131) := fun mb W => AnyZI.keys_in Tryz.keysM Fence.wide 5 trivial rfl mb W
 have cS := AnyZI.sorted_in Tryz.sortedI Fence.wide 5 trivial trivial trivial trivial rfl (by omega) (sortsI _) (enters_of Tryz.func27 (by kernel_rfl) rfl) 175 #[.pointer (some ⟨w.heap.size, 0, none⟩)] trivial (enters_of Tryz.func175 (by kernel_rfl) rfl) _ _ hmax hbytes _ hseq;change CallsIn _ _ Tryz.prog 119 _ _ _ at cS;have hfK : Fence.wide.fn 121 := trivial;have hfS : Fence.wide.fn 119 := trivial;refine callsIn_of_wp Tryz.func67 J trivial ?_ J;simp only [Tryz.ntmps67, List.size_toArray, List.length_cons, List.length_nil, Nat.reduceAdd, Nat.reduceSub, Array.replicate_succ, Array.replicate_zero, List.push_toArray, List.append_toArray, List.nil_append, List.cons_append]
 gi_wp2_with (first
  | (gi_at_call 121; refine (cK _ _).mono ?_; rintro e w' ⟨rfl, rfl⟩)
  | (gi_at_call 119; refine cS.mono ?_; rintro e w' ⟨v, ss, rfl, hS, hrow, hnil, hb⟩))
 go_ret
 exact ⟨v, ss, rfl, hS, ownsRow_base_a hrow (by simp), hnil, ((Below.refl _ w).alloc (ZnR _) _).trans (hb.mono (by simp))⟩
theorem c_keysM (L : ML) (hN : NkG L) (hk : YaA L) (hl : L.length <= 1048576) : OCall Tryz.prog 67 [.fm (encM L)] 3 1 ((YaG L).map intD) := by
 refine ⟨.of Tryz.func67 (by kernel_rfl) J, fun F w vs hF hv => ?_⟩
 obtain ⟨x, rfl⟩ : ∃ x, vs = [x] := by
  have := hv.1
  match vs, this with
  | [x], _ => exact ⟨x, rfl⟩
 have h1 := hv.2 0 (by simp) (by simp);simp only [List.getElem_cons_zero] at h1;obtain ⟨b, rfl, D0, h2, h3, h4⟩ := rep_owns h1 hN hk hl;refine (keysM_calls b _ D0 _ w h2 (by unfold maxLen; omega) (by omega)).mono fun e w' ⟨v, ss, he, h5, h6, h7, h8⟩ => ?_
 have h9 : ss.mergeSort (fun x y => decide (x <= y)) = YaG L := ksort_eq (h5.trans h3);have h10 : ss.length = (YaG L).length := by rw [<- h9, List.length_mergeSort]
 rw [h9, h10] at h6;exact ⟨v, F, he, Ext.of_below hF h8, ints_row h6 fun g hg hf => by have := (Ybm h6 hg).1; have := hF g hf; omega⟩
section
variable {cx : Cx} {e : Env} {σ : Obs} {Q : Post}
theorem R0.freezeMap0 {F : Nat -> Prop} {ρ : Nat -> Value} {a : Act} {w : World} (h : R0 cx F ρ e σ a w) {id : Nat} {M0 M : List (Value × D)} (hm : (id, Ob.map M0) ∈ σ) (hp : M0.Perm M) : ∃ F', R0 cx F' ρ e (Obs.del id σ) a w /\ Rep F' w (ρ id) (.fm M) := by
 refine ⟨_, h.freezeAny hm, ?_⟩;obtain ⟨b, es, clock, h2, h3, h4, h5, h6, h7⟩ := h.obs.ok _ hm;dsimp only at h2;rw [h2];exact .fm b clock es M0 M hp (.inr J) h5 h6 (fun i h1 h2 => (h7 i h1 h2).1) fun i h1 h2 => (h7 i h1 h2).2.mono (fun _ h => .inl h) fun _ _ => J
theorem R0.freezeMapIn {F : Nat -> Prop} {ρ : Nat -> Value} {a : Act} {w : World} (h : R0 cx F ρ e σ a w) {c off id : Nat} {ss : List S} {M0 M : List (Value × D)} (hc : (c, Ob.cells ss) ∈ Obs.del id σ) (hs : ss[off]? = some (.own id)) (hm : (id, Ob.map M0) ∈ σ) (hp : M0.Perm M) :
 ∃ F', R0 cx F' ρ e (Obs.upd c (.cells (ss.set off (.d (.fm M)))) (Obs.del id σ)) a w := by
 obtain ⟨F', h1, h2⟩ := h.freezeMap0 hm hp;exact ⟨F', h1.recell hc hs fun x hx => by cases hx; exact .d h2⟩
theorem AWP.freezeMapIn {cd : Code} (c off : Nat) {id : Nat} {ss : List S} {M0 : List (Value × D)} (M : List (Value × D)) (hs : ss[off]? = some (.own id)) (hc : (c, Ob.cells ss) ∈ Obs.del id σ) (hm : (id, Ob.map M0) ∈ σ) (hp : M0.Perm M)
 (k : AWP cx cd e (Obs.upd c (.cells (ss.set off (.d (.fm M)))) (Obs.del id σ)) Q) : AWP cx cd e σ Q := fun a w ⟨_, ρ, hr⟩ => by
 obtain ⟨F', h⟩ := hr.freezeMapIn hc hs hm hp;exact k a w ⟨F', ρ, h⟩
end
theorem Ycg {α β : Type} {g : α -> β} : ∀ {M : List β} {l : List α}, M.Perm (l.map g) -> ∃ l0 : List α, l0.Perm l /\ M = l0.map g
 | [], l, h => by
  have := h.symm.length_eq;rw [ZlM] at this;obtain rfl := List.eq_nil_of_length_eq_zero this
  exact ⟨[], List.Perm.refl _, J⟩
 | b :: M, l, h => by
  have hb : b ∈ l.map g := h.mem_iff.1 List.mem_cons_self;obtain ⟨x, hx, rfl⟩ := ZmM.1 hb;obtain ⟨l1, l2, rfl⟩ := List.append_of_mem hx
  have h2 : (g x :: M).Perm (g x :: (l1 ++ l2).map g) := by
   refine h.trans ?_;rw [ZmA, List.map_cons, ZmA];exact List.perm_middle
  obtain ⟨l0, h3, rfl⟩ := Ycg ((List.perm_cons _).1 h2);exact ⟨x :: l0, (h3.cons x).trans List.perm_middle.symm, J⟩
namespace Ty
theorem mt_130 : Tryz.prog.underlying 130 = some (.map 3 140) := by kernel_rfl
theorem mt_131 : Tryz.prog.underlying 131 = some (.map 3 142) := by kernel_rfl
end Ty
theorem YdR : ∀ {n : Nat} {l : List Nat}, l.Nodup -> (∀ i ∈ l, i < n) -> l.length <= n := fun {n l} h1 h2 => by
 have hp : l.Perm ((List.range n).filter fun i => decide (i ∈ l)) := (List.perm_ext_iff_of_nodup h1 (List.nodup_range.filter _)).2 fun i => by
  rw [List.mem_filter, List.mem_range, decide_eq_true_eq];exact ⟨fun h => ⟨h2 i h, h⟩, fun h => h.2⟩
 have := hp.length_eq;have h3 := List.length_filter_le (fun i => decide (i ∈ l)) (List.range n);rw [List.length_range] at h3;omega
theorem Yf6 {n : Nat} {l : List Nat} {i : Nat} (h1 : l.Nodup /\ ∀ i ∈ l, i < n) (hi : i < n) (hn : i ∉ l) : (l ++ [i]).Nodup /\ ∀ j ∈ l ++ [i], j < n := by
 refine ⟨List.nodup_append.2 ⟨h1.1, by simp, fun x hx y hy => ?_⟩, fun j hj => ?_⟩
 ·rw [ZmS] at hy;subst hy;exact fun e => hn (e ▸ hx)
 ·rcases List.mem_append.1 hj with hj | hj
  ·exact h1.2 j hj
  ·rw [ZmS] at hj; omega
section
variable {β : Type}
def YeI (L : GL β) (dn : List Nat) : GL β := dn.filterMap fun i => L[i]?
theorem pickL_next {L : GL β} {dn : List Nat} {i : Nat} (h : i < L.length) : YeI L (dn ++ [i]) = YeI L dn ++ [L[i]] := by
 unfold YeI;rw [List.filterMap_append];simp [h]
theorem pick_put {T L : GL β} {dn : List Nat} {i : Nat} (h : i < L.length) : Yaq T (YeI L (dn ++ [i])) = putG (Yaq T (YeI L dn)) L[i].1 L[i].2 := by
 rw [pickL_next h, Yep]; rfl
theorem range_get (L : GL β) : ∀ n, n <= L.length -> (List.range n).filterMap (fun i => L[i]?) = L.take n
 | 0, _ => by simp
 | n + 1, h => by
  rw [List.range_succ, List.filterMap_append, range_get L n (by omega), List.take_add_one];have : n < L.length := by omega
  simp [this]
theorem pickL_perm {L : GL β} {dn : List Nat} (hd : dn.Nodup /\ ∀ i ∈ dn, i < L.length) (hall : ∀ i, i < L.length -> i ∈ dn) : (YeI L dn).Perm L := by
 have h1 : dn.Perm (List.range L.length) := (List.perm_ext_iff_of_nodup hd.1 List.nodup_range).2 fun i => by
  rw [List.mem_range]; exact ⟨hd.2 i, hall i⟩
 have h2 := h1.filterMap (fun i => L[i]?);rw [range_get L L.length (ZnR _), List.take_length] at h2;exact h2
theorem nk_perm {L L' : GL β} (h : NkG L) (hp : L.Perm L') : NkG L' := hp.pairwise h fun h e => h e.symm
theorem find_perm {L L' : GL β} (h : NkG L) (hp : L.Perm L') (k : Int) : Yaa L k = Yaa L' k := by
 have key : ∀ {A B : GL β}, NkG A -> NkG B -> A.Perm B -> ∀ v, Yaa A k = some v -> Yaa B k = some v := fun {A B} hA hB hAB v hv => by
  have h1 := (Yci hB (p := (k, v))).1 (hAB.mem_iff.1 (YdG hv));exact h1
 have h' := nk_perm h hp
 cases hv : Yaa L k with
 | some v => exact (key h h' hp v hv).symm
 | none =>
  cases hw : Yaa L' k with
  | none => rfl
  | some v => rw [key h' h hp.symm v hw] at hv; cases hv
structure Ov (L E i : GL β) : Prop where
 nk : NkG i
 keys : YaA i
 find : ∀ k, Yaa i k = match Yaa E k with | some v => some v | none => Yaa L k
 len : i.length <= L.length + E.length
theorem ov_end {L E E0 : GL β} (hL : NkG L) (hE : NkG E) (kL : YaA L) (kE : YaA E) (hp : E0.Perm E) {dn : List Nat} (hd : dn.Nodup /\ ∀ i ∈ dn, i < E0.length) (hall : ∀ i, i < E0.length -> i ∈ dn) : Ov L E (Yaq L (YeI E0 dn)) := by
 have h1 := (pickL_perm hd hall).trans hp;have h2 := nk_perm hE h1.symm;refine ⟨YaP hL, Ya2 kL fun p hq => kE p (h1.mem_iff.1 hq), fun k => ?_, ?_⟩
 ·rw [Ybx h2, find_perm h2 h1]; first | done | (cases Yaa E k <;> rfl)
 ·have := YcF (YeI E0 dn) L;rw [h1.length_eq] at this; exact this
theorem Ov.perm {L E i : GL β} (h : Ov L E i) (hE : NkG E) (hL : NkG L) : i.Perm (Yaq L E) := Yf4 h.nk (YaP hL) fun k => by rw [h.find, Ybx hE]; first | done | (cases Yaa E k <;> rfl)
end
theorem keys_perm {β : Type} {L L' : GL β} (h : YaA L) (hp : L'.Perm L) : YaA L' := fun p hq => h p (hp.mem_iff.1 hq)
theorem keys_pick {β : Type} {L : GL β} (h : YaA L) (dn : List Nat) : YaA (YeI L dn) := fun p hp => by
 obtain ⟨i, _, h2⟩ := List.mem_filterMap.1 hp;exact h p (List.mem_of_getElem? h2)
theorem c_copyT (T X : TL) (hT : NkG T) (hX : NkG X) (kT : YaA T) (kX : YaA X) : XCallE (ι := TL) Tryz.prog 114 [.own 91, .d (.fm (encT X))] [(91, .map (encT T))] (fun i => [(91, .map (encT i))]) (Ov T X) (fun i => Nat.ble 2000 i) (.tup []) := by
 refine YfQ (n := 16) (ds' := []) Tryz.func114 J (by kernel_rfl) J [] J J ?_;intro B w0 F0 fr ρ0;refine .sr (.mA ?_);refine .rangeF 2071 J J J J mt_130 J J (fun M0 hM0 => ?_);obtain ⟨X0, hX0, rfl⟩ := Ycg (g := fun p : Int × Option Thg => (kI p.1, ptD p.2)) (l := X) hM0;have kX0 := keys_perm kX hX0;refine .nil ?_;refine .block (.loop (G := List Nat) (fun dn => Env.of [(7, .ptr 2071 0), (0, .own 91)]) (fun dn => [(2071, .iter (encT X0) dn), (91, .map (encT (Yaq T (YeI X0 dn))))]) (fun dn => dn.Nodup /\ ∀ i ∈ dn, i < X0.length) (fun dn => X0.length - dn.length) [] ⟨List.nodup_nil, fun i h => absurd h List.not_mem_nil⟩ (Sub.less ⟨U, U, trivial⟩ (YaX J)) ?_);intro dn hd;refine .sr (.nextL J J J J J (.head _) (fun hall => ?_) (fun i hi hni => ?_))
 ·skip;have HO := ov_end hT hX kT kX hX0 hd hall;refine .sA (.extract J J J) (.nil ?_);refine .seq (.cond J (fun h => nomatch h) (fun _ => ?_));refine .exit ?_;refine ⟨Yaq T (YeI X0 dn), HO, trivial, ⟨YbF (.tail _ (.head _)) ?_, trivial⟩⟩
  all_goals (rfl)
 have hsn := Yf6 hd hi hni;have hnl := YdR hsn.1 hsn.2;rw [ZlA, List.length_singleton] at hnl;have HN := pick_put (T := T) (dn := dn) hi;refine .sA (.extract J J J) (.nil ?_);refine .seq (.cond J (fun _ => ?_) (fun h => nomatch h));refine .skip (.block (.sr (.sA (.entryL J J (.head _) hi) ?_)));refine .sA (.extract J J J) (.sA (.extract J J J) ?_);refine .aa (.nil ?_);refine .region (.sA (.moveO J J) ?_);refine .mm ?_;refine .eff J J (.mapUpdateX (key := kI X0[i].1) (d := ptD X0[i].2) J J mt_T YaC J (.tail _ (.head _)) J (DExact.v _) J (Ya3 (kX0 _ (ZgM hi))) (YaY (Ya2 kT (keys_pick kX0 dn))) (mput_T (YaP hT) _ _)) (.nil ?_);refine ⟨dn ++ [i], hsn, (by dsimp only; rw [ZlA, List.length_singleton]; omega), Sub.less ⟨U, U, trivial⟩ (YaX (by rw [<- HN]; rfl))⟩
theorem c_copyM (T X : ML) (hT : NkG T) (hX : NkG X) (kT : YaA T) (kX : YaA X) : XCallE (ι := ML) Tryz.prog 115 [.own 92, .d (.fm (encM X))] [(92, .map (encM T))] (fun i => [(92, .map (encM i))]) (Ov T X) (fun i => Nat.ble 2000 i) (.tup []) := by
 refine YfQ (n := 16) (ds' := []) Tryz.func115 J (by kernel_rfl) J [] J J ?_;intro B w0 F0 fr ρ0;refine .sr (.mA ?_);refine .rangeF 2071 J J J J mt_131 J J (fun M0 hM0 => ?_);obtain ⟨X0, hX0, rfl⟩ := Ycg (g := fun p : Int × Option Int => (kI p.1, pmD p.2)) (l := X) hM0;have kX0 := keys_perm kX hX0;refine .nil ?_;refine .block (.loop (G := List Nat) (fun dn => Env.of [(7, .ptr 2071 0), (0, .own 92)]) (fun dn => [(2071, .iter (encM X0) dn), (92, .map (encM (Yaq T (YeI X0 dn))))]) (fun dn => dn.Nodup /\ ∀ i ∈ dn, i < X0.length) (fun dn => X0.length - dn.length) [] ⟨List.nodup_nil, fun i h => absurd h List.not_mem_nil⟩ (Sub.less ⟨U, U, trivial⟩ (YaX J)) ?_);intro dn hd;refine .sr (.nextL J J J J J (.head _) (fun hall => ?_) (fun i hi hni => ?_))
 ·skip;have HO := ov_end hT hX kT kX hX0 hd hall;refine .sA (.extract J J J) (.nil ?_);refine .seq (.cond J (fun h => nomatch h) (fun _ => ?_));refine .exit ?_;refine ⟨Yaq T (YeI X0 dn), HO, trivial, ⟨YbF (.tail _ (.head _)) ?_, trivial⟩⟩
  all_goals (rfl)
 have hsn := Yf6 hd hi hni;have hnl := YdR hsn.1 hsn.2;rw [ZlA, List.length_singleton] at hnl;have HN := pick_put (T := T) (dn := dn) hi;refine .sA (.extract J J J) (.nil ?_);refine .seq (.cond J (fun _ => ?_) (fun h => nomatch h));refine .skip (.block (.sr (.sA (.entryL J J (.head _) hi) ?_)));refine .sA (.extract J J J) (.sA (.extract J J J) ?_);refine .aa (.nil ?_);refine .region (.sA (.moveO J J) ?_);refine .mm ?_;refine .eff J J (.mapUpdateX (key := kI X0[i].1) (d := pmD X0[i].2) J J mt_M YaC J (.tail _ (.head _)) J (DExact.v _) J (Ya3 (kX0 _ (ZgM hi))) (YaY (Ya2 kT (keys_pick kX0 dn))) (mput_M (YaP hT) _ _)) (.nil ?_);refine ⟨dn ++ [i], hsn, (by dsimp only; rw [ZlA, List.length_singleton]; omega), Sub.less ⟨U, U, trivial⟩ (YaX (by rw [<- HN]; rfl))⟩
theorem c_over (T X : TL) (M Y : ML) (hT : NkG T) (hX : NkG X) (hM : NkG M) (hY : NkG Y) (kT : YaA T) (kX : YaA X) (kM : YaA M) (kY : YaA Y) : XCallE (ι := TL × ML) Tryz.prog 63 [.own 100, .d (.agg [.fm (encT X), .fm (encM Y)])] [(100, .val [.own 91, .own 92]), (91, .map (encT T)), (92, .map (encM M))] (fun i => [(100, .val [.own 91, .own 92]), (91, .map (encT i.1)), (92, .map (encM i.2))]) (fun i => Ov T X i.1 /\ Ov M Y i.2) (fun i => Nat.ble 1000 i) (.tup []) := by
 refine YfQ (n := 14) (ds' := []) Tryz.func63 J (by kernel_rfl) J [] J J ?_;intro B w0 F0 fr ρ0;refine .sr (.boxVal 1001 J J J J J (.head _) J ?_);refine .sA (.box J J J) (.nil ?_);refine .sr (.sA (.fieldAddrP J Ybr J) ?_);refine .sA (.loadP J Ydf J (.head _) J) ?_;refine .fl Ybr Ydf ?_;refine .callXE rfl rfl rfl (ArgsS.cons U (ArgsS.cons U ArgsS.nil)) (c_copyT T X hT hX kT kX) ⟨(.tail _ (.tail _ (.head _))), trivial⟩ rfl (fun _ => rfl) (fun i h => by show (!(Nat.ble 1000 i)) = false; rw [show Nat.ble 1000 i = true from Nat.ble_eq_true_of_le (ZnT (by decide : 1000 <= 2000) (ZnB h))]; rfl) (fun T2 hT2 => ?_);refine .nil ?_;refine .region (.sA (.fieldAddrP J Ybq J) ?_);refine .sA (.loadP J Yde J (.tail _ (.head _)) J) ?_;refine .fl Ybq Yde ?_;refine .callXE rfl rfl rfl (ArgsS.cons U (ArgsS.cons U ArgsS.nil)) (c_copyM M Y hM hY kM kY) ⟨(.tail _ (.tail _ (.tail _ (.head _)))), trivial⟩ rfl (fun _ => rfl) (fun i h => by show (!(Nat.ble 1000 i)) = false; rw [show Nat.ble 1000 i = true from Nat.ble_eq_true_of_le (ZnT (by decide : 1000 <= 2000) (ZnB h))]; rfl) (fun M2 hM2 => ?_);refine .nil ?_;refine ⟨(T2, M2), ⟨hT2, hM2⟩, trivial, ⟨YbF (.tail _ (.tail _ (.tail _ (.head _)))) ?_, YbF (.tail _ (.head _)) ?_, YbF (.head _) ?_, trivial⟩⟩
 all_goals (rfl)
namespace Ty
theorem Yce : AggT Tryz.prog 36 4 := .of (by kernel_rfl)
theorem bu_25 : StructT Tryz.prog 25 (fun i => (#[(0, 1), (1, 1)] : Array (Nat × Nat))[i]?) [(.slice none 0 0), (.slice none 0 0)] := .of (by kernel_rfl) (by kernel_rfl) (by decide)
theorem bu_74 : StructT Tryz.prog 74 (fun i => (#[(0, 1), (1, 1)] : Array (Nat × Nat))[i]?) [(.int .i64 0), (.int .i64 0)] := .of (by kernel_rfl) (by kernel_rfl) (by decide)
theorem sz_22 : ∀ w, (sizeOf 22).run Tryz.prog w = .ok 1 w := SizeT.of (by kernel_rfl)
theorem sz_23 : ∀ w, (sizeOf 23).run Tryz.prog w = .ok 1 w := SizeT.of (by kernel_rfl)
theorem sz_25 : ∀ w, (sizeOf 25).run Tryz.prog w = .ok 2 w := SizeT.of (by kernel_rfl)
theorem Ycy : ∀ w, (sizeOf 36).run Tryz.prog w = .ok 4 w := SizeT.of (by kernel_rfl)
theorem zt_25 : (Tryz.prog.info? 25).bind (·.zero) = some (.agg #[(.slice none 0 0), (.slice none 0 0)]) := by kernel_rfl
theorem YfP : (Tryz.prog.info? 36).bind (·.zero) = some (.agg #[(.slice none 0 0), (.slice none 0 0), (.slice none 0 0), (.slice none 0 0)]) := by kernel_rfl
end Ty
theorem AOp.ptNe {P : Program} {B : Nat} {ops : Array Oper} {o : Oper} {e : Env} {σ : Obs} {t ty el : TypeId} {x y : Operand} {p : Option Thg} (ho : o.op = .binOp .neq t x y ty) (ht : P.underlying t = some (.pointer el)) (hx : e.ev x = .d (ptD p)) (hy : e.ev y = .d (.v (.pointer none))) : AOp P B ops o e σ (.d (.v (.bool (decide (p ≠ none))))) := by
 cases p with
 | none => exact AOp.nilNe ho ht hx hy
 | some a => rw [decide_eq_true (by simp : some a ≠ none)]; exact AOp.fpNe ho ht hx hy
theorem AOp.pmNe {P : Program} {B : Nat} {ops : Array Oper} {o : Oper} {e : Env} {σ : Obs} {t ty el : TypeId} {x y : Operand} {p : Option Int} (ho : o.op = .binOp .neq t x y ty) (ht : P.underlying t = some (.pointer el)) (hx : e.ev x = .d (pmD p)) (hy : e.ev y = .d (.v (.pointer none))) : AOp P B ops o e σ (.d (.v (.bool (decide (p ≠ none))))) := by
 cases p with
 | none => exact AOp.nilNe ho ht hx hy
 | some a => rw [decide_eq_true (by simp : some a ≠ none)]; exact AOp.fpNe ho ht hx hy
section
variable {β : Type}
def Yc4 (T : GL (Option β)) (n : Nat) : GL β := ((YaG T).take n).filterMap fun k => (Yaa T k).join.map fun v => (k, v)
def Yc8 (T : GL (Option β)) (n : Nat) : List Int := ((YaG T).take n).filter fun k => (Yaa T k).join.isNone
theorem valsTo_all (T : GL (Option β)) : Yc4 T (YaG T).length = Ycb T := by unfold Yc4; rw [List.take_length]; rfl
theorem noneTo_all (T : GL (Option β)) : Yc8 T (YaG T).length = Yfk T := by unfold Yc8; rw [List.take_length]; rfl
theorem to_some {T : GL (Option β)} {n : Nat} (h : n < (YaG T).length) {v : β} (hv : (Yaa T (YaG T)[n]).join = some v) : Yc4 T (n + 1) = Yc4 T n ++ [((YaG T)[n], v)] /\ Yc8 T (n + 1) = Yc8 T n := by
 unfold Yc4 Yc8;rw [List.take_add_one, ZgE h, Option.toList_some, List.filterMap_append, List.filter_append];refine ⟨?_, ?_⟩
 ·rw [List.filterMap_cons_some (by rw [hv]; rfl)]; rfl
 ·rw [List.filter_cons_of_neg (by rw [hv]; simp)]; simp
theorem to_none {T : GL (Option β)} {n : Nat} (h : n < (YaG T).length) (hv : (Yaa T (YaG T)[n]).join = none) : Yc4 T (n + 1) = Yc4 T n /\ Yc8 T (n + 1) = Yc8 T n ++ [(YaG T)[n]] := by
 unfold Yc4 Yc8;rw [List.take_add_one, ZgE h, Option.toList_some, List.filterMap_append, List.filter_append];refine ⟨?_, ?_⟩
 ·rw [List.filterMap_cons_none (by rw [hv]; rfl)]; simp
 ·rw [List.filter_cons_of_pos (by rw [hv]; rfl)]; rfl
theorem valsTo_len (T : GL (Option β)) (n : Nat) : (Yc4 T n).length <= T.length := by
 unfold Yc4;have := List.length_filterMap_le (fun k => (Yaa T k).join.map fun v => (k, v)) ((YaG T).take n);have h2 := YcH T;rw [ZlT] at this; omega
theorem noneTo_len (T : GL (Option β)) (n : Nat) : (Yc8 T n).length <= T.length := by
 unfold Yc8;have := List.length_filter_le (fun k => (Yaa T k).join.isNone) ((YaG T).take n);have h2 := YcH T;rw [ZlT] at this; omega
theorem keysG_ok {T : GL β} (h : YaA T) {n : Int} (hn : n ∈ YaG T) : i64 n := by
 rw [Ydo] at hn;obtain ⟨v, hv⟩ := Option.isSome_iff_exists.1 hn;exact h _ (YdG hv)
end
def mvO (p : Int × Int) : Mvd := ⟨p.1, p.2⟩
def chgO (T : TL) (M : ML) : Chg := ⟨(Ycb T).map (·.2), Yfk T, (Ycb M).map mvO, Yfk M⟩
def ctlO (T : TL) (M : ML) : Ctl := ⟨(Ycb T).map (·.2), (Ycb M).map mvO⟩
def PrtOk (T : TL) : Prop := ∀ k t, Yaa T k = some (some t) -> t.parts.length <= 1048576
theorem PrtOk.join {T : TL} (h : PrtOk T) {k : Int} {t : Thg} (ht : (Yaa T k).join = some t) : t.parts.length <= 1048576 := by
 cases hf : Yaa T k with
 | none => rw [hf] at ht; cases ht
 | some o =>
  rw [hf] at ht
  cases o with
  | none => cases ht
  | some u =>
   obtain rfl : u = t := Option.some.inj ht;exact h k u hf
theorem c_chg (T : TL) (M : ML) (hT : NkG T) (hM : NkG M) (kT : YaA T) (kM : YaA M) (hl : T.length <= 1048576) (hm : M.length <= 1048576) (pT : PrtOk T) : Yad Tryz.prog 116 [.agg [.fm (encT T), .fm (encM M)]] (.agg (chgO T M).ds) := by
 refine Yap (n := 72) (ds' := [.agg (chgO T M).ds]) Tryz.func116 J (by kernel_rfl) J [.cell 2 36] J J ?_;intro B w0 F0 fr;have q1 := YcH T;have q2 := YcH M;refine .sr (.sA (.box J J J) ?_);refine .alloc 101 J J J J YfP J J J (.nil ?_);refine .sr (.alloc 102 J J J J YfP J J J ?_);refine .adoptCell 201 72 7 102 0 (.head _) J J ?_;refine .adoptCell 202 3 1 102 1 (.tail _ (.head _)) J J ?_;refine .adoptCell 203 74 2 102 2 (.tail _ (.tail _ (.head _))) J J ?_;refine .adoptCell 204 3 1 102 3 (.tail _ (.tail _ (.tail _ (.head _)))) J J ?_;refine .nil ?_;refine .seq (.sr (.fl Ybr Ydf ?_));refine .sA (.call J (.cons (.rfl' J) .nil) (c_keysT T hT kT hl).toA) (.sA (.lenSl J et_34.ht J) ?_);refine .mN ?_;refine .block (.loop (G := Nat) (fun k => Env.of [(14, .iv k), (12, .d (.sl ((YaG T).map intD))), (13, .iv ((YaG T).map intD).length), (1, .d (.fp [.fm (encT T), .fm (encM M)])), (2, .ptr 101 0), (3, .ptr 102 0)]) (fun k => [(204, .row 3 1 (([] : List Int).map intD)), (203, .row 74 2 (([] : GL Int).map fun p => (mvO p).ds)), (202, .row 3 1 ((Yc8 T k).map intD)), (201, .row 72 7 ((Yc4 T k).map fun p => p.2.ds)), (102, .cells [.own 201, .own 202, .own 203, .own 204]), (101, .cells [.d (.v (.slice none 0 0)), .d (.v (.slice none 0 0)), .d (.v (.slice none 0 0)), .d (.v (.slice none 0 0))])]) (fun k => k <= (YaG T).length) (fun k => (YaG T).length - k) 0 (ZnZ _) (Sub.less ⟨U, U, U, U, U, U, trivial⟩ (YaX J)) ?_);intro k hk;refine .sr (.sA (.lss J J J) (.nil ?_));refine .seq (.cT J (fun h1 => ?_) fun h1 => ?_)
 ·rw [ZlM] at h1;have hltk : k < (YaG T).length := by omega
  have hbkk := keysG_ok kT (ZgM hltk);have hv1 := valsTo_len T k;have hv2 := noneTo_len T k;refine .skip (.seq (.block (.sr (.sA (.indexAddr J et_34 J J k J (YaU hltk) J) ?_))));refine .sA (.load J sc_3 J) ?_;refine .aN ?_;refine .sr (.fl Ybr Ydf ?_);refine .mA ?_;refine .sA (.lookupF (key := kI (YaG T)[k]) J mt_T YaC zt_pT zd_p J J (DExact.v _) (Ya3 hbkk) (YaY kT) (mget_T hT _)) ?_;refine .aN ?_;refine .sr (.mA ?_);refine .sA (.ptNe J pt_th J J) (.nil ?_);refine .cT J (fun h2 => ?_) fun h2 => ?_
  ·obtain ⟨t, ht⟩ := Option.ne_none_iff_exists'.1 h2;rw [ht];obtain ⟨HV, HN⟩ := to_some hltk ht;refine .drw 7 ?_;refine .sA (.fieldAddrP J Ycw J) (.sA (.loadP J YdK J (.tail _ (.tail _ (.tail _ (.tail _ (.head _))))) J) (.sA (.moveD J J) (.sA (.nilCheck J J) (.sA (.loadAgg J Ybh J J) (.sA (.call J (.cons (.rfl' J) .nil) (c_own t (pT.join ht))) ?_)))));refine .sA (.buildSlice J et_22 (.cons J J J .nil) J (by decide)) ?_;refine .nil ?_
   -- append 31
   refine .append rfl rfl rfl rfl et_22 rfl (.tail _ (.tail _ (.tail _ (.head _)))) rfl (fun y hy => by obtain rfl := ZmS.1 hy; rfl) (by simp; omega) (by simp; omega) ?_;refine .sA (.fieldAddrP J Ycw J) ?_;refine .storeS J J J sz_22 J (.tail _ (.tail _ (.tail _ (.tail _ (.head _))))) J (.tail _ (.tail _ (.tail _ (.head _)))) (ZnB J) (.nil ?_);refine .region (.sA (.add64 J J J) ?_);refine .mN ?_;refine ⟨k + 1, (by omega), (by dsimp only; omega), Sub.less ⟨U, U, U, U, U, U, trivial⟩ (YaX (by dsimp only; rw [HV, HN, ZmA]; rfl))⟩
  have ht := Decidable.not_not.1 h2;obtain ⟨HV, HN⟩ := to_none hltk ht;refine .region (.sA (.fieldAddrP J Yd6 J) ?_);refine .sA (.loadP J Ybt J (.tail _ (.tail _ (.tail _ (.tail _ (.head _))))) J) ?_;refine .mA ?_;refine .sA (.buildSlice J et_34 (.cons J J J .nil) J (by decide)) ?_
  -- append 37
  refine .append rfl rfl rfl rfl et_34 rfl (.tail _ (.tail _ (.head _))) rfl (fun y hy => by obtain rfl := ZmS.1 hy; rfl) (by simp; omega) (by simp; omega) ?_;refine .sA (.fieldAddrP J Yd6 J) ?_;refine .storeS J J J sz_34 J (.tail _ (.tail _ (.tail _ (.tail _ (.head _))))) J (.tail _ (.tail _ (.head _))) (ZnB J) (.nil ?_);refine .region (.sA (.add64 J J J) ?_);refine .mN ?_;refine ⟨k + 1, (by omega), (by dsimp only; omega), Sub.less ⟨U, U, U, U, U, U, trivial⟩ (YaX (by dsimp only; rw [HV, HN, ZmA]; rfl))⟩
 rw [ZlM] at h1;obtain rfl : k = (YaG T).length := by omega
 rw [valsTo_all, noneTo_all];refine .exit (.seq (.sr (.sA (.fieldAddr J Ybq J) ?_)));refine .sA (.load J Yde J) (.sA (.call J (.cons (.rfl' J) .nil) (c_keysM M hM kM hm).toA) (.sA (.lenSl J et_34.ht J) ?_));refine .mN ?_;refine .block (.loop (G := Nat) (fun j => Env.of [(44, .iv j), (42, .d (.sl ((YaG M).map intD))), (43, .iv ((YaG M).map intD).length), (1, .d (.fp [.fm (encT T), .fm (encM M)])), (2, .ptr 101 0), (3, .ptr 102 0)]) (fun j => [(204, .row 3 1 ((Yc8 M j).map intD)), (203, .row 74 2 ((Yc4 M j).map fun p => (mvO p).ds)), (202, .row 3 1 ((Yfk T).map intD)), (201, .row 72 7 ((Ycb T).map fun p => p.2.ds)), (102, .cells [.own 201, .own 202, .own 203, .own 204]), (101, .cells [.d (.v (.slice none 0 0)), .d (.v (.slice none 0 0)), .d (.v (.slice none 0 0)), .d (.v (.slice none 0 0))])]) (fun j => j <= (YaG M).length) (fun j => (YaG M).length - j) 0 (ZnZ _) (Sub.less ⟨U, U, U, U, U, U, trivial⟩ (YaX J)) ?_);intro j hj;refine .sr (.sA (.lss J J J) (.nil ?_));refine .seq (.cT J (fun h3 => ?_) fun h3 => ?_)
 ·rw [ZlM] at h3;have hltj : j < (YaG M).length := by omega
  have hbkj := keysG_ok kM (ZgM hltj);have hv1 := valsTo_len M j;have hv2 := noneTo_len M j;refine .skip (.seq (.block (.sr (.sA (.indexAddr J et_34 J J j J (YaU hltj) J) ?_))));refine .sA (.load J sc_3 J) ?_;refine .aN ?_;refine .sr (.fl Ybq Yde ?_);refine .mA ?_;refine .sA (.lookupF (key := kI (YaG M)[j]) J mt_M YaC zt_pM zd_p J J (DExact.v _) (Ya3 hbkj) (YaY kM) (mget_M hM _)) ?_;refine .aN ?_;refine .sr (.mA ?_);refine .sA (.pmNe J pt_in J J) (.nil ?_);refine .cT J (fun h4 => ?_) fun h4 => ?_
  ·obtain ⟨t, ht⟩ := Option.ne_none_iff_exists'.1 h4;rw [ht];obtain ⟨HV, HN⟩ := to_some hltj ht;refine .drw 8 ?_;refine .sA (.fieldAddrP J Ydq J) (.sA (.loadP J Yei J (.tail _ (.tail _ (.tail _ (.tail _ (.head _))))) J) (.sA (.moveD J J) (.sA (.moveD J J) (.sA (.nilCheck J J) (.sA (.load J sc_3 J) ?_)))));refine .sA (.build J bu_74 (.cons J J (.cons J J .nil)) J) ?_;refine .sA (.buildSlice J et_23 (.cons J J J .nil) J (by decide)) ?_;refine .nil ?_
   -- append 62
   refine .append rfl rfl rfl rfl et_23 rfl (.tail _ (.head _)) rfl (fun y hy => by obtain rfl := ZmS.1 hy; rfl) (by simp; omega) (by simp; omega) ?_;refine .sA (.fieldAddrP J Ydq J) ?_;refine .storeS J J J sz_23 J (.tail _ (.tail _ (.tail _ (.tail _ (.head _))))) J (.tail _ (.head _)) (ZnB J) (.nil ?_);refine .region (.sA (.add64 J J J) ?_);refine .mN ?_;refine ⟨j + 1, (by dsimp only; omega), (by dsimp only; omega), Sub.less ⟨U, U, U, U, U, U, trivial⟩ (YaX (by dsimp only; rw [HV, HN, ZmA]; rfl))⟩
  have ht := Decidable.not_not.1 h4;obtain ⟨HV, HN⟩ := to_none hltj ht;refine .region (.sA (.fieldAddrP J Yd5 J) ?_);refine .sA (.loadP J Ybt J (.tail _ (.tail _ (.tail _ (.tail _ (.head _))))) J) ?_;refine .mA ?_;refine .sA (.buildSlice J et_34 (.cons J J J .nil) J (by decide)) ?_
  -- append 68
  refine .append rfl rfl rfl rfl et_34 rfl (.head _) rfl (fun y hy => by obtain rfl := ZmS.1 hy; rfl) (by simp; omega) (by simp; omega) ?_;refine .sA (.fieldAddrP J Yd5 J) ?_;refine .storeS J J J sz_34 J (.tail _ (.tail _ (.tail _ (.tail _ (.head _))))) J (.head _) (ZnB J) (.nil ?_);refine .region (.sA (.add64 J J J) ?_);refine .mN ?_;refine ⟨j + 1, (by dsimp only; omega), (by dsimp only; omega), Sub.less ⟨U, U, U, U, U, U, trivial⟩ (YaX (by dsimp only; rw [HV, HN, ZmA]; rfl))⟩
 rw [ZlM] at h3;obtain rfl : j = (YaG M).length := by omega
 rw [valsTo_all, noneTo_all];refine .exit (.seq (.freezeIn 102 0 J (.tail _ (.tail _ (.tail _ (.head _)))) (.tail _ (.tail _ (.tail _ (.head _)))) ?_));refine .freezeIn 102 1 J (.tail _ (.tail _ (.head _))) (.tail _ (.tail _ (.head _))) ?_;refine .freezeIn 102 2 J (.tail _ (.head _)) (.tail _ (.head _)) ?_;refine .freezeIn 102 3 J (.head _) (.head _) ?_;refine .region (.sA (.loadPU J Yce J (.head _) J J) ?_);refine .st J J J Ycy J (.tail _ (.head _)) J J J (ZnB J) (.nil ?_);refine .ret ?_;refine ⟨RetR.agg J (.tail _ (.head _)) Yce J (.c7 (.c7 (.c7 (.c7 .nil)))), trivial⟩
 all_goals (rfl)
theorem c_cat (T : TL) (M : ML) (hT : NkG T) (hM : NkG M) (kT : YaA T) (kM : YaA M) (hl : T.length <= 1048576) (hm : M.length <= 1048576) (pT : PrtOk T) : Yad Tryz.prog 64 [.agg [.fm (encT T), .fm (encM M)]] (.agg (ctlO T M).ds) := by
 refine Yap (n := 11) (ds' := [.agg (ctlO T M).ds]) Tryz.func64 J (by kernel_rfl) J [.cell 2 25] J J ?_;intro B w0 F0 fr;refine .sr (.sA (.box J J J) ?_);refine .alloc 101 J J J J zt_25 J J J (.nil ?_);refine .sr (.sA (.loadAgg J Ycp J J) ?_);refine .sA (.call J (.cons (.rfl' J) .nil) (c_chg _ _ (by first | assumption | omega) (by first | assumption | omega) (by first | assumption | omega) (by first | assumption | omega) (by first | assumption | omega) (by first | assumption | omega) (by first | assumption | omega))) ?_;refine .alloc 102 J J J J YfP J J J ?_;refine .st J J J Ycy J (.head _) J J J (ZnB J) ?_;refine .freezeCells 3 (ds := (chgO T M).ds) J (.head _) (.nil ?_);refine .sr (.fl Ycw YdK ?_);refine .fl Ydq Yei ?_;refine .sA (.build J bu_25 (.cons J J (.cons J J .nil)) J) ?_;refine .st J J J sz_25 J (.head _) J J J (ZnB J) (.nil ?_);refine .ret ?_;refine ⟨RetR.agg J (.head _) YbB J (.c5 (.c5 .nil)), trivial⟩
 all_goals (rfl)
end
end Go.Proofs.YtohllekllkcfiaaGreatDoor
